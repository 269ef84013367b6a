/-
  A link's deliveries: sent, got; what is said of one. Conditions: the link lies in memory.
-/
import Derived.Test.YtcbjfakkikjbkaaKk
namespace Go.Proofs.Ytcbjfakkikjbkaa
open Go.RowKit Go.Maps
set_option linter.all false

theorem wp_mapUpdate_to {P : Program} {o : Oper} {a : Act} {w : World} {K : Act → World → Prop} {Q : Exit → Act → World → Prop} (t : TypeId) (m k v : Operand) (ho : o.op = .mapUpdate t m k v) (hd : o.dst = none) (M K' V : Value) (hm : a.eval m = M) (hk : a.eval k = K') (hv : a.eval v = V) (w' : World)
    (hr : (Instr.mapUpdate t M K' V).run P w = .ok () w') (h : K a w') : o.wp P a w K Q := by
  unfold Oper.wp
  simp only [execOp, ho, hm, hk, hv, hr, Result.andThen, Sem.run_bind, Sem.run_pure]
  unfold Oper.upon
  rw [hd]
  exact h
theorem splice_fst {A B vs : List Value} (h : vs.length = A.length) : splice (A ++ B) 0 vs = vs ++ B := by
  simp [splice, h]
theorem splice_snd {A B vs : List Value} (h : vs.length = B.length) : splice (A ++ B) A.length vs = A ++ vs := by
  simp [splice, h]
theorem set_fst {w : World} {z : Nat} {a b s : St} {ta tb t : Sl} {y : TypeId} (h : w.heap[z]? = some (.cells (sarr a ta ++ sarr b tb) y (0, 0))) : (w.setCells z 0 (scells s t)).heap[z]? = some (.cells (sarr s t ++ sarr b tb) y (0, 0)) := by
  have h1 := heap_setCells z y (scells s t) 0 w _ h (by rw [Array.size_append, sarr_size, sarr_size, scells_len]; omega)
  rw [h1, Array.toList_append]
  have h2 : splice ((sarr a ta).toList ++ (sarr b tb).toList) 0 (scells s t) = scells s t ++ (sarr b tb).toList := splice_fst (by rw [scells_len]; rfl)
  rw [h2]
  have h3 : (scells s t ++ (sarr b tb).toList).toArray = sarr s t ++ sarr b tb := by apply Array.toList_inj.1; simp [scells]
  rw [h3]
theorem set_snd {w : World} {z : Nat} {a b s : St} {ta tb t : Sl} {y : TypeId} (h : w.heap[z]? = some (.cells (sarr a ta ++ sarr b tb) y (0, 0))) : (w.setCells z 19 (scells s t)).heap[z]? = some (.cells (sarr a ta ++ sarr s t) y (0, 0)) := by
  have h1 := heap_setCells z y (scells s t) 19 w _ h (by rw [Array.size_append, sarr_size, sarr_size, scells_len]; omega)
  rw [h1, Array.toList_append]
  have h2 : splice ((sarr a ta).toList ++ (sarr b tb).toList) 19 (scells s t) = (sarr a ta).toList ++ scells s t := splice_snd (A := (sarr a ta).toList) (by rw [scells_len]; rfl)
  rw [h2]
  have h3 : ((sarr a ta).toList ++ scells s t).toArray = sarr a ta ++ sarr s t := by apply Array.toList_inj.1; simp [scells]
  rw [h3]

def Lk.send (l : Lk) (tag : ByteArray) (b : Bool) : Lk × Int := if l.rc = true then (l, 4) else l.counts tag b
def Lk.got (l : Lk) (tag : ByteArray) (b : Bool) : Lk × Int := if l.rc = true then l.counts tag b else (l, 4)

set_option maxRecDepth 20000 in
theorem send_any (w : World) (q m : Nat) (G : Nat → Prop) (l : Lk) (tag : ByteArray) (b : Bool) (h : LkIn w q m G l) (ht : tag.size ≤ maxLen) (hl : l.all.length < maxLen) :
    Calls Try.prog 14 #[.pointer (some ⟨q, 0, none⟩), .string tag, .bool b] w fun e w' => e = .returned (.int .i64 (l.send tag b).2) ∧ LkIn w' q m G (l.send tag b).1 ∧ LMv q m w w' := by
  obtain ⟨L, hL⟩ : ∃ L, l.send tag b = L := ⟨_, rfl⟩
  rw [hL]
  have HLG := Lib.hid hL
  have HC := Lib.hid (counts_any w q m G l tag b h ht hl)
  have c1 : w.cell? ⟨q, 1, none⟩ = some (.bool l.rc) := h.cs 1 _ rfl
  have H := Lib.hid h
  clear h hL
  go_enter Try.func14, Try.ntmps14
  cases hrc : l.rc
  · rw [hrc] at c1
    have hd : L = l.counts tag b := by rw [← HLG.out]; unfold Lk.send; rw [hrc]; rfl
    subst hd
    clear hrc
    go_wp2_with fail
    refine HC.out.mono ?_
    rintro e w2 ⟨rfl, h2, hm2⟩
    have H2 := Lib.hid (And.intro h2 hm2)
    clear h2 hm2
    go_wp2_with fail
    go_ret
    exact ⟨rfl, H2.out⟩
  · rw [hrc] at c1
    have hd : L = (l, 4) := by rw [← HLG.out]; unfold Lk.send; rw [hrc]; rfl
    subst hd
    clear hrc
    go_wp2_with fail
    go_ret
    exact ⟨rfl, H.out, LMv.refl _ _ _⟩

set_option maxRecDepth 20000 in
theorem got_any (w : World) (q m : Nat) (G : Nat → Prop) (l : Lk) (tag : ByteArray) (b : Bool) (h : LkIn w q m G l) (ht : tag.size ≤ maxLen) (hl : l.all.length < maxLen) :
    Calls Try.prog 18 #[.pointer (some ⟨q, 0, none⟩), .string tag, .bool b] w fun e w' => e = .returned (.int .i64 (l.got tag b).2) ∧ LkIn w' q m G (l.got tag b).1 ∧ LMv q m w w' := by
  obtain ⟨L, hL⟩ : ∃ L, l.got tag b = L := ⟨_, rfl⟩
  rw [hL]
  have HLG := Lib.hid hL
  have HC := Lib.hid (counts_any w q m G l tag b h ht hl)
  have c1 : w.cell? ⟨q, 1, none⟩ = some (.bool l.rc) := h.cs 1 _ rfl
  have H := Lib.hid h
  clear h hL
  go_enter Try.func18, Try.ntmps18
  cases hrc : l.rc
  · rw [hrc] at c1
    have hd : L = (l, 4) := by rw [← HLG.out]; unfold Lk.got; rw [hrc]; rfl
    subst hd
    clear hrc
    go_wp2_with fail
    go_ret
    exact ⟨rfl, H.out, LMv.refl _ _ _⟩
  · rw [hrc] at c1
    have hd : L = l.counts tag b := by rw [← HLG.out]; unfold Lk.got; rw [hrc]; rfl
    subst hd
    clear hrc
    go_wp2_with fail
    refine HC.out.mono ?_
    rintro e w2 ⟨rfl, h2, hm2⟩
    have H2 := Lib.hid (And.intro h2 hm2)
    clear h2 hm2
    go_wp2_with fail
    go_ret
    exact ⟨rfl, H2.out⟩

/-- what we say of a delivery; s lies at t -/
def Lk.ownL (l : Lk) (tag : ByteArray) (s : St) (b : Bool) (t : Sl) : Lk × Int :=
  if tag ∉ tagsL l.all then (l, 143)
  else if b = true ∧ l.rc = true ∧ l.rcv = 1 then (l, 141)
  else if b = true then ({ l with all := l.all.filter fun p => decide (p.1 ≠ tag) }, 0)
  else if s.kind = 0 then (l, 0)
  else ({ l with all := entSet l.all tag ⟨s, (entAt l.all tag).peer, t, (entAt l.all tag).p⟩ }, 0)
/-- a call that may lay a state anew -/
def StTo (w : World) (q m : Nat) (G : Nat → Prop) (f : Sl → Lk) (v : Value) (e : Ending) (w' : World) : Prop :=
  ∃ t G', e = .returned v ∧ LkIn w' q m G' (f t) ∧ (∀ b, G' b → G b ∨ w.heap.size ≤ b) ∧ LMv q m w w'
theorem LkIn.del {w : World} {q m : Nat} {G : Nat → Prop} {l : Lk} (h : LkIn w q m G l) {tag : ByteArray} (ht : tag.size ≤ maxLen) (ty : TypeId) : ∃ w', (Builtin.delete_ #[74, 9] ty #[.map (some m), .string tag]).run Try.prog w = .ok (.tuple #[]) w' ∧ LkIn w' q m G { l with all := l.all.filter fun p => decide (p.1 ≠ tag) } ∧ w.grownBy w' (some m) := by
  obtain ⟨w', hr, hm, hg⟩ := h.map.del Try.underlying74 ht ty
  exact ⟨w', hr, h.turnM (by rw [ents_del]; exact hm) hg (fun p hp => h.sts p (List.mem_filter.1 hp).1) (fun p hp => h.ok.ent p (List.mem_filter.1 hp).1), hg⟩
theorem LkIn.set {w : World} {q m : Nat} {G : Nat → Prop} {l : Lk} (h : LkIn w q m G l) {tag : ByteArray} (hn : tag ∈ tagsL l.all) (hl : l.all.length < maxLen) (e : Ent) (he : SI w G e.own e.o ∧ SI w G e.peer e.p) (hok : e.Ok) :
    ∃ w', (Instr.mapUpdate 74 (.map (some m)) (.string tag) e.val).run Try.prog w = .ok () w' ∧ LkIn w' q m G { l with all := entSet l.all tag e } ∧ w.grownBy w' (some m) := by
  obtain ⟨w', hr, hm, hg⟩ := h.map.set Try.underlying74 (by rw [keys_ents]; exact hn) (by rw [ents_len]; exact hl) e.val
  have hmem : ∀ p ∈ entSet l.all tag e, p ∈ l.all ∨ p = (tag, e) := fun p hp => by
    obtain ⟨x, hx, rfl⟩ := List.mem_map.1 hp
    by_cases q : x.1 = tag
    · rw [if_pos q]; exact .inr rfl
    · rw [if_neg q]; exact .inl hx
  refine ⟨w', hr, h.turnM (by rw [ents_set]; exact hm) hg (fun p hp => ?_) (fun p hp => ?_), hg⟩
  · rcases hmem p hp with hp | rfl
    · exact h.sts p hp
    · exact he
  · rcases hmem p hp with hp | rfl
    · exact h.ok.ent p hp
    · exact hok

set_option maxRecDepth 20000 in
set_option maxHeartbeats 4000000 in
theorem own_any (w : World) (q m : Nat) (G : Nat → Prop) (l : Lk) (tag : ByteArray) (s : St) (ts : Sl) (b : Bool) (h : LkIn w q m G l) (ht : tag.size ≤ maxLen) (hl : l.all.length < maxLen) (hs : SIn w s ts) (hf : s.Fine) (hsw : s.w ≤ 1000000) :
    Calls Try.prog 19 #[.pointer (some ⟨q, 0, none⟩), .string tag, .agg (sarr s ts), .bool b] w (StTo w q m G (fun t => (l.ownL tag s b t).1) (.int .i64 (l.ownL tag s b default).2)) := by
  have HS := Lib.hid (And.intro hs (And.intro hf hsw))
  obtain ⟨A, hA⟩ : ∃ A, sarr s ts = A := ⟨_, rfl⟩
  rw [hA]
  have HA := Lib.hid hA
  have HAS := Lib.hid (show A.size = 19 by rw [← hA]; rfl)
  have HA0 := Lib.hid (show A[0]? = some (.int .i64 s.kind) by rw [← hA]; rfl)
  have HT := Lib.hid (And.intro ht hl)
  have H := Lib.hid h
  clear hA hs hf hsw ht hl
  -- the world behind the boxes
  go_enter Try.func19, Try.ntmps19
  go_upto_region 1 with fail
  have hb0 : Below w.heap.size w (w.alloc (.cells A 33)) := (Below.refl _ _).alloc (Nat.le_refl _) _
  have ox : (w.alloc (.cells A 33)).heap[w.heap.size]? = some (.cells A 33 (0, 0)) := _root_.Go.heap_alloc_new _ _
  change Code.wp _ _ _ _ (w.alloc (.cells A 33))
  generalize (w.alloc (.cells A 33)) = w0 at *
  obtain ⟨x, hx⟩ : ∃ x, w.heap.size = x := ⟨_, rfl⟩
  rw [hx] at ox ⊢
  have h0 := h.blw hb0
  have HX0 := Lib.hid (And.intro hx (And.intro hb0 ox))
  have hlook := h0.look HT.out.1
  unfold Ent.val at hlook
  obtain ⟨s1, s2, s3⟩ := h0.at_ tag
  have ho1 := ent_one s1.sin s2.sin
  have HE3 := Lib.hid (And.intro s1 (And.intro s2 s3))
  obtain ⟨E, hE⟩ : ∃ E, sarr (entAt l.all tag).own (entAt l.all tag).o ++ sarr (entAt l.all tag).peer (entAt l.all tag).p = E := ⟨_, rfl⟩
  have HE := Lib.hid hE
  have hsz : E.size = 38 := by rw [← hE]; exact eval_size _
  rw [hE] at hlook ho1
  have HSZ := Lib.hid (show (Try.prog.info? 78).map (·.size) = some E.size by rw [hsz]; exact size_said)
  have HSZ2 := Lib.hid (show (sarr zS default ++ sarr zS default).size = E.size by rw [hsz]; rfl)
  have HO := Lib.hid ho1
  have c11 : w0.cell? ⟨q, 11, none⟩ = some (.map (some m)) := h0.cs 11 _ rfl
  have H0 := Lib.hid h0
  obtain ⟨th, hth⟩ : ∃ th, decide (tag ∈ tagsL l.all) = th := ⟨_, rfl⟩
  rw [hth] at hlook
  have HTH := Lib.hid hth
  clear h h0 hb0 ox hx s1 s2 s3 ho1 hE hsz hth
  go_upto_region 2 with (refine wpList_store_rowTo rfl 78 (.tmp 9) (.tmp 18) rfl rfl w0.heap.size E rfl rfl 78 (sarr zS default ++ sarr zS default) (_root_.Go.heap_alloc_new w0 _) HSZ.out HSZ2.out HO.out ?_)
  have hb_w1 : Below w0.heap.size w0 ((w0.alloc (.cells (sarr zS default ++ sarr zS default) 78)).setRow w0.heap.size E) := below_setRow ((Below.refl _ _).alloc (Nat.le_refl _) _) (Nat.le_refl _) _
  have oz := setRow_heap (w0.alloc (.cells (sarr zS default ++ sarr zS default) 78)) w0.heap.size _ E _ _ (_root_.Go.heap_alloc_new w0 _)
  change Code.wp _ _ _ _ ((w0.alloc (.cells (sarr zS default ++ sarr zS default) 78)).setRow w0.heap.size E)
  generalize ((w0.alloc (.cells (sarr zS default ++ sarr zS default) 78)).setRow w0.heap.size E) = w1 at *
  obtain ⟨z, hz⟩ : ∃ z, w0.heap.size = z := ⟨_, rfl⟩
  rw [hz] at oz ⊢
  have hh := H0.out.blw hb_w1
  have c11 : w1.cell? ⟨q, 11, none⟩ = some (.map (some m)) := hh.cs 11 _ rfl
  have c1 : w1.cell? ⟨q, 1, none⟩ = some (.bool l.rc) := hh.cs 1 _ rfl
  have c3 : w1.cell? ⟨q, 3, none⟩ = some (.int .i64 l.rcv) := hh.cs 3 _ rfl
  have ox1 := (hb_w1.block x (Array.getElem?_eq_some_iff.1 HX0.out.2.2).1).trans HX0.out.2.2
  have x0 : w1.cell? ⟨x, 0, none⟩ = some (.int .i64 s.kind) := (cell_of_row _ _ 0 _ _ _ ox1).trans HA0.out
  have hbw : Below w.heap.size w w1 := HX0.out.2.1.trans (hb_w1.mono HX0.out.2.1.size)
  have HXZ := Lib.hid (And.intro ox1 oz)
  have HBW := Lib.hid (And.intro hbw hz)
  have H1 := Lib.hid (And.intro hh (LMv.of_below (q := q) (m := m) hbw))
  clear hh hb_w1 oz ox1 hbw hz hlook
  cases th
  · have HTN := Lib.hid (of_decide_eq_false HTH.out)
    have HD := Lib.hid (show ∀ t, l.ownL tag s b t = (l, 143) from fun t => by unfold Lk.ownL; rw [if_pos HTN.out])
    go_wp2_with fail
    all_goals
      go_ret
      refine ⟨default, G, ?_, ?_, fun b h => .inl h, H1.out.2⟩
      · show _ = Ending.returned (.int .i64 (l.ownL tag s b default).2)
        rw [HD.out]
        rfl
      · show LkIn _ q m G (l.ownL tag s b default).1
        rw [HD.out]
        exact H1.out.1
  · cases b
    · by_cases hk : s.kind = 0
      · have ek : (s.kind == 0) = true := by simpa using hk
        have HD := Lib.hid (show ∀ t, l.ownL tag s false t = (l, 0) from fun t => by unfold Lk.ownL; rw [if_neg (fun q => q (of_decide_eq_true HTH.out)), if_neg (by simp), if_neg (by simp), if_pos hk])
        go_wp2_with fail
        all_goals
          go_ret
          refine ⟨default, G, ?_, ?_, fun b h => .inl h, H1.out.2⟩
          · show _ = Ending.returned (.int .i64 (l.ownL tag s false default).2)
            rw [HD.out]
            rfl
          · show LkIn _ q m G (l.ownL tag s false default).1
            rw [HD.out]
            exact H1.out.1
      · have HNZ := Lib.hid hk
        have HK0 := Lib.hid hk
        have HLX := Lib.hid (range_of_row HXZ.out.1)
        have HSZA := Lib.hid (show (Try.prog.info? 33).map (·.size) = some A.toList.length by rw [Array.length_toList, HAS.out]; exact size_state)
        have hkk := kept_on s
        unfold keptOn at hkk
        have hkk := hkk w1 ts (HS.out.1.blw (by have := HBW.out.1; exact this)) HS.out.2.1 HS.out.2.2
        rw [HA.out] at hkk
        have HKK := Lib.hid hkk
        have ek : (s.kind == 0) = false := by simpa using hk
        clear hkk hk
        go_wp2_with (refine wpList_load_midTo rfl 33 (.tmp 6) rfl (some 51) rfl x 0 rfl A _ HLX.out Try.underlying33 rfl HSZA.out ?_)
        refine HKK.out.mono ?_
        rintro e w2 ⟨t2, rfl, hsi2, hb2⟩
        have oz2 := (hb2.block z (Array.getElem?_eq_some_iff.1 HXZ.out.2).1).trans HXZ.out.2
        rw [← HE.out] at oz2
        have hth2 : w2.there z 0 19 := setCells_row (vs := scells s t2) oz2 (by rw [eval_size, scells_len]; decide)
        have HTH2 := Lib.hid (show w2.there z 0 (sarr s t2).size from hth2)
        have HOO := Lib.hid (sarr_one hsi2.sin)
        have H2 := Lib.hid (H1.out.1.blw hb2)
        have hz2 : w1.heap.size ≤ w2.heap.size := hb2.size
        go_upto_region 10 with (refine wpList_store_mid rfl 33 (.tmp 53) (.tmp 52) rfl z 0 (sarr s t2) rfl rfl HTH2.out (by rw [sarr_size]; exact size_state) HOO.out ?_)
        have oz3 := set_fst (s := s) (t := t2) oz2
        have hgz := setCells_grown w2 z 0 (scells s t2)
        change Code.wp _ _ _ _ (w2.setCells z 0 (scells s t2))
        generalize w2.setCells z 0 (scells s t2) = w3 at *
        have hzq : z ≠ q ∧ z ≠ m := by
          have e1 := HBW.out.2
          have e2 := H0.out.lq
          have e3 := H0.out.lm
          omega
        have hGz : ∀ b, G b → b ≠ z := fun b hb e => by have := H0.out.gl b hb; have := HBW.out.2; omega
        have hbz : ∀ b, b < w2.heap.size → b ≠ z → w3.heap[b]? = w2.heap[b]? := fun b hb hn => hgz.block b hb (fun e => hn (Option.some.inj e))
        have h3 : LkIn w3 q m G l := H2.out.keep (hbz q H2.out.lq (fun e => hzq.1 e.symm)) (hbz m H2.out.lm (fun e => hzq.2 e.symm)) (fun b hb => hbz b (H2.out.gl b hb) (hGz b hb)) hgz.size
        have hzl : w0.heap.size < w1.heap.size := by have := (Array.getElem?_eq_some_iff.1 HXZ.out.2).1; have := HBW.out.2; omega
        have hlq := H0.out.lq
        have hlm := H0.out.lm
        have hsi3 : SI w3 (fun b => w1.heap.size ≤ b ∧ b < w3.heap.size) s t2 := (hsi2.keep (fun b q => hbz b q.2 (by have := HBW.out.2; omega))).wide (fun b q => ⟨q.1, by have := hgz.size; omega⟩)
        have h4 : LkIn w3.drew q m (fun b => G b ∨ (w1.heap.size ≤ b ∧ b < w3.heap.size)) l := (h3.wide (G' := fun b => G b ∨ (w1.heap.size ≤ b ∧ b < w3.heap.size)) (fun b hb => .inl hb) (fun e => by rcases e with e | e; exact h3.gq e; omega) (fun e => by rcases e with e | e; exact h3.gm e; omega) (fun b hb => by rcases hb with hb | hb; exact h3.gl b hb; exact hb.2)).blw (bdrew (Below.refl _ _))
        have he2 : SI w3.drew (fun b => G b ∨ (w1.heap.size ≤ b ∧ b < w3.heap.size)) (entAt l.all tag).peer (entAt l.all tag).p := (h4.at_ tag).2.1
        have hsi4 : SI w3.drew (fun b => G b ∨ (w1.heap.size ≤ b ∧ b < w3.heap.size)) s t2 := (hsi3.keep (w' := w3.drew) (fun _ _ => rfl)).wide (fun b q => .inr q)
        obtain ⟨w4, hu, h5, hg5⟩ := h4.set (of_decide_eq_true HTH.out) HT.out.2 ⟨s, (entAt l.all tag).peer, t2, (entAt l.all tag).p⟩ ⟨hsi4, he2⟩ ⟨HS.out.2.1, HE3.out.2.2.pf, HS.out.2.2, HE3.out.2.2.pw⟩
        unfold Ent.val at hu
        have HU := Lib.hid hu
        have hmv : LMv q m w w4 := by
          have m1 : LMv q m w w2 := H1.out.2.trans (LMv.of_below hb2)
          have m2 : LMv q m w w3 := ⟨hgz.os.trans m1.os, hgz.tape.trans m1.tape, hgz.output.trans m1.output, Nat.le_trans m1.size hgz.size, fun j hj hq hm => (hbz j (Nat.lt_of_lt_of_le hj m1.size) (by have e1 := HBW.out.2; have e2 := HX0.out.2.1.size; omega)).trans (m1.block j hj hq hm)⟩
          exact (m2.trans (LMv.of_below (bdrew (Below.refl _ _)))).trans (LMv.of_grown hg5)
        have HR := Lib.hid (And.intro h5 hmv)
        have HG5 := Lib.hid (show ∀ b, (G b ∨ (w1.heap.size ≤ b ∧ b < w3.heap.size)) → G b ∨ w.heap.size ≤ b from fun b hb => by
          rcases hb with hb | hb
          · exact .inl hb
          · have e1 := HBW.out.1.size; exact .inr (by omega))
        have d11 : w3.cell? ⟨q, 11, none⟩ = some (.map (some m)) := h3.cs 11 _ rfl
        have HD11 := Lib.hid d11
        have HOZ := Lib.hid oz3
        have hzm3 : z ≠ m := hzq.2
        have HOZ4 := Lib.hid (show w4.heap[z]? = some (.cells (sarr s t2 ++ sarr (entAt l.all tag).peer (entAt l.all tag).p) 78 (0, 0)) from (hg5.block z (by have := (Array.getElem?_eq_some_iff.1 oz3).1; exact this) (fun e => hzm3 (Option.some.inj e))).trans oz3)
        clear hzm3 h3 h4 h5 hg5 hu he2 hsi3 hsi4 hmv oz3 hgz hbz hsi2 hb2 oz2 hth2 hGz hz2 hzl hlq hlm x0 c1 c3 c11 hzq
        obtain ⟨S, hSd⟩ : ∃ S : Array Bool → World → Prop, ∀ L V, S L V ↔ (V.heap[z]? = some (.cells (sarr s t2 ++ sarr (entAt l.all tag).peer (entAt l.all tag).p) 78 (0, 0)) ∧ V.cell? ⟨q, 11, none⟩ = some (.map (some m))) := ⟨_, fun _ _ => Iff.rfl⟩
        have HSD := Lib.hid hSd
        clear hSd
        refine wp_region_T S 7 rfl (by kernel_rfl) ?_
        have hS : ∀ L : Array Bool, S L w3.drew := fun L => (HSD.out _ _).2 ⟨HOZ.out, HD11.out⟩
        refine takeT (i := 0) (v := .pointer (some ⟨q, 0, none⟩)) (some 54) [] rfl rfl (by kernel_rfl) (by kernel_rfl) (by kernel_rfl) (by kernel_rfl) (by kernel_rfl) (fun _ _ _ h => h) (fun m W _ _ h => (HSD.out _ _).2 ((HSD.out _ _).1 h)) (Or.inl ⟨by rfl, by rintro V ⟨m, hm, h9⟩; have h0 := (HSD.out _ _).1 h9; go_simp⟩) (hS _) ?_
        try simp only [Act.put, List.setIfInBounds_toArray, List.set_cons_zero, List.set_cons_succ]
        refine takeT (i := 1) (v := .pointer (some ⟨q, 0, none⟩)) (some 55) [] rfl rfl (by kernel_rfl) (by kernel_rfl) (by kernel_rfl) (by kernel_rfl) (by kernel_rfl) (fun _ _ _ h => h) (fun m W _ _ h => (HSD.out _ _).2 ((HSD.out _ _).1 h)) (Or.inl ⟨by rfl, by rintro V ⟨m, hm, h9⟩; have h0 := (HSD.out _ _).1 h9; go_simp⟩) (hS _) ?_
        try simp only [Act.put, List.setIfInBounds_toArray, List.set_cons_zero, List.set_cons_succ]
        refine takeT (i := 2) (v := .pointer (some ⟨q, 11, none⟩)) (some 56) [] rfl rfl (by kernel_rfl) (by kernel_rfl) (by kernel_rfl) (by kernel_rfl) (by kernel_rfl) (fun _ _ _ h => h) (fun m W _ _ h => (HSD.out _ _).2 ((HSD.out _ _).1 h)) (Or.inl ⟨by rfl, by rintro V ⟨m, hm, h9⟩; have h0 := (HSD.out _ _).1 h9; go_simp⟩) (hS _) ?_
        try simp only [Act.put, List.setIfInBounds_toArray, List.set_cons_zero, List.set_cons_succ]
        refine takeT (i := 3) (v := .map (some m)) (some 57) [] rfl rfl (by kernel_rfl) (by kernel_rfl) (by kernel_rfl) (by kernel_rfl) (by kernel_rfl) (fun _ _ _ h => h) (fun m W _ _ h => (HSD.out _ _).2 ((HSD.out _ _).1 h)) (Or.inl ⟨by rfl, by rintro V ⟨m, hm, h9⟩; have h0 := ((HSD.out _ _).1 h9).2; go_simp⟩) (hS _) ?_
        try simp only [Act.put, List.setIfInBounds_toArray, List.set_cons_zero, List.set_cons_succ]
        refine takeT (i := 4) (v := .string tag) (some 58) [] rfl rfl (by kernel_rfl) (by kernel_rfl) (by kernel_rfl) (by kernel_rfl) (by kernel_rfl) (fun _ _ _ h => h) (fun m W _ _ h => (HSD.out _ _).2 ((HSD.out _ _).1 h)) (Or.inl ⟨by rfl, by rintro V ⟨m, hm, h9⟩; have h0 := (HSD.out _ _).1 h9; go_simp⟩) (hS _) ?_
        try simp only [Act.put, List.setIfInBounds_toArray, List.set_cons_zero, List.set_cons_succ]
        refine takeT (i := 5) (v := .agg (sarr s t2 ++ sarr (entAt l.all tag).peer (entAt l.all tag).p)) (some 59) [] rfl rfl (by kernel_rfl) (by kernel_rfl) (by kernel_rfl) (by kernel_rfl) (by kernel_rfl) (fun _ _ _ h => h) (fun m W _ _ h => (HSD.out _ _).2 ((HSD.out _ _).1 h)) (yieldsIf_load_row 78 (.tmp 9) rfl (by rfl) z rfl 78 _ (0, 0) _ (fun V h => by obtain ⟨m, _, h9⟩ := h; exact ((HSD.out _ _).1 h9).1) Try.underlying78 rfl (by rw [Array.size_append, sarr_size, sarr_size]; exact size_said)) (hS _) ?_
        try simp only [Act.put, List.setIfInBounds_toArray, List.set_cons_zero, List.set_cons_succ]
        refine wpAnyT_all (rs := [6]) (by kernel_rfl) (by simp) ?_
        intro i5 hi5
        simp only [List.mem_cons, List.not_mem_nil, or_false] at hi5
        subst hi5
        refine stepT (i := 6) rfl (by rfl) (fun K5 h5 => ?_)
        refine wp_mapUpdate_to 74 (.tmp 57) (.tmp 58) (.tmp 59) rfl rfl (.map (some m)) (.string tag) _ rfl rfl rfl w4 HU.out ?_
        refine h5.out _ _ ((HSD.out _ _).2 ⟨?_, HR.out.1.cs 11 _ rfl⟩) ?_
        · exact HOZ4.out
        clear h5
        refine wpAnyT_done (by kernel_rfl) ?_ _
        have HD := Lib.hid (show ∀ t, l.ownL tag s false t = ({ l with all := entSet l.all tag ⟨s, (entAt l.all tag).peer, t, (entAt l.all tag).p⟩ }, 0) from fun t => by unfold Lk.ownL; rw [if_neg (fun q => q (of_decide_eq_true HTH.out)), if_neg (by simp), if_neg (by simp), if_neg HK0.out])
        go_wp2_with fail
        go_ret
        refine ⟨t2, _, ?_, ?_, HG5.out, HR.out.2⟩
        · show _ = Ending.returned (.int .i64 (l.ownL tag s false default).2)
          rw [HD.out]
          rfl
        · show LkIn _ q m _ (l.ownL tag s false t2).1
          rw [HD.out]
          exact HR.out.1
    · have HNT : tag ∈ tagsL l.all := of_decide_eq_true HTH.out
      by_cases hm : l.rc = true ∧ l.rcv = 1
      · have e3 : (l.rcv == 1) = true := by simpa using hm.2
        rw [hm.1] at c1
        have HD := Lib.hid (show ∀ t, l.ownL tag s true t = (l, 141) from fun t => by unfold Lk.ownL; rw [if_neg (fun q => q HNT), if_pos ⟨rfl, hm⟩])
        go_wp2_with fail
        all_goals
          go_ret
          refine ⟨default, G, ?_, ?_, fun b h => .inl h, H1.out.2⟩
          · show _ = Ending.returned (.int .i64 (l.ownL tag s true default).2)
            rw [HD.out]
            rfl
          · show LkIn _ q m G (l.ownL tag s true default).1
            rw [HD.out]
            exact H1.out.1
      · obtain ⟨w4, hu, h5, hg5⟩ := H1.out.1.del HT.out.1 0
        have HU := Lib.hid (And.intro h5 (H1.out.2.trans (LMv.of_grown hg5)))
        have HD := Lib.hid (show ∀ t, l.ownL tag s true t = ({ l with all := l.all.filter fun p => decide (p.1 ≠ tag) }, 0) from fun t => by unfold Lk.ownL; rw [if_neg (fun q => q HNT), if_neg (fun q => hm q.2), if_pos rfl])
        have hq : l.rc = false ∨ (l.rc = true ∧ (l.rcv == 1) = false) := by
          cases hrc : l.rc
          · exact .inl rfl
          · exact .inr ⟨rfl, by simpa using fun q => hm ⟨hrc, q⟩⟩
        clear h5 hg5 hm
        rcases hq with hq | ⟨hq, e3⟩
        all_goals
          rw [hq] at c1
          go_wp2_with fail
          go_ret
          refine ⟨default, G, ?_, ?_, fun b h => .inl h, HU.out.2⟩
          · show _ = Ending.returned (.int .i64 (l.ownL tag s true default).2)
            rw [HD.out]
            rfl
          · show LkIn _ q m G (l.ownL tag s true default).1
            rw [HD.out]
            exact HU.out.1
end Go.Proofs.Ytcbjfakkikjbkaa
