/-
  What the peer says of a delivery. Conditions: the link lies in memory.
-/
import Derived.Test.YtcbjfakkikjbkaaKl
namespace Go.Proofs.Ytcbjfakkikjbkaa
open Go.RowKit Go.Maps
set_option linter.all false

/-- what the peer says of a delivery; s lies at t -/
noncomputable def Lk.peerL (l : Lk) (tag : ByteArray) (s : St) (b : Bool) (t : Sl) : Lk × Bool × Int :=
  if tag ∉ tagsL l.all then (l, false, 143)
  else if b = true ∧ l.rc = false ∧ l.rcv = 1 then (l, false, 141)
  else if b = true then ({ l with all := l.all.filter fun p => decide (p.1 ≠ tag) }, true, 0)
  else if s.kind = 0 ∨ s = (entAt l.all tag).peer then (l, false, 0)
  else ({ l with all := entSet l.all tag ⟨(entAt l.all tag).own, s, (entAt l.all tag).o, t⟩ }, true, 0)
set_option maxRecDepth 20000 in
set_option maxHeartbeats 4000000 in
theorem peer_any (w : World) (q m : Nat) (G : Nat → Prop) (l : Lk) (tag : ByteArray) (s : St) (ts : Sl) (b : Bool) (h : LkIn w q m G l) (ht : tag.size ≤ maxLen) (hl : l.all.length < maxLen) (hs : SIn w s ts) (hf : s.Fine) (hsw : s.w ≤ 1000000) :
    Calls Try.prog 20 #[.pointer (some ⟨q, 0, none⟩), .string tag, .agg (sarr s ts), .bool b] w (StTo w q m G (fun t => (l.peerL tag s b t).1) (.tuple #[.bool (l.peerL tag s b default).2.1, .int .i64 (l.peerL tag s b default).2.2])) := by
  have HS := Lib.hid (And.intro hs (And.intro hf hsw))
  obtain ⟨A, hA⟩ : ∃ A, sarr s ts = A := ⟨_, rfl⟩
  rw [hA]
  have HA := Lib.hid hA
  have HAS := Lib.hid (show A.size = 19 by rw [← hA]; rfl)
  have HA0 := Lib.hid (show A[0]? = some (.int .i64 s.kind) by rw [← hA]; rfl)
  have HT := Lib.hid (And.intro ht hl)
  have H := Lib.hid h
  clear hA hs hf hsw ht hl
  -- the world behind the boxes
  go_enter Try.func20, Try.ntmps20
  go_upto_region 1 with fail
  have hb0 : Below w.heap.size w (w.alloc (.cells A 33)) := (Below.refl _ _).alloc (Nat.le_refl _) _
  have ox : (w.alloc (.cells A 33)).heap[w.heap.size]? = some (.cells A 33 (0, 0)) := _root_.Go.heap_alloc_new _ _
  change Code.wp _ _ _ _ (w.alloc (.cells A 33))
  generalize (w.alloc (.cells A 33)) = w0 at *
  obtain ⟨x, hx⟩ : ∃ x, w.heap.size = x := ⟨_, rfl⟩
  rw [hx] at ox ⊢
  have h0 := h.blw hb0
  have HX0 := Lib.hid (And.intro hx (And.intro hb0 ox))
  have hlook := h0.look HT.out.1
  unfold Ent.val at hlook
  obtain ⟨s1, s2, s3⟩ := h0.at_ tag
  have ho1 := ent_one s1.sin s2.sin
  have HE3 := Lib.hid (And.intro s1 (And.intro s2 s3))
  obtain ⟨E, hE⟩ : ∃ E, sarr (entAt l.all tag).own (entAt l.all tag).o ++ sarr (entAt l.all tag).peer (entAt l.all tag).p = E := ⟨_, rfl⟩
  have HE := Lib.hid hE
  have hsz : E.size = 38 := by rw [← hE]; exact eval_size _
  rw [hE] at hlook ho1
  have HSZ := Lib.hid (show (Try.prog.info? 78).map (·.size) = some E.size by rw [hsz]; exact size_said)
  have HSZ2 := Lib.hid (show (sarr zS default ++ sarr zS default).size = E.size by rw [hsz]; rfl)
  have HO := Lib.hid ho1
  have c11 : w0.cell? ⟨q, 11, none⟩ = some (.map (some m)) := h0.cs 11 _ rfl
  have H0 := Lib.hid h0
  obtain ⟨th, hth⟩ : ∃ th, decide (tag ∈ tagsL l.all) = th := ⟨_, rfl⟩
  rw [hth] at hlook
  have HTH := Lib.hid hth
  clear h h0 hb0 ox hx s1 s2 s3 ho1 hE hsz hth
  go_upto_region 2 with (refine wpList_store_rowTo rfl 78 (.tmp 10) (.tmp 19) rfl rfl w0.heap.size E rfl rfl 78 (sarr zS default ++ sarr zS default) (_root_.Go.heap_alloc_new w0 _) HSZ.out HSZ2.out HO.out ?_)
  have hb_w1 : Below w0.heap.size w0 ((w0.alloc (.cells (sarr zS default ++ sarr zS default) 78)).setRow w0.heap.size E) := below_setRow ((Below.refl _ _).alloc (Nat.le_refl _) _) (Nat.le_refl _) _
  have oz := setRow_heap (w0.alloc (.cells (sarr zS default ++ sarr zS default) 78)) w0.heap.size _ E _ _ (_root_.Go.heap_alloc_new w0 _)
  change Code.wp _ _ _ _ ((w0.alloc (.cells (sarr zS default ++ sarr zS default) 78)).setRow w0.heap.size E)
  generalize ((w0.alloc (.cells (sarr zS default ++ sarr zS default) 78)).setRow w0.heap.size E) = w1 at *
  obtain ⟨z, hz⟩ : ∃ z, w0.heap.size = z := ⟨_, rfl⟩
  rw [hz] at oz ⊢
  have hh := H0.out.blw hb_w1
  have c11 : w1.cell? ⟨q, 11, none⟩ = some (.map (some m)) := hh.cs 11 _ rfl
  have c1 : w1.cell? ⟨q, 1, none⟩ = some (.bool l.rc) := hh.cs 1 _ rfl
  have c3 : w1.cell? ⟨q, 3, none⟩ = some (.int .i64 l.rcv) := hh.cs 3 _ rfl
  have ox1 := (hb_w1.block x (Array.getElem?_eq_some_iff.1 HX0.out.2.2).1).trans HX0.out.2.2
  have x0 : w1.cell? ⟨x, 0, none⟩ = some (.int .i64 s.kind) := (cell_of_row _ _ 0 _ _ _ ox1).trans HA0.out
  have hbw : Below w.heap.size w w1 := HX0.out.2.1.trans (hb_w1.mono HX0.out.2.1.size)
  have HXZ := Lib.hid (And.intro ox1 oz)
  have HBW := Lib.hid (And.intro hbw hz)
  have H1 := Lib.hid (And.intro hh (LMv.of_below (q := q) (m := m) hbw))
  clear hh hb_w1 oz ox1 hbw hz hlook
  cases th
  · have HTN := Lib.hid (of_decide_eq_false HTH.out)
    have HD := Lib.hid (show ∀ t, l.peerL tag s b t = (l, false, 143) from fun t => by unfold Lk.peerL; rw [if_pos HTN.out])
    go_wp2_with fail
    all_goals
      go_ret2
      refine ⟨default, G, ?_, ?_, fun b h => .inl h, H1.out.2⟩
      · show _ = Ending.returned (.tuple #[.bool (l.peerL tag s b default).2.1, .int .i64 (l.peerL tag s b default).2.2])
        rw [HD.out]
        rfl
      · show LkIn _ q m G (l.peerL tag s b default).1
        rw [HD.out]
        exact H1.out.1
  · cases b
    · by_cases hk : s.kind = 0
      · have ek : (s.kind == 0) = true := by simpa using hk
        have HD := Lib.hid (show ∀ t, l.peerL tag s false t = (l, false, 0) from fun t => by unfold Lk.peerL; rw [if_neg (fun q => q (of_decide_eq_true HTH.out)), if_neg (by simp), if_neg (by simp), if_pos (.inl hk)])
        go_wp2_with fail
        all_goals
          go_ret2
          refine ⟨default, G, ?_, ?_, fun b h => .inl h, H1.out.2⟩
          · show _ = Ending.returned (.tuple #[.bool (l.peerL tag s false default).2.1, .int .i64 (l.peerL tag s false default).2.2])
            rw [HD.out]
            rfl
          · show LkIn _ q m G (l.peerL tag s false default).1
            rw [HD.out]
            exact H1.out.1
      · have HNZ := Lib.hid hk
        have hsm := same_on s
        unfold SameOn at hsm
        have hsm := hsm w1 ts (entAt l.all tag).peer (entAt l.all tag).p (HS.out.1.blw HBW.out.1) ((H1.out.1.at_ tag).2.1.sin)
        rw [HA.out] at hsm
        obtain ⟨zz, hzz⟩ : ∃ zz, decide (s = (entAt l.all tag).peer) = zz := ⟨_, rfl⟩
        rw [hzz] at hsm
        have HZZ := Lib.hid hzz
        have HSM := Lib.hid hsm
        have HLX := Lib.hid (range_of_row HXZ.out.1)
        have HSZA := Lib.hid (show (Try.prog.info? 33).map (·.size) = some A.toList.length by rw [Array.length_toList, HAS.out]; exact size_state)
        have hoz := HXZ.out.2
        rw [← HE.out] at hoz
        have HLZ := Lib.hid (said_mid hoz)
        have ek : (s.kind == 0) = false := by simpa using hk
        clear hsm hzz hoz hk
        go_wp2_with (first
          | (refine wpList_load_midG 33 (.tmp 6) rfl (some 54) rfl x 0 rfl A _ (by rfl) HLX.out Try.underlying33 rfl HSZA.out ?_)
          | (refine wpList_load_midG 33 (.tmp 55) rfl (some 56) rfl z 19 rfl (sarr (entAt l.all tag).peer (entAt l.all tag).p) _ (by rfl) HLZ.out Try.underlying33 rfl size_state ?_))
        refine HSM.out.mono ?_
        rintro e w1s ⟨rfl, hbs⟩
        have HXS := Lib.hid (And.intro ((hbs.block x (Array.getElem?_eq_some_iff.1 HXZ.out.1).1).trans HXZ.out.1) ((hbs.block z (Array.getElem?_eq_some_iff.1 HXZ.out.2).1).trans HXZ.out.2))
        have HBS := Lib.hid (And.intro (HBW.out.1.trans (hbs.mono HBW.out.1.size)) hbs.size)
        have H1s := Lib.hid (And.intro (H1.out.1.blw hbs) (H1.out.2.trans (LMv.of_below (q := q) (m := m) hbs)))
        have c11s : w1s.cell? ⟨q, 11, none⟩ = some (.map (some m)) := H1s.out.1.cs 11 _ rfl
        have HLXs := Lib.hid (range_of_row HXS.out.1)
        clear hbs c1 c3 c11 x0
        have c11 : w1s.cell? ⟨q, 11, none⟩ = some (.map (some m)) := c11s
        clear c11s
        cases zz
        · have HNS := Lib.hid (of_decide_eq_false HZZ.out)
          have hkk := kept_on s
          unfold keptOn at hkk
          have hkk := hkk w1s ts (HS.out.1.blw (by have := HBS.out.1; exact this)) HS.out.2.1 HS.out.2.2
          rw [HA.out] at hkk
          have HKK := Lib.hid hkk
          clear hkk
          go_wp2_with (refine wpList_load_midTo rfl 33 (.tmp 6) rfl (some 59) rfl x 0 rfl A _ HLXs.out Try.underlying33 rfl HSZA.out ?_)
          refine HKK.out.mono ?_
          rintro e w2 ⟨t2, rfl, hsi2, hb2⟩
          have oz2 := (hb2.block z (Array.getElem?_eq_some_iff.1 HXS.out.2).1).trans HXS.out.2
          rw [← HE.out] at oz2
          have hth2 : w2.there z 19 19 := setCells_row (vs := scells s t2) oz2 (by rw [eval_size, scells_len]; decide)
          have HTH2 := Lib.hid (show w2.there z 19 (sarr s t2).size from hth2)
          have HOO := Lib.hid (sarr_one hsi2.sin)
          have H2 := Lib.hid (H1s.out.1.blw hb2)
          have hz2 : w1s.heap.size ≤ w2.heap.size := hb2.size
          go_upto_region 12 with (refine wpList_store_mid rfl 33 (.tmp 61) (.tmp 60) rfl z 19 (sarr s t2) rfl rfl HTH2.out (by rw [sarr_size]; exact size_state) HOO.out ?_)
          have oz3 := set_snd (s := s) (t := t2) oz2
          have hgz := setCells_grown w2 z 19 (scells s t2)
          change Code.wp _ _ _ _ (w2.setCells z 19 (scells s t2))
          generalize w2.setCells z 19 (scells s t2) = w3 at *
          have hzq : z ≠ q ∧ z ≠ m := by
            have e1 := HBW.out.2
            have e0 := HBS.out.2
            have e2 := H0.out.lq
            have e3 := H0.out.lm
            omega
          have hGz : ∀ b, G b → b ≠ z := fun b hb e => by have := H0.out.gl b hb; have := HBW.out.2; omega
          have hbz : ∀ b, b < w2.heap.size → b ≠ z → w3.heap[b]? = w2.heap[b]? := fun b hb hn => hgz.block b hb (fun e => hn (Option.some.inj e))
          have h3 : LkIn w3 q m G l := H2.out.keep (hbz q H2.out.lq (fun e => hzq.1 e.symm)) (hbz m H2.out.lm (fun e => hzq.2 e.symm)) (fun b hb => hbz b (H2.out.gl b hb) (hGz b hb)) hgz.size
          have hzl : w0.heap.size < w1s.heap.size := by have := (Array.getElem?_eq_some_iff.1 HXS.out.2).1; have := HBW.out.2; omega
          have hlq := H0.out.lq
          have hlm := H0.out.lm
          have hsi3 : SI w3 (fun b => w1s.heap.size ≤ b ∧ b < w3.heap.size) s t2 := (hsi2.keep (fun b q => hbz b q.2 (by have := HBW.out.2; omega))).wide (fun b q => ⟨q.1, by have := hgz.size; omega⟩)
          have h4 : LkIn w3.drew q m (fun b => G b ∨ (w1s.heap.size ≤ b ∧ b < w3.heap.size)) l := (h3.wide (G' := fun b => G b ∨ (w1s.heap.size ≤ b ∧ b < w3.heap.size)) (fun b hb => .inl hb) (fun e => by rcases e with e | e; exact h3.gq e; omega) (fun e => by rcases e with e | e; exact h3.gm e; omega) (fun b hb => by rcases hb with hb | hb; exact h3.gl b hb; exact hb.2)).blw (bdrew (Below.refl _ _))
          have he2 : SI w3.drew (fun b => G b ∨ (w1s.heap.size ≤ b ∧ b < w3.heap.size)) (entAt l.all tag).own (entAt l.all tag).o := (h4.at_ tag).1
          have hsi4 : SI w3.drew (fun b => G b ∨ (w1s.heap.size ≤ b ∧ b < w3.heap.size)) s t2 := (hsi3.keep (w' := w3.drew) (fun _ _ => rfl)).wide (fun b q => .inr q)
          obtain ⟨w4, hu, h5, hg5⟩ := h4.set (of_decide_eq_true HTH.out) HT.out.2 ⟨(entAt l.all tag).own, s, (entAt l.all tag).o, t2⟩ ⟨he2, hsi4⟩ ⟨HE3.out.2.2.of, HS.out.2.1, HE3.out.2.2.ow, HS.out.2.2⟩
          unfold Ent.val at hu
          have HU := Lib.hid hu
          have hmv : LMv q m w w4 := by
            have m1 : LMv q m w w2 := H1s.out.2.trans (LMv.of_below hb2)
            have m2 : LMv q m w w3 := ⟨hgz.os.trans m1.os, hgz.tape.trans m1.tape, hgz.output.trans m1.output, Nat.le_trans m1.size hgz.size, fun j hj hq hm => (hbz j (Nat.lt_of_lt_of_le hj m1.size) (by have e1 := HBW.out.2; have e2 := HX0.out.2.1.size; omega)).trans (m1.block j hj hq hm)⟩
            exact (m2.trans (LMv.of_below (bdrew (Below.refl _ _)))).trans (LMv.of_grown hg5)
          have HR := Lib.hid (And.intro h5 hmv)
          have HG5 := Lib.hid (show ∀ b, (G b ∨ (w1s.heap.size ≤ b ∧ b < w3.heap.size)) → G b ∨ w.heap.size ≤ b from fun b hb => by
            rcases hb with hb | hb
            · exact .inl hb
            · have e1 := HBS.out.1.size; exact .inr (by omega))
          have d11 : w3.cell? ⟨q, 11, none⟩ = some (.map (some m)) := h3.cs 11 _ rfl
          have HD11 := Lib.hid d11
          have HOZ := Lib.hid oz3
          have hzm3 : z ≠ m := hzq.2
          have HOZ4 := Lib.hid (show w4.heap[z]? = some (.cells (sarr (entAt l.all tag).own (entAt l.all tag).o ++ sarr s t2) 78 (0, 0)) from (hg5.block z (by have := (Array.getElem?_eq_some_iff.1 oz3).1; exact this) (fun e => hzm3 (Option.some.inj e))).trans oz3)
          clear hzm3 h3 h4 h5 hg5 hu he2 hsi3 hsi4 hmv oz3 hgz hbz hsi2 hb2 oz2 hth2 hGz hz2 hzl hlq hlm c11 hzq
          obtain ⟨S, hSd⟩ : ∃ S : Array Bool → World → Prop, ∀ L V, S L V ↔ (V.heap[z]? = some (.cells (sarr (entAt l.all tag).own (entAt l.all tag).o ++ sarr s t2) 78 (0, 0)) ∧ V.cell? ⟨q, 11, none⟩ = some (.map (some m))) := ⟨_, fun _ _ => Iff.rfl⟩
          have HSD := Lib.hid hSd
          clear hSd
          refine wp_region_T S 7 rfl (by kernel_rfl) ?_
          have hS : ∀ L : Array Bool, S L w3.drew := fun L => (HSD.out _ _).2 ⟨HOZ.out, HD11.out⟩
          refine takeT (i := 0) (v := .pointer (some ⟨q, 0, none⟩)) (some 62) [] rfl rfl (by kernel_rfl) (by kernel_rfl) (by kernel_rfl) (by kernel_rfl) (by kernel_rfl) (fun _ _ _ h => h) (fun m W _ _ h => (HSD.out _ _).2 ((HSD.out _ _).1 h)) (Or.inl ⟨by rfl, by rintro V ⟨m, hm, h9⟩; have h0 := (HSD.out _ _).1 h9; go_simp⟩) (hS _) ?_
          try simp only [Act.put, List.setIfInBounds_toArray, List.set_cons_zero, List.set_cons_succ]
          refine takeT (i := 1) (v := .pointer (some ⟨q, 0, none⟩)) (some 63) [] rfl rfl (by kernel_rfl) (by kernel_rfl) (by kernel_rfl) (by kernel_rfl) (by kernel_rfl) (fun _ _ _ h => h) (fun m W _ _ h => (HSD.out _ _).2 ((HSD.out _ _).1 h)) (Or.inl ⟨by rfl, by rintro V ⟨m, hm, h9⟩; have h0 := (HSD.out _ _).1 h9; go_simp⟩) (hS _) ?_
          try simp only [Act.put, List.setIfInBounds_toArray, List.set_cons_zero, List.set_cons_succ]
          refine takeT (i := 2) (v := .pointer (some ⟨q, 11, none⟩)) (some 64) [] rfl rfl (by kernel_rfl) (by kernel_rfl) (by kernel_rfl) (by kernel_rfl) (by kernel_rfl) (fun _ _ _ h => h) (fun m W _ _ h => (HSD.out _ _).2 ((HSD.out _ _).1 h)) (Or.inl ⟨by rfl, by rintro V ⟨m, hm, h9⟩; have h0 := (HSD.out _ _).1 h9; go_simp⟩) (hS _) ?_
          try simp only [Act.put, List.setIfInBounds_toArray, List.set_cons_zero, List.set_cons_succ]
          refine takeT (i := 3) (v := .map (some m)) (some 65) [] rfl rfl (by kernel_rfl) (by kernel_rfl) (by kernel_rfl) (by kernel_rfl) (by kernel_rfl) (fun _ _ _ h => h) (fun m W _ _ h => (HSD.out _ _).2 ((HSD.out _ _).1 h)) (Or.inl ⟨by rfl, by rintro V ⟨m, hm, h9⟩; have h0 := ((HSD.out _ _).1 h9).2; go_simp⟩) (hS _) ?_
          try simp only [Act.put, List.setIfInBounds_toArray, List.set_cons_zero, List.set_cons_succ]
          refine takeT (i := 4) (v := .string tag) (some 66) [] rfl rfl (by kernel_rfl) (by kernel_rfl) (by kernel_rfl) (by kernel_rfl) (by kernel_rfl) (fun _ _ _ h => h) (fun m W _ _ h => (HSD.out _ _).2 ((HSD.out _ _).1 h)) (Or.inl ⟨by rfl, by rintro V ⟨m, hm, h9⟩; have h0 := (HSD.out _ _).1 h9; go_simp⟩) (hS _) ?_
          try simp only [Act.put, List.setIfInBounds_toArray, List.set_cons_zero, List.set_cons_succ]
          refine takeT (i := 5) (v := .agg (sarr (entAt l.all tag).own (entAt l.all tag).o ++ sarr s t2)) (some 67) [] rfl rfl (by kernel_rfl) (by kernel_rfl) (by kernel_rfl) (by kernel_rfl) (by kernel_rfl) (fun _ _ _ h => h) (fun m W _ _ h => (HSD.out _ _).2 ((HSD.out _ _).1 h)) (yieldsIf_load_row 78 (.tmp 10) rfl (by rfl) z rfl 78 _ (0, 0) _ (fun V h => by obtain ⟨m, _, h9⟩ := h; exact ((HSD.out _ _).1 h9).1) Try.underlying78 rfl (by rw [Array.size_append, sarr_size, sarr_size]; exact size_said)) (hS _) ?_
          try simp only [Act.put, List.setIfInBounds_toArray, List.set_cons_zero, List.set_cons_succ]
          refine wpAnyT_all (rs := [6]) (by kernel_rfl) (by simp) ?_
          intro i5 hi5
          simp only [List.mem_cons, List.not_mem_nil, or_false] at hi5
          subst hi5
          refine stepT (i := 6) rfl (by rfl) (fun K5 h5 => ?_)
          refine wp_mapUpdate_to 74 (.tmp 65) (.tmp 66) (.tmp 67) rfl rfl (.map (some m)) (.string tag) _ rfl rfl rfl w4 HU.out ?_
          refine h5.out _ _ ((HSD.out _ _).2 ⟨?_, HR.out.1.cs 11 _ rfl⟩) ?_
          · exact HOZ4.out
          clear h5
          refine wpAnyT_done (by kernel_rfl) ?_ _
          have HD := Lib.hid (show ∀ t, l.peerL tag s false t = ({ l with all := entSet l.all tag ⟨(entAt l.all tag).own, s, (entAt l.all tag).o, t⟩ }, true, 0) from fun t => by unfold Lk.peerL; rw [if_neg (fun q => q (of_decide_eq_true HTH.out)), if_neg (by simp), if_neg (by simp), if_neg (fun q => q.elim HNZ.out HNS.out)])
          go_wp2_with fail
          go_ret2
          refine ⟨t2, _, ?_, ?_, HG5.out, HR.out.2⟩
          · show _ = Ending.returned (.tuple #[.bool (l.peerL tag s false default).2.1, .int .i64 (l.peerL tag s false default).2.2])
            rw [HD.out]
            rfl
          · show LkIn _ q m _ (l.peerL tag s false t2).1
            rw [HD.out]
            exact HR.out.1
        · have HSS := Lib.hid (of_decide_eq_true HZZ.out)
          have HD := Lib.hid (show ∀ t, l.peerL tag s false t = (l, false, 0) from fun t => by unfold Lk.peerL; rw [if_neg (fun q => q (of_decide_eq_true HTH.out)), if_neg (by simp), if_neg (by simp), if_pos (.inr HSS.out)])
          go_wp2_with fail
          all_goals
            go_ret2
            refine ⟨default, G, ?_, ?_, fun b h => .inl h, H1s.out.2⟩
            · show _ = Ending.returned (.tuple #[.bool (l.peerL tag s false default).2.1, .int .i64 (l.peerL tag s false default).2.2])
              rw [HD.out]
              rfl
            · show LkIn _ q m G (l.peerL tag s false default).1
              rw [HD.out]
              exact H1s.out.1
    · have HNT : tag ∈ tagsL l.all := of_decide_eq_true HTH.out
      by_cases hm : l.rc = false ∧ l.rcv = 1
      · have e3 : (l.rcv == 1) = true := by simpa using hm.2
        rw [hm.1] at c1
        have HD := Lib.hid (show ∀ t, l.peerL tag s true t = (l, false, 141) from fun t => by unfold Lk.peerL; rw [if_neg (fun q => q HNT), if_pos ⟨rfl, hm⟩])
        go_wp2_with fail
        all_goals
          go_ret2
          refine ⟨default, G, ?_, ?_, fun b h => .inl h, H1.out.2⟩
          · show _ = Ending.returned (.tuple #[.bool (l.peerL tag s true default).2.1, .int .i64 (l.peerL tag s true default).2.2])
            rw [HD.out]
            rfl
          · show LkIn _ q m G (l.peerL tag s true default).1
            rw [HD.out]
            exact H1.out.1
      · obtain ⟨w4, hu, h5, hg5⟩ := H1.out.1.del HT.out.1 0
        have HU := Lib.hid (And.intro h5 (H1.out.2.trans (LMv.of_grown hg5)))
        have HD := Lib.hid (show ∀ t, l.peerL tag s true t = ({ l with all := l.all.filter fun p => decide (p.1 ≠ tag) }, true, 0) from fun t => by unfold Lk.peerL; rw [if_neg (fun q => q HNT), if_neg (fun q => hm q.2), if_pos rfl])
        have hq : l.rc = true ∨ (l.rc = false ∧ (l.rcv == 1) = false) := by
          cases hrc : l.rc
          · exact .inr ⟨rfl, by simpa using fun q => hm ⟨hrc, q⟩⟩
          · exact .inl rfl
        clear h5 hg5 hm
        rcases hq with hq | ⟨hq, e3⟩
        all_goals
          rw [hq] at c1
          go_wp2_with fail
          go_ret2
          refine ⟨default, G, ?_, ?_, fun b h => .inl h, HU.out.2⟩
          · show _ = Ending.returned (.tuple #[.bool (l.peerL tag s true default).2.1, .int .i64 (l.peerL tag s true default).2.2])
            rw [HD.out]
            rfl
          · show LkIn _ q m G (l.peerL tag s true default).1
            rw [HD.out]
            exact HU.out.1
end Go.Proofs.Ytcbjfakkikjbkaa
