/-
  Resume: what becomes of deliveries. Conditions: the link and what the peer has left lie in memory, they are not too many.
-/
import Derived.Test.YtcbjfakkikjbkaaKs
namespace Go.Proofs.Ytcbjfakkikjbkaa
open Go.RowKit Go.Maps Go.Sort
set_option linter.all false

/-- the step, with how many are left -/
theorem rangeLeft_same {w w' : World} {m r : Nat} (e : w'.heap[m]? = w.heap[m]?) (e' : w'.heap[r]? = w.heap[r]?) : w'.rangeLeft m r = w.rangeLeft m r := by
  unfold World.rangeLeft
  rw [e, e']
theorem RangeOf.nextLt {w : World} {m r : Nat} {l : List (ByteArray × Value)} {todo : List ByteArray} (h : RangeOf w m r l todo) (ty : TypeId) :
    (todo = [] ∧ (Instr.next (.pointer (some ⟨r, 0, none⟩)) false ty).run Try.prog w = .ok (.tuple #[.bool false]) w) ∨
    ∃ k v w', k ∈ todo ∧ (k, v) ∈ l ∧ (Instr.next (.pointer (some ⟨r, 0, none⟩)) false ty).run Try.prog w = .ok (.tuple #[.bool true, .string k, v]) w' ∧ RangeOf w' m r l (todo.erase k) ∧
      w.grownBy w' (some r) ∧ w'.heap.size = w.heap.size ∧ (Instr.entry (.pointer (some ⟨r, 0, none⟩))).run Try.prog w' = .ok (.tuple #[.string k, v]) w' ∧ w'.rangeLeft m r < w.rangeLeft m r := by
  obtain ⟨D, left, cnt, h1, h2, h3, h4, h5⟩ := h
  rcases h1.next (string_keyed Try.underlying9) ty with ⟨_, hl, hrun⟩ | ⟨key, v, kl, y, w', cnt', hk, hlk, hv, hat, hrun, hrg, hlt, hg, hz, hen⟩
  · refine .inl ⟨?_, hrun⟩
    cases todo with
    | nil => rfl
    | cons k r => have := hl (skey k); rw [h3] at this; simp at this
  · obtain ⟨k, rfl, rfl⟩ := string_of_key hk
    have hkt : k ∈ todo := by rw [h3] at hlk; simpa using hlk
    obtain ⟨p, hp, rfl⟩ := List.mem_map.1 (h5 _ hkt)
    have e1 := h2.at_ p hp (.lit .nil)
    rw [hat] at e1
    simp only [holdV, Option.some.injEq] at hv
    rw [← hv] at e1
    injection e1 with e1
    refine .inr ⟨p.1, v, w', hkt, by rw [e1]; exact hp, hrun, ⟨D, _, cnt', hrg, h2, fun j => ?_, h4.erase _, fun j hj => h5 j (List.mem_of_mem_erase hj)⟩, hg, hz, hen, by rw [hrg.left_eq, h1.left_eq]; exact hlt⟩
    have hm := h4.mem_erase_iff (a := p.1) (b := j)
    simp only [hm, h3]
    by_cases e : j = p.1
    · subst e
      have : (skey p.1).sameKey (skey p.1) = true := WideAt.sameKey_self trivial
      have hn : p.1 ∉ todo.erase p.1 := fun q => (h4.mem_erase_iff.1 q).1 rfl
      simp [this, hn]
    · have : (skey j).sameKey (skey p.1) = false := Maps.sameKey_ne (fun q => e (skey_inj q))
      simp [this, e]
theorem RangeOf.nd {w : World} {m r : Nat} {l : List (ByteArray × Value)} {todo : List ByteArray} (h : RangeOf w m r l todo) : todo.Nodup := by obtain ⟨D, left, cnt, h1, h2, h3, h4, h5⟩ := h; exact h4
theorem RangeOf.sub {w : World} {m r : Nat} {l : List (ByteArray × Value)} {todo : List ByteArray} (h : RangeOf w m r l todo) : ∀ k ∈ todo, k ∈ keysL l := by obtain ⟨D, left, cnt, h1, h2, h3, h4, h5⟩ := h; exact h5
/-- what the peer has left, by the first that is told of each tag -/
structure FirstOf (L : List Un) (k : Nat) (a : List (ByteArray × (St × Sl))) : Prop where
  nd : (ltags a).Nodup
  el : ∀ p ∈ a, ∃ i, i < k ∧ ∃ h : i < L.length, L[i].tag = p.1 ∧ L[i].st = p.2.1 ∧ ∀ j (hj : j < i), L[j].tag ≠ p.1
  all : ∀ i (h : i < L.length), i < k → L[i].tag ∈ ltags a
theorem FirstOf.nil (L : List Un) : FirstOf L 0 [] := ⟨by simp [ltags], fun p hp => by simp at hp, fun i h q => by omega⟩
theorem FirstOf.skip {L : List Un} {k : Nat} {a : List (ByteArray × (St × Sl))} (h : FirstOf L k a) (hk : k < L.length) (hm : L[k].tag ∈ ltags a) : FirstOf L (k + 1) a :=
  ⟨h.nd, fun p hp => by obtain ⟨i, h1, h2⟩ := h.el p hp; exact ⟨i, by omega, h2⟩, fun i hi hik => by
    by_cases e : i = k
    · subst e; exact hm
    · exact h.all i hi (by omega)⟩
theorem FirstOf.push {L : List Un} {k : Nat} {a : List (ByteArray × (St × Sl))} (h : FirstOf L k a) (hk : k < L.length) (hm : L[k].tag ∉ ltags a) (t : Sl) : FirstOf L (k + 1) (a ++ [(L[k].tag, L[k].st, t)]) := by
  refine ⟨?_, fun p hp => ?_, fun i hi hik => ?_⟩
  · unfold ltags at *
    rw [List.map_append, List.nodup_append]
    refine ⟨h.nd, by simp, fun x hx b hb e => ?_⟩
    simp only [List.map_cons, List.map_nil, List.mem_cons, List.not_mem_nil, or_false] at hb
    rw [e, hb] at hx
    exact hm hx
  · rcases List.mem_append.1 hp with hp | hp
    · obtain ⟨i, h1, h2⟩ := h.el p hp
      exact ⟨i, by omega, h2⟩
    · obtain rfl : p = (L[k].tag, L[k].st, t) := by simpa using hp
      exact ⟨k, by omega, hk, rfl, rfl, fun j hj e => hm (by have e2 : L[j].tag = L[k].tag := e; rw [← e2]; exact h.all j (by omega) hj)⟩
  · unfold ltags
    rw [List.map_append, List.mem_append]
    by_cases e : i = k
    · subst e; right; simp
    · exact .inl (h.all i hi (by omega))
/-- what becomes of each -/
noncomputable def resF (l : Lk) (a : List (ByteArray × (St × Sl))) (k : ByteArray) : Int :=
  if k ∈ tagsL l.all then becS l.rc (decide (k ∈ ltags a)) (entAt l.all k).peer.kind (leftAt a k).1.kind else if l.rc = true then 4 else 2
/-- what is told -/
def ResTo (w : World) (l : Lk) (L : List Un) (e : Ending) (w' : World) : Prop :=
  ∃ v rs a, e = .returned v ∧ RowOf w' rcells 2 v rs ∧ FirstOf L L.length a ∧ ReI (resF l a) (fun k => k ∈ tagsL l.all ∨ k ∈ ltags a) (fun _ => False) rs ∧ SortT (rs.map Prod.fst) ∧ rs.length ≤ l.all.length + L.length ∧ Below w.heap.size w w'
theorem info_res : (Try.prog.info? 46).map (fun i => (i.zero, i.size, i.bytes)) = some (some (.agg (rcells (⟨#[]⟩, 0)).toArray), 2, 24) := by kernel_rfl
theorem wpList_buildR {ops : Array Oper} {rest : List Oper} {o : Oper} {a : Act} {w : World} {Q : Exit → Act → World → Prop} (hgd : o.guard = none) (d : Option Tmp) (hd : o.dst = d) (x : Operand) (ho : o.op = .buildSlice 43 1 #[(0, x)]) (r : ByteArray × Int)
    (hx : a.eval x = .agg (rcells r).toArray)
    (h : wpList Try.prog ops Q rest (a.put d (.slice (some ⟨w.heap.size, 0, none⟩) 1 1)) (w.alloc (.cells (rcells r).toArray 46))) : wpList Try.prog ops Q (o :: rest) a w := by
  subst hd
  obtain ⟨i0, hi, hz0, hz1, hz2⟩ := info_parts3 info_res
  refine wpList_buildSlice hgd 43 46 1 _ ho _ i0 _ Try.underlying43 hi hz0 (by rw [hz1]; decide) (by rw [hz1]; decide) ?_ h
  rw [hz1]
  simp only [List.map_toArray, List.map_cons, List.map_nil, hx]
  kernel_rfl
theorem lefts_put (a : List (ByteArray × (St × Sl))) (k : ByteArray) (s : St) (t : Sl) : lefts (a ++ [(k, s, t)]) = lefts a ++ [(k, .agg (sarr s t))] := by simp [lefts]
/-- the first part: what the peer has left is laid into a map -/
structure LeS (w wr : World) (mm : Nat) (L : List Un) (k : Nat) (a : List (ByteArray × (St × Sl))) : Prop where
  fo : FirstOf L k a
  map : MapOf wr mm (lefts a)
  blw : Below w.heap.size w wr
  lmm : w.heap.size ≤ mm
  len : a.length ≤ k
  sin : ∀ p ∈ a, SIn w p.2.1 p.2.2
theorem LeS.at_ {w wr : World} {mm k : Nat} {L : List Un} {a : List (ByteArray × (St × Sl))} (h : LeS w wr mm L k a) (tag : ByteArray) : SIn w (leftAt a tag).1 (leftAt a tag).2 := by
  by_cases ht : tag ∈ ltags a
  · exact h.sin _ (leftAt_mem ht)
  · rw [leftAt_none ht]
    exact zS_in w
theorem ucells_get (u : Un) (t : Sl) (j : Nat) (v : Value) (h : (scells u.st t)[j]? = some v) : (ucells u t)[1 + j]? = some v := by
  rw [Nat.add_comm]
  simpa [ucells] using h

set_option maxRecDepth 20000 in
set_option maxHeartbeats 1000000 in
theorem resume_any (w : World) (q m : Nat) (G : Nat → Prop) (l : Lk) (p : Option Addr) (n c : Nat) (L : List Un) (h : LkIn w q m G l) (hl : l.all.length ≤ 1000000) (hL : UsIn w p n c L) (hn : n ≤ 1000000) :
    Calls Try.prog 7 #[.pointer (some ⟨q, 0, none⟩), .slice p n c] w (ResTo w l L) := by
  have H := Lib.hid h
  have HL := Lib.hid (And.intro hL (And.intro hl hn))
  have hmm := @run_makeMap Try.prog
  have hml := h.lm
  have hp3 := hL.ptr
  have HLE := Lib.hid (And.intro hL.len hL.le)
  have hcap := hL.cap
  unfold maxLen at hcap
  obtain ⟨i0, hi, hzz0, hzz1, hzz2⟩ := info_parts3 info_res
  have hnc : n ≤ c := hL.le
  have HINIT := Lib.hid (show LeS w (w.alloc (.map #[] 0)) w.heap.size L 0 [] from ⟨FirstOf.nil L, MapOf.made w, (Below.refl _ _).alloc (Nat.le_refl _) _, Nat.le_refl _, Nat.le_refl _, fun p hp => by simp at hp⟩)
  clear h hl hL
  go_enter Try.func7, Try.ntmps7
  go_wp2_with fail
  generalize hmmE : w.heap.size = mm at HINIT ⊢
  clear hmm
  go_loopw [22] (fun v22 wr => ∃ (k : Nat) (a : List (ByteArray × (St × Sl))), k ≤ n ∧ v22 = .int .i64 k ∧ LeS w wr mm L k a) (fun v22 _ => n - (intOf v22).toNat)
  case atStart => exact ⟨0, [], Nat.zero_le _, rfl, HINIT.out⟩
  case round =>
    obtain ⟨k, a, hkn, rfl, hst⟩ := hrel
    have ST := Lib.hid hst
    clear hst
    by_cases hlt : (k : Int) < n
    · have HLT := Lib.hid (show k < n by omega)
      have ka : k < L.length := by rw [HLE.out.1]; omega
      obtain ⟨b1, o1, rfl⟩ := hp3 (by omega)
      obtain ⟨b, o, tk, e1, htk0, hik⟩ := HL.out.1.at_ ka
      simp only [Option.some.injEq, Addr.mk.injEq, and_true] at e1
      obtain ⟨rfl, rfl⟩ := e1
      have htk : wr.rangeAt b1 (o1 + k * 20) (ucells L[k] tk) := fun j u hu => bs_cellV ST.out.blw (htk0 j u hu)
      clear htk0
      obtain ⟨yk, hyk⟩ : ∃ yk, L[k]'ka = yk := ⟨_, rfl⟩
      have HYK := Lib.hid (show ∃ h : k < L.length, L[k] = yk from ⟨ka, hyk⟩)
      simp only [hyk] at htk hik
      obtain ⟨E, hE⟩ : ∃ E, (ucells yk tk).toArray = E := ⟨_, rfl⟩
      have HE := Lib.hid hE
      have HTK := Lib.hid (show wr.rangeAt b1 (o1 + k * 20) E.toList by rw [← hE]; exact htk)
      have hsz : E.size = 20 := by rw [← hE]; simp [ucells, scells_len]
      have HSZ := Lib.hid (show (Try.prog.info? 52).map (·.size) = some E.toList.length by rw [Array.length_toList, hsz]; kernel_rfl)
      have HSZ2 := Lib.hid (show (Try.prog.info? 52).map (·.size) = some E.size by rw [hsz]; kernel_rfl)
      have HOLD := Lib.hid (show (encU (⟨⟨#[]⟩, zS⟩, default)).toArray.size = E.size by rw [hsz]; simp [encU, ucells, scells_len])
      have HONE := Lib.hid (show E.all (·.oneCell') = true by rw [← hE]; exact all_oneCell_toArray (encU_one (p := (yk, tk)) hik.st))
      have HIK := Lib.hid hik
      clear ka hyk htk hik hE hsz
      go_upto_region 5 with (first
        | (refine wpList_load_midTo rfl 52 (.tmp 24) rfl (some 25) rfl b1 (o1 + k * 20) rfl E _ HTK.out Try.underlying52 rfl HSZ.out ?_)
        | (refine wpList_store_rowTo rfl 52 (.tmp 7) (.tmp 25) rfl rfl wr.heap.size E rfl rfl 52 (encU (⟨⟨#[]⟩, zS⟩, default)).toArray (_root_.Go.heap_alloc_new wr _) HSZ2.out HOLD.out HONE.out ?_))
      have hb1 : Below wr.heap.size wr ((wr.alloc (.cells (encU (⟨⟨#[]⟩, zS⟩, default)).toArray 52)).setRow wr.heap.size E) := below_setRow ((Below.refl _ _).alloc (Nat.le_refl _) _) (Nat.le_refl _) _
      have oz := setRow_heap (wr.alloc (.cells (encU (⟨⟨#[]⟩, zS⟩, default)).toArray 52)) wr.heap.size _ E _ _ (_root_.Go.heap_alloc_new wr _)
      change Code.wp _ _ _ _ ((wr.alloc (.cells (encU (⟨⟨#[]⟩, zS⟩, default)).toArray 52)).setRow wr.heap.size E)
      generalize ((wr.alloc (.cells (encU (⟨⟨#[]⟩, zS⟩, default)).toArray 52)).setRow wr.heap.size E) = w1 at *
      obtain ⟨z, hz⟩ : ∃ z, wr.heap.size = z := ⟨_, rfl⟩
      rw [hz] at oz ⊢
      rw [← HE.out] at oz
      have hm1 : MapOf w1 mm (lefts a) := ST.out.map.same (hb1.block mm ST.out.map.lt)
      have z0 : w1.cell? ⟨z, 0, none⟩ = some (.string yk.tag) := (cell_of_row _ _ 0 _ _ _ oz).trans rfl
      have hlook := left_look hm1 (tag := yk.tag) HIK.out.tag
      obtain ⟨B, hB⟩ : ∃ B, sarr (leftAt a yk.tag).1 (leftAt a yk.tag).2 = B := ⟨_, rfl⟩
      have hBo := sarr_one (ST.out.at_ yk.tag)
      have hBz : B.size = 19 := by rw [← hB]; rfl
      rw [hB] at hlook hBo
      have HBZ := Lib.hid (show (Try.prog.info? 33).map (·.size) = some B.size by rw [hBz]; exact size_state)
      have HBZ2 := Lib.hid (show (sarr zS default).size = B.size by rw [hBz]; rfl)
      have HBO := Lib.hid hBo
      obtain ⟨th, hth⟩ : ∃ th, decide (yk.tag ∈ ltags a) = th := ⟨_, rfl⟩
      rw [hth] at hlook
      have HTH := Lib.hid hth
      have HB1 := Lib.hid (And.intro hb1 (And.intro hz oz))
      have HM1 := Lib.hid hm1
      have HZT := Lib.hid (And.intro (ST.out.blw.trans (hb1.mono ST.out.blw.size)) ((Array.getElem?_eq_some_iff.1 oz).1))
      clear hb1 oz hz hm1 hB hBo hBz hth
      go_upto_region 6 with (refine wpList_store_rowTo rfl 33 (.tmp 8) (.tmp 31) rfl rfl w1.heap.size B rfl rfl 33 (sarr zS default) (_root_.Go.heap_alloc_new w1 _) HBZ.out HBZ2.out HBO.out ?_)
      have hb2 : Below w1.heap.size w1 ((w1.alloc (.cells (sarr zS default) 33)).setRow w1.heap.size B) := below_setRow ((Below.refl _ _).alloc (Nat.le_refl _) _) (Nat.le_refl _) _
      change Code.wp _ _ _ _ ((w1.alloc (.cells (sarr zS default) 33)).setRow w1.heap.size B)
      generalize ((w1.alloc (.cells (sarr zS default) 33)).setRow w1.heap.size B) = w2 at *
      have oz2 := (hb2.block z HZT.out.2).trans HB1.out.2.2
      have z0 : w2.cell? ⟨z, 0, none⟩ = some (.string yk.tag) := (cell_of_row _ _ 0 _ _ _ oz2).trans rfl
      have hm2 : MapOf w2 mm (lefts a) := HM1.out.same (hb2.block mm HM1.out.lt)
      have HR1 := Lib.hid (show w2.rangeAt z 1 (sarr yk.st tk).toList from fun j v hv => by
        rw [cell_of_row _ _ (1 + j) _ _ _ oz2]
        have := ucells_get yk tk j v hv
        simpa using this)
      have hbw2 : Below w.heap.size w w2 := HZT.out.1.trans (hb2.mono HZT.out.1.size)
      have HW2 := Lib.hid (And.intro hbw2 hm2)
      clear hb2 oz2 hm2 hbw2 hlook
      cases th
      · obtain ⟨hka, hky⟩ := HYK.out
        have HNI := Lib.hid (of_decide_eq_false HTH.out)
        obtain ⟨w3, hput, hm3, hg3⟩ := HW2.out.2.put Try.underlying72 HIK.out.tag (by rw [keys_lefts]; exact HNI.out) (by rw [lefts_len]; have := ST.out.len; have := HL.out.2.2; unfold maxLen; omega) (.agg (sarr yk.st tk))
        rw [← lefts_put] at hm3
        have hfo := ST.out.fo.push hka (by rw [hky]; exact HNI.out) tk
        rw [hky] at hfo
        have HS3 := Lib.hid (show LeS w w3 mm L (k + 1) (a ++ [(yk.tag, yk.st, tk)]) from ⟨hfo, hm3, HW2.out.1.grown hg3 HW2.out.1.size (fun j hj => by cases hj; exact ST.out.lmm), ST.out.lmm, by have := ST.out.len; simp; omega, fun p hp => by
          rcases List.mem_append.1 hp with hp | hp
          · exact ST.out.sin p hp
          · obtain rfl : p = (yk.tag, yk.st, tk) := by simpa using hp
            exact HIK.out.st⟩)
        have HPU := Lib.hid hput
        clear hput hm3 hg3 hfo hka hky
        go_wp2_with (first
          | (refine wpList_load_midTo rfl 33 (.tmp 38) rfl (some 39) rfl z 1 rfl (sarr yk.st tk) _ HR1.out Try.underlying33 rfl size_state ?_)
          | (at_mapUpdate; refine wpList_mapUpdate_to rfl 72 (.tmp 35) (.tmp 37) (.tmp 39) rfl rfl (.map (some mm)) (.string yk.tag) (.agg (sarr yk.st tk)) rfl rfl rfl w3 HPU.out ?_))
        go_roundw
        case rel => exact ⟨k + 1, _, by have := HLT.out; omega, by go_num, HS3.out⟩
        case measure => simp [intOf]; omega
      · obtain ⟨hka, hky⟩ := HYK.out
        have HS3 := Lib.hid (show LeS w w2 mm L (k + 1) a from ⟨ST.out.fo.skip hka (by rw [hky]; exact of_decide_eq_true HTH.out), HW2.out.2, HW2.out.1, ST.out.lmm, Nat.le_succ_of_le ST.out.len, ST.out.sin⟩)
        clear hka hky
        go_wp2_with fail
        go_roundw
        case rel => exact ⟨k + 1, _, by have := HLT.out; omega, by go_num, HS3.out⟩
        case measure => simp [intOf]; omega
    · have hkn2 : k = n := by omega
      subst hkn2
      have hlk := H.out.blw ST.out.blw
      obtain ⟨w0, hrange, hrg0, hg0, hz0⟩ := hlk.map.range Try.underlying74
      have c11 : wr.cell? ⟨q, 11, none⟩ = some (.map (some m)) := hlk.cs 11 _ rfl
      have HLK := Lib.hid hlk
      have hfo : FirstOf L L.length a := by rw [HLE.out.1]; exact ST.out.fo
      have HINIT2 := Lib.hid (show ReS w w0 m mm wr.heap.size m l a (ents l.all) (tagsL l.all) [] (.slice none 0 0) from
        ⟨by rw [← keys_ents]; exact hrg0, hrg0.map, ST.out.map.same (hg0.block mm ST.out.map.lt (by simp)), World.ownsRow_nil _ _ _ _, ST.out.blw.grown hg0 ST.out.blw.size (fun j hj => by cases hj), ST.out.blw.size, ST.out.lmm, by have := ST.out.map.lt; omega, by have := hlk.lm; omega, by simp [Value.ownBlock], by simp [Value.ownBlock], by simp [Value.ownBlock], .inl rfl, fun _ => rfl⟩)
      have HINITI := Lib.hid (show ReI (resF l a) (fun k => k ∈ tagsL l.all) (fun k => k ∈ tagsL l.all) [] from ⟨by simp, fun x hx => by simp at hx, fun k hk => .inr hk⟩)
      have HFO := Lib.hid hfo
      clear hrg0 hg0 hz0 hlk hfo
      go_wp2_with fail
      clear hrange c11
      generalize hrE : wr.heap.size = r at HINIT2 ⊢
      go_loopw [10] (fun v10 wx => ∃ (todo : List ByteArray) (rs : List (ByteArray × Int)), ReS w wx m mm r m l a (ents l.all) todo rs v10 ∧ ReI (resF l a) (fun k => k ∈ tagsL l.all) (fun k => k ∈ todo) rs ∧ rs.length + todo.length = l.all.length) (fun _ wx => wx.rangeLeft m r)
      case atStart => exact ⟨_, _, HINIT2.out, HINITI.out, by simp [tagsL]⟩
      case round =>
        obtain ⟨todo, rs, hst2, hri, hrl⟩ := hrel
        obtain ⟨vp, vc, hv, hvc1, hvc2, hv3⟩ := ownsRow_form hst2.row
        subst hv
        have S2 := Lib.hid hst2
        have RI := Lib.hid (And.intro hri hrl)
        rcases hst2.rng.nextLt 0 with ⟨hnil, hrun⟩ | ⟨kk, vv, w1, hkt, hkv, hrun, hrg, hg, hz, hen, hltm⟩
        · subst hnil
          obtain ⟨w0b, hrange, hrg0, hg0, hz0⟩ := hst2.le.range Try.underlying72
          have hall : ∀ b, b < wr.heap.size → w0b.heap[b]? = wr.heap[b]? := fun b hb => hg0.block b hb (by simp)
          have HINIT3 := Lib.hid (show ReS w w0b m mm wr.heap.size mm l a (lefts a) (ltags a) rs (.slice vp rs.length vc) from
            ⟨by rw [← keys_lefts]; exact hrg0, hst2.la.same (hall _ hst2.la.lt), hrg0.map, ownsRow_keep hst2.row (fun j hj => hall _ (hst2.row.lt j hj).2), hst2.blw.grown hg0 hst2.blw.size (fun j hj => by cases hj), hst2.blw.size, hst2.lmm, Nat.ne_of_lt hst2.le.lt, Nat.ne_of_lt hst2.la.lt, fun q => by have := (hst2.row.lt _ q).2; omega, hst2.offm, hst2.offa, .inr rfl, hst2.nil⟩)
          have HINITJ := Lib.hid (show ReI (resF l a) (fun k => k ∈ tagsL l.all ∨ k ∈ ltags a) (fun k => k ∉ tagsL l.all ∧ k ∈ ltags a) rs from
            hri.turn (fun k h => .inl h) (fun k h q => absurd h q.1) (fun k h => by
              by_cases hk : k ∈ tagsL l.all
              · exact .inl ⟨hk, fun q => by simp at q⟩
              · exact .inr ⟨hk, h.resolve_left hk⟩))
          have hal : a.length ≤ L.length := by rw [HLE.out.1]; exact ST.out.len
          have HAL := Lib.hid hal
          have HLT2 := Lib.hid (show rs.length + (ltags a).length ≤ l.all.length + L.length by simp [ltags] at hrl ⊢; omega)
          clear hrg0 hg0 hz0 hall hst2 hri hrl hal
          go_wp2_with fail
          clear hrange hrun
          generalize hrE3 : wr.heap.size = r3 at HINIT3 ⊢
          go_loopw [10] (fun v10 wx => ∃ (todo : List ByteArray) (rs : List (ByteArray × Int)), ReS w wx m mm r3 mm l a (lefts a) todo rs v10 ∧ ReI (resF l a) (fun k => k ∈ tagsL l.all ∨ k ∈ ltags a) (fun k => k ∉ tagsL l.all ∧ k ∈ todo) rs ∧ rs.length + todo.length ≤ l.all.length + L.length) (fun _ wx => wx.rangeLeft mm r3)
          case atStart => exact ⟨_, _, HINIT3.out, HINITJ.out, HLT2.out⟩
          case round =>
            obtain ⟨todo, rs, hst3, hri3, hrl3⟩ := hrel
            obtain ⟨vp, vc, hv, hvc1, hvc2, hv3⟩ := ownsRow_form hst3.row
            subst hv
            have S3 := Lib.hid hst3
            have RI3 := Lib.hid (And.intro hri3 hrl3)
            rcases hst3.rng.nextLt 0 with ⟨hnil, hrun⟩ | ⟨kk, vv, w1, hkt, hkv, hrun, hrg, hg, hz, hen, hltm⟩
            · subst hnil
              have hfin : ReI (resF l a) (fun k => k ∈ tagsL l.all ∨ k ∈ ltags a) (fun _ => False) rs := hri3.turn (fun k h => h) (fun k h q => q.elim) (fun k h => .inl ⟨h, fun q => by simp at q⟩)
              have HFIN := Lib.hid (And.intro hfin (show rs.length ≤ l.all.length + L.length by simp at hrl3; omega))
              clear hst3 hri3 hrl3 hfin
              by_cases h0 : rs = []
              · have hv := S3.out.nil h0
                rw [hv]
                have HS := Lib.hid (AnyF.slices_SortFunc_none Try.sortR none 0 (.func (.func 26) #[] #[]) wr)
                subst h0
                go_wp2_with fail
                refine HS.out.mono ?_
                rintro e w2 ⟨rfl, rfl⟩
                go_wp2_with fail
                go_ret
                exact ⟨_, [], a, rfl, ⟨none, 0, rfl, Nat.le_refl _, Nat.zero_le _, fun q => by simp at q⟩, HFO.out, HFIN.out.1, (fun i j hi => by simp at hi : SortT _), Nat.zero_le _, S3.out.blw⟩
              · have hpos : 0 < rs.length := List.length_pos_iff.2 h0
                obtain ⟨g, rfl, hg1, hg2⟩ := hv3 hpos
                have HS := Lib.hid (sortR_any S3.out.row (by have := HFIN.out.2; have := HL.out.2; have := HLE.out.1; omega))
                clear h0
                go_wp2_with fail
                refine HS.out.mono ?_
                rintro e w2 ⟨rfl, l', hp, hs, hrr, hgr⟩
                have HR := Lib.hid (And.intro hp (And.intro hs (And.intro hrr hgr)))
                clear hp hs hrr hgr
                have hpl : l'.length = rs.length := HR.out.1.length_eq
                have hri' : ReI (resF l a) (fun k => k ∈ tagsL l.all ∨ k ∈ ltags a) (fun _ => False) l' := ⟨(HR.out.1.map Prod.fst).nodup_iff.2 HFIN.out.1.nd, fun x hx => HFIN.out.1.el x (HR.out.1.mem_iff.1 hx), fun k hk => (HFIN.out.1.all k hk).imp (fun q => (HR.out.1.map Prod.fst).mem_iff.2 q) id⟩
                have HRI' := Lib.hid hri'
                clear hri'
                go_wp2_with fail
                go_ret
                have hsz : w.heap.size ≤ wr.heap.size := S3.out.blw.size
                exact ⟨_, l', a, rfl, ⟨some ⟨g, 0, none⟩, vc, by rw [hpl]; rfl, by rw [hpl]; exact hvc1, hvc2, fun _ => ⟨g, rfl, HR.out.2.2.1⟩⟩, HFO.out, HRI'.out, HR.out.2.1, by rw [hpl]; exact HFIN.out.2, S3.out.blw.grown HR.out.2.2.2 hsz (fun j hj => by cases hj; exact hg1)⟩
            · obtain ⟨xx, hxm, rfl⟩ := mem_lefts hkv
              have hkl : kk ∈ ltags a := List.mem_map.2 ⟨_, hxm, rfl⟩
              have hpn : rs.length < l.all.length + L.length := by
                have : 0 < todo.length := List.length_pos_of_mem hkt
                omega
              have hks : kk.size ≤ maxLen := hst3.le.key (by rw [keys_lefts]; exact hkl)
              have hs1 := hst3.skip hrg hg hz (Below.refl _ _)
              have hl1 := H.out.blw hs1.blw
              have hlook := hl1.look hks
              unfold Ent.val at hlook
              obtain ⟨t1, t2, t3⟩ := hl1.at_ kk
              have ho1 := ent_one t1.sin t2.sin
              obtain ⟨E, hE⟩ : ∃ E, sarr (entAt l.all kk).own (entAt l.all kk).o ++ sarr (entAt l.all kk).peer (entAt l.all kk).p = E := ⟨_, rfl⟩
              have hsz : E.size = 38 := by rw [← hE]; exact eval_size _
              rw [hE] at hlook ho1
              have HSZ := Lib.hid (show (Try.prog.info? 78).map (·.size) = some E.size by rw [hsz]; exact size_said)
              have HSZ2 := Lib.hid (show (sarr zS default ++ sarr zS default).size = E.size by rw [hsz]; rfl)
              have HO := Lib.hid ho1
              obtain ⟨th, hth⟩ : ∃ th, decide (kk ∈ tagsL l.all) = th := ⟨_, rfl⟩
              rw [hth] at hlook
              have HTH := Lib.hid hth
              have c11 : w1.cell? ⟨q, 11, none⟩ = some (.map (some m)) := hl1.cs 11 _ rfl
              obtain ⟨B, hB⟩ : ∃ B, sarr xx.1 xx.2 = B := ⟨_, rfl⟩
              rw [hB] at hrun hen
              have HNX := Lib.hid (And.intro hkt (And.intro hkl (And.intro hrg (And.intro hg (And.intro hz (And.intro hltm hpn))))))
              have HKS := Lib.hid hks
              clear hst3 hri3 hrl3 hE hsz hkt hkv hrg hg hz hltm hpn hks hs1 hl1 t1 t2 t3 ho1 hth hB hxm hkl
              go_upto_region 19 with (refine wpList_store_rowTo rfl 78 (.tmp 16) (.tmp 80) rfl rfl w1.heap.size E rfl rfl 78 (sarr zS default ++ sarr zS default) (_root_.Go.heap_alloc_new w1 _) HSZ.out HSZ2.out HO.out ?_)
              have hb2 : Below w1.heap.size w1 ((w1.alloc (.cells (sarr zS default ++ sarr zS default) 78)).setRow w1.heap.size E) := below_setRow ((Below.refl _ _).alloc (Nat.le_refl _) _) (Nat.le_refl _) _
              change Code.wp _ _ _ _ ((w1.alloc (.cells (sarr zS default ++ sarr zS default) 78)).setRow w1.heap.size E)
              generalize ((w1.alloc (.cells (sarr zS default ++ sarr zS default) 78)).setRow w1.heap.size E) = w2 at *
              have hs2 := S3.out.skip HNX.out.2.2.1 HNX.out.2.2.2.1 HNX.out.2.2.2.2.1 hb2
              have hl2 := H.out.blw hs2.blw
              have c1 : w2.cell? ⟨q, 1, none⟩ = some (.bool l.rc) := hl2.cs 1 _ rfl
              have HS2 := Lib.hid hs2
              have HB2 := Lib.hid hb2
              have hme2 : w2.rangeLeft mm r3 < wr.rangeLeft mm r3 := by
                have q1 := HNX.out.2.2.2.2.1
                have q3 := S3.out.le.lt
                have q4 := S3.out.rng.lt
                have : w2.rangeLeft mm r3 = w1.rangeLeft mm r3 := rangeLeft_same (hb2.block mm (by omega)) (hb2.block r3 (by omega))
                rw [this]
                exact HNX.out.2.2.2.2.2.1
              have HM2 := Lib.hid hme2
              clear hs2 hl2 hb2 hme2 hlook c11 hrun hen
              cases th
              · have HNI := Lib.hid (of_decide_eq_false HTH.out)
                obtain ⟨rc, hrc⟩ : ∃ rc, l.rc = rc := ⟨_, rfl⟩
                rw [hrc] at c1
                have hfx : (if rc = true then 4 else 2) = resF l a kk := by
                  unfold resF
                  rw [if_neg HNI.out, hrc]
                obtain ⟨X, hX⟩ : ∃ X, resF l a kk = X := ⟨_, rfl⟩
                have HXX := Lib.hid hX
                rw [hX] at hfx
                have HFX := Lib.hid hfx
                have HROW := Lib.hid (ownsRow_keep HS2.out.row (w' := w2.alloc (.cells (rcells (kk, X)).toArray 46)) (fun j hj => Below.heap_alloc _ _ _ (HS2.out.row.lt j hj).2))
                have HNW := Lib.hid (show ∀ j u, (rcells (kk, X))[j]? = some u → (w2.alloc (.cells (rcells (kk, X)).toArray 46)).cell? ((⟨w2.heap.size, 0, none⟩ : Addr).add j) = some u from fun j u hj => cell_of_newrow hj)
                have HONE := Lib.hid (show ∀ u ∈ rcells (kk, X), u.oneCell' = true from fun v hv => by simp only [rcells, List.mem_cons, List.not_mem_nil, or_false] at hv; rcases hv with rfl | rfl <;> rfl)
                have HBA := Lib.hid (HB2.out.trans (((Below.refl w2.heap.size w2).alloc (Nat.le_refl _) (.cells (rcells (kk, X)).toArray 46)).mono HB2.out.size))
                clear hfx hX
                have TAIL : ∀ v' w9, App1 (w2.alloc (.cells (rcells (kk, X)).toArray 46)) w9 w.heap.size 46 2 rs.length (.slice vp rs.length vc) v' (flat rcells rs ++ rcells (kk, X)) →
                    (∃ (todo : List ByteArray) (rs : List (ByteArray × Int)), ReS w w9 m mm r3 mm l a (lefts a) todo rs v' ∧ ReI (resF l a) (fun k => k ∈ tagsL l.all ∨ k ∈ ltags a) (fun k => k ∉ tagsL l.all ∧ k ∈ todo) rs ∧ rs.length + todo.length ≤ l.all.length + L.length) ∧ w9.rangeLeft mm r3 < wr.rangeLeft mm r3 := fun v' w9 hA => by
                  have q1 := HNX.out.2.2.2.2.1
                  have q2 := HBA.out.size
                  have q3 := S3.out.le.lt
                  have q4 := S3.out.rng.lt
                  refine ⟨⟨todo.erase kk, rs ++ [(kk, X)], S3.out.push HNX.out.2.2.1 HNX.out.2.2.2.1 HNX.out.2.2.2.2.1 HBA.out hA, (by rw [← HXX.out]; exact RI3.out.1.push (.inr HNX.out.2.1) ⟨HNI.out, HNX.out.1⟩ (fun j => by rw [S3.out.rng.nd.mem_erase_iff]; constructor <;> intro q <;> simp_all)), by have := RI3.out.2; have := List.length_erase_of_mem HNX.out.1; have : 0 < todo.length := List.length_pos_of_mem HNX.out.1; simp; omega⟩, ?_⟩
                  have hl1 : w9.rangeLeft mm r3 = w1.rangeLeft mm r3 := by
                    refine rangeLeft_same ?_ ?_
                    · exact (hA.grown.block mm (by omega) (fun e => S3.out.offm e.symm)).trans (HBA.out.block mm (by omega))
                    · exact (hA.grown.block r3 (by omega) (fun e => S3.out.offr e.symm)).trans (HBA.out.block r3 (by omega))
                  rw [hl1]
                  exact HNX.out.2.2.2.2.2.1
                have HT := Lib.hid TAIL
                clear TAIL
                cases rc
                · have e2 : X = 2 := HFX.out.symm
                  subst e2
                  go_wp2_with (first
                    | (at_builtin; refine wpList_append_twoN _ rfl (some 93) rfl (.tmp 88) (.tmp 92) 43 rfl w.heap.size 46 i0 _ 2 24 Try.underlying43 hi hzz0 hzz1 hzz2 rfl _ _ _ rfl HROW.out ⟨w2.heap.size, 0, none⟩ 1 (rcells (kk, 2)) rfl rfl HNW.out HONE.out (by have := HNX.out.2.2.2.2.2.2; have := HL.out.2; have := HLE.out.1; unfold maxLen; omega) (by have := HNX.out.2.2.2.2.2.2; have := HL.out.2; have := HLE.out.1; omega) ?_; intro v' w9 hA)
                    | (refine wpList_buildTo rfl 46 _ rfl (some 91) rfl (rcells (kk, 2)).toArray (by kernel_rfl) ?_)
                    | (refine wpList_buildR rfl (some 92) rfl (.tmp 91) rfl (kk, 2) rfl ?_))
                  have HTA := Lib.hid (HT.out v' w9 hA)
                  clear hA
                  go_roundw
                  case rel => exact HTA.out.1
                  case measure => exact HTA.out.2
                · have e2 : X = 4 := HFX.out.symm
                  subst e2
                  go_wp2_with (first
                    | (at_builtin; refine wpList_append_twoN _ rfl (some 93) rfl (.tmp 88) (.tmp 92) 43 rfl w.heap.size 46 i0 _ 2 24 Try.underlying43 hi hzz0 hzz1 hzz2 rfl _ _ _ rfl HROW.out ⟨w2.heap.size, 0, none⟩ 1 (rcells (kk, 4)) rfl rfl HNW.out HONE.out (by have := HNX.out.2.2.2.2.2.2; have := HL.out.2; have := HLE.out.1; unfold maxLen; omega) (by have := HNX.out.2.2.2.2.2.2; have := HL.out.2; have := HLE.out.1; omega) ?_; intro v' w9 hA)
                    | (refine wpList_buildTo rfl 46 _ rfl (some 91) rfl (rcells (kk, 4)).toArray (by kernel_rfl) ?_)
                    | (refine wpList_buildR rfl (some 92) rfl (.tmp 91) rfl (kk, 4) rfl ?_))
                  have HTA := Lib.hid (HT.out v' w9 hA)
                  clear hA
                  go_roundw
                  case rel => exact HTA.out.1
                  case measure => exact HTA.out.2
              · go_wp2_with fail
                go_roundw
                case rel => exact ⟨todo.erase kk, rs, HS2.out, RI3.out.1.turn (fun k h => h) (fun k _ q => ⟨q.1, List.mem_of_mem_erase q.2⟩) (fun k h => .inl ⟨h, fun q => ⟨q.1, (S3.out.rng.nd.mem_erase_iff).2 ⟨fun e => q.1 (by rw [e]; exact of_decide_eq_true HTH.out), q.2⟩⟩⟩), by have := RI3.out.2; have := List.length_erase_of_mem HNX.out.1; omega⟩
                case measure => exact HM2.out
        · obtain ⟨en, hem, rfl⟩ := mem_ents hkv
          have hpn : rs.length < l.all.length := by
            have : 0 < todo.length := List.length_pos_of_mem hkt
            omega
          have hG := H.out.sts _ hem
          have hok := H.out.ok.ent _ hem
          have hks : kk.size ≤ maxLen := H.out.map.key (by rw [keys_ents]; exact mem_tags hem)
          have hee : entAt l.all kk = en := ent_unique H.out.nd (entAt_mem (mem_tags hem)) hem
          have HEN := Lib.hid (And.intro hG (And.intro hok hee))
          unfold Ent.val at hrun hen
          obtain ⟨E, hE⟩ : ∃ E, sarr en.own en.o ++ sarr en.peer en.p = E := ⟨_, rfl⟩
          have HE := Lib.hid hE
          rw [hE] at hrun hen
          have hsz : E.size = 38 := by rw [← hE]; exact eval_size _
          have HSZ := Lib.hid (show (Try.prog.info? 78).map (·.size) = some E.size by rw [hsz]; exact size_said)
          have HSZ3 := Lib.hid (show (Try.prog.info? 78).map (·.size) = some E.toList.length by rw [Array.length_toList, hsz]; exact size_said)
          have HSZ2 := Lib.hid (show (sarr zS default ++ sarr zS default).size = E.size by rw [hsz]; rfl)
          have HO := Lib.hid (show E.all (·.oneCell') = true by rw [← hE]; exact ent_one hG.1.sin hG.2.sin)
          have HNX := Lib.hid (And.intro hkt (And.intro hem (And.intro hrg (And.intro hg (And.intro hz (And.intro hltm hpn))))))
          have HKS := Lib.hid hks
          clear hst2 hri hrl hE hsz hG hok hkt hkv hem hrg hg hz hltm hpn hks hee
          go_upto_region 13 with (refine wpList_store_rowTo rfl 78 (.tmp 12) (.tmp 50) rfl rfl w1.heap.size E rfl rfl 78 (sarr zS default ++ sarr zS default) (_root_.Go.heap_alloc_new w1 _) HSZ.out HSZ2.out HO.out ?_)
          have hb2 : Below w1.heap.size w1 ((w1.alloc (.cells (sarr zS default ++ sarr zS default) 78)).setRow w1.heap.size E) := below_setRow ((Below.refl _ _).alloc (Nat.le_refl _) _) (Nat.le_refl _) _
          have oz := setRow_heap (w1.alloc (.cells (sarr zS default ++ sarr zS default) 78)) w1.heap.size _ E _ _ (_root_.Go.heap_alloc_new w1 _)
          change Code.wp _ _ _ _ ((w1.alloc (.cells (sarr zS default ++ sarr zS default) 78)).setRow w1.heap.size E)
          generalize ((w1.alloc (.cells (sarr zS default ++ sarr zS default) 78)).setRow w1.heap.size E) = w2 at *
          obtain ⟨z, hz⟩ : ∃ z, w1.heap.size = z := ⟨_, rfl⟩
          rw [hz] at oz ⊢
          have hs2 := S2.out.skip HNX.out.2.2.1 HNX.out.2.2.2.1 HNX.out.2.2.2.2.1 hb2
          have hlook := left_look hs2.le (tag := kk) HKS.out
          obtain ⟨B, hB⟩ : ∃ B, sarr (leftAt a kk).1 (leftAt a kk).2 = B := ⟨_, rfl⟩
          have hBo := sarr_one (ST.out.at_ kk)
          have hBz : B.size = 19 := by rw [← hB]; rfl
          have HB := Lib.hid hB
          rw [hB] at hlook hBo
          have HBZ := Lib.hid (show (Try.prog.info? 33).map (·.size) = some B.size by rw [hBz]; exact size_state)
          have HBZ3 := Lib.hid (show (Try.prog.info? 33).map (·.size) = some B.toList.length by rw [Array.length_toList, hBz]; exact size_state)
          have HBZ2 := Lib.hid (show (sarr zS default).size = B.size by rw [hBz]; rfl)
          have HBO := Lib.hid hBo
          obtain ⟨th, hth⟩ : ∃ th, decide (kk ∈ ltags a) = th := ⟨_, rfl⟩
          rw [hth] at hlook
          have HTH := Lib.hid hth
          have HB2 := Lib.hid (And.intro hb2 (And.intro hz (And.intro oz (Array.getElem?_eq_some_iff.1 oz).1)))
          clear hb2 oz hz hs2 hB hBo hBz hth hrun hen
          go_upto_region 14 with (refine wpList_store_rowTo rfl 33 (.tmp 13) (.tmp 55) rfl rfl w2.heap.size B rfl rfl 33 (sarr zS default) (_root_.Go.heap_alloc_new w2 _) HBZ.out HBZ2.out HBO.out ?_)
          have hb3 : Below w2.heap.size w2 ((w2.alloc (.cells (sarr zS default) 33)).setRow w2.heap.size B) := below_setRow ((Below.refl _ _).alloc (Nat.le_refl _) _) (Nat.le_refl _) _
          have oy := setRow_heap (w2.alloc (.cells (sarr zS default) 33)) w2.heap.size _ B _ _ (_root_.Go.heap_alloc_new w2 _)
          change Code.wp _ _ _ _ ((w2.alloc (.cells (sarr zS default) 33)).setRow w2.heap.size B)
          generalize ((w2.alloc (.cells (sarr zS default) 33)).setRow w2.heap.size B) = w3 at *
          obtain ⟨y, hy⟩ : ∃ y, w2.heap.size = y := ⟨_, rfl⟩
          rw [hy] at oy ⊢
          have HRZ := Lib.hid (range_of_row ((hb3.block z HB2.out.2.2.2).trans HB2.out.2.2.1))
          have HRY := Lib.hid (range_of_row oy)
          have hb13 : Below w1.heap.size w1 w3 := HB2.out.1.trans (hb3.mono HB2.out.1.size)
          have hs3 := S2.out.skip HNX.out.2.2.1 HNX.out.2.2.2.1 HNX.out.2.2.2.2.1 hb13
          have hbec := becomes_any w3 q m G l en.own en.peer (leftAt a kk).1 en.o en.p (leftAt a kk).2 th (H.out.blw hs3.blw)
          rw [HE.out, HB.out] at hbec
          have HBEC := Lib.hid hbec
          have HB3 := Lib.hid hb13
          clear hb3 oy hy hb13 hs3 hbec hlook
          go_wp2_with (first
            | (refine wpList_load_midTo rfl 78 (.tmp 12) rfl (some 60) rfl z 0 rfl E _ HRZ.out Try.underlying78 rfl HSZ3.out ?_)
            | (refine wpList_load_midTo rfl 33 (.tmp 13) rfl (some 61) rfl y 0 rfl B _ HRY.out Try.underlying33 rfl HBZ3.out ?_))
          refine HBEC.out.mono ?_
          rintro e w4 ⟨rfl, hb4⟩
          have hfx : becS l.rc th en.peer.kind (leftAt a kk).1.kind = resF l a kk := by
            unfold resF
            rw [if_pos (mem_tags HNX.out.2.1), HEN.out.2.2, HTH.out]
          rw [hfx]
          have hb14 : Below w1.heap.size w1 w4 := HB3.out.trans (hb4.mono HB3.out.size)
          have hs4 := S2.out.skip HNX.out.2.2.1 HNX.out.2.2.2.1 HNX.out.2.2.2.2.1 hb14
          have HROW := Lib.hid (ownsRow_keep hs4.row (w' := w4.alloc (.cells (rcells (kk, resF l a kk)).toArray 46)) (fun j hj => Below.heap_alloc _ _ _ (hs4.row.lt j hj).2))
          have HNW := Lib.hid (show ∀ j u, (rcells (kk, resF l a kk))[j]? = some u → (w4.alloc (.cells (rcells (kk, resF l a kk)).toArray 46)).cell? ((⟨w4.heap.size, 0, none⟩ : Addr).add j) = some u from fun j u hj => cell_of_newrow hj)
          have HONE := Lib.hid (show ∀ u ∈ rcells (kk, resF l a kk), u.oneCell' = true from fun v hv => by simp only [rcells, List.mem_cons, List.not_mem_nil, or_false] at hv; rcases hv with rfl | rfl <;> rfl)
          have HBA := Lib.hid (hb14.trans (((Below.refl w4.heap.size w4).alloc (Nat.le_refl _) (.cells (rcells (kk, resF l a kk)).toArray 46)).mono hb14.size))
          clear hb4 hfx hb14 hs4
          go_wp2_with (first
            | (at_builtin; refine wpList_append_twoN _ rfl (some 66) rfl (.tmp 57) (.tmp 65) 43 rfl w.heap.size 46 i0 _ 2 24 Try.underlying43 hi hzz0 hzz1 hzz2 rfl _ _ _ rfl HROW.out ⟨w4.heap.size, 0, none⟩ 1 (rcells (kk, resF l a kk)) rfl rfl HNW.out HONE.out (by have := HNX.out.2.2.2.2.2.2; have := HL.out.2.1; unfold maxLen; omega) (by have := HNX.out.2.2.2.2.2.2; have := HL.out.2.1; omega) ?_; intro v' w9 hA)
            | (refine wpList_buildTo rfl 46 _ rfl (some 64) rfl (rcells (kk, resF l a kk)).toArray (by kernel_rfl) ?_)
            | (refine wpList_buildR rfl (some 65) rfl (.tmp 64) rfl (kk, resF l a kk) rfl ?_))
          have HPU := Lib.hid (S2.out.push HNX.out.2.2.1 HNX.out.2.2.2.1 HNX.out.2.2.2.2.1 HBA.out hA)
          have HPI := Lib.hid (RI.out.1.push (mem_tags HNX.out.2.1) HNX.out.1 (T' := fun j => j ∈ todo.erase kk) (fun j => by rw [S2.out.rng.nd.mem_erase_iff]; exact And.comm))
          have HME := Lib.hid (show w9.rangeLeft m r < wr.rangeLeft m r by
            have hl1 : w9.rangeLeft m r = w1.rangeLeft m r := by
              have q1 := HNX.out.2.2.2.2.1
              have q2 := HBA.out.size
              have q3 := S2.out.la.lt
              have q4 := S2.out.rng.lt
              refine rangeLeft_same ?_ ?_
              · exact (hA.grown.block m (by omega) (fun e => S2.out.offa e.symm)).trans (HBA.out.block m (by omega))
              · exact (hA.grown.block r (by omega) (fun e => S2.out.offr e.symm)).trans (HBA.out.block r (by omega))
            rw [hl1]
            exact HNX.out.2.2.2.2.2.1)
          clear hA
          go_roundw
          case rel => exact ⟨_, _, HPU.out, HPI.out, by have := RI.out.2; have := List.length_erase_of_mem HNX.out.1; have : 0 < todo.length := List.length_pos_of_mem HNX.out.1; simp; omega⟩
          case measure => exact HME.out
end Go.Proofs.Ytcbjfakkikjbkaa
