/-
  The statements' book of lists that came out: stands. Conditions: the book lies in memory; each of its lists lies in a block of its own.
-/
import Derived.Test.YtbkimebmoafbnaaGbQ
namespace Go.Proofs.Ytbkimebmoafbnaa
open Go.RowKit Go.Maps
set_option linter.unusedVariables false

def mkP (i : Nat) : List Value := [.int .i64 (-1000 - i), .int .i64 0, .string ⟨#[]⟩]
theorem mkP_len (i : Nat) : (mkP i).length = 3 := rfl
theorem pnd_ne : (59 : Nat) ≠ 56 := by decide

theorem BkH.only {w w' : World} {B bp : Nat} {N : Int} {vl vw : Value} {vs us ks : List Value} (h : BkH w B bp N vl vw vs us) (hv : ∀ v ∈ ks, ∃ (B' n : Nat) (xs : List Value), w.ownsRow B' 59 3 v n xs) (ho : OnlyG ks w w') : BkH w' B bp N vl vw vs us := by
  refine ⟨?_, ?_, ?_, h.dvw, Nat.le_trans h.le ho.size, h.lt⟩
  · rw [ho.block bp (Array.getElem?_eq_some_iff.1 h.at_).1 (fun v hv' => by obtain ⟨B', n, xs, hr⟩ := hv v hv'; exact ownsRow_off hr h.at_ (by decide))]
    exact h.at_
  · exact ho.keep h.row (fun v hv' => by
      obtain ⟨B', n, xs, hr⟩ := hv v hv'
      rcases ownsRow_apart hr h.row pnd_ne with q | q
      · exact .inl q
      · exact .inr (fun e => q e.symm))
  · exact ho.keep h.roww (fun v hv' => by
      obtain ⟨B', n, xs, hr⟩ := hv v hv'
      rcases ownsRow_apart hr h.roww pnd_ne with q | q
      · exact .inl q
      · exact .inr (fun e => q e.symm))

set_option maxRecDepth 20000 in
set_option maxHeartbeats 8000000 in
theorem stands_any (w : World) (B bp : Nat) (N : Int) (vl vw : Value) (vs us : List Value) (Ls : List (List Pnd)) (h : BkIn w B bp N vl vw vs us Ls) (hlen : vs.length ≤ 2000000) :
    Calls Try.prog 29 #[.pointer (some ⟨bp, 0, none⟩)] w fun e w' => e = .returned (.bool true) ∧ OnlyG vs w w' := by
  obtain ⟨nn, hnn⟩ : ∃ nn : Nat → Nat, nn = fun j => (Ls.getD j []).length := ⟨_, rfl⟩
  have hnl : ∀ j, j < vs.length → nn j ≤ 1073741824 := fun j hj => by subst hnn; exact (h.has j (by rw [← h.lenv]; exact hj)).2.2
  have hlt : ∀ j, j < vs.length → ∀ g, (vs.getD j default).ownBlock = some g → g < w.heap.size := fun j hj g hg => ((h.has j (by rw [← h.lenv]; exact hj)).1.lt g hg).2
  have hf0 : FillG 59 3 mkP w B vs nn 0 0 := fun j hj => by
    subst hnn
    exact ⟨_, (h.has j (by rw [← h.lenv]; exact hj)).1, fun m c _ _ hc => by omega⟩
  have hkeep : ∀ v ∈ vs, ∃ (B' n : Nat) (xs : List Value), w.ownsRow B' 59 3 v n xs := fun v hv => by
    obtain ⟨j, hj, rfl⟩ := mem_getD default hv
    exact ⟨_, _, _, (h.has j (by rw [← h.lenv]; exact hj)).1⟩
  have hbook : ∀ wr, OnlyG vs w wr → BkH wr B bp N vl vw vs us := fun wr ho => h.h.only hkeep ho
  have hrd : ∀ wr, Below w.heap.size w wr → ∀ j, j < vs.length → ∃ p c p' c', vs.getD j default = .slice p (nn j) c ∧ us.getD j default = .slice p' (nn j) c' ∧ PndRd wr p c (Ls.getD j []) ∧ PndRd wr p' c' (Ls.getD j []) := fun wr hb j hj => by
    subst hnn
    obtain ⟨h1, h2, _⟩ := (h.below hb).has j (by rw [← h.lenv]; exact hj)
    obtain ⟨p, c, e1, r1, _⟩ := PndRd.of_row h1
    obtain ⟨p', c', e2, r2, _⟩ := PndRd.of_row h2
    exact ⟨p, c, p', c', e1, e2, r1, r2⟩
  have hNL : ∀ j, (Ls.getD j []).length = nn j := fun j => by subst hnn; rfl
  obtain ⟨n, hn⟩ : ∃ n, vs.length = n := ⟨_, rfl⟩
  have hun : us.length = n := by rw [← hn]; exact h.lenu.trans h.lenv.symm
  obtain ⟨pl, cl, hvl, i1, i2, i3⟩ := ownsRow_form h.row
  obtain ⟨pw, cw, hvw, j1, j2, j3⟩ := ownsRow_form h.roww
  unfold maxLen at i2 j2
  rw [hn] at hvl i1 i3 hlen
  rw [hun] at hvw j1 j3
  have hcw : ∀ wr, OnlyG vs w wr → wr.cell? ⟨bp, 1, none⟩ = some (.slice pl n cl) ∧ wr.cell? ⟨bp, 2, none⟩ = some (.slice pw n cw) ∧ (∀ g, pl = some ⟨g, 0, none⟩ → ∀ j, j < n → wr.cell? ⟨g, j, none⟩ = some (vs.getD j default)) ∧ (∀ g, pw = some ⟨g, 0, none⟩ → ∀ j, j < n → wr.cell? ⟨g, j, none⟩ = some (us.getD j default)) := fun wr ho => by
    have hb := hbook wr ho
    refine ⟨by rw [← hvl]; exact hb.cs.2.1, by rw [← hvw]; exact hb.cs.2.2, fun g hg j hj => ?_, fun g hg j hj => ?_⟩
    · have hr := hb.row
      rw [hvl, hg, hn] at hr
      refine ownsRow_cell hr ?_
      rw [List.getD_eq_getElem?_getD, List.getElem?_eq_getElem (by rw [hn]; exact hj)]
      rfl
    · have hr := hb.roww
      rw [hvw, hg, hun] at hr
      refine ownsRow_cell hr ?_
      rw [List.getD_eq_getElem?_getD, List.getElem?_eq_getElem (by rw [hun]; exact hj)]
      rfl
  have hdist := h.dist
  have hBw := h.le
  have hvm : ∀ j, j < n → vs.getD j default ∈ vs := fun j hj => getD_mem (by rw [hn]; exact hj)
  have HC := Lib.hid hcw
  have HR := Lib.hid hrd
  have HF := Lib.hid hf0
  have HLT := Lib.hid hlt
  have HN := Lib.hid (And.intro hn (And.intro hNL hnl))
  have HVM := Lib.hid hvm
  obtain ⟨k0, hi, hz0, hz1, hz2⟩ := info_parts info_pend
  have hs3 : (Try.prog.info? 59).map (·.size) = some 3 := by kernel_rfl
  have HS3 := Lib.hid hs3
  clear h hnn hnl hlt hf0 hkeep hbook hrd hn hun hvl hvw hcw hNL hvm hs3
  go_enter Try.func29, Try.ntmps29
  go_wp2_with fail
  go_loopw [3] (fun v3 wr => ∃ k : Nat, k ≤ n ∧ v3 = .int .i64 k ∧ Below w.heap.size w wr) (fun v3 _ => n - (intOf v3).toNat)
  case atStart => exact ⟨0, Nat.zero_le _, rfl, Below.refl _ _⟩
  case round =>
    obtain ⟨k, hk, rfl, hb⟩ := hrel
    have hon : OnlyG vs w wr := (OnlyG.refl _ _).then_ hb
    obtain ⟨c1, c2, c3, c4⟩ := HC.out wr hon
    by_cases hkn : (k : Int) < n
    · have hkn' : k < n := by omega
      obtain ⟨g, rfl, _⟩ := i3 (by omega)
      obtain ⟨g', rfl, _⟩ := j3 (by omega)
      have d3 := c3 g rfl k hkn'
      have d4 := c4 g' rfl k hkn'
      obtain ⟨p, c, p', c', e1, e2, r1, r2⟩ := HR.out wr hb k (by rw [HN.out.1]; exact hkn')
      rw [e1] at d3
      rw [e2] at d4
      have hsp : ∀ W, PndRd W p c (Ls.getD k []) → PndRd W p' c' (Ls.getD k []) → Calls Try.prog 22 #[.slice p (nn k) c, .slice p' (nn k) c'] W fun e w' => e = .returned (.bool true) ∧ Below W.heap.size W w' := fun W a b => samep_any W p p' c c' _ _ (HN.out.2.1 k) a b
      have hsp1 := hsp wr.drew (r1.below ⟨rfl, rfl, rfl, Nat.le_refl _, fun _ _ => rfl⟩) (r2.below ⟨rfl, rfl, rfl, Nat.le_refl _, fun _ _ => rfl⟩)
      have HB := Lib.hid (show Below w.heap.size w wr.drew from hb.drew)
      clear c3 c4 e1 e2 r1 r2 hb hon hsp
      have HSP := Lib.hid hsp1
      clear hsp1
      go_wp2_with fail
      go_still_tail 14, (by kernel_rfl)
      change wpList _ _ _ _ _ wr.drew
      generalize wr.drew = wd at *
      go_wp2_with fail
      refine HSP.out.mono ?_
      rintro e w2 ⟨rfl, hb2⟩
      have HB2 := Lib.hid (HB.out.trans (hb2.mono HB.out.size))
      clear hb2
      go_wp2_with fail
      go_roundw
      case rel => exact ⟨k + 1, by omega, by go_num, HB2.out⟩
      case measure => simp [intOf]; omega
    · have HON := Lib.hid hon
      have hBs : B ≤ wr.heap.size := Nat.le_trans hBw hb.size
      -- the marks
      have hf1 : FillG 59 3 mkP wr B vs nn 0 0 := fun j hj => by
        obtain ⟨l, q1, q2⟩ := HF.out j hj
        exact ⟨l, ownsRow_keep q1 (fun i hi => hb.block i (q1.lt i hi).2), q2⟩
      have HF1 := Lib.hid hf1
      clear c3 c4 hf1 hon hb
      go_wp2_with fail
      go_loopw [5] (fun v5 wr => ∃ i : Nat, i ≤ n ∧ v5 = .int .i64 i ∧ OnlyG vs w wr ∧ FillG 59 3 mkP wr B vs nn i 0) (fun v5 _ => n - (intOf v5).toNat)
      case atStart => exact ⟨0, Nat.zero_le _, rfl, HON.out, HF1.out⟩
      case round =>
        obtain ⟨i, hi', rfl, hO, hF⟩ := hrel
        obtain ⟨c1, _, c3, _⟩ := HC.out _ hO
        by_cases hin : (i : Int) < n
        · have hin' : i < n := by omega
          obtain ⟨g, rfl, _⟩ := i3 (by omega)
          have d3 := c3 g rfl i hin'
          obtain ⟨l, hl, _⟩ := hF i (by rw [HN.out.1]; exact hin')
          obtain ⟨p, c, hpc, q1, q2, q3⟩ := ownsRow_form hl
          unfold maxLen at q2
          obtain ⟨m, hm⟩ : ∃ m, nn i = m := ⟨_, rfl⟩
          have hml : m ≤ 1073741824 := by rw [← hm]; exact HN.out.2.2 i (by rw [HN.out.1]; exact hin')
          rw [hm] at hpc q1 q3
          rw [hpc] at d3
          have HP := Lib.hid (And.intro hpc hm)
          have hF' := Lib.hid hF
          have hO' := Lib.hid hO
          clear c3 hl hpc hm hF hO
          go_wp2_with fail
          go_loopw [6] (fun v6 wq => ∃ k : Nat, k ≤ m ∧ v6 = .int .i64 k ∧ OnlyG vs w wq ∧ FillG 59 3 mkP wq B vs nn i k) (fun v6 _ => m - (intOf v6).toNat)
          case atStart => exact ⟨0, Nat.zero_le _, rfl, hO'.out, hF'.out⟩
          case round =>
            obtain ⟨k, hk, rfl, hO2, hF2⟩ := hrel
            obtain ⟨e1, _, e3, _⟩ := HC.out _ hO2
            have f3 := e3 g rfl i hin'
            rw [HP.out.1] at f3
            by_cases hkm : (k : Int) < m
            · have hkm' : k < m := by omega
              obtain ⟨g', rfl, _⟩ := q3 (by omega)
              obtain ⟨l, hl, _⟩ := hF2 i (by rw [HN.out.1]; exact hin')
              rw [HP.out.1, HP.out.2] at hl
              have hth := Lib.hid (ownsRow_there hl hkm')
              have hset := hF2.set mkP_len hdist (by rw [HN.out.1]; exact hin') (by rw [HP.out.2]; exact hkm') (by rw [HP.out.1, HP.out.2])
              have hgr := hO2.grown (setCells_grown _ g' (k * 3) (mkP i)) (fun j hj => by
                cases hj
                exact .inr ⟨_, HVM.out i hin', by rw [HP.out.1]; rfl⟩)
              have HS := Lib.hid (And.intro hset hgr)
              clear e3 hl hset hgr hO2 hF2 d3
              go_wp2_with (refine wpList_store_mid rfl 59 (.tmp 71) (.tmp 70) rfl g' (k * 3) #[.int .i64 (-1000 - i), .int .i64 0, .string ⟨#[]⟩] rfl rfl hth.out HS3.out (by simp [Value.oneCell']) ?_)
              go_roundw
              case rel => exact ⟨k + 1, by omega, by go_num, HS.out.2, HS.out.1⟩
              case measure => simp [intOf]; omega
            · obtain rfl : k = m := by omega
              have hFn := Lib.hid (And.intro hO2 (show FillG 59 3 mkP _ B vs nn (i + 1) 0 from FillG.next (by rw [HP.out.2]; exact hF2)))
              clear e3 hO2 hF2 d3
              go_wp2_with fail
              go_roundw
              case rel => exact ⟨i + 1, by omega, by go_num, hFn.out.1, hFn.out.2⟩
              case measure => simp [intOf]; omega
        · obtain rfl : i = n := by omega
          have hG0 : GSG 59 3 56 9 mkP w _ B vs nn (.slice none 0 0) [] 0 := GSG.start (by decide) mkP_len hO (by rw [HN.out.1]; exact hF)
          have HG0 := Lib.hid hG0
          clear c3 hG0 hO hF
          go_wp2_with fail
          go_loopw [7, 8] (fun v7 v8 wr => ∃ (j : Nat) (G : List (Value × Nat × Nat)), j ≤ i ∧ v8 = .int .i64 j ∧ GSG 59 3 56 9 mkP w wr B vs nn v7 G j ∧ G.length = 9 * j ∧ ∀ u ∈ G, u.2.1 < j) (fun _ v8 _ => i - (intOf v8).toNat)
          case atStart => exact ⟨0, [], Nat.zero_le _, rfl, HG0.out, rfl, fun u hu => by simp at hu⟩
          case round =>
            obtain ⟨j, G, hj, rfl, hG, hGl, hGi⟩ := hrel
            obtain ⟨c1, _, c3, _⟩ := HC.out wr hG.only
            by_cases hjn : (j : Int) < i
            · have hjn' : j < i := by omega
              obtain ⟨g, rfl, _⟩ := i3 (by omega)
              have d3 := c3 g rfl j hjn'
              have hK := hG.begin hGi (by rw [HN.out.1]; exact hjn') hdist HLT.out
              have hml := HN.out.2.2 j (by rw [HN.out.1]; exact hjn')
              obtain ⟨m, hm⟩ : ∃ m, nn j = m := ⟨_, rfl⟩
              rw [hm] at hK hml
              obtain ⟨v0, hv0⟩ : ∃ v0, vs.getD j default = v0 := ⟨_, rfl⟩
              rw [hv0] at d3 hK
              obtain ⟨p0, c0, hv00, _⟩ := ownsRow_form hK.own
              subst hv00
              have HK := Lib.hid hK
              have HV0 := Lib.hid (And.intro hv0 hm)
              clear c3 hm hv0 hK hG hGi
              go_wp2_with fail
              go_loopw [7, 9, 10] (fun v7 v9 v10 wq => ∃ (k : Nat) (G : List (Value × Nat × Nat)), k ≤ 8 ∧ v10 = .int .i64 k ∧ GKG 59 3 56 9 mkP w wq B vs nn v7 G j (m + k) v9 ∧ G.length = 9 * j + k) (fun _ _ v10 _ => 8 - (intOf v10).toNat)
              case atStart => exact ⟨0, G, by omega, rfl, HK.out, hGl⟩
              case round =>
                obtain ⟨k, G, hk, rfl, hK, hGl⟩ := hrel
                by_cases hk8 : (k : Int) < 8
                · obtain ⟨t, ht⟩ : ∃ t, m + k = t := ⟨_, rfl⟩
                  have htb : t ≤ 1073741840 := by omega
                  rw [ht] at hK
                  have HT := Lib.hid ht
                  obtain ⟨p, c, hpc, _⟩ := ownsRow_form hK.own
                  subst hpc
                  have hown := Lib.hid hK.own
                  have hBq : B ≤ wr.heap.size := Nat.le_trans hBw hK.only.size
                  have HKK := Lib.hid hK
                  clear ht hK d3
                  go_wp2_with (at_builtin; refine wpList_append_two _ rfl (.tmp 92) (.tmp 96) 56 rfl B 59 k0 _ 3 32 Try.underlying56 hi hz0 hz1 hz2 rfl _ _ _ rfl (World.ownsRow.alloc hown.out _) ⟨wr.heap.size, 0, none⟩ 1 [.int .i64 (-1000 - j), .int .i64 0, .string ⟨#[]⟩] rfl rfl (fun j u hj => cell_of_newrow hj) (by simp [Value.oneCell']) (by unfold maxLen; omega) (by omega) ?_)
                  intro v' w3 hA
                  obtain ⟨p', c', hv'⟩ := hA.slice
                  subst hv'
                  have hP := (HKK.out.below ((Below.refl _ _).alloc (Nat.le_refl _) _)).put (by decide) mkP_len pnd_ne (by rw [HN.out.1]; exact hjn') (by simp; omega) hA
                  have hrw := hP.row
                  have hSz := hP.only.size
                  have hGb : G.length ≤ 20000000 := by omega
                  have HP2 := Lib.hid hP
                  clear hP hA hown
                  go_wp2_with (at_builtin; refine wpList_append_val rfl (.tmp 98) (.tmp 100) 74 rfl w.heap.size 56 (.slice none 0 0) 24 Try.underlying74 info_lists rfl _ _ _ (.slice p' (t + 1) c') rfl rfl rfl hrw (by unfold maxLen; omega) (by omega) hSz ?_)
                  intro gv' w4 hr2 hg2 _ _
                  rw [← hGl] at hr2
                  have hQ := HP2.out.note pnd_ne (by omega) hr2 hg2
                  have HQ := Lib.hid hQ
                  clear hQ hr2 hg2 hrw
                  go_wp2_with fail
                  go_roundw
                  case rel => exact ⟨k + 1, _, by omega, by go_num, by rw [← Nat.add_assoc, HT.out]; exact HQ.out, by rw [List.length_append, List.length_singleton]; omega⟩
                  case measure => simp [intOf]; omega
                · obtain rfl : k = 8 := by omega
                  obtain ⟨e1, _, e3, _⟩ := HC.out _ hK.only
                  have f3 := e3 g rfl j hjn'
                  rw [HV0.out.1] at f3
                  have hG2 := hK.toGSG
                  have hu := hG2.list (j := j) (by rw [HN.out.1]; exact hjn')
                  rw [HV0.out.1, HV0.out.2] at hu
                  have hrw := hG2.row
                  have hSz := hG2.only.size
                  have hGb : G.length ≤ 20000000 := by omega
                  have HG2 := Lib.hid (And.intro hG2 hu)
                  clear e3 d3 hK hG2 hu
                  go_wp2_with (at_builtin; refine wpList_append_val rfl (.tmp 102) (.tmp 110) 74 rfl w.heap.size 56 (.slice none 0 0) 24 Try.underlying74 info_lists rfl _ _ _ (.slice p0 m c0) rfl rfl rfl hrw (by unfold maxLen; omega) (by omega) hSz ?_)
                  intro gv' w4 hr2 hg2 _ _
                  rw [← hGl] at hr2
                  have hQ := HG2.out.1.note pnd_ne HG2.out.2 (.inl (by rw [HV0.out.1])) (by omega) hr2 hg2
                  have HQ := Lib.hid hQ
                  clear hQ hr2 hg2 hrw
                  go_wp2_with fail
                  go_roundw
                  case rel => exact ⟨j + 1, _, by omega, by go_num, HQ.out.next, by rw [List.length_append, List.length_singleton]; omega, fun u hu => by have := (HQ.out.from_ u hu).1; omega⟩
                  case measure => simp [intOf]; omega
            · obtain rfl : j = i := by omega
              obtain ⟨pg, cg, hgv, y1, y2, y3⟩ := ownsRow_form hG.row
              unfold maxLen at y2
              subst hgv
              obtain ⟨q, hq⟩ : ∃ q, G.length = q := ⟨_, rfl⟩
              rw [hq] at y1 y3 hGl ⊢
              have HG := Lib.hid (And.intro hG hq)
              clear c3 hG hGi hq HG0 HF1
              go_wp2_with fail
              go_loopw [11] (fun v11 wq => ∃ t : Nat, t ≤ q ∧ v11 = .int .i64 t ∧ wq = wr) (fun v11 _ => q - (intOf v11).toNat)
              case atStart => exact ⟨0, Nat.zero_le _, rfl, rfl⟩
              case round =>
                obtain ⟨t, ht, rfl, rfl⟩ := hrel
                by_cases htq : (t : Int) < q
                · obtain ⟨g, c, u, m, e1, e2, e3⟩ := HG.out.1.item (t := t) (by rw [HG.out.2]; omega)
                  simp only [Value.slice.injEq, true_and] at e1
                  obtain ⟨rfl, rfl⟩ := e1
                  obtain ⟨pu, cu, hu, z1, z2, z3⟩ := ownsRow_form e3
                  unfold maxLen at z2
                  subst hu
                  have HE3 := Lib.hid e3
                  clear e3
                  go_wp2_with fail
                  go_loopw [12] (fun v12 wq => ∃ s : Nat, s ≤ m ∧ v12 = .int .i64 s ∧ wq = wr) (fun v12 _ => m - (intOf v12).toNat)
                  case atStart => exact ⟨0, Nat.zero_le _, rfl, rfl⟩
                  case round =>
                    obtain ⟨s, hs, rfl, rfl⟩ := hrel
                    by_cases hsm : (s : Int) < m
                    · obtain ⟨gu, rfl, _⟩ := z3 (by omega)
                      have hcell : wr.cell? ⟨gu, s * 3, none⟩ = some (.int .i64 (-1000 - (t : Int) / 9)) := by
                        have := ownsRow_cell HE3.out (i := s * 3 + 0) (u := .int .i64 (-1000 - ((t / 9 : Nat) : Int))) (by rw [mkRow_get (mkP_len _) _ _ _ (by omega) (by omega)]; rfl)
                        simpa using this
                      go_wp2_with fail
                      go_roundw
                      case rel => exact ⟨s + 1, by omega, by go_num, by first | rfl | trivial⟩
                      case measure => simp [intOf]; omega
                    · obtain rfl : s = m := by omega
                      go_wp2_with fail
                      go_roundw
                      case rel => exact ⟨t + 1, by omega, by go_num, by first | rfl | trivial⟩
                      case measure => simp [intOf]; omega
                · obtain rfl : t = q := by omega
                  go_wp2_with fail
                  go_ret
                  exact ⟨rfl, HG.out.1.only⟩
end Go.Proofs.Ytbkimebmoafbnaa
