/-
  SessionHandles' walk. Conditions: the numbers lie in memory, are fewer than 2^30.
-/
import Derived.Test.YtbkimebmoafbnaaSsHa
namespace Go.Proofs.Ytbkimebmoafbnaa
open Go.RowKit Go.Maps
set_option linter.unusedVariables false

def begQ (Q : Int) : Array Value := perfC 17 0 0 2 5 10 Q 0 0 0 0 false
set_option maxRecDepth 20000 in
theorem first_set (Q : Int) : firstC.setIfInBounds 16 (.int .i64 Q) = begQ Q := rfl
set_option maxRecDepth 20000 in
theorem first_16 {w : World} {x : Nat} (h : w.heap[x]? = some (.cells firstC 39 (0, 0))) : w.cell? ⟨x, 16, none⟩ = some (.int .i64 1) := (cell_of_row _ _ 16 _ _ _ h).trans rfl

theorem keep_used {K : SK} {W W' : World} {ub : Nat} {l : List (Int × Int)} (h : UsedIn W ub l) (hm : SMv K W W') (hK : ¬ K.has ub) : UsedIn W' ub l := h.same (hm.block ub h.lt hK)
theorem keep_cell {K : SK} {W W' : World} {a : Addr} {v : Value} (h : W.cell? a = some v) (hm : SMv K W W') (hK : ¬ K.has a.block) : W'.cell? a = some v := (World.cell?_of_block (hm.block _ (cell_lt' h) hK)).trans h
theorem keep_set {W : World} {b i x y : Nat} {u v : Value} (h : W.cell? ⟨x, y, none⟩ = some v) (hn : x ≠ b) : (W.setCell ⟨b, i, none⟩ u).cell? ⟨x, y, none⟩ = some v := (World.cell?_of_block (a := ⟨x, y, none⟩) (set_far hn)).trans h
theorem ses_set {W : World} {K : SK} {s : SS} {b i : Nat} {u : Value} (h : SesIn W K s) (hb : ¬ K.has b) : SesIn (W.setCell ⟨b, i, none⟩ u) K s := h.keep (fun j hj => set_far (fun e => hb (e ▸ hj)))

/-- the loop's memory -/
structure HIn (w W : World) (K : SK) (ub qb : Nat) (Q : Int) (i : Nat) (s : SS) : Prop where
  ok : HOk Q i s
  ses : SesIn W K s
  used : UsedIn W ub s.rem
  q : W.cell? ⟨qb, 16, none⟩ = some (.int .i64 Q)
  below : Below w.heap.size w W

theorem HIn.nd {w W : World} {K : SK} {ub qb i : Nat} {Q : Int} {s : SS} (h : HIn w W K ub qb Q i s) : (s.rem.map Prod.fst).Nodup := by
  rw [← keys_rems]
  exact h.ses.rem_nd

set_option maxRecDepth 20000 in
set_option maxHeartbeats 8000000 in
theorem handles_walk (w : World) (p : Option Addr) (n c : Nat) (l : List Int) (most : Int) (hids : IntsIn .i64 w p n c l) (hn32 : n ≤ 1073741823) (hw0 : IsI64 most) :
    Calls Try.prog 6 #[.slice p n c, .int .i64 most] w fun e w' => e = .returned (.bool true) ∧ Below w.heap.size w w' := by
  have HI := Lib.hid hids
  have hnc := hids.le
  have hcap := hids.cap
  unfold maxLen at hcap
  clear hids
  obtain ⟨Q, hQ⟩ : ∃ Q : Int, (if 0 ≤ most ∧ most ≤ 4294967295 then most else 1) = Q := ⟨_, rfl⟩
  have hQ1 : 0 ≤ Q ∧ Q ≤ 4294967295 := by rw [← hQ]; split <;> omega
  have HQ := Lib.hid hQ
  clear hQ
  have hl := live_any w
  go_enter Try.func6, Try.ntmps6
  go_wp2_with fail
  refine hl.mono ?_
  clear hl
  rintro e w0 ⟨rfl, hb0⟩
  have HB0 := Lib.hid hb0
  have hF := first_any w0
  clear hb0
  go_wp2_with fail
  refine hF.mono ?_
  clear hF
  rintro e w1 ⟨rfl, hb1⟩
  have HB1 := Lib.hid (HB0.out.trans (hb1.mono HB0.out.size))
  clear hb1
  have hsz : firstC.size = 128 := perf_size ..
  have h1c : firstC.all (·.oneCell') = true := by as_aux_lemma => kernel_rfl
  obtain ⟨F, hF⟩ : ∃ F, firstC = F := ⟨_, rfl⟩
  have HF := Lib.hid hF
  rw [hF] at hsz h1c ⊢
  clear hF
  go_upto_region 3 with (refine wpList_store_rowTo rfl 39 (.tmp 6) (.tmp 27) rfl rfl w1.heap.size F rfl rfl 39 perfZ (_root_.Go.heap_alloc_new w1 _) (by rw [hsz]; as_aux_lemma => kernel_rfl) (by rw [hsz]; rfl) h1c ?_)
  have hb2 := below_setRow ((Below.refl w1.heap.size w1).alloc (Nat.le_refl _) (.cells perfZ 39)) (Nat.le_refl _) F
  have h2 := setRow_heap (w1.alloc (.cells perfZ 39)) w1.heap.size _ F _ _ (_root_.Go.heap_alloc_new w1 _)
  change Code.wp _ _ _ _ ((w1.alloc (.cells perfZ 39)).setRow w1.heap.size F)
  generalize ((w1.alloc (.cells perfZ 39)).setRow w1.heap.size F) = w2 at *
  obtain ⟨pb, hpb⟩ : ∃ x, w1.heap.size = x := ⟨_, rfl⟩
  rw [hpb] at h2 ⊢
  have hpl : w.heap.size ≤ pb := by rw [← hpb]; exact HB1.out.size
  have HPL := Lib.hid hpl
  have HB2 := Lib.hid (HB1.out.trans (hb2.mono HB1.out.size))
  have H2 := Lib.hid h2
  have hF := first_any w2
  rw [HF.out] at hF
  clear hb2 hpb h2 hpl
  go_wp2_with fail
  refine hF.mono ?_
  clear hF
  rintro e w3 ⟨rfl, hb3⟩
  have hp3 := (hb3.block pb (Array.getElem?_eq_some_iff.1 H2.out).1).trans H2.out
  have HP3 := Lib.hid hp3
  have HB3 := Lib.hid (HB2.out.trans (hb3.mono HB2.out.size))
  clear hb3 hp3
  go_upto_region 4 with (refine wpList_store_rowTo rfl 39 (.tmp 7) (.tmp 28) rfl rfl w3.heap.size F rfl rfl 39 perfZ (_root_.Go.heap_alloc_new w3 _) (by rw [hsz]; as_aux_lemma => kernel_rfl) (by rw [hsz]; rfl) h1c ?_)
  have hb4 := below_setRow ((Below.refl w3.heap.size w3).alloc (Nat.le_refl _) (.cells perfZ 39)) (Nat.le_refl _) F
  have h4 := setRow_heap (w3.alloc (.cells perfZ 39)) w3.heap.size _ F _ _ (_root_.Go.heap_alloc_new w3 _)
  change Code.wp _ _ _ _ ((w3.alloc (.cells perfZ 39)).setRow w3.heap.size F)
  generalize ((w3.alloc (.cells perfZ 39)).setRow w3.heap.size F) = w4 at *
  obtain ⟨qb, hqb⟩ : ∃ x, w3.heap.size = x := ⟨_, rfl⟩
  rw [hqb] at h4 ⊢
  have hp4 := (hb4.block pb (Array.getElem?_eq_some_iff.1 HP3.out).1).trans HP3.out
  have hpq : pb ≠ qb := by have := (Array.getElem?_eq_some_iff.1 HP3.out).1; omega
  have hql : w.heap.size ≤ qb := by rw [← hqb]; exact HB3.out.size
  have HQL := Lib.hid hql
  have HB4 := Lib.hid (HB3.out.trans (hb4.mono HB3.out.size))
  rw [← HF.out] at h4 hp4
  have HP4 := Lib.hid (And.intro hp4 hpq)
  have HQ4 := Lib.hid h4
  clear hb4 hqb hql hp4 hpq h4
  go_cut [34] (fun s34 wx => w4 = wx ∧ ∃ b : Bool, s34 = .bool b ∧ (b = true ↔ 0 ≤ most ∧ most ≤ 4294967295))
  case first =>
    by_cases h1 : 0 ≤ most
    · by_cases h2 : most ≤ 4294967295
      · go_wp2_with fail
        go_meet
        case rel => exact ⟨rfl, _, rfl, by simp; omega⟩
      · go_wp2_with fail
        go_meet
        case rel => exact ⟨rfl, _, rfl, by simp; omega⟩
    · go_wp2_with fail
      go_meet
      case rel => exact ⟨rfl, _, rfl, by simp; omega⟩
  case rest =>
  obtain ⟨rfl, b, rfl, hbb⟩ := hcut
  have HBB := Lib.hid hbb
  clear hbb
  go_upto_if 34 with fail
  go_cut [35] (fun s35 wx => wx.heap[qb]? = some (.cells (begQ Q) 39 (0, 0)) ∧ wx.heap[pb]? = some (.cells firstC 39 (0, 0)) ∧ Below w.heap.size w wx)
  case first =>
    have q16 := first_16 HQ4.out
    have fz : ∀ i, w4.frozen? ⟨qb, i, none⟩ = false := fun i => by simp [World.frozen?, HQ4.out]
    cases b
    · go_wp2_with fail
      go_meet
      case rel =>
        have hq := HQ.out
        rw [if_neg (by have := HBB.out; simp at this; omega)] at hq
        subst hq
        exact ⟨HQ4.out, HP4.out.1, HB4.out⟩
    · go_wp2_with fail
      go_meet
      case rel =>
        have hq := HQ.out
        rw [if_pos (HBB.out.1 (by first | rfl | trivial))] at hq
        subst hq
        exact ⟨by rw [← first_set]; exact heap_setCell_same _ qb 16 _ _ _ HQ4.out, (set_far HP4.out.2).trans HP4.out.1, HB4.out.setCell (p := ⟨qb, 16, none⟩) HQL.out _⟩
  case rest =>
  obtain ⟨hq5, hp5, hb5⟩ := hcut
  have p16 := first_16 hp5
  have fz : ∀ i, wc.frozen? ⟨pb, i, none⟩ = false := fun i => by simp [World.frozen?, hp5]
  have hp6 : (wc.setCell ⟨pb, 16, none⟩ (.int .i64 100)).heap[pb]? = some (.cells (begQ 100) 39 (0, 0)) := by rw [← first_set]; exact heap_setCell_same _ pb 16 _ _ _ hp5
  have hq6 : (wc.setCell ⟨pb, 16, none⟩ (.int .i64 100)).heap[qb]? = some (.cells (begQ Q) 39 (0, 0)) := (set_far (fun e => HP4.out.2 e.symm)).trans hq5
  have hb6 := hb5.setCell (p := ⟨pb, 16, none⟩) HPL.out (.int .i64 100)
  have HB6 := Lib.hid (And.intro hq6 (And.intro hp6 hb6))
  clear hq5 hp5 hb5 hp6 hq6 hb6 HBB
  go_upto_region 7 with fail
  generalize wc.setCell ⟨pb, 16, none⟩ (.int .i64 100) = w6 at *
  clear p16 fz
  have hn : Calls Try.prog 10 #[.agg (begQ 100)] w6 fun e w' => ∃ K : SK, e = .returned (.pointer (some ⟨K.b, 0, none⟩)) ∧ K.B = w6.heap.size ∧ SesIn w' K (SS.new 5 2 10 100) ∧ Below w6.heap.size w6 w' := snew_ok w6 17 0 0 2 5 10 100 0 0 0 0 false (by decide)
  obtain ⟨G, hG⟩ : ∃ G, begQ 100 = G := ⟨_, rfl⟩
  have hGs : G.size = 128 := by rw [← hG]; exact perf_size ..
  have hp6 := HB6.out.2.1
  rw [hG] at hn hp6
  clear hG
  go_upto_region 10 with (refine wpList_load_row rfl 39 (.tmp 6) rfl pb rfl 39 G (0, 0) _ hp6 Try.underlying39 rfl (by rw [hGs]; as_aux_lemma => kernel_rfl) ?_)
  refine hn.mono ?_
  clear hn hp6
  rintro e w7 ⟨K, rfl, hKB, hS, hb7⟩
  have hlo : ∀ j, K.has j → w.heap.size ≤ j := fun j hj => by have := hS.lo j hj; have := HB6.out.2.2.size; omega
  have hqK : ¬ K.has qb := fun hj => by have := hS.lo qb hj; have := (Array.getElem?_eq_some_iff.1 HB6.out.1).1; omega
  have hq7 := (hb7.block qb (Array.getElem?_eq_some_iff.1 HB6.out.1).1).trans HB6.out.1
  have HLO := Lib.hid (And.intro hlo hqK)
  have HB7 := Lib.hid (HB6.out.2.2.trans (hb7.mono HB6.out.2.2.size))
  have HS7 := Lib.hid hS
  have HQ7 := Lib.hid hq7
  have hp : Calls Try.prog 18 #[.pointer (some ⟨K.b, 0, none⟩), .agg (begQ Q)] w7 fun e w' => e = .returned (.int .i64 0) ∧ SesIn w' K ((SS.new 5 2 10 100).withPeer 5 2 10 Q) ∧ SMv K w7 w' := peer_ok w7 K (SS.new 5 2 10 100) 0 0 2 5 10 Q 0 0 0 0 false hS rfl ⟨rfl, by decide, by decide, by decide, hQ1⟩
  obtain ⟨G, hG⟩ : ∃ G, begQ Q = G := ⟨_, rfl⟩
  have hGs : G.size = 128 := by rw [← hG]; exact perf_size ..
  rw [hG] at hp hq7
  clear hb7 hKB hlo hqK hS hG
  go_upto_region 13 with (refine wpList_load_row rfl 39 (.tmp 7) rfl qb rfl 39 G (0, 0) _ hq7 Try.underlying39 rfl (by rw [hGs]; as_aux_lemma => kernel_rfl) ?_)
  refine hp.mono ?_
  clear hp hq7
  rintro e w8 ⟨rfl, hS8, hm8⟩
  have hq8 := (hm8.block qb (Array.getElem?_eq_some_iff.1 HQ7.out).1 HLO.out.2).trans HQ7.out
  have HQ8 := Lib.hid hq8
  have HS8 := Lib.hid hS8
  have HB8 := Lib.hid (live_step HB7.out hm8 HLO.out.1)
  clear hq8 hS8 hm8
  have hmk : (Instr.makeSlice 66 (.int .i64 65) (.int .i64 65)).run Try.prog w8 = .ok (.slice (some ⟨w8.heap.size, 0, none⟩) 65 65) (w8.alloc (.cells (madeCells #[.bool false] 65) 4)) := run_make_row' 66 4 (.bool false) 1 Try.underlying66 info_bool rfl .i64 .i64 65 (by decide) (by decide) w8
  go_upto_region 14 with fail
  have hu9 := UsedIn.made w8
  have hb9 : Below w8.heap.size w8 (w8.alloc (.cells (madeCells #[.bool false] 65) 4)) := (Below.refl _ _).alloc (Nat.le_refl _) _
  generalize (w8.alloc (.cells (madeCells #[.bool false] 65) 4)) = w9 at *
  obtain ⟨ub, hub⟩ : ∃ x, w8.heap.size = x := ⟨_, rfl⟩
  have hs9 := HS8.out.below hb9
  have huK : ¬ K.has ub := fun hj => by have := HS8.out.lt ub hj; omega
  have huq : ub ≠ qb := by have := (Array.getElem?_eq_some_iff.1 HQ8.out).1; omega
  have hul : w.heap.size ≤ ub := by rw [← hub]; exact HB8.out.size
  have hq9 := (hb9.block qb (Array.getElem?_eq_some_iff.1 HQ8.out).1).trans HQ8.out
  rw [hub] at hu9 ⊢
  have HU := Lib.hid (And.intro huK (And.intro huq hul))
  have hin : HIn w w9 K ub qb Q 0 ((SS.new 5 2 10 100).withPeer 5 2 10 Q) := ⟨⟨rfl, rfl, rfl, fun p hp => (by cases hp), Nat.zero_le _, fun p hp => (by cases hp), Nat.le_refl _⟩, hs9, hu9, (perf_cells hq9).2.2.2.2.2, HB8.out.trans (hb9.mono HB8.out.size)⟩
  have HIN := Lib.hid hin
  clear hmk hu9 hb9 hub hs9 huK huq hul hq9 hin
  go_wp2_with fail
  go_loopw [11, 12] (fun v11 v12 wr => ∃ (i : Nat) (s : SS), i ≤ n ∧ v12 = .int .i64 i ∧ v11 = .int .i64 s.rem.length ∧ HIn w wr K ub qb Q i s) (fun _ v12 _ => n - (intOf v12).toNat)
  case atStart => exact ⟨0, _, Nat.zero_le _, rfl, rfl, HIN.out⟩
  case round =>
    obtain ⟨i, s, hi, rfl, rfl, hin⟩ := hrel
    have HH := Lib.hid hin
    have hl64 := hin.ok.len
    clear hin
    by_cases hlt : (i : Int) < n
    · have hi' : i < n := by omega
      obtain ⟨b, o, rfl, hbw, hcell⟩ := (HI.out.below HH.out.below).at_ (by omega)
      have hci := hcell i hi'
      obtain ⟨k, hk⟩ : ∃ q, l.getD i 0 = q := ⟨_, rfl⟩
      rw [hk] at hci
      clear hk hcell hbw
      by_cases hk0 : 0 ≤ k
      · by_cases hk64 : k < 64
        · obtain ⟨j, rfl⟩ : ∃ j : Nat, k = j := ⟨k.toNat, by omega⟩
          have hj : j < 64 := by omega
          by_cases hjin : (j : Int) ∈ s.rem.map Prod.fst
          · as_aux_lemma =>
            have hfs : freeS s j = (s.free j, 0) := by rw [freeS, if_pos hjin]
            have hfr := free_any wr K s j HH.out.ses (by unfold IsI64; omega)
            rw [hfs] at hfr
            have hok' := HH.out.ok.free j
            have hj' : (j : Int) ∉ (s.free j).rem.map Prod.fst := fun q => (mem_fst_filter.1 q).2 rfl
            have ha' : ∀ p ∈ (s.free j).arr, p.h ≠ (j : Int) := fun p hp => of_decide_eq_true (List.mem_filter.1 hp).2
            have HCNT := Lib.hid (free_len HH.out.nd hjin)
            have HJ := Lib.hid hjin
            have hpos : 0 < s.rem.length := List.length_pos_iff.2 (fun q => by rw [q] at hjin; simp at hjin)
            obtain ⟨s', hs'⟩ : ∃ s', s.free j = s' := ⟨_, rfl⟩
            have HSS := Lib.hid hs'
            rw [hs'] at hfr hok' hj' ha'
            clear hs' hfs hjin
            have HOK := Lib.hid hok'
            have HPL := Lib.hid (And.intro hj' ha')
            have hus := HH.out.used
            clear hok' hj' ha'
            go_wp2_with fail
            refine hfr.mono ?_
            clear hfr
            rintro e w10 ⟨rfl, hs10, hm10⟩
            have hu10 := keep_used hus hm10 HU.out.1
            have HQ10 := Lib.hid (keep_cell HH.out.q hm10 HLO.out.2)
            have HB10 := Lib.hid (live_step HH.out.below hm10 HLO.out.1)
            have HS10 := Lib.hid hs10
            have uj := hu10.cell (j := j) (by omega)
            rw [decide_eq_true HJ.out] at uj
            have fz := hu10.fz
            have HU10 := Lib.hid hu10
            clear hm10 hu10 hs10 hus hci
            go_upto_region 26 with fail
            have HU11 := Lib.hid (HU10.out.set (j := j) (by omega) false (l' := s'.rem) (decide_eq_false HPL.out.1).symm (fun i hi => by rw [← HSS.out]; exact ⟨fun q => (mem_fst_filter.1 q).1, fun q => mem_fst_filter.2 ⟨q, by omega⟩⟩))
            have HQ11 := Lib.hid (keep_set (b := ub) (i := j) (u := .bool false) HQ10.out (fun e => HU.out.2.1 e.symm))
            have hs11 := ses_set (b := ub) (i := j) (u := .bool false) HS10.out HU.out.1
            have HB11 := Lib.hid (HB10.out.setCell (p := ⟨ub, j, none⟩) HU.out.2.2 (.bool false))
            clear uj fz
            generalize w10.setCell ⟨ub, j, none⟩ (.bool false) = w11 at *
            have hloc := local_any w11 K s' ((j : Int) + 10) hs11
            have HS11 := Lib.hid hs11
            clear hs11
            go_wp2_with fail
            refine hloc.mono ?_
            clear hloc
            rintro e w12 ⟨hd, is, rfl, hyes, _, hb12⟩
            have his : is = false := by
              cases is
              · rfl
              · have h1 := (hyes rfl).2
                have h2 := HOK.out.keys _ h1
                exact absurd (List.mem_map.2 ⟨_, h1, (by simp only at h2 ⊢; omega : hd = (j : Int))⟩) HPL.out.1
            subst his
            have hm12 := SMv.of_below (K := K) hb12
            have HU12 := Lib.hid (keep_used HU11.out hm12 HU.out.1)
            have HQ12 := Lib.hid (keep_cell HQ11.out hm12 HLO.out.2)
            have HS12 := Lib.hid (HS11.out.below hb12)
            have HB12 := Lib.hid (HB11.out.trans (hb12.mono HB11.out.size))
            have hrg := range_rd w12 K s' false 0 2147483647 2147483647 HS12.out (fun p hp => (by have := (HOK.out.arr p hp).2; constructor <;> omega)) (by have := HOK.out.cnt; show s'.arr.length ≤ _; omega) (by decide) (by decide) (by decide) (by decide)
            clear hyes hb12 hm12
            go_wp2_with fail
            refine hrg.mono ?_
            clear hrg
            rintro e w13 ⟨pa, ca, out, rfl, hfr, hrd, _, hb13⟩
            have hm13 := SMv.of_below (K := K) hb13
            have HIN13 := Lib.hid (show HIn w w13 K ub qb Q (i + 1) s' from ⟨HOK.out, HS12.out.below hb13, keep_used HU12.out hm13 HU.out.1, keep_cell HQ12.out hm13 HLO.out.2, HB12.out.trans (hb13.mono HB12.out.size)⟩)
            obtain ⟨no, hno⟩ : ∃ no, out.length = no := ⟨_, rfl⟩
            obtain ⟨ic1, ic2, ic3⟩ := hrd.info hno
            have HRD := Lib.hid (And.intro hrd (And.intro hno hfr))
            rw [hno]
            clear hfr hrd hb13 hm13 hno HH HU10 HU11 HU12 HQ10 HQ11 HQ12 HS10 HS11 HS12 HB10 HB11 HB12
            go_wp2_with fail
            go_loopw [18] (fun v18 wr => ∃ (t : Nat), t ≤ no ∧ v18 = .int .i64 t ∧ wr = w13) (fun v18 _ => no - (intOf v18).toNat)
            case atStart => exact ⟨0, Nat.zero_le _, rfl, rfl⟩
            case round =>
              obtain ⟨t, ht, rfl, rfl⟩ := hrel
              by_cases htn : (t : Int) < no
              · have ht' : t < no := by omega
                obtain ⟨ga, rfl⟩ := ic3 (by omega)
                have htL : t < out.length := by rw [HRD.out.2.1]; exact ht'
                obtain ⟨_, c1, _⟩ := HRD.out.1.cell ga rfl t htL
                have hne : out[t].h ≠ (j : Int) := HPL.out.2 _ (HRD.out.2.2.mem (List.getElem_mem htL)).1
                generalize out[t].h = hh at *
                go_wp2_with fail
                go_roundw
                case rel => exact ⟨t + 1, by omega, by go_num, by first | rfl | trivial⟩
                case measure => simp [intOf]; omega
              · go_wp2_with fail
                go_roundw
                case rel => exact ⟨i + 1, s', by omega, by go_num, by have h1 := HCNT.out; have h2 : s'.rem.length + 1 = s.rem.length := (by rw [← HSS.out]; exact h1); congr 1; omega, HIN13.out⟩
                case measure => simp [intOf]; omega
          · as_aux_lemma =>
            have hfs : freeS s j = (s, 132) := by rw [freeS, if_neg hjin]
            have hfr := free_any wr K s j HH.out.ses (by unfold IsI64; omega)
            rw [hfs] at hfr
            have hok' := HH.out.ok.skip
            have ha' : ∀ p ∈ s.arr, p.h ≠ (j : Int) := fun p hp q => hjin (by rw [← q]; exact (HH.out.ok.arr p hp).1)
            have hj' := hjin
            have HJ := Lib.hid hjin
            obtain ⟨s', hs'⟩ : ∃ s', s = s' := ⟨_, rfl⟩
            have HSS := Lib.hid hs'
            rw [hs'] at hok' hj' ha'
            simp only at hfr
            have hfr : Calls Try.prog 25 #[.pointer (some ⟨K.b, 0, none⟩), .int .i64 j] wr fun e w' => e = .returned (.int .i64 132) ∧ SesIn w' K s' ∧ SMv K wr w' := by rw [← hs']; exact hfr
            clear hs' hfs hjin
            have HOK := Lib.hid hok'
            have HPL := Lib.hid (And.intro hj' ha')
            have hus := HH.out.used
            clear hok' hj' ha'
            go_wp2_with fail
            refine hfr.mono ?_
            clear hfr
            rintro e w10 ⟨rfl, hs10, hm10⟩
            have hu10 := keep_used hus hm10 HU.out.1
            have HQ10 := Lib.hid (keep_cell HH.out.q hm10 HLO.out.2)
            have HB10 := Lib.hid (live_step HH.out.below hm10 HLO.out.1)
            have HS10 := Lib.hid hs10
            have uj := hu10.cell (j := j) (by omega)
            rw [decide_eq_false HJ.out] at uj
            have fz := hu10.fz
            have HU10 := Lib.hid hu10
            clear hm10 hu10 hs10 hus hci
            go_upto_region 26 with fail
            have HU11 := Lib.hid (HU10.out.set (j := j) (by omega) false (l' := s'.rem) (decide_eq_false HPL.out.1).symm (fun i hi => by rw [← HSS.out]))
            have HQ11 := Lib.hid (keep_set (b := ub) (i := j) (u := .bool false) HQ10.out (fun e => HU.out.2.1 e.symm))
            have hs11 := ses_set (b := ub) (i := j) (u := .bool false) HS10.out HU.out.1
            have HB11 := Lib.hid (HB10.out.setCell (p := ⟨ub, j, none⟩) HU.out.2.2 (.bool false))
            clear uj fz
            generalize w10.setCell ⟨ub, j, none⟩ (.bool false) = w11 at *
            have hloc := local_any w11 K s' ((j : Int) + 10) hs11
            have HS11 := Lib.hid hs11
            clear hs11
            go_wp2_with fail
            refine hloc.mono ?_
            clear hloc
            rintro e w12 ⟨hd, is, rfl, hyes, _, hb12⟩
            have his : is = false := by
              cases is
              · rfl
              · have h1 := (hyes rfl).2
                have h2 := HOK.out.keys _ h1
                exact absurd (List.mem_map.2 ⟨_, h1, (by simp only at h2 ⊢; omega : hd = (j : Int))⟩) HPL.out.1
            subst his
            have hm12 := SMv.of_below (K := K) hb12
            have HU12 := Lib.hid (keep_used HU11.out hm12 HU.out.1)
            have HQ12 := Lib.hid (keep_cell HQ11.out hm12 HLO.out.2)
            have HS12 := Lib.hid (HS11.out.below hb12)
            have HB12 := Lib.hid (HB11.out.trans (hb12.mono HB11.out.size))
            have hrg := range_rd w12 K s' false 0 2147483647 2147483647 HS12.out (fun p hp => (by have := (HOK.out.arr p hp).2; constructor <;> omega)) (by have := HOK.out.cnt; show s'.arr.length ≤ _; omega) (by decide) (by decide) (by decide) (by decide)
            clear hyes hb12 hm12
            go_wp2_with fail
            refine hrg.mono ?_
            clear hrg
            rintro e w13 ⟨pa, ca, out, rfl, hfr, hrd, _, hb13⟩
            have hm13 := SMv.of_below (K := K) hb13
            have HIN13 := Lib.hid (show HIn w w13 K ub qb Q (i + 1) s' from ⟨HOK.out, HS12.out.below hb13, keep_used HU12.out hm13 HU.out.1, keep_cell HQ12.out hm13 HLO.out.2, HB12.out.trans (hb13.mono HB12.out.size)⟩)
            obtain ⟨no, hno⟩ : ∃ no, out.length = no := ⟨_, rfl⟩
            obtain ⟨ic1, ic2, ic3⟩ := hrd.info hno
            have HRD := Lib.hid (And.intro hrd (And.intro hno hfr))
            rw [hno]
            clear hfr hrd hb13 hm13 hno HH HU10 HU11 HU12 HQ10 HQ11 HQ12 HS10 HS11 HS12 HB10 HB11 HB12
            go_wp2_with fail
            go_loopw [18] (fun v18 wr => ∃ (t : Nat), t ≤ no ∧ v18 = .int .i64 t ∧ wr = w13) (fun v18 _ => no - (intOf v18).toNat)
            case atStart => exact ⟨0, Nat.zero_le _, rfl, rfl⟩
            case round =>
              obtain ⟨t, ht, rfl, rfl⟩ := hrel
              by_cases htn : (t : Int) < no
              · have ht' : t < no := by omega
                obtain ⟨ga, rfl⟩ := ic3 (by omega)
                have htL : t < out.length := by rw [HRD.out.2.1]; exact ht'
                obtain ⟨_, c1, _⟩ := HRD.out.1.cell ga rfl t htL
                have hne : out[t].h ≠ (j : Int) := HPL.out.2 _ (HRD.out.2.2.mem (List.getElem_mem htL)).1
                generalize out[t].h = hh at *
                go_wp2_with fail
                go_roundw
                case rel => exact ⟨t + 1, by omega, by go_num, by first | rfl | trivial⟩
                case measure => simp [intOf]; omega
              · go_wp2_with fail
                go_roundw
                case rel => exact ⟨i + 1, s', by omega, by go_num, by rw [HSS.out], HIN13.out⟩
                case measure => simp [intOf]; omega
        · as_aux_lemma =>
          have hk65 : ¬ k < 64 := hk64
          obtain ⟨k0, hk0'⟩ := least_ex s.rem
          have hha := hand_any wr K s k0 HH.out.ses HH.out.ok.peer hk0' hl64
          have hkl := least_le hk0'.1
          have hrh := HH.out.ok.rh
          have HK0 := Lib.hid hk0'
          rw [hrh] at hha
          clear hk0' hrh
          by_cases hbad : 64 ≤ s.rem.length ∨ Q < k0
          · have hh : Calls Try.prog 19 #[.pointer (some ⟨K.b, 0, none⟩)] wr fun e w' => e = .returned (.tuple #[.int .i64 0, .int .i64 132]) ∧ w' = wr := hha.mono fun e w' h => by rw [if_pos hbad] at h; exact h
            have hq := HH.out.q
            have HREL := Lib.hid (show ∃ (i' : Nat) (s' : SS), i' ≤ n ∧ Value.int .i64 ((i : Int) + 1) = .int .i64 i' ∧ Value.int .i64 s.rem.length = .int .i64 s'.rem.length ∧ HIn w wr K ub qb Q i' s' from ⟨i + 1, s, by omega, by go_num, rfl, HH.out.ok.skip, HH.out.ses, HH.out.used, HH.out.q, HH.out.below⟩)
            clear hha
            by_cases h64 : (s.rem.length : Int) < 64
            · have hqs : ¬ (s.rem.length : Int) ≤ Q := by omega
              clear hbad hkl
              go_wp2_with fail
              refine hh.mono ?_
              clear hh hci
              rintro e w10 ⟨rfl, rfl⟩
              go_wp2_with fail
              go_roundw
              case rel => exact HREL.out
              case measure => simp [intOf]; omega
            · clear hbad hkl
              go_wp2_with fail
              refine hh.mono ?_
              clear hh hci
              rintro e w10 ⟨rfl, rfl⟩
              go_wp2_with fail
              go_roundw
              case rel => exact HREL.out
              case measure => simp [intOf]; omega
          · have hh : Calls Try.prog 19 #[.pointer (some ⟨K.b, 0, none⟩)] wr fun e w' => e = .returned (.tuple #[.int .i64 k0, .int .i64 0]) ∧ SesIn w' K (s.addH k0) ∧ SMv K wr w' := hha.mono fun e w' h => by rw [if_neg hbad] at h; exact h
            have hl63 : s.rem.length < 64 := by omega
            have hk63 : (k0 : Int) ≤ 63 := by omega
            have hkQ : (k0 : Int) ≤ Q := by omega
            clear hha hbad
            go_wp2_with fail
            refine hh.mono ?_
            clear hh hci
            rintro e w10 ⟨rfl, hs10, hm10⟩
            have HS10 := Lib.hid hs10
            have hu10 := keep_used HH.out.used hm10 HU.out.1
            have HU10 := Lib.hid hu10
            have hq10 := keep_cell HH.out.q hm10 HLO.out.2
            have HQ10 := Lib.hid hq10
            have HB10 := Lib.hid (live_step HH.out.below hm10 HLO.out.1)
            have uk := hu10.cell (j := k0) (by omega)
            rw [decide_eq_false HK0.out.2] at uk
            clear hs10 hm10 hu10
            go_wp2_with fail
            go_loopw [21] (fun v21 wr => ∃ (t : Nat), t ≤ k0 ∧ v21 = .int .i64 t ∧ wr = w10) (fun v21 _ => k0 - (intOf v21).toNat)
            case atStart => exact ⟨0, Nat.zero_le _, rfl, rfl⟩
            case round =>
              obtain ⟨t, ht, rfl, rfl⟩ := hrel
              by_cases htn : (t : Int) < k0
              · have ut := HU10.out.cell (j := t) (by omega)
                rw [decide_eq_true (HK0.out.1 t (by omega))] at ut
                go_wp2_with fail
                go_roundw
                case rel => exact ⟨t + 1, by omega, by go_num, by first | rfl | trivial⟩
                case measure => simp [intOf]; omega
              · obtain rfl : t = k0 := by omega
                have fz := HU10.out.fz
                go_upto_region 48 with fail
                have hne : ub ≠ qb := HU.out.2.1
                have HU11 := Lib.hid (HU10.out.set (j := t) (by omega) true (l' := s.rem ++ [((t : Int), (t : Int) + 10)]) (decide_eq_true (by simp)).symm (fun i hi => by simp; omega))
                have HQ11 := Lib.hid (keep_set (b := ub) (i := t) (u := .bool true) HQ10.out (fun e => HU.out.2.1 e.symm))
                have hs11 := ses_set (b := ub) (i := t) (u := .bool true) HS10.out HU.out.1
                have HB11 := Lib.hid (HB10.out.setCell (p := ⟨ub, t, none⟩) HU.out.2.2 (.bool true))
                clear fz uk hq10 htn ht
                generalize wr.setCell ⟨ub, t, none⟩ (.bool true) = w11 at *
                have hrm := remote_any w11 K (s.addH t) ((t : Int) + 10) t hs11 (by unfold IsI64; omega) (by show (s.rem ++ [_]).length < _; rw [List.length_append, List.length_singleton]; unfold maxLen; omega)
                have hrm' : Calls Try.prog 27 #[.pointer (some ⟨K.b, 0, none⟩), .int .i64 ((t : Int) + 10), .int .i64 t] w11 fun e w' => e = .returned (.int .i64 0) ∧ SesIn w' K ((s.addH t).bind ((t : Int) + 10) t) ∧ SMv K w11 w' := hrm.mono fun e w' h => by
                  rcases h with ⟨h1, _⟩ | ⟨_, h⟩
                  · exact absurd h1 (HH.out.ok.good HK0.out hl63)
                  · exact h
                clear hrm hs11
                go_wp2_with fail
                refine hrm'.mono ?_
                clear hrm'
                rintro e w12 ⟨rfl, hs12, hm12⟩
                have HS12 := Lib.hid hs12
                have HU12 := Lib.hid (keep_used HU11.out hm12 HU.out.1)
                have HQ12 := Lib.hid (keep_cell HQ11.out hm12 HLO.out.2)
                have HB12 := Lib.hid (live_step HB11.out hm12 HLO.out.1)
                have hloc := local_any w12 K _ ((t : Int) + 10) hs12
                clear hs12 hm12
                go_wp2_with fail
                refine hloc.mono ?_
                clear hloc
                rintro e w13 ⟨hd, is, rfl, hyes, hno, hb13⟩
                have hrr := more_rem (s := s) (k := t) HK0.out.2
                rw [hrr] at hyes hno
                have his : is = true := by
                  cases is
                  · exact absurd rfl ((hno rfl).2 (by omega) ((t : Int), (t : Int) + 10) (by simp))
                  · rfl
                subst his
                have hhd : hd = (t : Int) := by
                  rcases List.mem_append.1 (hyes rfl).2 with h | h
                  · have := (HH.out.ok.keys _ h).2.2
                    simp only at this
                    omega
                  · simp at h
                    exact h
                subst hhd
                have hm13 := SMv.of_below (K := K) hb13
                have HU13 := Lib.hid (keep_used HU12.out hm13 HU.out.1)
                have HQ13 := Lib.hid (keep_cell HQ12.out hm13 HLO.out.2)
                have HS13 := Lib.hid (HS12.out.below hb13)
                have HB13 := Lib.hid (HB12.out.trans (hb13.mono HB12.out.size))
                have har := arrive_any w13 K _ (i : Int) (t : Int) tagT false HS13.out (by unfold IsI64; omega) (by have := HH.out.ok.cnt; show s.arr.length < _; unfold maxLen; omega)
                rw [HH.out.ok.arrive HK0.out (by omega)] at har
                have har' : Calls Try.prog 20 #[.pointer (some ⟨K.b, 0, none⟩), .int .i64 i, .int .i64 t, .string ⟨#[116]⟩, .bool false] w13 fun e w' => e = .returned (.int .i64 0) ∧ SesIn w' K (s.more t i) ∧ SMv K w13 w' := har
                clear hyes hno hb13 hm13 hrr har
                go_wp2_with fail
                refine har'.mono ?_
                clear har'
                rintro e w14 ⟨rfl, hs14, hm14⟩
                have HREL := Lib.hid (show ∃ (i' : Nat) (s' : SS), i' ≤ n ∧ Value.int .i64 ((i : Int) + 1) = .int .i64 i' ∧ Value.int .i64 ((s.rem.length : Int) + 1) = .int .i64 s'.rem.length ∧ HIn w w14 K ub qb Q i' s' from ⟨i + 1, s.more t i, by omega, by go_num, by rw [show (s.more t i).rem = s.rem ++ [((t : Int), (t : Int) + 10)] from more_rem HK0.out.2, List.length_append, List.length_singleton]; go_num, HH.out.ok.more HK0.out hl63, hs14, by rw [show (s.more t i).rem = s.rem ++ [((t : Int), (t : Int) + 10)] from more_rem HK0.out.2]; exact keep_used HU13.out hm14 HU.out.1, keep_cell HQ13.out hm14 HLO.out.2, live_step HB13.out hm14 HLO.out.1⟩)
                clear hs14 hm14
                go_wp2_with fail
                go_roundw
                case rel => exact HREL.out
                case measure => simp [intOf]; omega
      · as_aux_lemma =>
        have hk65 : ¬ 0 ≤ k := hk0
        obtain ⟨k0, hk0'⟩ := least_ex s.rem
        have hha := hand_any wr K s k0 HH.out.ses HH.out.ok.peer hk0' hl64
        have hkl := least_le hk0'.1
        have hrh := HH.out.ok.rh
        have HK0 := Lib.hid hk0'
        rw [hrh] at hha
        clear hk0' hrh
        by_cases hbad : 64 ≤ s.rem.length ∨ Q < k0
        · have hh : Calls Try.prog 19 #[.pointer (some ⟨K.b, 0, none⟩)] wr fun e w' => e = .returned (.tuple #[.int .i64 0, .int .i64 132]) ∧ w' = wr := hha.mono fun e w' h => by rw [if_pos hbad] at h; exact h
          have hq := HH.out.q
          have HREL := Lib.hid (show ∃ (i' : Nat) (s' : SS), i' ≤ n ∧ Value.int .i64 ((i : Int) + 1) = .int .i64 i' ∧ Value.int .i64 s.rem.length = .int .i64 s'.rem.length ∧ HIn w wr K ub qb Q i' s' from ⟨i + 1, s, by omega, by go_num, rfl, HH.out.ok.skip, HH.out.ses, HH.out.used, HH.out.q, HH.out.below⟩)
          clear hha
          by_cases h64 : (s.rem.length : Int) < 64
          · have hqs : ¬ (s.rem.length : Int) ≤ Q := by omega
            clear hbad hkl
            go_wp2_with fail
            refine hh.mono ?_
            clear hh hci
            rintro e w10 ⟨rfl, rfl⟩
            go_wp2_with fail
            go_roundw
            case rel => exact HREL.out
            case measure => simp [intOf]; omega
          · clear hbad hkl
            go_wp2_with fail
            refine hh.mono ?_
            clear hh hci
            rintro e w10 ⟨rfl, rfl⟩
            go_wp2_with fail
            go_roundw
            case rel => exact HREL.out
            case measure => simp [intOf]; omega
        · have hh : Calls Try.prog 19 #[.pointer (some ⟨K.b, 0, none⟩)] wr fun e w' => e = .returned (.tuple #[.int .i64 k0, .int .i64 0]) ∧ SesIn w' K (s.addH k0) ∧ SMv K wr w' := hha.mono fun e w' h => by rw [if_neg hbad] at h; exact h
          have hl63 : s.rem.length < 64 := by omega
          have hk63 : (k0 : Int) ≤ 63 := by omega
          have hkQ : (k0 : Int) ≤ Q := by omega
          clear hha hbad
          go_wp2_with fail
          refine hh.mono ?_
          clear hh hci
          rintro e w10 ⟨rfl, hs10, hm10⟩
          have HS10 := Lib.hid hs10
          have hu10 := keep_used HH.out.used hm10 HU.out.1
          have HU10 := Lib.hid hu10
          have hq10 := keep_cell HH.out.q hm10 HLO.out.2
          have HQ10 := Lib.hid hq10
          have HB10 := Lib.hid (live_step HH.out.below hm10 HLO.out.1)
          have uk := hu10.cell (j := k0) (by omega)
          rw [decide_eq_false HK0.out.2] at uk
          clear hs10 hm10 hu10
          go_wp2_with fail
          go_loopw [21] (fun v21 wr => ∃ (t : Nat), t ≤ k0 ∧ v21 = .int .i64 t ∧ wr = w10) (fun v21 _ => k0 - (intOf v21).toNat)
          case atStart => exact ⟨0, Nat.zero_le _, rfl, rfl⟩
          case round =>
            obtain ⟨t, ht, rfl, rfl⟩ := hrel
            by_cases htn : (t : Int) < k0
            · have ut := HU10.out.cell (j := t) (by omega)
              rw [decide_eq_true (HK0.out.1 t (by omega))] at ut
              go_wp2_with fail
              go_roundw
              case rel => exact ⟨t + 1, by omega, by go_num, by first | rfl | trivial⟩
              case measure => simp [intOf]; omega
            · obtain rfl : t = k0 := by omega
              have fz := HU10.out.fz
              go_upto_region 48 with fail
              have hne : ub ≠ qb := HU.out.2.1
              have HU11 := Lib.hid (HU10.out.set (j := t) (by omega) true (l' := s.rem ++ [((t : Int), (t : Int) + 10)]) (decide_eq_true (by simp)).symm (fun i hi => by simp; omega))
              have HQ11 := Lib.hid (keep_set (b := ub) (i := t) (u := .bool true) HQ10.out (fun e => HU.out.2.1 e.symm))
              have hs11 := ses_set (b := ub) (i := t) (u := .bool true) HS10.out HU.out.1
              have HB11 := Lib.hid (HB10.out.setCell (p := ⟨ub, t, none⟩) HU.out.2.2 (.bool true))
              clear fz uk hq10 htn ht
              generalize wr.setCell ⟨ub, t, none⟩ (.bool true) = w11 at *
              have hrm := remote_any w11 K (s.addH t) ((t : Int) + 10) t hs11 (by unfold IsI64; omega) (by show (s.rem ++ [_]).length < _; rw [List.length_append, List.length_singleton]; unfold maxLen; omega)
              have hrm' : Calls Try.prog 27 #[.pointer (some ⟨K.b, 0, none⟩), .int .i64 ((t : Int) + 10), .int .i64 t] w11 fun e w' => e = .returned (.int .i64 0) ∧ SesIn w' K ((s.addH t).bind ((t : Int) + 10) t) ∧ SMv K w11 w' := hrm.mono fun e w' h => by
                rcases h with ⟨h1, _⟩ | ⟨_, h⟩
                · exact absurd h1 (HH.out.ok.good HK0.out hl63)
                · exact h
              clear hrm hs11
              go_wp2_with fail
              refine hrm'.mono ?_
              clear hrm'
              rintro e w12 ⟨rfl, hs12, hm12⟩
              have HS12 := Lib.hid hs12
              have HU12 := Lib.hid (keep_used HU11.out hm12 HU.out.1)
              have HQ12 := Lib.hid (keep_cell HQ11.out hm12 HLO.out.2)
              have HB12 := Lib.hid (live_step HB11.out hm12 HLO.out.1)
              have hloc := local_any w12 K _ ((t : Int) + 10) hs12
              clear hs12 hm12
              go_wp2_with fail
              refine hloc.mono ?_
              clear hloc
              rintro e w13 ⟨hd, is, rfl, hyes, hno, hb13⟩
              have hrr := more_rem (s := s) (k := t) HK0.out.2
              rw [hrr] at hyes hno
              have his : is = true := by
                cases is
                · exact absurd rfl ((hno rfl).2 (by omega) ((t : Int), (t : Int) + 10) (by simp))
                · rfl
              subst his
              have hhd : hd = (t : Int) := by
                rcases List.mem_append.1 (hyes rfl).2 with h | h
                · have := (HH.out.ok.keys _ h).2.2
                  simp only at this
                  omega
                · simp at h
                  exact h
              subst hhd
              have hm13 := SMv.of_below (K := K) hb13
              have HU13 := Lib.hid (keep_used HU12.out hm13 HU.out.1)
              have HQ13 := Lib.hid (keep_cell HQ12.out hm13 HLO.out.2)
              have HS13 := Lib.hid (HS12.out.below hb13)
              have HB13 := Lib.hid (HB12.out.trans (hb13.mono HB12.out.size))
              have har := arrive_any w13 K _ (i : Int) (t : Int) tagT false HS13.out (by unfold IsI64; omega) (by have := HH.out.ok.cnt; show s.arr.length < _; unfold maxLen; omega)
              rw [HH.out.ok.arrive HK0.out (by omega)] at har
              have har' : Calls Try.prog 20 #[.pointer (some ⟨K.b, 0, none⟩), .int .i64 i, .int .i64 t, .string ⟨#[116]⟩, .bool false] w13 fun e w' => e = .returned (.int .i64 0) ∧ SesIn w' K (s.more t i) ∧ SMv K w13 w' := har
              clear hyes hno hb13 hm13 hrr har
              go_wp2_with fail
              refine har'.mono ?_
              clear har'
              rintro e w14 ⟨rfl, hs14, hm14⟩
              have HREL := Lib.hid (show ∃ (i' : Nat) (s' : SS), i' ≤ n ∧ Value.int .i64 ((i : Int) + 1) = .int .i64 i' ∧ Value.int .i64 ((s.rem.length : Int) + 1) = .int .i64 s'.rem.length ∧ HIn w w14 K ub qb Q i' s' from ⟨i + 1, s.more t i, by omega, by go_num, by rw [show (s.more t i).rem = s.rem ++ [((t : Int), (t : Int) + 10)] from more_rem HK0.out.2, List.length_append, List.length_singleton]; go_num, HH.out.ok.more HK0.out hl63, hs14, by rw [show (s.more t i).rem = s.rem ++ [((t : Int), (t : Int) + 10)] from more_rem HK0.out.2]; exact keep_used HU13.out hm14 HU.out.1, keep_cell HQ13.out hm14 HLO.out.2, live_step HB13.out hm14 HLO.out.1⟩)
              clear hs14 hm14
              go_wp2_with fail
              go_roundw
              case rel => exact HREL.out
              case measure => simp [intOf]; omega
    · go_wp2_with fail
      go_ret
      exact ⟨rfl, HH.out.below⟩
end Go.Proofs.Ytbkimebmoafbnaa
