/-
  The reference's frame: a part of its walk.
  StreamCuts' awake: the chapter's first examples. No conditions.
  The reference's stream: byte. Conditions: it lies in a block of its own.
-/
import Derived.Test.YtofdpccjpodbhaaMg23
import Derived.Test.YtofdpccjpodbhaaStrT
import Derived.Test.YtofdpccjpodbhaaMg21
import Derived.Test.YtofdpccjpodbhaaMg07
namespace Go.Proofs.Ytofdpccjpodbhaa
open Go.RowKit
set_option linter.unusedVariables false

set_option maxHeartbeats 8000000 in
set_option maxRecDepth 20000 in
theorem rfrC (w : World) (r B fr : Nat) (s : SM) (p : Option Addr) (n d : Nat) (HS : Hid (InR w r B fr s (.slice p n d))) (HN : Hid (s.held.length = n)) (hz : n ≤ 140737488355328) :
    (rfrB w r B fr s p n d HS HN hz).1 := by
  intro x hx HX HVL HRW w1 HX1 H4 h4' u3 u5 V1 V2 V3 V4 V5 V6 V7 V8 V9 V10 V11 V12 V13 V14 V15 V16 V17 V18 V19 V20 V21 V22 V23 V24 V25 V26 V27 V28 V29 V30 V31 V32 V33 V34 V35 V36 V37 V38 V39 V40 V41 V42 V43 V44 V45 V46 V47 V48 V49 V50 V51 V52 V53 V54 V55 V56 V57 V58 V59 V60 V61 V62 V63 V64 V65 V66 V67 f w3 V68 V69 T C X Y pl er wc u7 u9 u10 u11 u12 u13 u14 u15 u16 u17 u18 u19 u20 u21 u22 u23 u24 u25 u26 u27 u28 u29 u30 u31 u32 u33 u34 u35 u36 u37 u38 u39 u40 u41 u42 u43 u44 u45 u46 u47 u48 u49 u50 u51 u52 u53 u54 u55 u56 u57 u58 u59 u60 u61 u62 u63 u64 u65 u66 u67 u68 u69 u70 u71 u72 u73 u74 u75 xf ea ne ce ba nb cb f2 h5 g5 a5 hit hq
  have H5 := Lib.hid h5
  have G5 := Lib.hid g5
  have HIT := Lib.hid hit
  have F2 := Lib.hid f2
  have HQ0 := Lib.hid hq
  clear h5 g5 hit f2 hq hx
  by_cases q1 : er ≠ 0 ∧ er ≠ 10
  · have t0 : (er != 0) = true := by simpa using q1.1
    have t1 : (er != 10) = true := by simpa using q1.2
    have HQ := Lib.hid (HQ0.out.trans (if_pos q1))
    clear q1
    go_wp2_with (refine wpList_store_row rfl 71 (.tmp 2) _ rfl x _ rfl rfl 71 _ a5 (by as_aux_lemma => kernel_rfl) (by as_aux_lemma => kernel_rfl) (by as_aux_lemma => kernel_rfl) ?_)
    have hh := setRow_heap wc x _ #[.int .i64 0, .int .i64 0, .int .i64 0, .int .i64 0, .slice none 0 0, .slice none 0 0] _ _ a5
    refine bodyPost_ret (results_cell_tmp rfl _ _ x _ _ _ _ (.int .i64 er) rfl rfl hh Try.underlying71 rfl (by kernel_rfl)) rfl ?_
    rw [HQ.out]
    exact RFPost.set (Nat.le_of_eq HX.out) H5.out G5.out HRW.out HVL.out (ItO.no _ _) (by simp [Value.ownBlock]) (by simp [Value.ownBlock]) rfl rfl
  · have q2 : er = 10 ∨ er = 0 := by omega
    have HQ1 := Lib.hid (HQ0.out.trans (if_neg q1))
    clear q1
    have c2 : wc.cell? ⟨r, 2, none⟩ = some (.slice p _ d) := (cell_of_row _ _ 2 _ _ _ H5.out.row).trans rfl
    have c6 : wc.cell? ⟨r, 6, none⟩ = some (.int .i64 s.kind) := (cell_of_row _ _ 6 _ _ _ H5.out.row).trans rfl
    by_cases h6 : 6 ≤ s.held.length
    · rw [HN.out] at h6
      try exact absurd h6 (by decide)
      all_goals
        have hb5 := H5.out.held.slice.2
        have hcap := hb5.cap
        unfold maxLen at hcap
        have hle := hb5.le
        obtain ⟨g, o, hp, hgl, hcell⟩ := hb5.at_ (by omega)
        have k5 := hcell 5 (by omega)
        have hy8 := (s.held.getD 5 0).toNat_lt
        obtain ⟨y, hy⟩ : ∃ y, (s.held.getD 5 0).toNat = y := ⟨_, rfl⟩
        rw [hy] at k5 hy8
        have HQ1y := HQ1.out
        rw [hy] at HQ1y
        have HQ2y := Lib.hid HQ1y
        clear HQ1y
        subst hp
        clear hy hcell hb5
        have h6' : 6 ≤ (n : Int) := by omega
        by_cases hk : (y : Int) = s.kind
        · have HQ2 := Lib.hid (HQ2y.out.trans (if_neg (fun h => h.2 hk)))
          have t5 : ((y : Int) != s.kind) = false := by simpa using hk
          clear h6 hk
          rcases q2 with rfl | rfl
          · have HQ3 := Lib.hid (HQ2.out.trans (if_pos rfl))
            go_upto_region 12 with fail
            go_quiet (fail)
            have hdn := drewN_below wc nq
            have a6 : (wc.drewN nq).heap[x]? = some (.cells #[.int .i64 0, .int .i64 0, .int .i64 0, .int .i64 0, .slice none 0 0, .slice none 0 0] 71 (0, 0)) := a5
            have f6 : (wc.drewN nq).heap[xf]? = some (.cells #[.int .i64 T, .int .i64 C, .slice ea ne ce, .slice ba nb cb] 24 (0, 0)) := F2.out
            have H6 := Lib.hid (H5.out.below hdn)
            have G6 := Lib.hid (grown_trans G5.out (grown_below hdn))
            have HIT6 := Lib.hid (And.intro (HIT.out.1.of_below hdn) (And.intro (HIT.out.2.1.of_below hdn) HIT.out.2.2))
            generalize wc.drewN nq = w6 at *
            clear a5 hdn
            go_wp2_with (refine wpList_store_row rfl 71 (.tmp 2) _ rfl x _ rfl rfl 71 _ a6 (by as_aux_lemma => kernel_rfl) (by as_aux_lemma => kernel_rfl) (by as_aux_lemma => kernel_rfl) ?_)
            have hh := setRow_heap w6 x _ #[.int .i64 0, .int .i64 0, .int .i64 0, .int .i64 0, .slice none 0 0, .slice none 0 0] _ _ a6
            refine bodyPost_ret (results_cell_tmp rfl _ _ x _ _ _ _ (.int .i64 0) rfl rfl hh Try.underlying71 rfl (by kernel_rfl)) rfl ?_
            rw [HQ3.out]
            exact RFPost.set (Nat.le_of_eq HX.out) H6.out G6.out HRW.out HVL.out (ItO.no _ _) (by simp [Value.ownBlock]) (by simp [Value.ownBlock]) rfl rfl
          · have HQ3 := Lib.hid (HQ2.out.trans (if_neg (by decide)))
            go_upto_region 12 with fail
            go_quiet (fail)
            have hdn := drewN_below wc nq
            have a6 : (wc.drewN nq).heap[x]? = some (.cells #[.int .i64 0, .int .i64 0, .int .i64 0, .int .i64 0, .slice none 0 0, .slice none 0 0] 71 (0, 0)) := a5
            have f6 : (wc.drewN nq).heap[xf]? = some (.cells #[.int .i64 T, .int .i64 C, .slice ea ne ce, .slice ba nb cb] 24 (0, 0)) := F2.out
            have H6 := Lib.hid (H5.out.below hdn)
            have G6 := Lib.hid (grown_trans G5.out (grown_below hdn))
            have HIT6 := Lib.hid (And.intro (HIT.out.1.of_below hdn) (And.intro (HIT.out.2.1.of_below hdn) HIT.out.2.2))
            generalize wc.drewN nq = w6 at *
            clear a5 hdn
            have d0 : w6.cell? ⟨xf, 0, none⟩ = some (.int .i64 T) := (cell_of_row _ _ 0 _ _ _ f6).trans rfl
            have d1 : w6.cell? ⟨xf, 1, none⟩ = some (.int .i64 C) := (cell_of_row _ _ 1 _ _ _ f6).trans rfl
            have d2 : w6.cell? ⟨xf, 2, none⟩ = some (.slice ea ne ce) := (cell_of_row _ _ 2 _ _ _ f6).trans rfl
            have d3 : w6.cell? ⟨xf, 3, none⟩ = some (.slice ba nb cb) := (cell_of_row _ _ 3 _ _ _ f6).trans rfl
            go_wp2_with (refine wpList_store_row rfl 71 (.tmp 2) _ rfl x _ rfl rfl 71 _ a6 (by as_aux_lemma => kernel_rfl) (by as_aux_lemma => kernel_rfl) (by as_aux_lemma => kernel_rfl) ?_)
            have hh := setRow_heap w6 x _ #[.int .i64 2, .int .i64 0, .int .i64 T, .int .i64 C, .slice ea ne ce, .slice ba nb cb] _ _ a6
            refine bodyPost_ret (results_cell_tmp rfl _ _ x _ _ _ _ (.int .i64 0) rfl rfl hh Try.underlying71 rfl (by kernel_rfl)) rfl ?_
            rw [HQ3.out]
            exact RFPost.set (Nat.le_of_eq HX.out) H6.out G6.out HRW.out HVL.out ⟨fun h => absurd h (by simp), HIT6.out.1, HIT6.out.2.1, HIT6.out.2.2.1⟩ HIT6.out.2.2.2.1 HIT6.out.2.2.2.2 rfl rfl
        · have HQ2 := Lib.hid (HQ2y.out.trans (if_pos ⟨by rw [HN.out]; exact h6, hk⟩))
          have t5 : ((y : Int) != s.kind) = true := by simpa using hk
          clear h6 hk
          rcases q2 with rfl | rfl
          all_goals
            go_upto_region 12 with fail
            go_quiet (fail)
            have hdn := drewN_below wc nq
            have a6 : (wc.drewN nq).heap[x]? = some (.cells #[.int .i64 0, .int .i64 0, .int .i64 0, .int .i64 0, .slice none 0 0, .slice none 0 0] 71 (0, 0)) := a5
            have f6 : (wc.drewN nq).heap[xf]? = some (.cells #[.int .i64 T, .int .i64 C, .slice ea ne ce, .slice ba nb cb] 24 (0, 0)) := F2.out
            have H6 := Lib.hid (H5.out.below hdn)
            have G6 := Lib.hid (grown_trans G5.out (grown_below hdn))
            have HIT6 := Lib.hid (And.intro (HIT.out.1.of_below hdn) (And.intro (HIT.out.2.1.of_below hdn) HIT.out.2.2))
            generalize wc.drewN nq = w6 at *
            clear a5 hdn
            go_wp2_with (refine wpList_store_row rfl 71 (.tmp 2) _ rfl x _ rfl rfl 71 _ a6 (by as_aux_lemma => kernel_rfl) (by as_aux_lemma => kernel_rfl) (by as_aux_lemma => kernel_rfl) ?_)
            have hh := setRow_heap w6 x _ #[.int .i64 0, .int .i64 0, .int .i64 0, .int .i64 0, .slice none 0 0, .slice none 0 0] _ _ a6
            refine bodyPost_ret (results_cell_tmp rfl _ _ x _ _ _ _ (.int .i64 60) rfl rfl hh Try.underlying71 rfl (by kernel_rfl)) rfl ?_
            rw [HQ2.out]
            exact RFPost.set (Nat.le_of_eq HX.out) H6.out G6.out HRW.out HVL.out (ItO.no _ _) (by simp [Value.ownBlock]) (by simp [Value.ownBlock]) rfl rfl
    · rw [HN.out] at h6
      have HQ2 := Lib.hid (HQ1.out.trans (if_neg (fun h => h6 (by rw [← HN.out]; exact h.1))))
      have h6i : ¬ 6 ≤ (n : Int) := by omega
      have h6d : decide (6 ≤ (n : Int)) = false := by simpa using h6i
      clear h6
      rcases q2 with rfl | rfl
      · have HQ3 := Lib.hid (HQ2.out.trans (if_pos rfl))
        go_upto_region 12 with fail
        go_quiet (fail)
        have hdn := drewN_below wc nq
        have a6 : (wc.drewN nq).heap[x]? = some (.cells #[.int .i64 0, .int .i64 0, .int .i64 0, .int .i64 0, .slice none 0 0, .slice none 0 0] 71 (0, 0)) := a5
        have f6 : (wc.drewN nq).heap[xf]? = some (.cells #[.int .i64 T, .int .i64 C, .slice ea ne ce, .slice ba nb cb] 24 (0, 0)) := F2.out
        have H6 := Lib.hid (H5.out.below hdn)
        have G6 := Lib.hid (grown_trans G5.out (grown_below hdn))
        have HIT6 := Lib.hid (And.intro (HIT.out.1.of_below hdn) (And.intro (HIT.out.2.1.of_below hdn) HIT.out.2.2))
        generalize wc.drewN nq = w6 at *
        clear a5 hdn
        go_wp2_with (refine wpList_store_row rfl 71 (.tmp 2) _ rfl x _ rfl rfl 71 _ a6 (by as_aux_lemma => kernel_rfl) (by as_aux_lemma => kernel_rfl) (by as_aux_lemma => kernel_rfl) ?_)
        have hh := setRow_heap w6 x _ #[.int .i64 0, .int .i64 0, .int .i64 0, .int .i64 0, .slice none 0 0, .slice none 0 0] _ _ a6
        refine bodyPost_ret (results_cell_tmp rfl _ _ x _ _ _ _ (.int .i64 0) rfl rfl hh Try.underlying71 rfl (by kernel_rfl)) rfl ?_
        rw [HQ3.out]
        exact RFPost.set (Nat.le_of_eq HX.out) H6.out G6.out HRW.out HVL.out (ItO.no _ _) (by simp [Value.ownBlock]) (by simp [Value.ownBlock]) rfl rfl
      · have HQ3 := Lib.hid (HQ2.out.trans (if_neg (by decide)))
        go_upto_region 12 with fail
        go_quiet (fail)
        have hdn := drewN_below wc nq
        have a6 : (wc.drewN nq).heap[x]? = some (.cells #[.int .i64 0, .int .i64 0, .int .i64 0, .int .i64 0, .slice none 0 0, .slice none 0 0] 71 (0, 0)) := a5
        have f6 : (wc.drewN nq).heap[xf]? = some (.cells #[.int .i64 T, .int .i64 C, .slice ea ne ce, .slice ba nb cb] 24 (0, 0)) := F2.out
        have H6 := Lib.hid (H5.out.below hdn)
        have G6 := Lib.hid (grown_trans G5.out (grown_below hdn))
        have HIT6 := Lib.hid (And.intro (HIT.out.1.of_below hdn) (And.intro (HIT.out.2.1.of_below hdn) HIT.out.2.2))
        generalize wc.drewN nq = w6 at *
        clear a5 hdn
        have d0 : w6.cell? ⟨xf, 0, none⟩ = some (.int .i64 T) := (cell_of_row _ _ 0 _ _ _ f6).trans rfl
        have d1 : w6.cell? ⟨xf, 1, none⟩ = some (.int .i64 C) := (cell_of_row _ _ 1 _ _ _ f6).trans rfl
        have d2 : w6.cell? ⟨xf, 2, none⟩ = some (.slice ea ne ce) := (cell_of_row _ _ 2 _ _ _ f6).trans rfl
        have d3 : w6.cell? ⟨xf, 3, none⟩ = some (.slice ba nb cb) := (cell_of_row _ _ 3 _ _ _ f6).trans rfl
        go_wp2_with (refine wpList_store_row rfl 71 (.tmp 2) _ rfl x _ rfl rfl 71 _ a6 (by as_aux_lemma => kernel_rfl) (by as_aux_lemma => kernel_rfl) (by as_aux_lemma => kernel_rfl) ?_)
        have hh := setRow_heap w6 x _ #[.int .i64 2, .int .i64 0, .int .i64 T, .int .i64 C, .slice ea ne ce, .slice ba nb cb] _ _ a6
        refine bodyPost_ret (results_cell_tmp rfl _ _ x _ _ _ _ (.int .i64 0) rfl rfl hh Try.underlying71 rfl (by kernel_rfl)) rfl ?_
        rw [HQ3.out]
        exact RFPost.set (Nat.le_of_eq HX.out) H6.out G6.out HRW.out HVL.out ⟨fun h => absurd h (by simp), HIT6.out.1, HIT6.out.2.1, HIT6.out.2.2.1⟩ HIT6.out.2.2.2.1 HIT6.out.2.2.2.2 rfl rfl
end Go.Proofs.Ytofdpccjpodbhaa

namespace Go.Proofs.Ytofdpccjpodbhaa
open Go.RowKit
set_option linter.unusedVariables false

theorem aw_take1 : takeR (SM.new 512) [76, 83, 72, 82, 0, 1, 0, 0, 9] = (⟨1, [], 8, 8, 512, 0, false, 0, 0⟩, ⟨1, 0, 0, 0, [], []⟩, 8) := by kernel_rfl
theorem aw_take2 : takeR ⟨1, [], 8, 8, 512, 0, false, 0, 0⟩ [0, 0, 0, 10, 2, 0, 0, 5, 65, 66] = (⟨1, [], 18, 18, 512, 10, false, 0, 0⟩, ⟨2, 0, 0, 5, [], [65, 66]⟩, 10) := by kernel_rfl

theorem Mv.below {b n0 : Nat} {w w1 W : World} {hv : Value} (h : Mv b (.slice none 0 0) w1 hv W) (hg : w.grownBy w1 none) (hb : w.heap.size ≤ b) : Below w.heap.size w W :=
  ⟨h.os.trans hg.os, h.tape.trans hg.tape, h.output.trans hg.output, Nat.le_trans hg.size h.size, fun k hk => (h.block k (Nat.lt_of_lt_of_le hk hg.size) (by omega) (by simp [Value.ownBlock])).trans (hg.block k hk (by simp))⟩
theorem Mv.of_below {b : Nat} {hv : Value} {W W' : World} (h : Below W.heap.size W W') : Mv b hv W hv W' := ⟨h.os, h.tape, h.output, h.size, fun k hk _ _ => h.block k hk, .inr (.inl rfl)⟩
theorem StS.below {W W' : World} {b B : Nat} {s : SM} {hv : Value} (h : StS W b B s hv) (hb : Below W.heap.size W W') : StS W' b B s hv :=
  ⟨⟨(hb.block b (Array.getElem?_eq_some_iff.1 h.ins.row).1).trans h.ins.row, h.ins.held.of_below hb, h.ins.lt, Nat.le_trans h.ins.le hb.size⟩, h.ok⟩

set_option maxHeartbeats 4000000 in
set_option maxRecDepth 20000 in
theorem awake6_any (w : World) :
    Calls Try.prog 25 #[] w fun e w' => e = .returned (.bool true) ∧ Below w.heap.size w w' := by
  have hn := new_ok w 512 (by decide)
  go_enter Try.func25, Try.ntmps25
  go_wp2_with fail
  refine hn.mono ?_
  clear hn
  rintro e w1 ⟨rfl, hst, hg⟩
  obtain ⟨b, hb⟩ : ∃ b, w.heap.size = b := ⟨_, rfl⟩
  have HW : Hid (w.grownBy w1 none ∧ w.heap.size = b) := Lib.hid ⟨hg, hb⟩
  rw [hb] at hst ⊢
  clear hg hb
  have hB := new_bad w1 511 (by decide)
  go_wp2_with fail
  refine hB.mono ?_
  clear hB
  rintro e w1' ⟨rfl, rfl⟩
  have hE := expect_any w1' b (b + 1) (SM.new 512) _ hst
  rw [show expectR (SM.new 512) = (SM.new 512, 4) from rfl] at hE
  go_wp2_with fail
  refine hE.mono ?_
  clear hE hst
  rintro e w2 ⟨rfl, hst, hg⟩
  have hm := Mv.of_grown (hv := .slice none 0 0) hg
  clear hg
  go_upto_region 6 with fail
  have i1 := BytesIn.new w2 #[.int .u8 76, .int .u8 83, .int .u8 72, .int .u8 82, .int .u8 0, .int .u8 1, .int .u8 0, .int .u8 0, .int .u8 9] 5 (0, 0) [76, 83, 72, 82, 0, 1, 0, 0, 9] 9 rfl rfl (by decide)
  have d1 : Below w2.heap.size w2 (w2.alloc (.cells #[.int .u8 76, .int .u8 83, .int .u8 72, .int .u8 82, .int .u8 0, .int .u8 1, .int .u8 0, .int .u8 0, .int .u8 9] 5)) := (Below.refl _ _).alloc (Nat.le_refl _) _
  have hb2 := (Array.getElem?_eq_some_iff.1 hst.ins.row).1
  have hT := take_any _ b (b + 1) _ _ _ 9 9 _ (hst.below d1) i1 (fun _ a e => by cases e; exact ⟨by simp only; omega, by simp [Value.ownBlock]⟩)
  have hm1 := hm.trans (Mv.of_below (b := b) d1)
  unfold TakePost at hT
  rw [aw_take1] at hT
  simp only [Itm.val] at hT
  clear i1 d1 hst hm
  go_wp2_with fail
  refine hT.mono ?_
  clear hT
  rintro e w3 ⟨hv1, ve1, vb1, rfl, hst, hm2, hit, _, _⟩
  have hm := hm1.trans hm2
  obtain ⟨pe1, ce1, rfl, _⟩ := hit.ext.bytes
  obtain ⟨pb1, cb1, rfl, _⟩ := hit.body.bytes
  simp only [List.length_nil]
  clear hm1 hm2 hit hb2
  go_upto_region 7 with fail
  have r4 := heap_alloc_new w3 (.cells #[.int .i64 1, .int .i64 0, .int .i64 0, .int .i64 0, .slice pe1 0 ce1, .slice pb1 0 cb1] 71)
  have d4 : Below w3.heap.size w3 (w3.alloc (.cells #[.int .i64 1, .int .i64 0, .int .i64 0, .int .i64 0, .slice pe1 0 ce1, .slice pb1 0 cb1] 71)) := (Below.refl _ _).alloc (Nat.le_refl _) _
  have hst4 := hst.below d4
  have hm4 := hm.trans (Mv.of_below (b := b) d4)
  have z4 : w3.heap.size < (w3.alloc (.cells #[.int .i64 1, .int .i64 0, .int .i64 0, .int .i64 0, .slice pe1 0 ce1, .slice pb1 0 cb1] 71)).heap.size := by simp
  have hb3 := (Array.getElem?_eq_some_iff.1 hst.ins.row).1
  have hh3 := hst.held_lt
  generalize (w3.alloc (.cells #[.int .i64 1, .int .i64 0, .int .i64 0, .int .i64 0, .slice pe1 0 ce1, .slice pb1 0 cb1] 71)) = w4 at *
  obtain ⟨x4, hx4⟩ : ∃ x, w3.heap.size = x := ⟨_, rfl⟩
  rw [hx4] at r4 hb3 hh3 z4 ⊢
  clear hst hm d4 hx4
  have i1 := BytesIn.new w4 #[.int .u8 0, .int .u8 0, .int .u8 0, .int .u8 10, .int .u8 2, .int .u8 0, .int .u8 0, .int .u8 5, .int .u8 65, .int .u8 66] 5 (0, 0) [0, 0, 0, 10, 2, 0, 0, 5, 65, 66] 10 rfl rfl (by decide)
  have d1 : Below w4.heap.size w4 (w4.alloc (.cells #[.int .u8 0, .int .u8 0, .int .u8 0, .int .u8 10, .int .u8 2, .int .u8 0, .int .u8 0, .int .u8 5, .int .u8 65, .int .u8 66] 5)) := (Below.refl _ _).alloc (Nat.le_refl _) _
  have hT := take_any _ b (b + 1) _ _ _ 10 10 _ (hst4.below d1) i1 (fun _ a e => by cases e; exact ⟨by simp only; omega, fun h => by have := hst4.held_lt _ h; simp only at this; omega⟩)
  have hm1 := hm4.trans (Mv.of_below (b := b) d1)
  have r4' := (d1.block x4 z4).trans r4
  have z4' := Nat.lt_of_lt_of_le z4 d1.size
  unfold TakePost at hT
  rw [aw_take2] at hT
  simp only [Itm.val] at hT
  clear i1 d1 hst4 hm4 r4 z4
  go_wp2_with fail
  refine hT.mono ?_
  clear hT
  rintro e w5 ⟨hv2, ve2, vb2, rfl, hst, hm2, hit, _, _⟩
  have hm := hm1.trans hm2
  have r5 := (hm2.block x4 z4' (by omega) (fun h => by have := hh3 _ h; omega)).trans r4'
  have z5 := Nat.lt_of_lt_of_le z4' hm2.size
  obtain ⟨pe2, ce2, rfl, _⟩ := hit.ext.bytes
  obtain ⟨pb2, cb2, rfl, _⟩ := hit.body.bytes
  simp only [List.length_nil, List.length_cons, Nat.reduceAdd]
  have ho2 := hit.body
  simp only [List.length_nil, List.length_cons, Nat.reduceAdd] at ho2
  have hbb := Nat.lt_trans hb3 z4'
  generalize (w4.alloc (.cells #[.int .u8 0, .int .u8 0, .int .u8 0, .int .u8 10, .int .u8 2, .int .u8 0, .int .u8 0, .int .u8 5, .int .u8 65, .int .u8 66] 5)).heap.size = n5 at *
  clear hm1 hm2 hit r4' z4'
  go_upto_region 8 with fail
  have hb5 := (Array.getElem?_eq_some_iff.1 hst.ins.row).1
  have r6 := heap_alloc_new w5 (.cells #[.int .i64 2, .int .i64 0, .int .i64 0, .int .i64 5, .slice pe2 0 ce2, .slice pb2 2 cb2] 71)
  have d6 : Below w5.heap.size w5 (w5.alloc (.cells #[.int .i64 2, .int .i64 0, .int .i64 0, .int .i64 5, .slice pe2 0 ce2, .slice pb2 2 cb2] 71)) := (Below.refl _ _).alloc (Nat.le_refl _) _
  have hst6 := hst.below d6
  have hm6 := hm.trans (Mv.of_below (b := b) d6)
  have ho6 := ho2.of_below d6
  have q6 := (d6.block x4 z5).trans r5
  have z6 : w5.heap.size < (w5.alloc (.cells #[.int .i64 2, .int .i64 0, .int .i64 0, .int .i64 5, .slice pe2 0 ce2, .slice pb2 2 cb2] 71)).heap.size := by simp
  generalize (w5.alloc (.cells #[.int .i64 2, .int .i64 0, .int .i64 0, .int .i64 5, .slice pe2 0 ce2, .slice pb2 2 cb2] 71)) = w6 at *
  obtain ⟨x6, hx6⟩ : ∃ x, w5.heap.size = x := ⟨_, rfl⟩
  rw [hx6] at r6 z6 z5 hb5 ⊢
  clear hst hm d6 ho2 r5 hx6
  have hE := expect_any w6 b (b + 1) _ _ hst6
  rw [show expectR ⟨1, [], 18, 18, 512, 10, false, 0, 0⟩ = (⟨0, [], 18, 18, 512, 10, true, 0, 0⟩, 0) from rfl] at hE
  go_wp2_with fail
  refine hE.mono ?_
  clear hE hst6
  rintro e w7 ⟨rfl, hst, hg⟩
  have hm := hm6.trans (Mv.of_grown hg)
  have ho7 := ho6.kept hg (ho6.off' hbb)
  have q7 := (hg.block x4 (Nat.lt_trans z5 z6) (fun e => by have := Option.some.inj e; omega)).trans q6
  have r7 := (hg.block x6 z6 (fun e => by have := Option.some.inj e; omega)).trans r6
  have z7 := Nat.lt_of_lt_of_le z6 hg.size
  clear hg hm6 ho6 q6 r6 z6
  have hS := state_any w7 b (b + 1) _ _ hst
  simp only [SM.state, List.length_nil] at hS
  go_wp2_with fail
  refine hS.mono ?_
  clear hS
  rintro e w8 ⟨rfl, hb8⟩
  have hm8 := hm.trans (Mv.of_below (b := b) hb8)
  have ho8 := ho7.of_below hb8
  have q8 := (hb8.block x4 (Nat.lt_trans z5 z7)).trans q7
  have r8 := (hb8.block x6 z7).trans r7
  have z8 := Nat.lt_of_lt_of_le z7 hb8.size
  clear hb8 ho7 q7 r7 z7 hst hm
  go_upto_region 10 with fail
  have t9 := heap_alloc_new w8 (.cells #[.int .i64 18, .int .i64 0, .bool true, .int .i64 0, .int .i64 18] 49)
  have d9 : Below w8.heap.size w8 (w8.alloc (.cells #[.int .i64 18, .int .i64 0, .bool true, .int .i64 0, .int .i64 18] 49)) := (Below.refl _ _).alloc (Nat.le_refl _) _
  have hm9 := hm8.trans (Mv.of_below (b := b) d9)
  have ho9 := ho8.of_below d9
  have q9 := (d9.block x4 (Nat.lt_trans z5 z8)).trans q8
  have r9 := (d9.block x6 z8).trans r8
  generalize (w8.alloc (.cells #[.int .i64 18, .int .i64 0, .bool true, .int .i64 0, .int .i64 18] 49)) = w9 at *
  obtain ⟨x9, hx9⟩ : ∃ x, w8.heap.size = x := ⟨_, rfl⟩
  rw [hx9] at t9 ⊢
  have v1 := conv_str w9 22 9 5 Try.underlying22 Try.underlying5 Try.underlying9 ho9.slice.2 rfl
  have k0 : w9.cell? ⟨x4, 0, none⟩ = some (.int .i64 1) := (cell_of_row _ _ 0 _ _ _ q9).trans rfl
  have j0 : w9.cell? ⟨x6, 0, none⟩ = some (.int .i64 2) := (cell_of_row _ _ 0 _ _ _ r9).trans rfl
  have j3 : w9.cell? ⟨x6, 3, none⟩ = some (.int .i64 5) := (cell_of_row _ _ 3 _ _ _ r9).trans rfl
  have j5 : w9.cell? ⟨x6, 5, none⟩ = some (.slice pb2 2 cb2) := (cell_of_row _ _ 5 _ _ _ r9).trans rfl
  have t0 : w9.cell? ⟨x9, 0, none⟩ = some (.int .i64 18) := (cell_of_row _ _ 0 _ _ _ t9).trans rfl
  have t1 : w9.cell? ⟨x9, 1, none⟩ = some (.int .i64 0) := (cell_of_row _ _ 1 _ _ _ t9).trans rfl
  have t2 : w9.cell? ⟨x9, 2, none⟩ = some (.bool true) := (cell_of_row _ _ 2 _ _ _ t9).trans rfl
  have t4 : w9.cell? ⟨x9, 4, none⟩ = some (.int .i64 18) := (cell_of_row _ _ 4 _ _ _ t9).trans rfl
  have HM := Lib.hid hm9
  clear q9 r9 t9 hm8 ho8 q8 r8 hm9 ho9 d9 hx9
  go_wp2_with fail
  go_ret
  exact ⟨rfl, HM.out.below (n0 := 0) HW.out.1 (Nat.le_of_eq HW.out.2)⟩
end Go.Proofs.Ytofdpccjpodbhaa

namespace Go.Proofs.Ytofdpccjpodbhaa
open Go.RowKit
set_option linter.unusedVariables false

theorem rframe_any (w : World) (r B fr : Nat) (s : SM) (rv : Value) (hS : InR w r B fr s rv) (hz : s.held.length ≤ 140737488355328) :
    Calls Try.prog 75 #[.pointer (some ⟨r, 0, none⟩)] w (RFPost w r B s rv (rframe fr s)) := by
  obtain ⟨p, d, rfl, hrow⟩ := hS.cells
  exact (rfrA w r B fr s p _ d (Lib.hid hS) (Lib.hid rfl) hz).2 (Lib.hid ((rfrB w r B fr s p _ d (Lib.hid hS) (Lib.hid rfl) hz).2 (Lib.hid (rfrC w r B fr s p _ d (Lib.hid hS) (Lib.hid rfl) hz))))

/-- what proto or frame leaves -/
def RNPost (w : World) (r B : Nat) (rv : Value) (q : Nat × SM × Itm × Int) (e : Ending) (w' : World) : Prop :=
  ∃ ve vb, e = .returned (.tuple #[q.2.2.1.val ve vb, .int .i64 q.2.2.2]) ∧ InR w' r B q.1 q.2.1 rv ∧ w.grownBy w' (some r) ∧ ItO w.heap.size w' q.2.2.1 ve vb

def rprotoR (s : SM) : SM × Itm × Int :=
  if (readH s.held 0).2.2 = 10 then (s, .no, 0)
  else if (readH s.held 0).2.2 = 0 then ({ s with hdr := false, kind := if (readH s.held 0).1 = 3 then 1 else 0 }, ⟨1, (readH s.held 0).1, 0, 0, [], []⟩, 0)
  else (s, .no, (readH s.held 0).2.2)

theorem rproto_any (w : World) (r B fr : Nat) (s : SM) (rv : Value) (hS : InR w r B fr s rv) (hz : s.held.length ≤ 140737488355328) :
    Calls Try.prog 74 #[.pointer (some ⟨r, 0, none⟩)] w (RNPost w r B rv (fr, rprotoR s)) := by
  obtain ⟨p, d, rfl, hrow⟩ := hS.cells
  have hb := hS.held.slice.2
  obtain ⟨r1, r2, r3, hr⟩ : ∃ r1 r2 r3, readH s.held 0 = (r1, r2, r3) := ⟨_, _, _, rfl⟩
  unfold rprotoR
  rw [hr]
  by_cases h3 : r3 = 0
  · subst h3
    refine (rproto_ok w r _ _ _ _ _ p s.held.length d s.kind s.hdr s.held hrow hb hz r1 r2 hr).mono ?_
    rintro e w' ⟨rfl, hg, hh⟩
    simp only [if_neg (show ¬ (0 : Int) = 10 by decide), if_true]
    exact ⟨.slice none 0 0, .slice none 0 0, rfl, ⟨hh, hS.held.kept hg (hS.held.off' hS.lt), hS.lt, Nat.le_trans hS.le hg.size⟩, hg, ⟨fun h => absurd h (by simp), OwnBytes.nil _ _ _, OwnBytes.nil _ _ _, .inl rfl⟩⟩
  · refine (rproto_no w r _ _ _ _ _ p s.held.length d s.kind s.hdr s.held hrow hb hz r1 r2 r3 hr h3).mono ?_
    rintro e w' ⟨rfl, hbl⟩
    have e1 : (if r3 = 10 then (s, Itm.no, (0 : Int)) else if r3 = 0 then ({ s with hdr := false, kind := if r1 = 3 then 1 else 0 }, ⟨1, r1, 0, 0, [], []⟩, 0) else (s, Itm.no, r3)) = (s, Itm.no, if r3 = 10 then 0 else r3) := by
      rw [if_neg h3]
      split <;> rfl
    simp only [] at e1 ⊢
    rw [e1]
    exact ⟨.slice none 0 0, .slice none 0 0, rfl, hS.below hbl, grown_below hbl, .no _ _⟩

/-- behind the taking of a byte -/
def rsel (fr : Nat) (s : SM) : Nat × SM × Itm × Int := if s.hdr = true then (fr, rprotoR s) else ((rframe fr s).1, s, (rframe fr s).2.1, (rframe fr s).2.2)

theorem rsel_byte (fr : Nat) (s : SM) : rbyteN fr s = ((rsel fr s).1, if (rsel fr s).2.2.2 ≠ 0 then (rsel fr s).2.1.fail (rsel fr s).2.2.2 else if (rsel fr s).2.2.1.kind ≠ 0 then (rsel fr s).2.1.tell else (rsel fr s).2.1, (rsel fr s).2.2.1) := by
  unfold rbyteN rsel rprotoR
  split
  · split
    · simp [Itm.no]
    · split
      · simp
      · rename_i h1 h2
        rfl
  · rfl

theorem rframe_no (fr : Nat) (s : SM) (h : (rframe fr s).2.2 ≠ 0) : (rframe fr s).2.1 = .no := by
  revert h
  unfold rframe
  by_cases h1 : s.held.length < 4
  · simp only [if_pos h1]; intro _; trivial
  · simp only [if_neg h1]
    by_cases h2 : s.held.length = 4 ∧ s.held = [76, 83, 72, 82]
    · simp only [if_pos h2]; intro _; trivial
    · simp only [if_neg h2]
      generalize (if s.held.length = 4 then s.most else fr) = f
      generalize openR s.held 0 f = o
      by_cases h3 : o.2.2.2.2.2 ≠ 0 ∧ o.2.2.2.2.2 ≠ 10
      · simp only [if_pos h3]; intro _; trivial
      · simp only [if_neg h3]
        by_cases h4 : 6 ≤ s.held.length ∧ ((s.held.getD 5 0).toNat : Int) ≠ s.kind
        · simp only [if_pos h4]; intro _; trivial
        · simp only [if_neg h4]
          by_cases h5 : o.2.2.2.2.2 = 10
          · simp only [if_pos h5]; intro _; trivial
          · simp only [if_neg h5]; intro h; exact absurd rfl h

theorem rsel_no (fr : Nat) (s : SM) (h : (rsel fr s).2.2.2 ≠ 0) : (rsel fr s).2.2.1.kind = 0 := by
  unfold rsel at h ⊢
  split
  · rename_i h1
    rw [if_pos h1] at h
    unfold rprotoR at h ⊢
    simp only at h ⊢
    split
    · rfl
    · rename_i h2
      rw [if_neg h2] at h
      split
      · rename_i h3
        rw [if_pos h3] at h
        exact absurd rfl h
      · rfl
  · rename_i h1
    rw [if_neg h1] at h
    simp only at h ⊢
    rw [rframe_no fr s h]
    rfl

theorem rsel_held (fr : Nat) (s : SM) : (rsel fr s).2.1.held = s.held ∧ (rsel fr s).2.1.taken = s.taken := by
  unfold rsel
  split
  · unfold rprotoR
    split
    · exact ⟨rfl, rfl⟩
    · split <;> exact ⟨rfl, rfl⟩
  · exact ⟨rfl, rfl⟩

/-- what byte leaves -/
def RBPost (w : World) (r B : Nat) (rv : Value) (q : Nat × SM × Itm) (e : Ending) (w' : World) : Prop :=
  ∃ rv' ve vb, e = .returned (q.2.2.val ve vb) ∧ InR w' r B q.1 q.2.1 rv' ∧ Mv r rv w rv' w' ∧ ItO w.heap.size w' q.2.2 ve vb ∧ (q.2.2.kind ≠ 0 → rv' = .slice none 0 0)

/-- an item lies in a block of its own -/
def ItAt (W : World) (x : Nat) (it : Itm) (ve vb : Value) : Prop := W.heap[x]? = some (.cells #[.int .i64 it.kind, .int .i64 it.proto, .int .i64 it.T, .int .i64 it.ch, ve, vb] 71 (0, 0))

/-- how byte stands behind proto or frame -/
def RMid (w : World) (r B x y : Nat) (rv rv' : Value) (q : Nat × SM × Itm × Int) (wx : World) : Prop :=
  ∃ ve vb, InR wx r B q.1 q.2.1 rv' ∧ Mv r rv w rv' wx ∧ ItO w.heap.size wx q.2.2.1 ve vb ∧ ItAt wx y q.2.2.1 ve vb ∧ wx.heap[x]? = some (.cells #[.int .i64 0, .int .i64 0, .int .i64 0, .int .i64 0, .slice none 0 0, .slice none 0 0] 71 (0, 0)) ∧ (∀ j, rv'.ownBlock = some j → j ≠ x ∧ j ≠ y) ∧ (∀ j, ve.ownBlock = some j → j ≠ x ∧ j ≠ y) ∧ (∀ j, vb.ownBlock = some j → j ≠ x ∧ j ≠ y)
end Go.Proofs.Ytofdpccjpodbhaa
