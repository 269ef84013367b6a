/-
  MessageNames' walk: its last comparison.
-/
import Derived.Test.YtfjbjcaccfcakaaNamesA
namespace Go.Proofs.Ytfjbjcaccfcakaa
open Go.RowKit
set_option linter.unusedVariables false

set_option maxHeartbeats 8000000 in
set_option maxRecDepth 20000 in
theorem namesB (w : World) :
    (namesA w).1 := by
  intro A2 x wr u0 u9 u10 u11 u12 u13 u14 u15 u16 u17 u18 u19 u20 u21 i hi hlt A3 A4 A5 hi9 w2 g1 hlg1 hhg1 w3 b3 w4 g2 hlg2 hhg2 w5 b4 l3 l1 hw3 A6 A7 w6 K3 K1 HB6 hbd
  have K3d : Hid (w6.drew.heap[b3]? = some (.cells (msgB g1) 33 (0, 0))) := Lib.hid K3.out
  refine wp_region_any (by kernel_rfl) ?_
  change wpAny _ _ _ _ _ _ _ (World.drew _)
  refine wpAny_ready (rs := [0, 1]) (by kernel_rfl) (by simp) ?_
  refine AllReady.cons rfl (fun K hK => ?_) (AllReady.cons rfl (fun K hK => ?_) AllReady.nil)
  · refine step_load_row rfl 33 (.tmp 3) rfl b3 rfl 33 (msgB g1) (0, 0) _ K3d.out Try.underlying33 rfl (by as_aux_lemma => kernel_rfl) ?_
    refine hK _ _ ?_
    clear hK K
    refine wpAny_ready (rs := [1]) (by kernel_rfl) (by simp) ?_
    refine AllReady.cons rfl (fun K hK => ?_) AllReady.nil
    go_simp
    go_at_call 6
    refine (rblank_any w6.drew).mono ?_
    rintro e wb ⟨gr, rfl, hbb, hgr, hhr⟩
    dsimp only
    refine hK _ _ ?_
    clear hK K
    refine wpAny_ready (rs := [2]) (by kernel_rfl) (by simp) ?_
    refine AllReady.cons rfl (fun K hK => ?_) AllReady.nil
    go_simp
    go_at_call 5
    refine (same_blank wb g1 gr ((hbb.block g1 (Array.getElem?_eq_some_iff.1 K1.out).1).trans K1.out) hhr).mono ?_
    rintro e wc ⟨rfl, hbc⟩
    dsimp only
    refine hK _ _ ?_
    clear hK K
    refine wpAny_ready (rs := [3]) (by kernel_rfl) (by simp) ?_
    refine AllReady.cons rfl (fun K hK => ?_) AllReady.nil
    go_simp
    refine hK _ _ ?_
    clear hK K
    refine wpAny_done (by kernel_rfl) ?_ _
    have hfin : Below w.heap.size w wc := (HB6.out.trans ((hbd.trans hbb).mono HB6.out.size)).trans (hbc.mono (Nat.le_trans HB6.out.size hbb.size))
    have HFIN := Lib.hid hfin
    clear hfin hbb hbc hhr hgr
    go_wp2_with fail
    go_ret
    exact ⟨rfl, HFIN.out⟩
  · go_simp
    go_at_call 6
    refine (rblank_any w6.drew).mono ?_
    rintro e wb ⟨gr, rfl, hbb, hgr, hhr⟩
    dsimp only
    refine hK _ _ ?_
    clear hK K
    have k3b := (hbb.block b3 (Array.getElem?_eq_some_iff.1 K3d.out).1).trans K3d.out
    refine wpAny_ready (rs := [0]) (by kernel_rfl) (by simp) ?_
    refine AllReady.cons rfl (fun K hK => ?_) AllReady.nil
    refine step_load_row rfl 33 (.tmp 3) rfl b3 rfl 33 (msgB g1) (0, 0) _ k3b Try.underlying33 rfl (by as_aux_lemma => kernel_rfl) ?_
    refine hK _ _ ?_
    clear hK K k3b
    refine wpAny_ready (rs := [2]) (by kernel_rfl) (by simp) ?_
    refine AllReady.cons rfl (fun K hK => ?_) AllReady.nil
    go_simp
    go_at_call 5
    refine (same_blank wb g1 gr ((hbb.block g1 (Array.getElem?_eq_some_iff.1 K1.out).1).trans K1.out) hhr).mono ?_
    rintro e wc ⟨rfl, hbc⟩
    dsimp only
    refine hK _ _ ?_
    clear hK K
    refine wpAny_ready (rs := [3]) (by kernel_rfl) (by simp) ?_
    refine AllReady.cons rfl (fun K hK => ?_) AllReady.nil
    go_simp
    refine hK _ _ ?_
    clear hK K
    refine wpAny_done (by kernel_rfl) ?_ _
    have hfin : Below w.heap.size w wc := (HB6.out.trans ((hbd.trans hbb).mono HB6.out.size)).trans (hbc.mono (Nat.le_trans HB6.out.size hbb.size))
    have HFIN := Lib.hid hfin
    clear hfin hbb hbc hhr hgr
    go_wp2_with fail
    go_ret
    exact ⟨rfl, HFIN.out⟩
end Go.Proofs.Ytfjbjcaccfcakaa
