/-
  The walk of FrameHeads: it returns true. Conditions: the bytes lie in memory and are not past 2^20 bytes, the numbers are ones.
-/
import Derived.Test.YtofdpccjpodbhaaHeadsM
import Derived.Deep.DeepCutAuto
namespace Go.Proofs.Ytofdpccjpodbhaa
open Go.RowKit
set_option linter.unusedVariables false

def askH (P : Int) (j : Nat) : Int := [P, 0, 3, P, P].getD j 0

set_option maxHeartbeats 8000000 in
set_option maxRecDepth 20000 in
theorem heads_walk (w : World) (P at_ : Int) (a : Option Addr) (n c : Nat) (l : List UInt8) (h : BytesIn w a n c l) (hz : n ≤ 1048576) :
    Calls Try.prog 5 #[.int .i64 P, .slice a n c, .int .i64 at_] w fun e w' => e = .returned (.bool true) ∧ Below w.heap.size w w' := by
  have hle := h.le
  have hcap := h.cap
  unfold maxLen at hcap
  go_enter Try.func5, Try.ntmps5
  go_wp2_with fail
  refine (awake_any w).mono ?_
  rintro e w1 ⟨rfl, hb1⟩
  have H1 := Lib.hid (h.below hb1)
  have HB1 := Lib.hid hb1
  clear h hb1
  go_upto_region 6 with fail
  have s0 : ((w1.alloc (.cells #[.slice none 0 0] 31)).alloc (.cells #[.int .i64 P, .int .i64 0, .int .i64 3, .int .i64 P, .int .i64 P] 3)).heap[w1.heap.size]? = some (.cells #[.slice none 0 0] 31 (0, 0)) := (heap_alloc_old _ _ (by simp)).trans (heap_alloc_new _ _)
  have s1 : ((w1.alloc (.cells #[.slice none 0 0] 31)).alloc (.cells #[.int .i64 P, .int .i64 0, .int .i64 3, .int .i64 P, .int .i64 P] 3)).heap[w1.heap.size + 1]? = some (.cells #[.int .i64 P, .int .i64 0, .int .i64 3, .int .i64 P, .int .i64 P] 3 (0, 0)) := by
    have := heap_alloc_new (w1.alloc (.cells #[.slice none 0 0] 31)) (.cells #[.int .i64 P, .int .i64 0, .int .i64 3, .int .i64 P, .int .i64 P] 3)
    simpa using this
  have b0 : Below w1.heap.size w1 ((w1.alloc (.cells #[.slice none 0 0] 31)).alloc (.cells #[.int .i64 P, .int .i64 0, .int .i64 3, .int .i64 P, .int .i64 P] 3)) := ((Below.refl _ _).alloc (Nat.le_refl _) _).alloc (by simp) _
  have z0 : w1.heap.size + 2 ≤ ((w1.alloc (.cells #[.slice none 0 0] 31)).alloc (.cells #[.int .i64 P, .int .i64 0, .int .i64 3, .int .i64 P, .int .i64 P] 3)).heap.size := by simp
  generalize ((w1.alloc (.cells #[.slice none 0 0] 31)).alloc (.cells #[.int .i64 P, .int .i64 0, .int .i64 3, .int .i64 P, .int .i64 P] 3)) = wA at *
  have hS : Shelf5 w1 wA w1.heap.size (w1.heap.size + 2) (.slice none 0 0) [] (fun j => hdL (askH P j)) :=
    ⟨b0, Nat.le_refl _, by omega, z0, ⟨s0, World.ownsRow_nil _ _ _ _⟩, fun j hj => absurd hj (Nat.not_lt_zero _), fun i j hi => absurd hi (Nat.not_lt_zero _)⟩
  have HS := Lib.hid hS
  have HA := Lib.hid s1
  have hask : ∀ wr : World, wr.heap[w1.heap.size + 1]? = some (.cells #[.int .i64 P, .int .i64 0, .int .i64 3, .int .i64 P, .int .i64 P] 3 (0, 0)) → ∀ i, i < 5 → wr.cell? ⟨w1.heap.size + 1, i, none⟩ = some (.int .i64 (askH P i)) := fun wr hh i hi => by
    match i, hi with
    | 0, _ => simp [World.cell?, hh, askH]
    | 1, _ => simp [World.cell?, hh, askH]
    | 2, _ => simp [World.cell?, hh, askH]
    | 3, _ => simp [World.cell?, hh, askH]
    | 4, _ => simp [World.cell?, hh, askH]
  have HASK := Lib.hid hask
  clear s0 s1 b0 z0 hS hask
  go_wp2_with fail
  go_loopw [10] (fun s10 wr => ∃ (i : Nat) (vl : Value) (vs : List Value), i ≤ 5 ∧ s10 = .int .i64 i ∧ vs.length = i ∧ Shelf5 w1 wr w1.heap.size (w1.heap.size + 2) vl vs (fun j => hdL (askH P j)) ∧ Hid (wr.heap[w1.heap.size + 1]? = some (.cells #[.int .i64 P, .int .i64 0, .int .i64 3, .int .i64 P, .int .i64 P] 3 (0, 0)))) (fun s10 _ => 5 - (intOf s10).toNat)
  case atStart => exact ⟨0, _, [], by omega, rfl, rfl, HS.out, HA⟩
  case round =>
    clear HS HA
    obtain ⟨i, vl, vs, hi, rfl, hvl, hS, hA⟩ := hrel
    by_cases hlt : i < 5
    · have hc := HASK.out wr hA.out i hlt
      have hi5 : (i : Int) < 5 := by omega
      have HS := Lib.hid hS
      obtain ⟨q, hq⟩ : ∃ q, askH P i = q := ⟨_, rfl⟩
      rw [hq] at hc
      have HQ := Lib.hid hq
      clear hq hS
      go_wp2_with fail
      refine (Header_row wr q).mono ?_
      rintro e w2 ⟨p, k, cc, rfl, hb2, hrow⟩
      have hS2 := HS.out.below hb2
      have hbc := hS2.book.cell
      have hbr := hS2.book.row
      have hsz := hS2.size
      have hA2 : w2.heap[w1.heap.size + 1]? = _ := (hb2.block (w1.heap.size + 1) (Array.getElem?_eq_some_iff.1 hA.out).1).trans hA.out
      have hbl := hS2.book
      have HB2 := Lib.hid hb2
      have HROW := Lib.hid hrow
      have HA2 := Lib.hid hA2
      have HBK := Lib.hid hbl
      rw [hvl] at hbr
      clear hS2 hb2 hrow hA2 hA hbl hc
      go_upto_region 10 with fail
      go_wp2_with (at_builtin; refine wpList_append_val rfl (.tmp 61) (.tmp 63) 29 rfl (w1.heap.size + 2) 22 (.slice none 0 0) 24 Try.underlying29 info_row5 rfl vl i vs (.slice p k cc) rfl rfl rfl hbr ?h63 ?hbytes hsz ?_)
      case h63 => unfold maxLen; omega
      case hbytes => omega
      intro vl' w3 hr3 hg3 _ _
      obtain ⟨gg, cg, hvv, _, _⟩ := hr3.form (by omega)
      subst hvv
      have hh3 : w3.heap[w1.heap.size]? = some (.cells #[vl] 31 (0, 0)) := (hg3.block _ HBK.out.lt (row_not_block5 HBK.out.row HBK.out.at_ (by decide))).trans HBK.out.at_
      have hc3 : w3.cell? ⟨w1.heap.size, 0, none⟩ = some vl := by simp [World.cell?, hh3]
      have hf3 : w3.frozen? ⟨w1.heap.size, 0, none⟩ = false := by simp [World.frozen?, hh3]
      have hr3' : w3.ownsRow (w1.heap.size + 2) 22 1 (.slice (some ⟨gg, 0, none⟩) (i + 1) cg) (vs.length + 1) (vs ++ [.slice p k cc]) := by rw [hvl]; exact hr3
      have hput := HS.out.put HB2.out HROW.out hr3' hg3
      have hA3 : w3.heap[w1.heap.size + 1]? = _ := (hg3.block _ (Array.getElem?_eq_some_iff.1 HA2.out).1 (row_not_block5 HBK.out.row HA2.out (by decide))).trans HA2.out
      have hA4 : (w3.setCell ⟨w1.heap.size, 0, none⟩ (.slice (some ⟨gg, 0, none⟩) (i + 1) cg)).heap[w1.heap.size + 1]? = _ := (heap_setCell_other w3 ⟨w1.heap.size, 0, none⟩ (w1.heap.size + 1) (.slice (some ⟨gg, 0, none⟩) (i + 1) cg) (by show w1.heap.size + 1 ≠ w1.heap.size; omega)).trans hA3
      have hput2 : Shelf5 w1 (w3.setCell ⟨w1.heap.size, 0, none⟩ (.slice (some ⟨gg, 0, none⟩) (i + 1) cg)) w1.heap.size (w1.heap.size + 2) (.slice (some ⟨gg, 0, none⟩) (i + 1) cg) (vs ++ [.slice p k cc]) (fun j => hdL (askH P j)) := by
        refine ⟨hput.bel, hput.le1, hput.le2, hput.size, hput.book, fun j hj => ?_, hput.dist⟩
        have := hput.rows j hj
        by_cases hjl : j < vs.length
        · simp only [if_pos hjl] at this; exact this
        · simp only [if_neg hjl] at this
          have ej : j = i := by rw [List.length_append, List.length_singleton] at hj; omega
          have eq : askH P j = q := by rw [ej]; exact HQ.out
          show RowB _ _ _ (hdL (askH P j))
          rw [eq]
          exact this
      have HPUT := Lib.hid hput2
      have HA4 := Lib.hid hA4
      have hlen : (vs ++ [Value.slice p k cc]).length = i + 1 := by rw [List.length_append, hvl]; rfl
      have HLEN := Lib.hid hlen
      clear hput hput2 hA3 hA4 hr3 hr3' hg3 hh3 hlen hbr hbc hvl
      go_wp2_with fail
      go_roundw
      case rel => exact ⟨i + 1, _, _, by omega, by go_num, HLEN.out, HPUT.out, HA4⟩
      case measure => simp [intOf]; omega
    · have H5 : Hid (i = 5) := Lib.hid (by omega)
      have hi5 : ¬ (i : Int) < 5 := by omega
      obtain ⟨gl, cl, hvs, hgl1, hgl2⟩ := hS.book.row.form (by omega)
      rw [hvl] at hvs
      subst hvs
      have HS := Lib.hid hS
      have HV := Lib.hid hvl
      clear hS hvl
      go_wp2_with fail
      go_loopw [13] (fun s13 wq => ∃ (j : Nat), j ≤ 5 ∧ s13 = .int .i64 j ∧ Below wr.heap.size wr wq) (fun s13 _ => 5 - (intOf s13).toNat)
      case atStart => exact ⟨0, by omega, rfl, Below.refl _ _⟩
      case round =>
        obtain ⟨j, hj, rfl, hB⟩ := hrel
        by_cases hlt : j < 5
        · have hA1 := (hB.block (w1.heap.size + 1) (Array.getElem?_eq_some_iff.1 hA.out).1).trans hA.out
          have hc := HASK.out _ hA1 j hlt
          have hj5 : (j : Int) < 5 := by omega
          have hji : j < i := by rw [H5.out]; exact hlt
          have HB := Lib.hid hB
          obtain ⟨q, hq⟩ : ∃ q, askH P j = q := ⟨_, rfl⟩
          rw [hq] at hc
          have HQ := Lib.hid hq
          clear hq
          go_wp2_with fail
          refine (rHeader_row _ q).mono ?_
          rintro e w2 ⟨p1, k1, cc1, rfl, hb2, hrow1⟩
          have hB2 := HB.out.trans (hb2.mono HB.out.size)
          have hA2 := (hB2.block (w1.heap.size + 1) (Array.getElem?_eq_some_iff.1 hA.out).1).trans hA.out
          have hc2 := HASK.out _ hA2 j hlt
          rw [HQ.out] at hc2
          have HB2 := Lib.hid hB2
          have HR1 := Lib.hid hrow1
          clear hB2 hA1 hA2 hc hb2 hrow1
          go_wp2_with fail
          refine (Header_row _ q).mono ?_
          rintro e w3 ⟨p2, k2, cc2, rfl, hb3, _⟩
          have hB3 := HB2.out.trans (hb3.mono HB2.out.size)
          have hS3 := HS.out.below hB3
          have hbc := hS3.book.cell
          have hic : w3.cell? ⟨gl, j, none⟩ = some (vs.getD j default) := by
            have h1 := hS3.book.row
            rw [HV.out] at h1
            rw [h1.cellAt j (by omega), List.getD_eq_getElem?_getD, List.getElem?_eq_getElem (by rw [HV.out, H5.out]; exact hlt)]
            rfl
          obtain ⟨p3, c3, hv3, hby3⟩ := (hS3.rows j (by rw [HV.out, H5.out]; exact hlt)).bytes
          rw [HQ.out] at hv3 hby3
          rw [hv3] at hic
          have hby1 := (HR1.out.of_below hb3).slice.2
          obtain ⟨k3, hk3⟩ : ∃ k, (hdL q).length = k := ⟨_, rfl⟩
          rw [hk3] at hic hby3
          have v1 : ∀ m, (convert 22 9 (.slice p3 k3 c3)).run Try.prog (w3.drewN m) = .ok (.string ⟨(hdL q).toArray⟩) (w3.drewN m) := fun m => run_string_bytes _ _ _ 5 Try.underlying22 Try.underlying5 Try.underlying9 _ _ _ _ (hby3.below ⟨rfl, rfl, rfl, Nat.le_refl _, fun _ _ => rfl⟩)
          have v2 : ∀ m, (convert 22 9 (.slice p1 k1 cc1)).run Try.prog (w3.drewN m) = .ok (.string ⟨(hdL q).toArray⟩) (w3.drewN m) := fun m => run_string_bytes _ _ _ 5 Try.underlying22 Try.underlying5 Try.underlying9 _ _ _ _ (hby1.below ⟨rfl, rfl, rfl, Nat.le_refl _, fun _ _ => rfl⟩)
          have HB3 := Lib.hid hB3
          generalize (⟨(hdL q).toArray⟩ : ByteArray) = E at v1 v2
          generalize hdE q = E2 at *
          have hb5 : i ≤ cl := by
            have h1 := hS3.book.row
            rcases h1.2 with ⟨h2, _⟩ | ⟨g', cap', cur', h2, _, _, h3, _⟩
            · simp at h2
            · simp only [Value.slice.injEq] at h2
              rw [HV.out] at h3
              omega
          clear hB3 hS3 hby1 hby3 hv3 hk3 hb3 hc2 hB
          go_upto_region 16 with fail
          go_quiet (fail)
          go_wp2_with fail
          go_roundw
          case rel => exact ⟨j + 1, by omega, by go_num, HB3.out.trans ⟨rfl, rfl, rfl, Nat.le_refl _, fun _ _ => rfl⟩⟩
          case measure => simp [intOf]; omega
        · have hj5 : ¬ (j : Int) < 5 := by omega
          have hWB : Below w1.heap.size w1 wr := HS.out.bel.trans (hB.mono HS.out.bel.size)
          have hb := H1.out.below hWB
          have hS := HS.out.below hB
          have HS9 := Lib.hid hS
          have HW := Lib.hid hWB
          have HBb := Lib.hid hb
          clear hWB hS hB HS hA
          go_wp2_with fail
          refine (lent_any wr a n c l HBb.out hz).mono ?_
          rintro e wB ⟨g, cap, L, rfl, hg, hbB, hL, hLl, hLt, hLc, hLm⟩
          rw [HBb.out.len] at hLt hLc ⊢
          have HbB := Lib.hid hbB
          have hx := hL.bytes 0 n cap (by omega) (by omega) hLm
          have htk : L.take n = l := by
            have := congrArg (List.take n) hLt
            rw [List.take_take, Nat.min_eq_left (by omega), List.take_left' HBb.out.len] at this
            exact this
          have hdr : (L.drop n).take 9 = spareL := by
            have := congrArg (List.drop n) hLt
            rw [List.drop_take, List.drop_left' HBb.out.len] at this
            rwa [show n + 9 - n = 9 by omega] at this
          rw [List.drop_zero, htk] at hx
          have HL := Lib.hid hL
          have HDR := Lib.hid hdr
          have HLl := Lib.hid hLl
          have hLm' := hLm
          unfold maxLen at hLm'
          obtain ⟨⟨r1, r2, r3⟩, hrr⟩ : ∃ r, readH l at_ = r := ⟨_, rfl⟩
          have hr1 := read_any wB _ n cap l at_ hx (by omega)
          rw [hrr] at hr1
          have HRR := Lib.hid hrr
          clear hbB hL hLt hdr htk hx hLl hrr
          go_wp2_with fail
          refine hr1.mono ?_
          rintro e wC ⟨rfl, hbC⟩
          have hbC' := HbB.out.trans (hbC.mono HbB.out.size)
          have hr2 := rread_any wC a n c l at_ (HBb.out.below hbC') (by omega)
          rw [HRR.out] at hr2
          have HLC := Lib.hid (HL.out.below hbC)
          have HbC := Lib.hid hbC'
          clear hr1 hbC hbC' HL HbB
          go_wp2_with fail
          refine hr2.mono ?_
          rintro e wD ⟨rfl, hbD⟩
          have hbD' := HbC.out.trans (hbD.mono HbC.out.size)
          have hLD := HLC.out.below hbD
          have ht := turned_any wD a n c l (HBb.out.below hbD') hz
          have HbD := Lib.hid hbD'
          have HLD := Lib.hid hLD
          clear hr2 hbD hbD' HLC HbC hLD
          go_wp2_with fail
          refine ht.mono ?_
          rintro e wE ⟨vt, rfl, hot, hbE⟩
          obtain ⟨pt, ct, hvt, hbt⟩ := hot.bytes
          have htl : (turnB l).length = n := by unfold turnB; rw [List.length_map, HBb.out.len]
          rw [htl] at hvt hbt
          subst hvt
          have hbE' := HbD.out.trans (hbE.mono HbD.out.size)
          have hLE := HLD.out.below hbE
          have HbE := Lib.hid hbE'
          have HOT := Lib.hid hot
          have HTL := Lib.hid htl
          have HLg : Hid (g < wD.heap.size) := Lib.hid HLD.out.lt
          clear ht hbE hbE' HLD HbD hot htl
          go_upto_region 22 with fail
          go_wp2_with (refine wpList_copy_lent rfl (.tmp 123) (.tmp 124) 22 rfl Try.underlying22 info_u8 pt n cap ct g rfl rfl L (turnB l) hLE hbt ?hfit ?_)
          case hfit => rw [HLl.out]; omega
          intro wF hLF hbF hsF hoF
          have hbF' := HbE.out.trans (hbF.mono hg)
          have hglt := HLg.out
          have hgF : wE.grownBy wF (some g) := ⟨hbF.os, hbF.tape, hbF.output, by omega, fun k hk hne => hoF k (fun e => hne (by rw [e]))⟩
          have hotF := HOT.out.kept hgF (by
            cases hob : (Value.slice pt n ct).ownBlock with
            | none => exact .inl rfl
            | some b =>
              refine .inr (fun he => ?_)
              simp only [Option.some.injEq] at he
              have := (HOT.out.row.lt b hob).1
              omega)
          have hbtF := hotF.slice.2
          have hx2 := hLF.bytes 0 n cap (by rw [List.length_append, HTL.out]; omega) (by omega) hLm
          rw [List.drop_zero, List.take_left' HTL.out] at hx2
          have hlF : (turnB l ++ L.drop n).length = cap := by rw [List.length_append, HTL.out, List.length_drop, HLl.out]; omega
          have htF : (turnB l ++ L.drop n).take (n + 9) = turnB l ++ spareL := by
            rw [List.take_append, HTL.out, List.take_of_length_le (by rw [HTL.out]; omega), show n + 9 - n = 9 by omega, HDR.out]
          have HLF := Lib.hid hLF
          have HlF := Lib.hid hlF
          have HtF := Lib.hid htF
          have HbF := Lib.hid hbF'
          have HbtF := Lib.hid hbtF
          obtain ⟨⟨q1, q2, q3⟩, hqq⟩ : ∃ r, readH (turnB l) at_ = r := ⟨_, rfl⟩
          have hr1 := read_any wF _ n cap (turnB l) at_ hx2 (by omega)
          rw [hqq] at hr1
          have HQQ := Lib.hid hqq
          clear hbt hLE hLF hbF hsF hoF hbF' hgF hotF hbtF hx2 hlF htF hqq HbE HOT
          go_wp2_with fail
          refine hr1.mono ?_
          rintro e wG ⟨rfl, hbG⟩
          have hr2 := rread_any wG pt n ct (turnB l) at_ (HbtF.out.below hbG) (by omega)
          rw [HQQ.out] at hr2
          have HbG := Lib.hid (HbF.out.trans (hbG.mono HbF.out.size))
          have HLG := Lib.hid (HLF.out.below hbG)
          have HbtG := Lib.hid (HbtF.out.below hbG)
          clear hr1 hbG HbF HLF HbtF
          go_wp2_with fail
          refine hr2.mono ?_
          rintro e wH ⟨rfl, hbH⟩
          have hk := kept_any wH g n cap _ (turnB l) pt ct (HLG.out.below hbH) HlF.out HtF.out (by omega) hLm (HbtG.out.below hbH) hz
          have HbH := Lib.hid (HbG.out.trans (hbH.mono HbG.out.size))
          clear hr2 hbH HLG HbtG HbG
          go_wp2_with fail
          refine hk.mono ?_
          rintro e wI ⟨rfl, hgI⟩
          have hbI : Below wr.heap.size wr wI := HbH.out.trans ⟨hgI.os, hgI.tape, hgI.output, hgI.size, fun k hkk => hgI.block k (Nat.lt_of_lt_of_le hkk HbH.out.size) (fun e => by simp only [Option.some.injEq] at e; omega)⟩
          have hSI := HS9.out.below hbI
          have hown := owned5_any wI (w1.heap.size + 2) w1.heap.size _ vs (fun j => (hdL (askH P j)).length) hSI.book hSI.size hSI.dist (fun j hj => ⟨_, rfl, hSI.rows j hj⟩) (by rw [HV.out]; omega) (fun j => by have := hdL_le (askH P j); omega)
          have HSI := Lib.hid hSI
          clear hk hgI hbI hSI HbH
          go_wp2_with fail
          refine hown.mono ?_
          rintro e wJ ⟨rfl, hO⟩
          have hfin : Below w.heap.size w wJ := by
            have b1 := HB1.out.trans (HSI.out.bel.mono HB1.out.size)
            refine b1.trans (hO.below (Nat.le_trans HB1.out.size HSI.out.bel.size) (fun v hv k hk => ?_))
            obtain ⟨j, hj, rfl⟩ := List.mem_iff_getElem.1 hv
            have h1 := (HSI.out.rows j hj).lt k (by rw [List.getD_eq_getElem?_getD, List.getElem?_eq_getElem hj]; exact hk)
            have h2 := HB1.out.size
            omega
          have HFIN := Lib.hid hfin
          clear hown hO hfin
          go_wp2_with fail
          go_ret
          exact ⟨rfl, HFIN.out⟩
end Go.Proofs.Ytofdpccjpodbhaa
