/-
  The contract of frame.ReadHeader. Conditions: the bytes lie in memory.
-/
import Derived.Test.YtofdpccjpodbhaaHead
import Derived.Test.YtofdpccjpodbhaaConv
import Derived.Deep.DeepCutAuto
import Derived.Deep.QuietTactic
import Derived.BigQuiet
import Derived.OwnWalk
namespace Go.Proofs.Ytofdpccjpodbhaa
open Go.RowKit
set_option linter.unusedVariables false

/-- which header the bytes are looked at as -/
def headP (rest : List UInt8) : Nat := if 4 < rest.length ∧ (rest.getD 4 0 = 0 ∨ rest.getD 4 0 = 3) then (rest.getD 4 0).toNat else 0
/-- protocol, place, error -/
def readH (b : List UInt8) (at_ : Int) : Int × Int × Int :=
  if at_ < 0 ∨ (b.length : Int) < at_ then (0, 0, 1)
  else
    let rest := (b.drop at_.toNat).take 8
    if rest ≠ (headL (headP rest)).take rest.length then (0, 0, 50)
    else if rest.length < 8 then (0, 0, 10)
    else (headP rest, at_ + 8, 0)

theorem readH_in (l : List UInt8) (A : Nat) (R : List UInt8) (hA : A ≤ l.length) (hR : (l.drop A).take 8 = R) :
    readH l A = if R ≠ (headL (headP R)).take R.length then (0, 0, 50) else if R.length < 8 then (0, 0, 10) else ((headP R : Int), (A : Int) + 8, 0) := by
  unfold readH
  rw [if_neg (by omega), Int.toNat_natCast, hR]
theorem below_drewN {B : Nat} {w w' : World} (h : Below B w w') (m : Nat) : Below B w (w'.drewN m) := ⟨h.os, h.tape, h.output, h.size, h.block⟩

theorem read_arg (w : World) (a : Option Addr) (n c : Nat) (l : List UInt8) (at_ : Int) (h : BytesIn w a n c l) (hz : n ≤ 140737488355328) (hb : at_ < 0 ∨ (n : Int) < at_) :
    Calls Try.prog 23 #[.slice a n c, .int .i64 at_] w fun e w' => e = .returned (.tuple #[.int .i64 0, .int .i64 0, .int .i64 1]) ∧ w = w' := by
  have hcase : at_ < 0 ∨ (¬ at_ < 0 ∧ (n : Int) < at_) := by omega
  clear hb
  go_enter Try.func23, Try.ntmps23
  rcases hcase with h1 | ⟨h1, h2⟩ <;>
  · go_wp2_with fail
    go_ret3
    exact ⟨rfl, rfl⟩

set_option maxHeartbeats 2000000 in
set_option maxRecDepth 20000 in
theorem read_in (w : World) (a : Option Addr) (n c : Nat) (l : List UInt8) (A : Nat) (h : BytesIn w a n c l) (hz : n ≤ 140737488355328) (hA : A ≤ n) :
    Calls Try.prog 23 #[.slice a n c, .int .i64 A] w fun e w' => e = .returned (.tuple #[.int .i64 (readH l A).1, .int .i64 (readH l A).2.1, .int .i64 (readH l A).2.2]) ∧ Below w.heap.size w w' := by
  have hle := h.le
  have hcap := h.cap
  unfold maxLen at hcap
  have hnA : ¬ n < A := by omega
  have hA0 : ¬ (A : Int) < 0 := by omega
  go_enter Try.func23, Try.ntmps23
  go_upto_region 4 with fail
  obtain ⟨mn, hmn⟩ : ∃ mn, (if (n : Int) < (A : Int) + 8 then (n : Int) else (A : Int) + 8) = mn := ⟨_, rfl⟩
  rw [hmn]
  obtain ⟨k, hk⟩ : ∃ k, (mn.toNat - A) = k := ⟨_, rfl⟩
  obtain ⟨ra, hra⟩ : ∃ ra, (if c = A then a else Option.map (fun x => x.add A) a) = ra := ⟨_, rfl⟩
  have hk8 : k = min 8 (n - A) := by
    rw [← hk, ← hmn]; split <;> omega
  have hrest : BytesIn w ra k (c - A) ((l.drop A).take 8) := by
    have hlen := h.len
    refine ⟨by rw [List.length_take, List.length_drop]; omega, by omega, by unfold maxLen; omega, fun h0 => ?_⟩
    by_cases hcA : c = A
    · omega
    · obtain ⟨b, o, e, hb, hc⟩ := h.at_ (by omega)
      refine ⟨b, o + A, ?_, hb, fun i hi => ?_⟩
      · rw [← hra, if_neg hcA, e]
        simp [Addr.add]
      · rw [Nat.add_assoc, hc (A + i) (by omega)]
        congr 3
        have h8 : i < 8 := by omega
        simp [List.getD_eq_getElem?_getD, List.getElem?_drop, h8]
  rw [hk, hra]
  obtain ⟨R, hR⟩ : ∃ R, (l.drop A).take 8 = R := ⟨_, rfl⟩
  rw [hR] at hrest
  have HR := Lib.hid hR
  have HRI := Lib.hid (readH_in l A R (by rw [h.len]; exact hA) hR)
  have HK8 := Lib.hid hk8
  have hk8' : k ≤ 8 := by omega
  have HH := Lib.hid h
  have hRl := hrest.len
  have HRL := Lib.hid hRl
  clear hk hra hk8 hR h hRl hmn
  have hhd : Calls Try.prog 46 #[.int .i64 0] w fun e w' => e = .returned (.agg #[.int .u8 76, .int .u8 83, .int .u8 72, .int .u8 82, .int .u8 0, .int .u8 1, .int .u8 0, .int .u8 0]) ∧ Below w.heap.size w w' := header_any w 0 (by decide)
  go_wp2_with fail
  refine hhd.mono ?_
  rintro e w1 ⟨rfl, hb1⟩
  go_upto_region 5 with fail
  have hB2 : Below w.heap.size w (w1.alloc (.cells #[.int .u8 76, .int .u8 83, .int .u8 72, .int .u8 82, .int .u8 0, .int .u8 1, .int .u8 0, .int .u8 0] 85)) := hb1.alloc hb1.size _
  have hk2 : Blk (w1.alloc (.cells #[.int .u8 76, .int .u8 83, .int .u8 72, .int .u8 82, .int .u8 0, .int .u8 1, .int .u8 0, .int .u8 0] 85)) w1.heap.size 85 (headL 0) := by
    refine ⟨?_⟩
    rw [heap_alloc_new]
    simp [headL, byteV]
  generalize (w1.alloc (.cells #[.int .u8 76, .int .u8 83, .int .u8 72, .int .u8 82, .int .u8 0, .int .u8 1, .int .u8 0, .int .u8 0] 85)) = w2 at *
  obtain ⟨g, hg⟩ : ∃ g, w1.heap.size = g := ⟨_, rfl⟩
  have hgw : w.heap.size ≤ g := by rw [← hg]; exact hb1.size
  rw [hg] at hk2 ⊢
  have hr2 := hrest.below hB2
  have HRE := Lib.hid hrest
  have HHD := Lib.hid hhd
  clear hg hb1 hrest hhd
  obtain ⟨y, hy⟩ : ∃ y, R.getD 4 0 = y := ⟨_, rfl⟩
  have hyl := y.toNat_lt
  obtain ⟨t, ht⟩ : ∃ t, decide (4 < k ∧ (y = 0 ∨ y = 3)) = t := ⟨_, rfl⟩
  have HT := Lib.hid ht
  have HY := Lib.hid hy
  clear ht hy
  go_cut [35] (fun s35 wx => w2 = wx ∧ s35 = .bool t)
  case first =>
    by_cases h4 : 4 < k
    · obtain ⟨b, o, rfl, _, hc⟩ := hr2.at_ (by have := hr2.le; omega)
      have hc4 := hc 4 h4
      rw [HY.out] at hc4
      have hip := isProto_any w2 (y.toNat : Int)
      have hd : decide ((y.toNat : Int) = 0 ∨ (y.toNat : Int) = 3) = t := by
        rw [← HT.out]
        have e0 : y = 0 ↔ y.toNat = 0 := ⟨fun h => by rw [h]; rfl, fun h => UInt8.toNat_inj.1 h⟩
        have e3 : y = 3 ↔ y.toNat = 3 := ⟨fun h => by rw [h]; rfl, fun h => UInt8.toNat_inj.1 h⟩
        simp only [e0, e3, h4, true_and]
        congr 1
        apply propext
        omega
      rw [hd] at hip
      have HIP := Lib.hid hip
      clear hip hd hc
      go_wp2_with fail
      refine HIP.out.mono ?_
      rintro e w3 ⟨rfl, rfl⟩
      go_wp2_with fail
      go_meet
      case rel => exact ⟨rfl, rfl⟩
    · have ht : t = false := by rw [← HT.out]; exact decide_eq_false (fun h => h4 h.1)
      subst ht
      have h4' : ¬ (4 : Int) < (k : Int) := by omega
      go_wp2_with fail
      go_meet
      case rel => exact ⟨rfl, rfl⟩
  case rest =>
    obtain ⟨rfl, rfl⟩ := hcut
    cases t
    case true =>
      have hk4 : 4 < k ∧ (y = 0 ∨ y = 3) := by have := HT.out; exact of_decide_eq_true this
      obtain ⟨hk4, hy03⟩ := hk4
      obtain ⟨b, o, rfl, _, hc⟩ := hr2.at_ (by have := hr2.le; omega)
      have hc4 := hc 4 hk4
      rw [HY.out] at hc4
      have hh := header_any w2 y.toNat hyl
      have HHH := Lib.hid hh
      clear hh hc
      go_wp2_with fail
      refine HHH.out.mono ?_
      rintro e w3 ⟨rfl, hb3⟩
      have hk3 := hk2.below hb3
      have hB3 : Below w.heap.size w w3 := hB2.trans (hb3.mono (Nat.le_trans hgw (Nat.le_of_lt hk2.lt)))
      have hr3 := hr2.below hb3
      go_upto_region 7 with (refine wpList_store_row rfl 85 (.tmp 8) (.tmp 40) rfl g _ rfl rfl 85 _ hk3.blk (by as_aux_lemma => kernel_rfl) (by as_aux_lemma => kernel_rfl) (by as_aux_lemma => kernel_rfl) ?_)
      have hP : headP R = y.toNat := by
        unfold headP
        rw [HRL.out, HY.out]
        rw [if_pos ⟨hk4, hy03⟩]
      have hpl : y.toNat < 256 := hyl
      have hB4 : Below w.heap.size w (w3.setRow g #[.int .u8 76, .int .u8 83, .int .u8 72, .int .u8 82, .int .u8 (y.toNat : Int), .int .u8 1, .int .u8 0, .int .u8 0]) := below_setRow hB3 hgw _
      have hk4 : Blk (w3.setRow g #[.int .u8 76, .int .u8 83, .int .u8 72, .int .u8 82, .int .u8 (y.toNat : Int), .int .u8 1, .int .u8 0, .int .u8 0]) g 85 (headL (y.toNat)) := ⟨(setRow_heap w3 g _ _ _ _ hk3.blk).trans (by simp [headL, byteV])⟩
      have hr4 : BytesIn (w3.setRow g #[.int .u8 76, .int .u8 83, .int .u8 72, .int .u8 82, .int .u8 (y.toNat : Int), .int .u8 1, .int .u8 0, .int .u8 0]) (some ⟨b, o, none⟩) k (c - A) R := HRE.out.below hB4
      generalize w3.setRow g #[.int .u8 76, .int .u8 83, .int .u8 72, .int .u8 82, .int .u8 (y.toNat : Int), .int .u8 1, .int .u8 0, .int .u8 0] = w4 at *
      generalize y.toNat = p at *

      have hcv1 : ∀ m, (convert 22 9 (.slice (some ⟨b, o, none⟩) k (c - A))).run Try.prog (w4.drewN m) = .ok (.string ⟨R.toArray⟩) (w4.drewN m) := fun m => run_string_bytes _ _ _ 5 Try.underlying22 Try.underlying5 Try.underlying9 _ _ _ _ (hr4.below ⟨rfl, rfl, rfl, Nat.le_refl _, fun _ _ => rfl⟩)
      have hcv2 : ∀ m, (convert 22 9 (.slice (some ⟨g, 0, none⟩) k 8)).run Try.prog (w4.drewN m) = .ok (.string ⟨((headL p).take k).toArray⟩) (w4.drewN m) := fun m => run_string_bytes _ _ _ 5 Try.underlying22 Try.underlying5 Try.underlying9 _ _ _ _ (by
        have := (hk4.drewN m).bytes 0 k 8 (by simp [headL]; omega) hk8' (by decide)
        simpa using this)
      have hk8i : (k : Int) ≤ 8 := by omega
      have hk8n : ¬ (8 : Int) < (k : Int) := by omega
      have hgl : w4.cell? ⟨g, 4, none⟩ = some (.int .u8 p) := by
        have := hk4.cell 4 (by simp [headL])
        simpa [headL, Nat.mod_eq_of_lt hpl] using this
      by_cases hq : R = (headL p).take k
      · have hs : ((⟨R.toArray⟩ : ByteArray).toList == (⟨((headL p).take k).toArray⟩ : ByteArray).toList) = true := by rw [← hq]; exact beq_self_eq_true _
        have HQ := Lib.hid hq
        generalize (⟨R.toArray⟩ : ByteArray) = s1 at *
        generalize (⟨((headL p).take k).toArray⟩ : ByteArray) = s2 at *
        clear hq hr4 hk4
        by_cases h8 : k < 8
        · have hfin : readH l (A : Int) = (0, 0, 10) := by rw [HRI.out, hP, HRL.out, if_neg (by rw [← HQ.out]; simp), if_pos h8]
          have HF := Lib.hid hfin
          have h8' : (k : Int) < 8 := by omega
          clear hfin
          go_wp2_with fail
          go_quiet (fail)
          go_wp2_with fail
          go_ret3
          rw [HF.out]
          exact ⟨rfl, below_drewN hB4 _⟩
        · have hfin : readH l (A : Int) = ((p : Int), (A : Int) + 8, 0) := by rw [HRI.out, hP, HRL.out, if_neg (by rw [← HQ.out]; simp), if_neg h8]
          have HF := Lib.hid hfin
          have h8' : ¬ (k : Int) < 8 := by omega
          clear hfin
          go_wp2_with fail
          go_quiet (fail)
          go_wp2_with fail
          go_ret3
          rw [HF.out]
          exact ⟨rfl, below_drewN hB4 _⟩
      · have hs : ((⟨R.toArray⟩ : ByteArray).toList == (⟨((headL p).take k).toArray⟩ : ByteArray).toList) = false := by
          rw [ByteArray.toList_eq, ByteArray.toList_eq]
          simpa using hq
        have hfin : readH l (A : Int) = (0, 0, 50) := by rw [HRI.out, hP, HRL.out, if_pos hq]
        have HF := Lib.hid hfin
        clear hfin
        generalize (⟨R.toArray⟩ : ByteArray) = s1 at *
        generalize (⟨((headL p).take k).toArray⟩ : ByteArray) = s2 at *
        clear hq hr4 hk4
        go_wp2_with fail
        go_quiet (fail)
        go_wp2_with fail
        go_ret3
        rw [HF.out]
        exact ⟨rfl, below_drewN hB4 _⟩
    case false =>
      go_upto_region 7 with fail
      have hP : headP R = 0 := by
        unfold headP
        rw [HRL.out, HY.out, if_neg (of_decide_eq_false HT.out)]
      have hpl : 0 < 256 := by decide
      have hB4 := hB2
      have hk4 := hk2
      have hr4 := hr2
      generalize w2 = w4 at *
      obtain ⟨p, hp⟩ : ∃ p : Nat, 0 = p := ⟨_, rfl⟩
      rw [hp] at hP hpl hk4
      clear hp hB2 hk2 hr2

      have hcv1 : ∀ m, (convert 22 9 (.slice ra k (c - A))).run Try.prog (w4.drewN m) = .ok (.string ⟨R.toArray⟩) (w4.drewN m) := fun m => run_string_bytes _ _ _ 5 Try.underlying22 Try.underlying5 Try.underlying9 _ _ _ _ (hr4.below ⟨rfl, rfl, rfl, Nat.le_refl _, fun _ _ => rfl⟩)
      have hcv2 : ∀ m, (convert 22 9 (.slice (some ⟨g, 0, none⟩) k 8)).run Try.prog (w4.drewN m) = .ok (.string ⟨((headL p).take k).toArray⟩) (w4.drewN m) := fun m => run_string_bytes _ _ _ 5 Try.underlying22 Try.underlying5 Try.underlying9 _ _ _ _ (by
        have := (hk4.drewN m).bytes 0 k 8 (by simp [headL]; omega) hk8' (by decide)
        simpa using this)
      have hk8i : (k : Int) ≤ 8 := by omega
      have hk8n : ¬ (8 : Int) < (k : Int) := by omega
      have hgl : w4.cell? ⟨g, 4, none⟩ = some (.int .u8 p) := by
        have := hk4.cell 4 (by simp [headL])
        simpa [headL, Nat.mod_eq_of_lt hpl] using this
      by_cases hq : R = (headL p).take k
      · have hs : ((⟨R.toArray⟩ : ByteArray).toList == (⟨((headL p).take k).toArray⟩ : ByteArray).toList) = true := by rw [← hq]; exact beq_self_eq_true _
        have HQ := Lib.hid hq
        generalize (⟨R.toArray⟩ : ByteArray) = s1 at *
        generalize (⟨((headL p).take k).toArray⟩ : ByteArray) = s2 at *
        clear hq hr4 hk4
        by_cases h8 : k < 8
        · have hfin : readH l (A : Int) = (0, 0, 10) := by rw [HRI.out, hP, HRL.out, if_neg (by rw [← HQ.out]; simp), if_pos h8]
          have HF := Lib.hid hfin
          have h8' : (k : Int) < 8 := by omega
          clear hfin
          go_wp2_with fail
          go_quiet (fail)
          go_wp2_with fail
          go_ret3
          rw [HF.out]
          exact ⟨rfl, below_drewN hB4 _⟩
        · have hfin : readH l (A : Int) = ((p : Int), (A : Int) + 8, 0) := by rw [HRI.out, hP, HRL.out, if_neg (by rw [← HQ.out]; simp), if_neg h8]
          have HF := Lib.hid hfin
          have h8' : ¬ (k : Int) < 8 := by omega
          clear hfin
          go_wp2_with fail
          go_quiet (fail)
          go_wp2_with fail
          go_ret3
          rw [HF.out]
          exact ⟨rfl, below_drewN hB4 _⟩
      · have hs : ((⟨R.toArray⟩ : ByteArray).toList == (⟨((headL p).take k).toArray⟩ : ByteArray).toList) = false := by
          rw [ByteArray.toList_eq, ByteArray.toList_eq]
          simpa using hq
        have hfin : readH l (A : Int) = (0, 0, 50) := by rw [HRI.out, hP, HRL.out, if_pos hq]
        have HF := Lib.hid hfin
        clear hfin
        generalize (⟨R.toArray⟩ : ByteArray) = s1 at *
        generalize (⟨((headL p).take k).toArray⟩ : ByteArray) = s2 at *
        clear hq hr4 hk4
        go_wp2_with fail
        go_quiet (fail)
        go_wp2_with fail
        go_ret3
        rw [HF.out]
        exact ⟨rfl, below_drewN hB4 _⟩
end Go.Proofs.Ytofdpccjpodbhaa
