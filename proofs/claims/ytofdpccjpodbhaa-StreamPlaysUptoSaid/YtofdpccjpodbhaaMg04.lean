/-
  The contracts of frame.isProto, header, Header. No conditions.
  string(b) of bytes that lie in memory. It speaks of no program. No conditions.
  The contract of frame.ReadHeader. Conditions: the bytes lie in memory.
  The contract of frame.Seal: the frame's bytes, or its error. Conditions: Ext and Body lie in memory and are not past 2^47 bytes.
  copy as one step of a region that draws its order, onto a block of bytes that is known whole. It speaks of no program. No conditions.
-/
import Derived.Test.YtofdpccjpodbhaaMg02
import Derived.Handy
import Derived.Test.YtofdpccjpodbhaaMg01
import Derived.Laws.BytesArg
import Derived.Deep.DeepCutAuto
import Derived.Deep.QuietTactic
import Derived.BigQuiet
import Derived.OwnWalk
import Derived.StillTailTactics
import Derived.Deep.RegionLaw
namespace Go.Proofs.Ytofdpccjpodbhaa
open Go.RowKit
set_option linter.unusedVariables false

theorem isProto_any (w : World) (T : Int) :
    Calls Try.prog 45 #[.int .i64 T] w fun e w' => e = .returned (.bool (decide (T = 0 ∨ T = 3))) ∧ w = w' := by
  go_enter Try.func45, Try.ntmps45
  by_cases h0 : T = 0
  · subst h0
    go_wp2
    go_ret
    exact ⟨rfl, rfl⟩
  · have e0 : (T == 0) = false := by simp [h0]
    go_wp2
    go_ret
    refine ⟨?_, rfl⟩
    have : (T == 3) = decide (T = 3) := by by_cases h : T = 3 <;> simp [h]
    simp [h0, this]

def headL (p : Nat) : List UInt8 := [76, 83, 72, 82, UInt8.ofNat p, 1, 0, 0]

theorem header_any (w : World) (p : Nat) (hp : p < 256) :
    Calls Try.prog 46 #[.int .i64 p] w fun e w' => e = .returned (.agg #[.int .u8 76, .int .u8 83, .int .u8 72, .int .u8 82, .int .u8 p, .int .u8 1, .int .u8 0, .int .u8 0]) ∧ Below w.heap.size w w' := by
  go_enter Try.func46, Try.ntmps46
  go_wp2_with fail
  go_returns
  exact ⟨rfl, (Below.refl _ _).alloc (Nat.le_refl _) _⟩

theorem Header_bad (w : World) (P : Int) (h : P ≠ 0 ∧ P ≠ 3) :
    Calls Try.prog 21 #[.int .i64 P] w fun e w' => e = .returned (.tuple #[.slice none 0 0, .int .i64 50]) ∧ w = w' := by
  have hd : decide (P = 0 ∨ P = 3) = false := by simp; omega
  go_enter Try.func21, Try.ntmps21
  go_wp2_with fail
  refine (isProto_any _ P).mono ?_
  rw [hd]
  rintro e w' ⟨rfl, rfl⟩
  go_wp2_with fail
  go_ret2
  exact ⟨rfl, rfl⟩

theorem Header_ok (w : World) (p : Nat) (h : p = 0 ∨ p = 3) :
    Calls Try.prog 21 #[.int .i64 p] w fun e w' => ∃ g, e = .returned (.tuple #[.slice (some ⟨g, 0, none⟩) 8 8, .int .i64 0]) ∧ w.heap.size ≤ g ∧ Below w.heap.size w w' ∧ Blk w' g 85 (headL p) := by
  have hd : decide ((p : Int) = 0 ∨ (p : Int) = 3) = true := by simp; omega
  have hp : p < 256 := by omega
  have H := Lib.hid h
  clear h
  go_enter Try.func21, Try.ntmps21
  go_wp2_with fail
  refine (isProto_any _ p).mono ?_
  rw [hd]
  rintro e w' ⟨rfl, rfl⟩
  go_wp2_with fail
  refine (header_any _ p hp).mono ?_
  rintro e w1 ⟨rfl, hb⟩
  go_wp2_with fail
  go_ret2
  have hp' : (UInt8.ofNat p).toNat = p := by simp; omega
  refine ⟨w1.heap.size, rfl, hb.size, hb.alloc hb.size _, ⟨?_⟩⟩
  rw [heap_alloc_new]
  simp [headL, byteV, hp']
end Go.Proofs.Ytofdpccjpodbhaa

namespace Go.Proofs.Ytofdpccjpodbhaa
open Go.RowKit
set_option linter.unusedVariables false

theorem run_string_bytes {P : Program} (w : World) (src dst e : TypeId) (hs : P.underlying src = some (.slice e)) (he : P.underlying e = some (.int .u8)) (hd : P.underlying dst = some .string) (a : Option Addr) (n c : Nat) (l : List UInt8) (h : BytesIn w a n c l) :
    (convert src dst (.slice a n c)).run P w = .ok (.string ⟨l.toArray⟩) w := by
  by_cases h0 : n = 0
  · subst h0
    have hl : l = [] := List.eq_nil_of_length_eq_zero h.len
    subst hl
    cases a with
    | none => exact run_convert_bytes_nil w src e hs he 0 c dst hd
    | some a =>
      obtain ⟨b, o, e⟩ := a
      rw [run_convert_bytes_string w src dst _ _ 0 c hs he hd]
      simp [Conv.bytesToString, loadCells, loadCellsFrom]
      rfl
  · obtain ⟨b, o, rfl, _, hc⟩ := h.at_ (by have := h.le; omega)
    have := run_convert_bytes_arg (P := P) w src e hs he b o n c (l.map fun x => (x.toNat : Int)) (by rw [List.length_map, h.len]) (fun i hi => by
      rw [hc i hi]
      have hil : i < l.length := by rw [h.len]; exact hi
      simp [List.getD_eq_getElem?_getD, hil]) dst hd
    rw [this]
    have e2 : (l.map fun x => (x.toNat : Int)).map (fun n => UInt8.ofNat n.toNat) = l := by
      rw [List.map_map]
      conv => rhs; rw [← List.map_id l]
      exact List.map_congr_left fun x _ => by simp
    unfold strOfNums
    rw [e2]
end Go.Proofs.Ytofdpccjpodbhaa

namespace Go.Proofs.Ytofdpccjpodbhaa
open Go.RowKit
set_option linter.unusedVariables false

/-- which header the bytes are looked at as -/
def headP (rest : List UInt8) : Nat := if 4 < rest.length ∧ (rest.getD 4 0 = 0 ∨ rest.getD 4 0 = 3) then (rest.getD 4 0).toNat else 0
/-- protocol, place, error -/
def readH (b : List UInt8) (at_ : Int) : Int × Int × Int :=
  if at_ < 0 ∨ (b.length : Int) < at_ then (0, 0, 1)
  else
    let rest := (b.drop at_.toNat).take 8
    if rest ≠ (headL (headP rest)).take rest.length then (0, 0, 50)
    else if rest.length < 8 then (0, 0, 10)
    else (headP rest, at_ + 8, 0)

theorem readH_in (l : List UInt8) (A : Nat) (R : List UInt8) (hA : A ≤ l.length) (hR : (l.drop A).take 8 = R) :
    readH l A = if R ≠ (headL (headP R)).take R.length then (0, 0, 50) else if R.length < 8 then (0, 0, 10) else ((headP R : Int), (A : Int) + 8, 0) := by
  unfold readH
  rw [if_neg (by omega), Int.toNat_natCast, hR]
theorem below_drewN {B : Nat} {w w' : World} (h : Below B w w') (m : Nat) : Below B w (w'.drewN m) := ⟨h.os, h.tape, h.output, h.size, h.block⟩

theorem read_arg (w : World) (a : Option Addr) (n c : Nat) (l : List UInt8) (at_ : Int) (h : BytesIn w a n c l) (hz : n ≤ 140737488355328) (hb : at_ < 0 ∨ (n : Int) < at_) :
    Calls Try.prog 23 #[.slice a n c, .int .i64 at_] w fun e w' => e = .returned (.tuple #[.int .i64 0, .int .i64 0, .int .i64 1]) ∧ w = w' := by
  have hcase : at_ < 0 ∨ (¬ at_ < 0 ∧ (n : Int) < at_) := by omega
  clear hb
  go_enter Try.func23, Try.ntmps23
  rcases hcase with h1 | ⟨h1, h2⟩ <;>
  · go_wp2_with fail
    go_ret3
    exact ⟨rfl, rfl⟩

set_option maxHeartbeats 2000000 in
set_option maxRecDepth 20000 in
theorem read_in (w : World) (a : Option Addr) (n c : Nat) (l : List UInt8) (A : Nat) (h : BytesIn w a n c l) (hz : n ≤ 140737488355328) (hA : A ≤ n) :
    Calls Try.prog 23 #[.slice a n c, .int .i64 A] w fun e w' => e = .returned (.tuple #[.int .i64 (readH l A).1, .int .i64 (readH l A).2.1, .int .i64 (readH l A).2.2]) ∧ Below w.heap.size w w' := by
  have hle := h.le
  have hcap := h.cap
  unfold maxLen at hcap
  have hnA : ¬ n < A := by omega
  have hA0 : ¬ (A : Int) < 0 := by omega
  go_enter Try.func23, Try.ntmps23
  go_upto_region 4 with fail
  obtain ⟨mn, hmn⟩ : ∃ mn, (if (n : Int) < (A : Int) + 8 then (n : Int) else (A : Int) + 8) = mn := ⟨_, rfl⟩
  rw [hmn]
  obtain ⟨k, hk⟩ : ∃ k, (mn.toNat - A) = k := ⟨_, rfl⟩
  obtain ⟨ra, hra⟩ : ∃ ra, (if c = A then a else Option.map (fun x => x.add A) a) = ra := ⟨_, rfl⟩
  have hk8 : k = min 8 (n - A) := by
    rw [← hk, ← hmn]; split <;> omega
  have hrest : BytesIn w ra k (c - A) ((l.drop A).take 8) := by
    have hlen := h.len
    refine ⟨by rw [List.length_take, List.length_drop]; omega, by omega, by unfold maxLen; omega, fun h0 => ?_⟩
    by_cases hcA : c = A
    · omega
    · obtain ⟨b, o, e, hb, hc⟩ := h.at_ (by omega)
      refine ⟨b, o + A, ?_, hb, fun i hi => ?_⟩
      · rw [← hra, if_neg hcA, e]
        simp [Addr.add]
      · rw [Nat.add_assoc, hc (A + i) (by omega)]
        congr 3
        have h8 : i < 8 := by omega
        simp [List.getD_eq_getElem?_getD, List.getElem?_drop, h8]
  rw [hk, hra]
  obtain ⟨R, hR⟩ : ∃ R, (l.drop A).take 8 = R := ⟨_, rfl⟩
  rw [hR] at hrest
  have HR := Lib.hid hR
  have HRI := Lib.hid (readH_in l A R (by rw [h.len]; exact hA) hR)
  have HK8 := Lib.hid hk8
  have hk8' : k ≤ 8 := by omega
  have HH := Lib.hid h
  have hRl := hrest.len
  have HRL := Lib.hid hRl
  clear hk hra hk8 hR h hRl hmn
  have hhd : Calls Try.prog 46 #[.int .i64 0] w fun e w' => e = .returned (.agg #[.int .u8 76, .int .u8 83, .int .u8 72, .int .u8 82, .int .u8 0, .int .u8 1, .int .u8 0, .int .u8 0]) ∧ Below w.heap.size w w' := header_any w 0 (by decide)
  go_wp2_with fail
  refine hhd.mono ?_
  rintro e w1 ⟨rfl, hb1⟩
  go_upto_region 5 with fail
  have hB2 : Below w.heap.size w (w1.alloc (.cells #[.int .u8 76, .int .u8 83, .int .u8 72, .int .u8 82, .int .u8 0, .int .u8 1, .int .u8 0, .int .u8 0] 85)) := hb1.alloc hb1.size _
  have hk2 : Blk (w1.alloc (.cells #[.int .u8 76, .int .u8 83, .int .u8 72, .int .u8 82, .int .u8 0, .int .u8 1, .int .u8 0, .int .u8 0] 85)) w1.heap.size 85 (headL 0) := by
    refine ⟨?_⟩
    rw [heap_alloc_new]
    simp [headL, byteV]
  generalize (w1.alloc (.cells #[.int .u8 76, .int .u8 83, .int .u8 72, .int .u8 82, .int .u8 0, .int .u8 1, .int .u8 0, .int .u8 0] 85)) = w2 at *
  obtain ⟨g, hg⟩ : ∃ g, w1.heap.size = g := ⟨_, rfl⟩
  have hgw : w.heap.size ≤ g := by rw [← hg]; exact hb1.size
  rw [hg] at hk2 ⊢
  have hr2 := hrest.below hB2
  have HRE := Lib.hid hrest
  have HHD := Lib.hid hhd
  clear hg hb1 hrest hhd
  obtain ⟨y, hy⟩ : ∃ y, R.getD 4 0 = y := ⟨_, rfl⟩
  have hyl := y.toNat_lt
  obtain ⟨t, ht⟩ : ∃ t, decide (4 < k ∧ (y = 0 ∨ y = 3)) = t := ⟨_, rfl⟩
  have HT := Lib.hid ht
  have HY := Lib.hid hy
  clear ht hy
  go_cut [35] (fun s35 wx => w2 = wx ∧ s35 = .bool t)
  case first =>
    by_cases h4 : 4 < k
    · obtain ⟨b, o, rfl, _, hc⟩ := hr2.at_ (by have := hr2.le; omega)
      have hc4 := hc 4 h4
      rw [HY.out] at hc4
      have hip := isProto_any w2 (y.toNat : Int)
      have hd : decide ((y.toNat : Int) = 0 ∨ (y.toNat : Int) = 3) = t := by
        rw [← HT.out]
        have e0 : y = 0 ↔ y.toNat = 0 := ⟨fun h => by rw [h]; rfl, fun h => UInt8.toNat_inj.1 h⟩
        have e3 : y = 3 ↔ y.toNat = 3 := ⟨fun h => by rw [h]; rfl, fun h => UInt8.toNat_inj.1 h⟩
        simp only [e0, e3, h4, true_and]
        congr 1
        apply propext
        omega
      rw [hd] at hip
      have HIP := Lib.hid hip
      clear hip hd hc
      go_wp2_with fail
      refine HIP.out.mono ?_
      rintro e w3 ⟨rfl, rfl⟩
      go_wp2_with fail
      go_meet
      case rel => exact ⟨rfl, rfl⟩
    · have ht : t = false := by rw [← HT.out]; exact decide_eq_false (fun h => h4 h.1)
      subst ht
      have h4' : ¬ (4 : Int) < (k : Int) := by omega
      go_wp2_with fail
      go_meet
      case rel => exact ⟨rfl, rfl⟩
  case rest =>
    obtain ⟨rfl, rfl⟩ := hcut
    cases t
    case true =>
      have hk4 : 4 < k ∧ (y = 0 ∨ y = 3) := by have := HT.out; exact of_decide_eq_true this
      obtain ⟨hk4, hy03⟩ := hk4
      obtain ⟨b, o, rfl, _, hc⟩ := hr2.at_ (by have := hr2.le; omega)
      have hc4 := hc 4 hk4
      rw [HY.out] at hc4
      have hh := header_any w2 y.toNat hyl
      have HHH := Lib.hid hh
      clear hh hc
      go_wp2_with fail
      refine HHH.out.mono ?_
      rintro e w3 ⟨rfl, hb3⟩
      have hk3 := hk2.below hb3
      have hB3 : Below w.heap.size w w3 := hB2.trans (hb3.mono (Nat.le_trans hgw (Nat.le_of_lt hk2.lt)))
      have hr3 := hr2.below hb3
      go_upto_region 7 with (refine wpList_store_row rfl 85 (.tmp 8) (.tmp 40) rfl g _ rfl rfl 85 _ hk3.blk (by as_aux_lemma => kernel_rfl) (by as_aux_lemma => kernel_rfl) (by as_aux_lemma => kernel_rfl) ?_)
      have hP : headP R = y.toNat := by
        unfold headP
        rw [HRL.out, HY.out]
        rw [if_pos ⟨hk4, hy03⟩]
      have hpl : y.toNat < 256 := hyl
      have hB4 : Below w.heap.size w (w3.setRow g #[.int .u8 76, .int .u8 83, .int .u8 72, .int .u8 82, .int .u8 (y.toNat : Int), .int .u8 1, .int .u8 0, .int .u8 0]) := below_setRow hB3 hgw _
      have hk4 : Blk (w3.setRow g #[.int .u8 76, .int .u8 83, .int .u8 72, .int .u8 82, .int .u8 (y.toNat : Int), .int .u8 1, .int .u8 0, .int .u8 0]) g 85 (headL (y.toNat)) := ⟨(setRow_heap w3 g _ _ _ _ hk3.blk).trans (by simp [headL, byteV])⟩
      have hr4 : BytesIn (w3.setRow g #[.int .u8 76, .int .u8 83, .int .u8 72, .int .u8 82, .int .u8 (y.toNat : Int), .int .u8 1, .int .u8 0, .int .u8 0]) (some ⟨b, o, none⟩) k (c - A) R := HRE.out.below hB4
      generalize w3.setRow g #[.int .u8 76, .int .u8 83, .int .u8 72, .int .u8 82, .int .u8 (y.toNat : Int), .int .u8 1, .int .u8 0, .int .u8 0] = w4 at *
      generalize y.toNat = p at *

      have hcv1 : ∀ m, (convert 22 9 (.slice (some ⟨b, o, none⟩) k (c - A))).run Try.prog (w4.drewN m) = .ok (.string ⟨R.toArray⟩) (w4.drewN m) := fun m => run_string_bytes _ _ _ 5 Try.underlying22 Try.underlying5 Try.underlying9 _ _ _ _ (hr4.below ⟨rfl, rfl, rfl, Nat.le_refl _, fun _ _ => rfl⟩)
      have hcv2 : ∀ m, (convert 22 9 (.slice (some ⟨g, 0, none⟩) k 8)).run Try.prog (w4.drewN m) = .ok (.string ⟨((headL p).take k).toArray⟩) (w4.drewN m) := fun m => run_string_bytes _ _ _ 5 Try.underlying22 Try.underlying5 Try.underlying9 _ _ _ _ (by
        have := (hk4.drewN m).bytes 0 k 8 (by simp [headL]; omega) hk8' (by decide)
        simpa using this)
      have hk8i : (k : Int) ≤ 8 := by omega
      have hk8n : ¬ (8 : Int) < (k : Int) := by omega
      have hgl : w4.cell? ⟨g, 4, none⟩ = some (.int .u8 p) := by
        have := hk4.cell 4 (by simp [headL])
        simpa [headL, Nat.mod_eq_of_lt hpl] using this
      by_cases hq : R = (headL p).take k
      · have hs : ((⟨R.toArray⟩ : ByteArray).toList == (⟨((headL p).take k).toArray⟩ : ByteArray).toList) = true := by rw [← hq]; exact beq_self_eq_true _
        have HQ := Lib.hid hq
        generalize (⟨R.toArray⟩ : ByteArray) = s1 at *
        generalize (⟨((headL p).take k).toArray⟩ : ByteArray) = s2 at *
        clear hq hr4 hk4
        by_cases h8 : k < 8
        · have hfin : readH l (A : Int) = (0, 0, 10) := by rw [HRI.out, hP, HRL.out, if_neg (by rw [← HQ.out]; simp), if_pos h8]
          have HF := Lib.hid hfin
          have h8' : (k : Int) < 8 := by omega
          clear hfin
          go_wp2_with fail
          go_quiet (fail)
          go_wp2_with fail
          go_ret3
          rw [HF.out]
          exact ⟨rfl, below_drewN hB4 _⟩
        · have hfin : readH l (A : Int) = ((p : Int), (A : Int) + 8, 0) := by rw [HRI.out, hP, HRL.out, if_neg (by rw [← HQ.out]; simp), if_neg h8]
          have HF := Lib.hid hfin
          have h8' : ¬ (k : Int) < 8 := by omega
          clear hfin
          go_wp2_with fail
          go_quiet (fail)
          go_wp2_with fail
          go_ret3
          rw [HF.out]
          exact ⟨rfl, below_drewN hB4 _⟩
      · have hs : ((⟨R.toArray⟩ : ByteArray).toList == (⟨((headL p).take k).toArray⟩ : ByteArray).toList) = false := by
          rw [ByteArray.toList_eq, ByteArray.toList_eq]
          simpa using hq
        have hfin : readH l (A : Int) = (0, 0, 50) := by rw [HRI.out, hP, HRL.out, if_pos hq]
        have HF := Lib.hid hfin
        clear hfin
        generalize (⟨R.toArray⟩ : ByteArray) = s1 at *
        generalize (⟨((headL p).take k).toArray⟩ : ByteArray) = s2 at *
        clear hq hr4 hk4
        go_wp2_with fail
        go_quiet (fail)
        go_wp2_with fail
        go_ret3
        rw [HF.out]
        exact ⟨rfl, below_drewN hB4 _⟩
    case false =>
      go_upto_region 7 with fail
      have hP : headP R = 0 := by
        unfold headP
        rw [HRL.out, HY.out, if_neg (of_decide_eq_false HT.out)]
      have hpl : 0 < 256 := by decide
      have hB4 := hB2
      have hk4 := hk2
      have hr4 := hr2
      generalize w2 = w4 at *
      obtain ⟨p, hp⟩ : ∃ p : Nat, 0 = p := ⟨_, rfl⟩
      rw [hp] at hP hpl hk4
      clear hp hB2 hk2 hr2

      have hcv1 : ∀ m, (convert 22 9 (.slice ra k (c - A))).run Try.prog (w4.drewN m) = .ok (.string ⟨R.toArray⟩) (w4.drewN m) := fun m => run_string_bytes _ _ _ 5 Try.underlying22 Try.underlying5 Try.underlying9 _ _ _ _ (hr4.below ⟨rfl, rfl, rfl, Nat.le_refl _, fun _ _ => rfl⟩)
      have hcv2 : ∀ m, (convert 22 9 (.slice (some ⟨g, 0, none⟩) k 8)).run Try.prog (w4.drewN m) = .ok (.string ⟨((headL p).take k).toArray⟩) (w4.drewN m) := fun m => run_string_bytes _ _ _ 5 Try.underlying22 Try.underlying5 Try.underlying9 _ _ _ _ (by
        have := (hk4.drewN m).bytes 0 k 8 (by simp [headL]; omega) hk8' (by decide)
        simpa using this)
      have hk8i : (k : Int) ≤ 8 := by omega
      have hk8n : ¬ (8 : Int) < (k : Int) := by omega
      have hgl : w4.cell? ⟨g, 4, none⟩ = some (.int .u8 p) := by
        have := hk4.cell 4 (by simp [headL])
        simpa [headL, Nat.mod_eq_of_lt hpl] using this
      by_cases hq : R = (headL p).take k
      · have hs : ((⟨R.toArray⟩ : ByteArray).toList == (⟨((headL p).take k).toArray⟩ : ByteArray).toList) = true := by rw [← hq]; exact beq_self_eq_true _
        have HQ := Lib.hid hq
        generalize (⟨R.toArray⟩ : ByteArray) = s1 at *
        generalize (⟨((headL p).take k).toArray⟩ : ByteArray) = s2 at *
        clear hq hr4 hk4
        by_cases h8 : k < 8
        · have hfin : readH l (A : Int) = (0, 0, 10) := by rw [HRI.out, hP, HRL.out, if_neg (by rw [← HQ.out]; simp), if_pos h8]
          have HF := Lib.hid hfin
          have h8' : (k : Int) < 8 := by omega
          clear hfin
          go_wp2_with fail
          go_quiet (fail)
          go_wp2_with fail
          go_ret3
          rw [HF.out]
          exact ⟨rfl, below_drewN hB4 _⟩
        · have hfin : readH l (A : Int) = ((p : Int), (A : Int) + 8, 0) := by rw [HRI.out, hP, HRL.out, if_neg (by rw [← HQ.out]; simp), if_neg h8]
          have HF := Lib.hid hfin
          have h8' : ¬ (k : Int) < 8 := by omega
          clear hfin
          go_wp2_with fail
          go_quiet (fail)
          go_wp2_with fail
          go_ret3
          rw [HF.out]
          exact ⟨rfl, below_drewN hB4 _⟩
      · have hs : ((⟨R.toArray⟩ : ByteArray).toList == (⟨((headL p).take k).toArray⟩ : ByteArray).toList) = false := by
          rw [ByteArray.toList_eq, ByteArray.toList_eq]
          simpa using hq
        have hfin : readH l (A : Int) = (0, 0, 50) := by rw [HRI.out, hP, HRL.out, if_pos hq]
        have HF := Lib.hid hfin
        clear hfin
        generalize (⟨R.toArray⟩ : ByteArray) = s1 at *
        generalize (⟨((headL p).take k).toArray⟩ : ByteArray) = s2 at *
        clear hq hr4 hk4
        go_wp2_with fail
        go_quiet (fail)
        go_wp2_with fail
        go_ret3
        rw [HF.out]
        exact ⟨rfl, below_drewN hB4 _⟩
end Go.Proofs.Ytofdpccjpodbhaa

namespace Go.Proofs.Ytofdpccjpodbhaa
open Go.RowKit
set_option linter.unusedVariables false

def sealE (T C : Int) (ne nb : Nat) : Int :=
  if T ≠ 0 ∧ T ≠ 1 then 53 else if C < 0 ∨ 65535 < C ∨ (T = 1 ∧ C ≠ 0) then 54 else if ne % 4 ≠ 0 ∨ 1012 < ne then 52 else if 1048576 < 8 + ne + nb then 2 else 0
def sealB (T C : Int) (ext body : List UInt8) : List UInt8 :=
  putL (8 + ext.length + body.length) 4 ++ [UInt8.ofNat ((8 + ext.length) / 4), UInt8.ofNat T.toNat] ++ putL C.toNat 2 ++ ext ++ body
def sealS (T C : Int) (ext body : List UInt8) : List UInt8 := if sealE T C ext.length body.length = 0 then sealB T C ext body else []

theorem isType_any (w : World) (T : Int) :
    Calls Try.prog 38 #[.int .i64 T] w fun e w' => e = .returned (.bool (decide (T = 0 ∨ T = 1))) ∧ w = w' := by
  go_enter Try.func38, Try.ntmps38
  by_cases h0 : T = 0
  · subst h0
    go_wp2
    go_ret
    exact ⟨rfl, rfl⟩
  · have e0 : (T == 0) = false := by simp [h0]
    go_wp2
    go_ret
    refine ⟨?_, rfl⟩
    have : (T == 1) = decide (T = 1) := by by_cases h : T = 1 <;> simp [h]
    simp [h0, this]

set_option maxHeartbeats 2000000 in
theorem seal_bad (w : World) (T C : Int) (ea ba : Option Addr) (ne ce nb cb : Nat) (hz : ne ≤ 140737488355328 ∧ nb ≤ 140737488355328) (h : sealE T C ne nb ≠ 0) :
    Calls Try.prog 14 #[.agg #[.int .i64 T, .int .i64 C, .slice ea ne ce, .slice ba nb cb]] w fun e w' => e = .returned (.tuple #[.slice none 0 0, .int .i64 (sealE T C ne nb)]) ∧ Below w.heap.size w w' := by
  obtain ⟨hz1, hz2⟩ := hz
  have hB : Below w.heap.size w (w.alloc (.cells #[.int .i64 T, .int .i64 C, .slice ea ne ce, .slice ba nb cb] 24)) := (Below.refl _ _).alloc (Nat.le_refl _) _
  by_cases hT : T ≠ 0 ∧ T ≠ 1
  · have hd : decide (T = 0 ∨ T = 1) = false := by simp; omega
    have he : sealE T C ne nb = 53 := by unfold sealE; rw [if_pos hT]
    rw [he]
    go_enter Try.func14, Try.ntmps14
    go_wp2_with fail
    refine (isType_any _ T).mono ?_
    rw [hd]
    rintro e w' ⟨rfl, rfl⟩
    go_wp2_with fail
    go_ret2
    exact ⟨rfl, hB⟩
  have hd : decide (T = 0 ∨ T = 1) = true := by simp; omega
  by_cases hC : C < 0 ∨ 65535 < C ∨ (T = 1 ∧ C ≠ 0)
  · have he : sealE T C ne nb = 54 := by unfold sealE; rw [if_neg hT, if_pos hC]
    rw [he]
    have hcase : C < 0 ∨ (¬ C < 0 ∧ 65535 < C) ∨ (¬ C < 0 ∧ ¬ 65535 < C ∧ (T == 1) = true ∧ (C != 0) = true) := by
      by_cases h1 : C < 0
      · exact .inl h1
      · by_cases h2 : 65535 < C
        · exact .inr (.inl ⟨h1, h2⟩)
        · rcases hC with h3 | h3 | ⟨h3, h4⟩
          · exact absurd h3 h1
          · exact absurd h3 h2
          · exact .inr (.inr ⟨h1, h2, by simp [h3], by simpa using h4⟩)
    clear hC hT h he
    go_enter Try.func14, Try.ntmps14
    go_wp2_with fail
    refine (isType_any _ T).mono ?_
    rw [hd]
    rintro e w' ⟨rfl, rfl⟩
    rcases hcase with h1 | ⟨h1, h2⟩ | ⟨h1, h2, h3, h4⟩ <;>
    · go_wp2_with fail
      go_ret2
      exact ⟨rfl, hB⟩
  have hok : ¬ C < 0 ∧ ¬ 65535 < C ∧ ((T == 1) = false ∨ (T == 1) = true ∧ (C != 0) = false) := by
    refine ⟨by omega, by omega, ?_⟩
    by_cases h1 : T = 1
    · refine .inr ⟨by simp [h1], ?_⟩
      have : C = 0 := by omega
      simp [this]
    · exact .inl (by simp [h1])
  obtain ⟨c1, c2, c3⟩ := hok
  by_cases hE : ne % 4 ≠ 0 ∨ 1012 < ne
  · have he : sealE T C ne nb = 52 := by unfold sealE; rw [if_neg hT, if_neg hC, if_pos hE]
    rw [he]
    clear hC hT h he
    have hcase : (((ne : Int) % 4) != 0) = true ∨ ((((ne : Int) % 4) != 0) = false ∧ 1012 < ne) := by
      by_cases h1 : ne % 4 = 0
      · exact .inr ⟨by have : (ne : Int) % 4 = 0 := by omega
                       simp [this], by omega⟩
      · exact .inl (by simp; omega)
    go_enter Try.func14, Try.ntmps14
    go_wp2_with fail
    refine (isType_any _ T).mono ?_
    rw [hd]
    rintro e w' ⟨rfl, rfl⟩
    rcases hcase with h1 | ⟨h1, h2⟩ <;> rcases c3 with h3 | ⟨h3, h4⟩ <;>
    · go_wp2_with fail
      go_ret2
      exact ⟨rfl, hB⟩
  have hE1 : (((ne : Int) % 4) != 0) = false := by
    have : (ne : Int) % 4 = 0 := by omega
    simp [this]
  have hE2 : ne ≤ 1012 := by omega
  have hL : 1048576 < 8 + ne + nb := by
    by_cases hL : 1048576 < 8 + ne + nb
    · exact hL
    · exfalso; apply h; unfold sealE; rw [if_neg hT, if_neg hC, if_neg hE, if_neg hL]
  have he : sealE T C ne nb = 2 := by unfold sealE; rw [if_neg hT, if_neg hC, if_neg hE, if_pos hL]
  rw [he]
  clear hC hT h he hE
  go_enter Try.func14, Try.ntmps14
  go_wp2_with fail
  refine (isType_any _ T).mono ?_
  rw [hd]
  rintro e w' ⟨rfl, rfl⟩
  rcases c3 with h3 | ⟨h3, h4⟩ <;>
  · go_wp2_with fail
    go_ret2
    exact ⟨rfl, hB⟩
end Go.Proofs.Ytofdpccjpodbhaa

namespace Go.Proofs.Ytofdpccjpodbhaa
open Go.RowKit
set_option linter.unusedVariables false

theorem wp_copy_bytes {P : Program} {w : World} {o : Oper} {a : Act} {K : Act → World → Prop} {Q : Exit → Act → World → Prop} (d s : Operand) (dT : TypeId)
    (ho : o.op = .call { callee := .builtin .copy, args := #[d, s], argTypes := #[dT, dT] }) (T : TypeId) (hu : P.underlying dT = some (.slice T)) (hinfo : (P.info? T).map (fun i => (i.zero, i.size, i.bytes)) = some (some (.int .u8 0), 1, 1))
    (dp sp : Option Addr) (dLen dCap sLen sCap : Nat) (hd : a.eval d = .slice dp dLen dCap) (hs : a.eval s = .slice sp sLen sCap)
    (b off : Nat) (cur src : List UInt8) (hb : Blk w b T cur) (hsrc : BytesIn w sp sLen sCap src) (hdp : 0 < dLen → dp = some ⟨b, off, none⟩) (hfit : off + dLen ≤ cur.length)
    (h : ∀ w', Blk w' b T (copyL cur src off dLen sLen) → Below b w w' → w'.heap.size = w.heap.size → (∀ k, k ≠ b → w'.heap[k]? = w.heap[k]?) → K (a.put o.dst (goInt ((min sLen dLen : Nat) : Int))) w') :
    o.wp P a w K Q := by
  obtain ⟨i, hi, hzz⟩ := Option.map_eq_some_iff.1 hinfo
  simp only [Prod.mk.injEq] at hzz
  have hsz : (P.info? T).map (·.size) = some 1 := by rw [hi]; simp [hzz.2.1]
  have hln : ((src.take dLen).map byteV).length = Nat.min sLen dLen := by
    rw [List.length_map, List.length_take, hsrc.len, Nat.min_comm]
  by_cases h0 : Nat.min sLen dLen = 0
  · have hrun := run_copy_none (P := P) w dT dT o.type T dp sp dLen dCap sLen sCap hu hsz h0
    have h0' : min sLen dLen = 0 := h0
    have := h w (by
      have e : src.take dLen = [] := List.eq_nil_of_length_eq_zero (by rw [List.length_take, hsrc.len, Nat.min_comm]; exact h0)
      unfold copyL
      rw [h0', e, Nat.add_zero, List.nil_append, List.take_append_drop]; exact hb) (Below.refl _ _) rfl (fun _ _ => rfl)
    rw [h0'] at this
    unfold Oper.wp
    simp [execOp, ho, resolve, invoke, builtin, hd, hs, hrun, Result.andThen]
    exact this
  · have hpos : 0 < sLen ∧ 0 < dLen := by
      have : min sLen dLen ≠ 0 := h0
      omega
    obtain ⟨sb, so, rfl, hsb, hcell⟩ := hsrc.at_ (by have := hsrc.le; omega)
    obtain rfl := hdp hpos.2
    have hrun := run_copy_row (P := P) w dT dT o.type T b off dLen dCap ⟨sb, so, none⟩ sLen sCap (cur.map byteV).toArray T ((src.take dLen).map byteV) hu hsz hb.blk hln (by
      intro j v hj
      have hadd : (⟨sb, so, none⟩ : Addr).add j = ⟨sb, so + j, none⟩ := by unfold Addr.add; split <;> simp_all
      have hjl : j < ((src.take dLen).map byteV).length := (List.getElem?_eq_some_iff.1 hj).1
      rw [hln] at hjl
      have hjs : j < sLen := Nat.lt_of_lt_of_le hjl (Nat.min_le_left _ _)
      have hjd : j < dLen := Nat.lt_of_lt_of_le hjl (Nat.min_le_right _ _)
      rw [hadd, hcell j hjs]
      rw [List.getElem?_map, List.getElem?_take, if_pos hjd] at hj
      rw [List.getD_eq_getElem?_getD]
      have hjs' : j < src.length := by rw [hsrc.len]; exact hjs
      rw [List.getElem?_eq_getElem hjs'] at hj ⊢
      simpa [byteV] using hj) (by
      rw [hln]
      have : Nat.min sLen dLen ≤ dLen := Nat.min_le_right _ _
      simp only [List.size_toArray, List.length_map]; omega) (by
      intro v hv
      obtain ⟨x, _, rfl⟩ := List.mem_map.1 hv
      rfl)
    rw [hln] at hrun
    unfold Oper.wp
    simp only [execOp, ho, resolve, invoke, builtin, Sem.run_bind, Sem.run_pure, Result.andThen_ok, List.map_toArray, List.map_cons, List.map_nil, hd, hs, hrun]
    refine h _ ⟨(setRow_heap w b _ _ T _ hb.blk).trans ?_⟩ (below_setRow (Below.refl _ _) (Nat.le_refl _) _) (by simp [World.setRow]) (fun k hk => setRow_other w b k _ hk)
    congr 2
    unfold copyL
    simp only [List.map_append, List.map_take, List.map_drop, List.append_assoc]

theorem step_copy_bytes {P : Program} {w : World} {ops : Array Oper} {o : Oper} {a : Act} {K : Act → World → Prop} {Q : Exit → Act → World → Prop} {E : Prop} (hgd : o.guard = none) (d s : Operand) (dT : TypeId)
    (ho : o.op = .call { callee := .builtin .copy, args := #[d, s], argTypes := #[dT, dT] }) (T : TypeId) (hu : P.underlying dT = some (.slice T)) (hinfo : (P.info? T).map (fun i => (i.zero, i.size, i.bytes)) = some (some (.int .u8 0), 1, 1))
    (dp sp : Option Addr) (dLen dCap sLen sCap : Nat) (hd : a.eval d = .slice dp dLen dCap) (hs : a.eval s = .slice sp sLen sCap)
    (b off : Nat) (cur src : List UInt8) (hb : Blk w b T cur) (hsrc : BytesIn w sp sLen sCap src) (hdp : 0 < dLen → dp = some ⟨b, off, none⟩) (hfit : off + dLen ≤ cur.length)
    (h : ∀ w', Blk w' b T (copyL cur src off dLen sLen) → Below b w w' → w'.heap.size = w.heap.size → (∀ k, k ≠ b → w'.heap[k]? = w.heap[k]?) → K (a.put o.dst (goInt ((min sLen dLen : Nat) : Int))) w') :
    if Region.wanted o (yielded ops a.tmps) = true then Oper.wp P o a w K Q else E := by
  have hw : Region.wanted o (yielded ops a.tmps) = true := by simp [Region.wanted, hgd]
  rw [if_pos hw]
  exact wp_copy_bytes d s dT ho T hu hinfo dp sp dLen dCap sLen sCap hd hs b off cur src hb hsrc hdp hfit h
end Go.Proofs.Ytofdpccjpodbhaa
