/-
  The contracts of frame.number, part and Open. Conditions: the bytes lie in memory and are not past 2^47 bytes.
-/
import Derived.Test.YtofdpccjpodbhaaRead
import Derived.Test.YtofdpccjpodbhaaSeal2
namespace Go.Proofs.Ytofdpccjpodbhaa
open Go.RowKit
set_option linter.unusedVariables false

theorem number_ok (w : World) (a : Option Addr) (n c : Nat) (l : List UInt8) (h : BytesIn w a n c l) (at_ wd : Nat) (h1 : 1 ≤ wd) (h8 : wd ≤ 4) (hat : at_ + wd ≤ n) :
    Calls Try.prog 42 #[.slice a n c, .int .i64 at_, .int .i64 wd] w fun e w' => e = .returned (.int .i64 (beVal ((l.drop at_).take wd))) ∧ w = w' := by
  have hg := get_ok w a n c l h at_ wd h1 (by omega) hat
  have hv : beVal ((l.drop at_).take wd) < 4294967296 := by
    have h0 := beVal_lt ((l.drop at_).take wd)
    have h2 : 256 ^ ((l.drop at_).take wd).length ≤ 256 ^ 4 := Nat.pow_le_pow_right (by omega) (by rw [List.length_take]; omega)
    omega
  obtain ⟨x, hx⟩ : ∃ x, beVal ((l.drop at_).take wd) = x := ⟨_, rfl⟩
  rw [hx] at hg hv ⊢
  clear hx
  go_enter Try.func42, Try.ntmps42
  go_wp2_with fail
  refine hg.mono ?_
  rintro e w1 ⟨rfl, rfl⟩
  go_wp2_with fail
  go_ret
  exact ⟨rfl, rfl⟩

theorem BytesIn.cut {w : World} {a : Option Addr} {n c : Nat} {l : List UInt8} (h : BytesIn w a n c l) (A k c' : Nat) (h1 : A + k ≤ n) (h2 : k ≤ c') (h3 : A + c' ≤ c) (P : Prop) [Decidable P] (hP : P → c' = 0) :
    BytesIn w (if P then a else Option.map (fun x => x.add A) a) k c' ((l.drop A).take k) := by
  have hlen := h.len
  have hcap := h.cap
  unfold maxLen at hcap
  refine ⟨by rw [List.length_take, List.length_drop]; omega, h2, by unfold maxLen; omega, fun h0 => ?_⟩
  have hnP : ¬ P := fun hp => by have := hP hp; omega
  obtain ⟨b, o, e, hb, hc⟩ := h.at_ (by omega)
  refine ⟨b, o + A, ?_, hb, fun i hi => ?_⟩
  · rw [if_neg hnP, e]
    simp [Addr.add]
  · rw [Nat.add_assoc, hc (A + i) (by omega)]
    congr 3
    simp [List.getD_eq_getElem?_getD, List.getElem?_drop, hi]

set_option maxRecDepth 20000 in
theorem part_ok (w : World) (a : Option Addr) (n c : Nat) (l : List UInt8) (h : BytesIn w a n c l) (hz : n ≤ 140737488355328) (A E : Nat) (h1 : A ≤ E) (h2 : E ≤ n) :
    Calls Try.prog 43 #[.slice a n c, .int .i64 A, .int .i64 E] w fun e w' => ∃ g, e = .returned (.slice (some ⟨g, 0, none⟩) (E - A) (E - A)) ∧ w.heap.size ≤ g ∧ Below w.heap.size w w' ∧ Blk w' g 5 ((l.drop A).take (E - A)) := by
  have hle := h.le
  have hcap := h.cap
  unfold maxLen at hcap
  obtain ⟨m, hm⟩ : ∃ m, E - A = m := ⟨_, rfl⟩
  rw [hm]
  have HM := Lib.hid hm
  have hmn : m ≤ 140737488355328 := by omega
  clear hm
  go_enter Try.func43, Try.ntmps43
  go_upto_region 2 with fail
  have hcut := h.cut A (E - A) (E - A) (by omega) (Nat.le_refl _) (by omega) (E = A) (by omega)
  obtain ⟨ra, hra⟩ : ∃ ra, (if E = A then a else Option.map (fun x => x.add A) a) = ra := ⟨_, rfl⟩
  rw [hra] at hcut ⊢
  rw [HM.out] at hcut ⊢
  clear hra
  have hmk := run_make_row' (P := Try.prog) 22 5 (.int .u8 0) 1 Try.underlying22 info_u8 rfl .i64 .i64 m (by omega) (by omega)
  go_upto_region 3 with fail
  clear hmk
  have hB := Blk.made w m 5
  have hb : Below w.heap.size w (w.alloc (.cells (madeCells #[.int .u8 0] m) 5)) := (Below.refl _ _).alloc (Nat.le_refl _) _
  generalize (w.alloc (.cells (madeCells #[.int .u8 0] m) 5)) = w1 at *
  go_wp2_with (refine wpList_copy_bytes rfl (.tmp 17) (.tmp 18) 22 rfl 5 Try.underlying22 info_u8 _ _ _ _ _ _ rfl rfl w.heap.size 0 _ _ hB (hcut.below hb) (fun _ => rfl) ?hfit ?_)
  case hfit => simp
  intro w2 hB2 hb2 _ _
  have hll := hcut.len
  have e2 : copyL (List.replicate m (0 : UInt8)) ((l.drop A).take m) 0 m m = (l.drop A).take m := by
    unfold copyL
    rw [List.take_zero, List.nil_append, List.take_of_length_le (by omega), List.drop_replicate, Nat.min_self, show m - (0 + m) = 0 by omega]; simp
  rw [e2] at hB2
  go_wp2_with fail
  go_ret
  exact ⟨w.heap.size, rfl, Nat.le_refl _, hb.trans hb2, hB2⟩

/-- type, channel, ext, body, place, error -/
def openR (b : List UInt8) (at_ most : Int) : Nat × Nat × List UInt8 × List UInt8 × Int × Int :=
  if at_ < 0 ∨ (b.length : Int) < at_ ∨ most < 512 ∨ 1048576 < most then (0, 0, [], [], 0, 1)
  else
    let L := b.drop at_.toNat
    if L.length < 4 then (0, 0, [], [], 0, 10)
    else
      let size := beVal (L.take 4)
      if size < 8 ∨ most < size then (0, 0, [], [], 0, 51)
      else if L.length < 5 then (0, 0, [], [], 0, 10)
      else
        let off := 4 * (L.getD 4 0).toNat
        if off < 8 ∨ size < off then (0, 0, [], [], 0, 52)
        else if L.length < 6 then (0, 0, [], [], 0, 10)
        else
          let kind := (L.getD 5 0).toNat
          if 1 < kind then (0, 0, [], [], 0, 53)
          else if L.length < size then (0, 0, [], [], 0, 10)
          else (kind, if kind = 0 then beVal ((L.drop 6).take 2) else 0, (L.drop 8).take (off - 8), (L.drop off).take (size - off), at_ + size, 0)

theorem open_arg (w : World) (a : Option Addr) (n c : Nat) (l : List UInt8) (at_ most : Int) (h : BytesIn w a n c l) (hz : n ≤ 140737488355328) (hb : at_ < 0 ∨ (n : Int) < at_ ∨ most < 512 ∨ 1048576 < most) :
    Calls Try.prog 18 #[.slice a n c, .int .i64 at_, .int .i64 most] w fun e w' => e = .returned (.tuple #[.agg #[.int .i64 0, .int .i64 0, .slice none 0 0, .slice none 0 0], .int .i64 0, .int .i64 1]) ∧ Below w.heap.size w w' := by
  have hcase : at_ < 0 ∨ (¬ at_ < 0 ∧ (n : Int) < at_) ∨ (¬ at_ < 0 ∧ ¬ (n : Int) < at_ ∧ most < 512) ∨ (¬ at_ < 0 ∧ ¬ (n : Int) < at_ ∧ ¬ most < 512 ∧ 1048576 < most) := by omega
  clear hb
  go_enter Try.func18, Try.ntmps18
  rcases hcase with h1 | ⟨h1, h2⟩ | ⟨h1, h2, h3⟩ | ⟨h1, h2, h3, h4⟩ <;>
  · go_wp2_with fail
    go_returns
    exact ⟨rfl, (Below.refl _ _).alloc (Nat.le_refl _) _⟩
end Go.Proofs.Ytofdpccjpodbhaa
