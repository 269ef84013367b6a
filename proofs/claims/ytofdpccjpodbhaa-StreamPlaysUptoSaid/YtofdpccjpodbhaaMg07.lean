/-
  The contract of awake of the statements of layer 5: it returns true. No conditions.
  The contracts of longshoreref05's headed, Header, begins, ReadHeader. Conditions: the bytes lie in memory and are not past 2^47 bytes.
  Appending a row of bytes, or a struct just laid, onto a row of the call's own. They speak of no program. No conditions.
-/
import Derived.Test.YtofdpccjpodbhaaOpen2
import Derived.Lib.SlBytesConst
import Derived.Test.YtofdpccjpodbhaaMg01
namespace Go.Proofs.Ytofdpccjpodbhaa
open Go.RowKit
set_option linter.unusedVariables false

theorem conv_str {P : Program} (w : World) (src dst e : TypeId) (hs : P.underlying src = some (.slice e)) (he : P.underlying e = some (.int .u8)) (hd : P.underlying dst = some .string) {a : Option Addr} {n c : Nat} {l r : List UInt8} (h : BytesIn w a n c l) (hl : l = r) :
    (convert src dst (.slice a n c)).run P w = .ok (.string ⟨r.toArray⟩) w := by
  subst hl
  exact run_string_bytes w src dst e hs he hd a n c l h

theorem BytesIn.new (w : World) (C : Array Value) (T : TypeId) (fz : Nat × Nat) (l : List UInt8) (n : Nat) (hC : C = (l.map byteV).toArray) (hn : l.length = n) (hm : n ≤ maxLen) : BytesIn (w.alloc (.cells C T fz)) (some ⟨w.heap.size, 0, none⟩) n n l := by
  refine ⟨hn, Nat.le_refl _, hm, fun _ => ⟨w.heap.size, 0, rfl, by simp, fun i hi => ?_⟩⟩
  have hh : (w.alloc (.cells C T fz)).heap[w.heap.size]? = some (.cells C T fz) := by
    show (w.heap.push _)[w.heap.size]? = _
    simp
  have hil : i < l.length := by omega
  have h2 : (w.alloc (.cells C T fz)).cell? ⟨w.heap.size, 0 + i, none⟩ = C[0 + i]? := by
    unfold World.cell?
    rw [hh]
    rfl
  rw [h2, hC, Nat.zero_add]
  simp [byteV, List.getD_eq_getElem?_getD, hil]

theorem OwnBytes.slice {w : World} {B T n c : Nat} {p : Option Addr} {l : List UInt8} (h : OwnBytes w B T (.slice p n c) l) : l.length = n ∧ BytesIn w p n c l := by
  obtain ⟨a, c', e, hb⟩ := h.bytes
  simp only [Value.slice.injEq] at e
  obtain ⟨rfl, rfl, rfl⟩ := e
  exact ⟨rfl, hb⟩

set_option maxHeartbeats 4000000 in
set_option maxRecDepth 20000 in
theorem awake_any (w : World) :
    Calls Try.prog 11 #[] w fun e w' => e = .returned (.bool true) ∧ Below w.heap.size w w' := by
  have q0 := Lib.run_convert_bytes_const (P := Try.prog) w 22 5 #[.int .u8 65, .int .u8 66] 2 2 Try.underlying22 Try.underlying5
  have i0 := BytesIn.new w #[.int .u8 65, .int .u8 66] 5 (2, 3) [65, 66] 2 rfl rfl (by decide)
  have b0 : Below w.heap.size w (w.alloc (.cells #[.int .u8 65, .int .u8 66] 5 (2, 3))) := (Below.refl _ _).alloc (Nat.le_refl _) _
  have hs := seal_ok _ 0 5 none _ 0 0 2 2 [] [65, 66] (BytesIn.nil _) i0 (by decide) (by decide) (by decide) (by decide) (by decide) (by decide) (by decide)
  go_enter Try.func11, Try.ntmps11
  go_wp2_with fail
  refine hs.mono ?_
  rintro e w1 ⟨g1, rfl, hg1, b1, k1⟩
  clear hs i0 q0
  have e1 : sealB 0 5 [] [65, 66] = [0, 0, 0, 10, 2, 0, 0, 5, 65, 66] := by decide
  rw [e1] at k1
  have c1 : Below w.heap.size w w1 := b0.trans (b1.mono (by simp))
  clear b0 b1 e1
  go_upto_region 2 with fail
  have q2 := Lib.run_convert_bytes_const (P := Try.prog) w1 22 5 #[.int .u8 0, .int .u8 0, .int .u8 0, .int .u8 10, .int .u8 2, .int .u8 0, .int .u8 0, .int .u8 5, .int .u8 65, .int .u8 66] 10 10 Try.underlying22 Try.underlying5
  have b2 : Below w1.heap.size w1 (w1.alloc (.cells #[.int .u8 0, .int .u8 0, .int .u8 0, .int .u8 10, .int .u8 2, .int .u8 0, .int .u8 0, .int .u8 5, .int .u8 65, .int .u8 66] 5 (10, 11))) := (Below.refl _ _).alloc (Nat.le_refl _) _
  have i2 := BytesIn.new w1 #[.int .u8 0, .int .u8 0, .int .u8 0, .int .u8 10, .int .u8 2, .int .u8 0, .int .u8 0, .int .u8 5, .int .u8 65, .int .u8 66] 5 (10, 11) [0, 0, 0, 10, 2, 0, 0, 5, 65, 66] 10 rfl rfl (by decide)
  have e2 : openR [0, 0, 0, 10, 2, 0, 0, 5, 65, 66] 0 512 = (0, 5, [], [65, 66], 10, 0) := by decide
  have ho : Calls _ _ _ _ (fun e w' => ∃ ea ne ce ba nb cb, e = .returned (.tuple #[.agg #[.int .i64 0, .int .i64 5, .slice ea ne ce, .slice ba nb cb], .int .i64 10, .int .i64 0]) ∧ Below _ _ w' ∧ OwnBytes w' _ 5 (.slice ea ne ce) [] ∧ OwnBytes w' _ 5 (.slice ba nb cb) [65, 66] ∧ Apart (.slice ea ne ce) (.slice ba nb cb)) :=
    (open_any _ _ _ _ _ 0 512 i2 (by decide)).mono fun e w' h => by rw [e2] at h; exact h
  go_wp2_with fail
  refine ho.mono ?_
  rintro e w2 ⟨ea, ne, ce, ba, nb, cb, rfl, b3, o1, o2, _⟩
  clear ho i2 e2 q2
  have c2 : Below w.heap.size w w2 := c1.trans ((b2.trans (b3.mono (by simp))).mono c1.size)
  have k1' := (k1.below b2).below (b3.mono (by simp))
  obtain ⟨z1, _⟩ := o1.slice
  obtain ⟨z2, j2⟩ := o2.slice
  obtain rfl : ne = 0 := z1.symm
  obtain rfl : nb = 2 := z2.symm
  clear z1 z2
  clear b2 b3 c1 k1 o1 o2 hg1
  go_upto_region 3 with fail
  have q3 := BytesIn.below j2 ((Below.refl w2.heap.size w2).alloc (Nat.le_refl _) (.cells #[.int .i64 0, .int .i64 5, .slice ea 0 ce, .slice ba 2 cb] 24))
  have k3 := k1'.below ((Below.refl w2.heap.size w2).alloc (Nat.le_refl _) (.cells #[.int .i64 0, .int .i64 5, .slice ea 0 ce, .slice ba 2 cb] 24))
  have c3 := c2.alloc c2.size (.cells #[.int .i64 0, .int .i64 5, .slice ea 0 ce, .slice ba 2 cb] 24)
  have f0 : (w2.alloc (.cells #[.int .i64 0, .int .i64 5, .slice ea 0 ce, .slice ba 2 cb] 24)).heap[w2.heap.size]? = some _ := heap_alloc_new _ _
  obtain ⟨fb, hfb⟩ : ∃ fb, w2.heap.size = fb := ⟨_, rfl⟩
  generalize (w2.alloc (.cells #[.int .i64 0, .int .i64 5, .slice ea 0 ce, .slice ba 2 cb] 24)) = w3 at *
  rw [hfb] at f0 ⊢
  clear hfb j2 k1' c2
  go_wp2_with fail
  refine (Header_ok w3 3 (.inr rfl)).mono ?_
  rintro e w4 ⟨g4, rfl, hg4, b4, k4⟩
  have c4 := c3.trans (b4.mono c3.size)
  have k5 := k3.below b4
  have q5 := q3.below b4
  have f1 := (b4.block fb (Array.getElem?_eq_some_iff.1 f0).1).trans f0
  clear k3 q3 f0 c3 b4 hg4
  go_upto_region 4 with fail
  have q6 := Lib.run_convert_bytes_const (P := Try.prog) w4 22 5 #[.int .u8 76, .int .u8 83, .int .u8 72, .int .u8 82, .int .u8 3, .int .u8 1, .int .u8 0, .int .u8 0] 8 8 Try.underlying22 Try.underlying5
  have b5 : Below w4.heap.size w4 (w4.alloc (.cells #[.int .u8 76, .int .u8 83, .int .u8 72, .int .u8 82, .int .u8 3, .int .u8 1, .int .u8 0, .int .u8 0] 5 (8, 9))) := (Below.refl _ _).alloc (Nat.le_refl _) _
  have i5 := BytesIn.new w4 #[.int .u8 76, .int .u8 83, .int .u8 72, .int .u8 82, .int .u8 3, .int .u8 1, .int .u8 0, .int .u8 0] 5 (8, 9) [76, 83, 72, 82, 3, 1, 0, 0] 8 rfl rfl (by decide)
  have e5 : readH [76, 83, 72, 82, 3, 1, 0, 0] (0 : Nat) = (3, 8, 0) := by decide
  have ho : Calls _ _ _ _ (fun e w' => e = .returned (.tuple #[.int .i64 3, .int .i64 8, .int .i64 0]) ∧ Below _ _ w') :=
    (read_in _ _ _ _ _ 0 i5 (by decide) (by decide)).mono fun e w' h => by rw [e5] at h; exact h
  go_wp2_with fail
  refine ho.mono ?_
  rintro e w5 ⟨rfl, b6⟩
  have b7 : Below w4.heap.size w4 w5 := b5.trans (b6.mono (by simp))
  have c5 := c4.trans (b7.mono c4.size)
  have k6 := k5.below b7
  have k7 := k4.below b7
  have q7 := q5.below b7
  have f2 := (b7.block fb (Array.getElem?_eq_some_iff.1 f1).1).trans f1
  clear ho i5 e5 q6 b5 b6 b7 k4 k5 q5 f1 c4
  have v1 := conv_str w5 22 9 5 Try.underlying22 Try.underlying5 Try.underlying9 (k6.all 10 10 rfl (Nat.le_refl _) (by decide)) rfl
  have v2 := conv_str w5 22 9 5 Try.underlying22 Try.underlying5 Try.underlying9 q7 rfl
  have v3 := conv_str (r := [76, 83, 72, 82, 3, 1, 0, 0]) w5 22 9 5 Try.underlying22 Try.underlying5 Try.underlying9 (k7.all 8 8 rfl (Nat.le_refl _) (by decide)) rfl
  have d0 : w5.cell? ⟨fb, 0, none⟩ = some (.int .i64 0) := by simp [World.cell?, f2]
  have d1 : w5.cell? ⟨fb, 1, none⟩ = some (.int .i64 5) := by simp [World.cell?, f2]
  have d2 : w5.cell? ⟨fb, 2, none⟩ = some (.slice ea 0 ce) := by simp [World.cell?, f2]
  have d3 : w5.cell? ⟨fb, 3, none⟩ = some (.slice ba 2 cb) := by simp [World.cell?, f2]
  clear k6 k7 q7 f2
  go_wp2_with fail
  go_ret
  exact ⟨rfl, c5⟩
end Go.Proofs.Ytofdpccjpodbhaa

namespace Go.Proofs.Ytofdpccjpodbhaa
open Go.RowKit
set_option linter.unusedVariables false

theorem headed_any (w : World) (p : Nat) (hp : p < 256) :
    Calls Try.prog 47 #[.int .i64 p] w fun e w' => e = .returned (.slice (some ⟨w.heap.size, 0, none⟩) 8 8) ∧ Below w.heap.size w w' ∧ Blk w' w.heap.size 5 (headL p) := by
  have hp' : ((UInt8.ofNat p).toNat : Int) = (p : Int) := by
    have : (UInt8.ofNat p).toNat = p % 256 := by simp
    omega
  go_enter Try.func47, Try.ntmps47
  go_wp2_with fail
  go_ret
  refine ⟨rfl, (Below.refl _ _).alloc (Nat.le_refl _) _, ⟨?_⟩⟩
  rw [heap_alloc_new]
  simp only [headL, byteV, List.map_cons, List.map_nil, hp']
  rfl

theorem rHeader_bad (w : World) (P : Int) (h : P ≠ 0 ∧ P ≠ 3) :
    Calls Try.prog 22 #[.int .i64 P] w fun e w' => e = .returned (.tuple #[.slice none 0 0, .int .i64 50]) ∧ w = w' := by
  have h0 : (P != 0) = true := by simpa using h.1
  have h3 : (P != 3) = true := by simpa using h.2
  clear h
  go_enter Try.func22, Try.ntmps22
  go_wp2_with fail
  go_ret2
  exact ⟨rfl, rfl⟩

theorem rHeader_ok (w : World) (p : Nat) (h : p = 0 ∨ p = 3) :
    Calls Try.prog 22 #[.int .i64 p] w fun e w' => ∃ g, e = .returned (.tuple #[.slice (some ⟨g, 0, none⟩) 8 8, .int .i64 0]) ∧ w.heap.size ≤ g ∧ Below w.heap.size w w' ∧ Blk w' g 5 (headL p) := by
  go_enter Try.func22, Try.ntmps22
  rcases h with rfl | rfl
  · go_wp2_with fail
    refine (headed_any w 0 (by decide)).mono ?_
    rintro e w1 ⟨rfl, hb, hk⟩
    go_wp2_with fail
    go_ret2
    exact ⟨w.heap.size, rfl, Nat.le_refl _, hb, hk⟩
  · go_wp2_with fail
    refine (headed_any w 3 (by decide)).mono ?_
    rintro e w1 ⟨rfl, hb, hk⟩
    go_wp2_with fail
    go_ret2
    exact ⟨w.heap.size, rfl, Nat.le_refl _, hb, hk⟩

set_option maxHeartbeats 1000000 in
theorem begins_any (w : World) (a : Option Addr) (n c : Nat) (l R : List UInt8) (A p : Nat) (h : BytesIn w a n c l) (hz : n ≤ 140737488355328) (hA : A ≤ n) (hp : p < 256) (hR : (l.drop A).take 8 = R) :
    Calls Try.prog 48 #[.slice a n c, .int .i64 A, .int .i64 p] w fun e w' => e = .returned (.bool (decide (R = (headL p).take R.length))) ∧ Below w.heap.size w w' := by
  have hle := h.le
  have hcap := h.cap
  have hlen := h.len
  unfold maxLen at hcap
  obtain ⟨K, hK⟩ : ∃ K, R.length = K := ⟨_, rfl⟩
  have hK8 : K = min 8 (n - A) := by rw [← hK, ← hR, List.length_take, List.length_drop, hlen]
  rw [hK]
  have HK := Lib.hid hK
  have HR := Lib.hid hR
  have hK1 : K ≤ 8 := by omega
  have hK2 : A + K ≤ n := by omega
  have hK3 : ¬ K < 8 ∨ ¬ A + K < n := by omega
  clear hK hR hlen hK8
  go_enter Try.func48, Try.ntmps48
  go_wp2_with fail
  refine (headed_any w p hp).mono ?_
  rintro e w1 ⟨rfl, hb, hk⟩
  have h1 := h.below hb
  have HB := Lib.hid hb
  have HH := Lib.hid hk
  have H1 := Lib.hid h1
  clear hb hk h1 h
  go_wp2_with fail
  go_loopw [8] (fun s8 wr => ∃ k : Nat, k ≤ K ∧ s8 = .int .i64 k ∧ Below w1.heap.size w1 wr ∧ Hid (R.take k = (headL p).take k)) (fun s8 _ => K - (intOf s8).toNat)
  case atStart => exact ⟨0, by omega, rfl, Below.refl _ _, Lib.hid rfl⟩
  case round =>
    obtain ⟨k, hkK, rfl, hW, hT⟩ := hrel
    have HW := Lib.hid (HB.out.trans (hW.mono HB.out.size))
    by_cases hlt : k < K
    · have hk8 : (k : Int) < 8 := by omega
      have hAk : (A : Int) + (k : Int) < (n : Int) := by omega
      have hby := H1.out.below hW
      obtain ⟨b, o, rfl, _, hc⟩ := hby.at_ (by omega)
      have hc1 := hc (A + k) (by omega)
      have hc2 := (HH.out.below hW).cell k (by show k < 8; omega)
      have eR := take_succ_getD R k (by rw [HK.out]; exact hlt)
      have eH := take_succ_getD (headL p) k (by show k < 8; omega)
      have hget : R.getD k 0 = l.getD (A + k) 0 := by
        rw [← HR.out, List.getD_eq_getElem?_getD, List.getElem?_take, if_pos (by omega), List.getElem?_drop, ← List.getD_eq_getElem?_getD]
      rw [← hget] at hc1
      obtain ⟨x, hx⟩ : ∃ x, R.getD k 0 = x := ⟨_, rfl⟩
      obtain ⟨y, hy⟩ : ∃ y, (headL p).getD k 0 = y := ⟨_, rfl⟩
      rw [hx] at hc1 eR
      rw [hy] at hc2 eH
      have ER := Lib.hid eR
      have EH := Lib.hid eH
      obtain ⟨m, hm⟩ : ∃ m, A + k = m := ⟨_, rfl⟩
      have hwm : IntKind.i64.wrap ((A : Int) + (k : Int)) = (m : Int) := by
        have : (A : Int) + (k : Int) = (m : Int) := by omega
        rw [this]; unfold IntKind.wrap; simp [IntKind.signed, IntKind.bits]; omega
      have hmn : m < n := by omega
      have hcc1 : wr.cell? ⟨b, o + m, none⟩ = some (.int .u8 x.toNat) := by rw [← hm]; exact hc1
      have hcc2 : wr.cell? ⟨w.heap.size, k, none⟩ = some (.int .u8 y.toNat) := hc2
      clear hx hy hget eR eH hc hby hc1 hc2 hm
      by_cases hxy : x = y
      · subst hxy
        go_wp2_with fail
        go_quiet (fail)
        go_wp2_with fail
        go_roundw
        case rel => exact ⟨k + 1, by omega, by go_num, below_drewN hW _, Lib.hid (by rw [ER.out, EH.out, hT.out])⟩
        case measure => simp [intOf]; omega
      · have hne : ((x.toNat : Int) != (y.toNat : Int)) = true := by
          rw [bne_iff_ne]; intro h; exact hxy (UInt8.toNat_inj.1 (by omega))
        have hfin : ¬ R = (headL p).take K := fun he => by
          have h1 : R.take (k + 1) = (headL p).take (k + 1) := by
            rw [he, List.take_take, Nat.min_eq_left (by omega)]
          rw [ER.out, EH.out, hT.out] at h1
          exact hxy (by simpa using h1)
        have HFN := Lib.hid hfin
        clear hfin
        go_wp2_with fail
        go_quiet (fail)
        go_wp2_with fail
        go_ret
        refine ⟨by rw [decide_eq_false HFN.out]; rfl, ?_⟩
        exact ⟨HW.out.os, HW.out.tape, HW.out.output, HW.out.size, HW.out.block⟩
    · obtain rfl : k = K := by omega
      have hfin : decide (R = (headL p).take R.length) = true := by
        have h1 := hT.out
        rw [← HK.out, List.take_length] at h1
        exact decide_eq_true h1
      rw [HK.out] at hfin
      have HFN := Lib.hid hfin
      clear hfin
      have hcase : ¬ (k : Int) < 8 ∨ ((k : Int) < 8 ∧ ¬ (A : Int) + (k : Int) < (n : Int)) := by omega
      rcases hcase with h1 | ⟨h1, h2⟩ <;>
      · go_wp2_with fail
        go_ret
        refine ⟨by rw [HFN.out]; rfl, ?_⟩
        exact ⟨HW.out.os, HW.out.tape, HW.out.output, HW.out.size, HW.out.block⟩

theorem headL_take (p q k : Nat) (hk : k ≤ 4) : (headL p).take k = (headL q).take k := by
  match k, hk with
  | 0, _ => rfl
  | 1, _ => rfl
  | 2, _ => rfl
  | 3, _ => rfl
  | 4, _ => rfl

/-- the header that the bytes are looked at as -/
theorem headP_cases (R : List UInt8) : headP R = 0 ∨ headP R = 3 := by
  unfold headP
  by_cases h : 4 < R.length ∧ (R.getD 4 0 = 0 ∨ R.getD 4 0 = 3)
  · rw [if_pos h]
    rcases h.2 with e | e
    · rw [e]; exact .inl rfl
    · rw [e]; exact .inr rfl
  · rw [if_neg h]; exact .inl rfl
theorem headP_of (R : List UInt8) (p : Nat) (hp : p = 0 ∨ p = 3) (h : R = (headL p).take R.length) (hl : 4 < R.length) : headP R = p := by
  have h4 : R.getD 4 0 = UInt8.ofNat p := by
    have h0 : R.getD 4 0 = ((headL p).take R.length).getD 4 0 := congrArg (fun l => l.getD 4 0) h
    rw [h0, List.getD_eq_getElem?_getD, List.getElem?_take, if_pos hl]
    rfl
  unfold headP
  rw [h4]
  rcases hp with rfl | rfl
  · rw [if_pos ⟨hl, .inl rfl⟩]; rfl
  · rw [if_pos ⟨hl, .inr rfl⟩]; rfl
/-- it begins as one of the two just where it begins as the one it is looked at as -/
theorem headP_iff (R : List UInt8) : (R = (headL 0).take R.length ∨ R = (headL 3).take R.length) ↔ R = (headL (headP R)).take R.length := by
  constructor
  · intro h
    by_cases hl : 4 < R.length
    · rcases h with h | h
      · rw [headP_of R 0 (.inl rfl) h hl]; exact h
      · rw [headP_of R 3 (.inr rfl) h hl]; exact h
    · rcases h with h | h
      · rw [headL_take (headP R) 0 _ (by omega)]; exact h
      · rw [headL_take (headP R) 3 _ (by omega)]; exact h
  · intro h
    rcases headP_cases R with e | e
    · rw [e] at h; exact .inl h
    · rw [e] at h; exact .inr h

theorem rread_arg (w : World) (a : Option Addr) (n c : Nat) (at_ : Int) (hc : c ≤ maxLen) (hn : n ≤ c) (hb : at_ < 0 ∨ (n : Int) < at_) :
    Calls Try.prog 24 #[.slice a n c, .int .i64 at_] w fun e w' => e = .returned (.tuple #[.int .i64 0, .int .i64 0, .int .i64 1]) ∧ w = w' := by
  have hcase : at_ < 0 ∨ (¬ at_ < 0 ∧ (n : Int) < at_) := by omega
  unfold maxLen at hc
  clear hb
  go_enter Try.func24, Try.ntmps24
  rcases hcase with h1 | ⟨h1, h2⟩ <;>
  · go_wp2_with fail
    go_ret3
    exact ⟨rfl, rfl⟩

set_option maxHeartbeats 1000000 in
theorem rread_in (w : World) (a : Option Addr) (n c : Nat) (l : List UInt8) (A : Nat) (h : BytesIn w a n c l) (hz : n ≤ 140737488355328) (hA : A ≤ n) :
    Calls Try.prog 24 #[.slice a n c, .int .i64 A] w fun e w' => e = .returned (.tuple #[.int .i64 (readH l A).1, .int .i64 (readH l A).2.1, .int .i64 (readH l A).2.2]) ∧ Below w.heap.size w w' := by
  obtain ⟨R, hR⟩ : ∃ R, (l.drop A).take 8 = R := ⟨_, rfl⟩
  have hRI := readH_in l A R (by rw [h.len]; exact hA) hR
  have hRl : R.length = min 8 (n - A) := by rw [← hR, List.length_take, List.length_drop, h.len]
  have hl0 : R.length < 8 ↔ n - A < 8 := by omega
  have hle := h.le
  have hcap := h.cap
  unfold maxLen at hcap
  have hb1 := begins_any w a n c l R A 0 h hz hA (by decide) hR
  obtain ⟨m0, hm0⟩ : ∃ b, decide (R = (headL 0).take R.length) = b := ⟨_, rfl⟩
  obtain ⟨m3, hm3⟩ : ∃ b, decide (R = (headL 3).take R.length) = b := ⟨_, rfl⟩
  have hH : Hid (BytesIn w a n c l) := Lib.hid h
  have hb3 : ∀ w1, Below w.heap.size w w1 → Calls Try.prog 48 #[.slice a n c, .int .i64 A, .int .i64 3] w1 fun e w' => e = .returned (.bool m3) ∧ Below w1.heap.size w1 w' := fun w1 hw => by
    have := begins_any w1 a n c l R A 3 (hH.out.below hw) hz hA (by decide) hR
    rw [hm3] at this
    exact this
  rw [hm0] at hb1
  have hval : readH l A = if m0 = false ∧ m3 = false then (0, 0, 50) else if n - A < 8 then (0, 0, 10) else if m0 = true then (0, (A : Int) + 8, 0) else (3, (A : Int) + 8, 0) := by
    rw [hRI]
    by_cases hbeg : R = (headL (headP R)).take R.length
    · have hor := (headP_iff R).2 hbeg
      rw [if_neg (by simpa using hbeg), if_neg (c := m0 = false ∧ m3 = false) (by
        rintro ⟨e0, e3⟩
        rw [e0] at hm0
        rw [e3] at hm3
        rcases hor with h | h
        · exact of_decide_eq_false hm0 h
        · exact of_decide_eq_false hm3 h)]
      by_cases h8 : R.length < 8
      · rw [if_pos h8, if_pos (hl0.1 h8)]
      · rw [if_neg h8, if_neg (fun h => h8 (hl0.2 h))]
        by_cases hm : m0 = true
        · rw [if_pos hm, headP_of R 0 (.inl rfl) (by rw [hm] at hm0; exact of_decide_eq_true hm0) (by omega)]
          rfl
        · rw [if_neg hm]
          rcases hor with h | h
          · exact absurd (by rw [← hm0]; exact decide_eq_true h) hm
          · rw [headP_of R 3 (.inr rfl) h (by omega)]; rfl
    · have hor : ¬ (R = (headL 0).take R.length ∨ R = (headL 3).take R.length) := fun h => hbeg ((headP_iff R).1 h)
      rw [if_pos hbeg, if_pos ⟨by rw [← hm0]; exact decide_eq_false (fun h => hor (.inl h)), by rw [← hm3]; exact decide_eq_false (fun h => hor (.inr h))⟩]
  have HV := Lib.hid hval
  clear hval hRI hRl hl0 hm0 hm3 hR h
  have hnA : ¬ n < A := by omega
  go_enter Try.func24, Try.ntmps24
  go_wp2_with fail
  refine hb1.mono ?_
  rintro e w1 ⟨rfl, hw1⟩
  have hc3 := hb3 w1 hw1
  go_wp2_with fail
  refine hc3.mono ?_
  rintro e w2 ⟨rfl, hw2⟩
  have hB := hw1.trans (hw2.mono hw1.size)
  have hB' := Lib.hid hB
  clear hb1 hb3 hc3 hw1 hw2 hB
  cases m0 <;> cases m3
  · go_wp2_with fail
    go_ret3
    rw [HV.out.trans (if_pos (by simp))]
    exact ⟨rfl, hB'.out⟩
  all_goals
    by_cases h8 : n - A < 8
    · have h8' : (n : Int) - (A : Int) < 8 := by omega
      go_wp2_with fail
      go_ret3
      rw [HV.out.trans ((if_neg (by simp)).trans (if_pos h8))]
      exact ⟨rfl, hB'.out⟩
    · have h8' : ¬ (n : Int) - (A : Int) < 8 := by omega
      go_wp2_with fail
      go_ret3
      rw [HV.out.trans ((if_neg (by simp)).trans (if_neg h8))]
      exact ⟨rfl, hB'.out⟩

/-- both read alike -/
theorem read_any (w : World) (a : Option Addr) (n c : Nat) (l : List UInt8) (at_ : Int) (h : BytesIn w a n c l) (hz : n ≤ 140737488355328) :
    Calls Try.prog 23 #[.slice a n c, .int .i64 at_] w fun e w' => e = .returned (.tuple #[.int .i64 (readH l at_).1, .int .i64 (readH l at_).2.1, .int .i64 (readH l at_).2.2]) ∧ Below w.heap.size w w' := by
  by_cases hb : at_ < 0 ∨ (n : Int) < at_
  · have e : readH l at_ = (0, 0, 1) := by unfold readH; rw [if_pos (by rw [h.len]; exact hb)]
    rw [e]
    exact (read_arg w a n c l at_ h hz hb).mono fun e w' hh => ⟨hh.1, by rw [← hh.2]; exact Below.refl _ _⟩
  · obtain ⟨A, rfl⟩ := Int.eq_ofNat_of_zero_le (show 0 ≤ at_ by omega)
    exact read_in w a n c l A h hz (by omega)
theorem rread_any (w : World) (a : Option Addr) (n c : Nat) (l : List UInt8) (at_ : Int) (h : BytesIn w a n c l) (hz : n ≤ 140737488355328) :
    Calls Try.prog 24 #[.slice a n c, .int .i64 at_] w fun e w' => e = .returned (.tuple #[.int .i64 (readH l at_).1, .int .i64 (readH l at_).2.1, .int .i64 (readH l at_).2.2]) ∧ Below w.heap.size w w' := by
  by_cases hb : at_ < 0 ∨ (n : Int) < at_
  · have e : readH l at_ = (0, 0, 1) := by unfold readH; rw [if_pos (by rw [h.len]; exact hb)]
    rw [e]
    exact (rread_arg w a n c at_ h.cap h.le hb).mono fun e w' hh => ⟨hh.1, by rw [← hh.2]; exact Below.refl _ _⟩
  · obtain ⟨A, rfl⟩ := Int.eq_ofNat_of_zero_le (show 0 ≤ at_ by omega)
    exact rread_in w a n c l A h hz (by omega)
end Go.Proofs.Ytofdpccjpodbhaa

namespace Go.Proofs.Ytofdpccjpodbhaa
open Go.RowKit
set_option linter.unusedVariables false

theorem run_append_none {P : Program} (w : World) (B t ty e : Nat) (i : TypeInfo) (size : Nat) (ht : P.underlying t = some (.slice e)) (hi : P.info? e = some i) (hsz : i.size = size)
    (v : Value) (n c : Nat) (xs : List Value) (hown : w.ownsRow B e size v n xs) : (Builtin.append_ #[t, t] ty #[v, .slice none 0 c]).run P w = .ok v w := by
  rcases hown.2 with ⟨rfl, rfl⟩ | ⟨g, cap, cur, rfl, hbg, hg, hnc, hcm, hcs, htake⟩
  · simp [Builtin.append_, run_underlying ht, sizeOf, typeInfo, hi, Builtin.lenOf, Builtin.firstCells]
  · simp [Builtin.append_, run_underlying ht, sizeOf, typeInfo, hi, Builtin.lenOf, Builtin.firstCells, loadCells, hnc, storeCells]

theorem run_append_bytes {P : Program} (w : World) (B t ty e : Nat) (ht : P.underlying t = some (.slice e)) (hinfo : (P.info? e).map (fun i => (i.zero, i.size, i.bytes)) = some (some (.int .u8 0), 1, 1))
    (v : Value) (l r : List UInt8) (xa : Option Addr) (n c : Nat) (hown : OwnBytes w B e v l) (hr : BytesIn w xa n c r) (hlen : l.length + n ≤ 140737488355328) (hbase : B ≤ w.heap.size) :
    ∃ v' w', (Builtin.append_ #[t, t] ty #[v, .slice xa n c]).run P w = .ok v' w' ∧ OwnBytes w' B e v' (l ++ r) ∧ w.grownBy w' v.ownBlock := by
  obtain ⟨i, hi, hzz⟩ := Option.map_eq_some_iff.1 hinfo
  simp only [Prod.mk.injEq] at hzz
  obtain ⟨hz, hsz, hb⟩ := hzz
  have hrl := hr.len
  cases xa with
  | none =>
    have hn : n = 0 := by
      have := hr.le
      rcases Nat.eq_zero_or_pos c with h0 | h0
      · omega
      · obtain ⟨_, _, h, _⟩ := hr.at_ h0
        simp at h
    subst hn
    obtain rfl : r = [] := List.eq_nil_of_length_eq_zero hrl
    refine ⟨v, w, run_append_none w B t ty e i 1 ht hi hsz v _ c _ hown.row, by rw [List.append_nil]; exact hown, ⟨rfl, rfl, rfl, Nat.le_refl _, fun _ _ _ => rfl⟩⟩
  | some ad =>
    obtain ⟨v', w', h1, h2, h3, _⟩ := run_append_own (P := P) w B t ty e i (.int .u8 0) 1 1 ht hi hz hsz hb rfl (by decide) v l.length (l.map byteV) hown.row ad n c (r.map byteV) (by rw [List.length_map, hrl, Nat.mul_one]) (by
      intro j u hj
      have hjl : j < n := by
        have := (List.getElem?_eq_some_iff.1 hj).1
        rw [List.length_map, hrl] at this
        exact this
      obtain ⟨b, o, e', _, hc⟩ := hr.at_ (by have := hr.le; omega)
      simp only [Option.some.injEq] at e'
      subst e'
      have hadd : (⟨b, o, none⟩ : Addr).add j = ⟨b, o + j, none⟩ := by unfold Addr.add; split <;> simp_all
      rw [hadd, hc j hjl, ← hj, List.getElem?_map, List.getD_eq_getElem?_getD, List.getElem?_eq_getElem (by omega)]
      simp [byteV]) (by
      intro u hu
      obtain ⟨x, _, rfl⟩ := List.mem_map.1 hu
      rfl) (by unfold maxLen; omega) (by omega) hbase
    refine ⟨v', w', h1, ⟨?_⟩, h3⟩
    rw [List.length_append, hrl, List.map_append]
    exact h2

/-- 'append(s, r...)' -/
theorem wpList_append_bytes {P : Program} {w : World} {ops : Array Oper} {rest : List Oper} {o : Oper} {a : Act} {Q : Exit → Act → World → Prop} (hgd : o.guard = none)
    (s x : Operand) (t : TypeId) (ho : o.op = .call { callee := .builtin .append, args := #[s, x], argTypes := #[t, t] })
    (B e : Nat) (ht : P.underlying t = some (.slice e)) (hinfo : (P.info? e).map (fun i => (i.zero, i.size, i.bytes)) = some (some (.int .u8 0), 1, 1))
    (v : Value) (l r : List UInt8) (xa : Option Addr) (n c : Nat)
    (hs : a.eval s = v) (hx : a.eval x = .slice xa n c) (hown : OwnBytes w B e v l) (hr : BytesIn w xa n c r)
    (hlen : l.length + n ≤ 140737488355328) (hbase : B ≤ w.heap.size)
    (h : ∀ v' w', OwnBytes w' B e v' (l ++ r) → w.grownBy w' v.ownBlock → wpList P ops Q rest (a.put o.dst v') w') :
    wpList P ops Q (o :: rest) a w := by
  refine wpList_plain hgd fun K hK => ?_
  obtain ⟨v', w', h1, h2, h3⟩ := run_append_bytes (P := P) w B t o.type e ht hinfo v l r xa n c hown hr hlen hbase
  unfold Oper.wp execOp
  simp only [ho, resolve, invoke, builtin, Sem.run_bind, Sem.run_pure, Result.andThen_ok, List.map_toArray, List.map_cons, List.map_nil, hs, hx, h1]
  exact hK _ _ (h v' w' h2 h3)

/-- 'append(s, y)' of a struct of some cells, in the block that the statement has just laid -/
theorem wpList_append_struct {P : Program} {wr : World} {ops : Array Oper} {rest : List Oper} {o : Oper} {a : Act} {Q : Exit → Act → World → Prop} (hgd : o.guard = none)
    (s x : Operand) (t : TypeId) (ho : o.op = .call { callee := .builtin .append, args := #[s, x], argTypes := #[t, t] })
    (B e : Nat) (z : Value) (size bytes : Nat) (ht : P.underlying t = some (.slice e)) (hinfo : (P.info? e).map (fun i => (i.zero, i.size, i.bytes)) = some (some z, size, bytes)) (hz1 : z.cells.size = size) (hpos : 0 < size)
    (v : Value) (n : Nat) (xs ys : List Value) (hyl : ys.length = size) (hy : ∀ u ∈ ys, u.oneCell' = true)
    (hs : a.eval s = v) (hx : a.eval x = .slice (some ⟨wr.heap.size, 0, none⟩) 1 1) (hown : wr.ownsRow B e size v n xs)
    (h63 : n + 1 ≤ maxLen) (hbytes : (n + 1) * bytes ≤ 140737488355328) (hbase : B ≤ wr.heap.size)
    (h : ∀ v' w', w'.ownsRow B e size v' (n + 1) (xs ++ ys) → wr.grownBy w' v.ownBlock → wpList P ops Q rest (a.put o.dst v') w') :
    wpList P ops Q (o :: rest) a (wr.alloc (.cells ys.toArray e)) := by
  obtain ⟨i, hi, hzz⟩ := Option.map_eq_some_iff.1 hinfo
  simp only [Prod.mk.injEq] at hzz
  obtain ⟨hz, hsz, hb⟩ := hzz
  refine wpList_plain hgd fun K hK => ?_
  obtain ⟨v', w', hr, h2, h3, h4⟩ := run_append_own (P := P) (wr.alloc (.cells ys.toArray e)) B t o.type e i z size bytes ht hi hz hsz hb hz1 hpos v n xs (hown.alloc _) ⟨wr.heap.size, 0, none⟩ 1 1 ys (by rw [hyl, Nat.one_mul]) (by
      intro j u hj
      have hadd : (⟨wr.heap.size, 0, none⟩ : Addr).add j = ⟨wr.heap.size, 0 + j, none⟩ := by unfold Addr.add; split <;> simp_all
      rw [hadd, Nat.zero_add]
      simp only [World.cell?, heap_alloc_new]
      simpa using hj) hy h63 hbytes (by simp; omega)
  have hg : wr.grownBy w' v.ownBlock :=
    ⟨h3.os, h3.tape, h3.output, Nat.le_trans (by simp) h3.size, fun k hk hne => (h3.block k (by simp; omega) hne).trans (Below.heap_alloc wr _ k hk)⟩
  unfold Oper.wp execOp
  simp only [ho, resolve, invoke, builtin, Sem.run_bind, Sem.run_pure, Result.andThen_ok, List.map_toArray, List.map_cons, List.map_nil, hs, hx, hr]
  exact hK _ _ (h v' w' h2 hg)
end Go.Proofs.Ytofdpccjpodbhaa
