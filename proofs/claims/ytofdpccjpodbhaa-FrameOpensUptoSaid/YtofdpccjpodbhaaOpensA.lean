/-
  FrameOpens' walk as far as its loops. Conditions: the bytes lie in memory and are not past 2^20 bytes, the numbers are ones.
-/
import Derived.Test.YtofdpccjpodbhaaOpensM
import Derived.Deep.DeepCutAuto
namespace Go.Proofs.Ytofdpccjpodbhaa
open Go.RowKit
set_option linter.unusedVariables false

def askO (p q : Int) (j : Nat) : Int := [p, q, p, p].getD j 0

set_option maxHeartbeats 8000000 in
set_option maxRecDepth 20000 in
noncomputable def opensA (w : World) (a : Option Addr) (n c : Nat) (l : List UInt8) (at_ most other : Int) (hz : n ≤ 1048576) :
    (R0 : Prop) ×' (R1 : Prop) ×' (Hid R0 → Hid R1 → BytesIn w a n c l → Calls Try.prog 4 #[.slice a n c, .int .i64 at_, .int .i64 most, .int .i64 other] w fun e w' => e = .returned (.bool true) ∧ Below w.heap.size w w') :=
  ⟨_, _, fun hR0 hR1 => by
  intro h
  have hle := h.le
  have hcap := h.cap
  unfold maxLen at hcap
  go_enter Try.func4, Try.ntmps4
  go_wp2_with fail
  refine (awake_any w).mono ?_
  rintro e w1 ⟨rfl, hb1⟩
  have hb := h.below hb1
  have H1 := Lib.hid hb
  have HB1 := Lib.hid hb1
  clear h hb1
  go_wp2_with fail
  refine (lent_any w1 a n c l hb hz).mono ?_
  rintro e wL ⟨g, cap, L, rfl, hg, hbL, hL, hLl, hLt, hLc, hLm⟩
  rw [H1.out.len] at hLt hLc ⊢
  have hgl := hL.lt
  have htk : L.take n = l := by
    have := congrArg (List.take n) hLt
    rw [List.take_take, Nat.min_eq_left (by omega), List.take_left' H1.out.len] at this
    exact this
  have hdr : (L.drop n).take 9 = spareL := by
    have := congrArg (List.drop n) hLt
    rw [List.drop_take, List.drop_left' H1.out.len] at this
    rwa [show n + 9 - n = 9 by omega] at this
  have HbL := Lib.hid hbL
  have HL := Lib.hid hL
  have HLl := Lib.hid hLl
  have HTK := Lib.hid htk
  have HDR := Lib.hid hdr
  have hLm' := hLm
  unfold maxLen at hLm'
  have HLm := Lib.hid hLm
  clear hb hbL hL hLl hLt htk hdr hLm
  go_upto_region 8 with fail
  have s0 : ((wL.alloc (.cells #[.int .i64 at_, .int .i64 other, .int .i64 at_, .int .i64 at_] 3)).alloc (.cells #[.slice none 0 0] 31)).heap[wL.heap.size]? = some (.cells #[.int .i64 at_, .int .i64 other, .int .i64 at_, .int .i64 at_] 3 (0, 0)) := (heap_alloc_old _ _ (by simp)).trans (heap_alloc_new _ _)
  have s1 : ((wL.alloc (.cells #[.int .i64 at_, .int .i64 other, .int .i64 at_, .int .i64 at_] 3)).alloc (.cells #[.slice none 0 0] 31)).heap[wL.heap.size + 1]? = some (.cells #[.slice none 0 0] 31 (0, 0)) := by
    have := heap_alloc_new (wL.alloc (.cells #[.int .i64 at_, .int .i64 other, .int .i64 at_, .int .i64 at_] 3)) (.cells #[.slice none 0 0] 31)
    simpa using this
  have b0 : Below wL.heap.size wL ((wL.alloc (.cells #[.int .i64 at_, .int .i64 other, .int .i64 at_, .int .i64 at_] 3)).alloc (.cells #[.slice none 0 0] 31)) := ((Below.refl _ _).alloc (Nat.le_refl _) _).alloc (by simp) _
  have z0 : wL.heap.size + 2 ≤ ((wL.alloc (.cells #[.int .i64 at_, .int .i64 other, .int .i64 at_, .int .i64 at_] 3)).alloc (.cells #[.slice none 0 0] 31)).heap.size := by simp
  generalize ((wL.alloc (.cells #[.int .i64 at_, .int .i64 other, .int .i64 at_, .int .i64 at_] 3)).alloc (.cells #[.slice none 0 0] 31)) = wA at *
  have hLA := HL.out.below b0
  have hlw : w1.heap.size ≤ wL.heap.size := HbL.out.size
  have hS : Opn w1 wA (wL.heap.size + 1) (wL.heap.size + 2) (.slice none 0 0) [] [] (.slice none 0 0) 0 :=
    ⟨HbL.out.trans (b0.mono hlw), by omega, by omega, z0, World.ownsRow_nil _ _ _ _, fun u hu => by simp [rowsOf] at hu, ⟨s1, World.ownsRow_nil _ _ _ _⟩, List.Pairwise.nil⟩
  obtain ⟨pl, hpl⟩ : ∃ p, wL.heap.size = p := ⟨_, rfl⟩
  rw [hpl] at hS s0 hgl ⊢
  have HS := Lib.hid hS
  have HA := Lib.hid s0
  have HLA := Lib.hid hLA
  clear hpl HbL HL s0 s1 b0 z0 hS hLA hlw
  go_wp2_with fail
  go_loopw [12, 14] (fun s12 s14 wr => ∃ (i : Nat) (R : List OutF), i ≤ 4 ∧ s14 = .int .i64 i ∧ R.length = i ∧ Opn w1 wr (pl + 1) (pl + 2) s12 R R (.slice none 0 0) 0 ∧ (∀ (j : Nat) (r : OutF), R[j]? = some r → r.is (openR l (askO at_ other j) most)) ∧ Hid (Lent wr g L) ∧ Hid (wr.heap[pl]? = some (.cells #[.int .i64 at_, .int .i64 other, .int .i64 at_, .int .i64 at_] 3 (0, 0)))) (fun _ s14 _ => 4 - (intOf s14).toNat)
  case atStart => exact ⟨0, [], by omega, rfl, rfl, HS.out, fun j r h => by simp at h, HLA, HA⟩
  case round =>
    clear HS HA HLA
    obtain ⟨i, R, hi, rfl, hRl, hS, hR, hLe, hA⟩ := hrel
    have HRl := Lib.hid hRl
    have HS := Lib.hid hS
    have HR := Lib.hid hR
    clear hRl hS hR
    by_cases hlt : i < 4
    · skip
      rename_i Z1 Z2 Z3
      revert hle hcap Z1 w1 H1 HB1 wL g cap L hg hLc HLl HTK HDR hLm' HLm Z2 Z3 wA pl hgl wr u8 u12 u15 u16 u17 u18 u19 u20 u21 u48 u49 u50 u51 u52 u53 u54 u55 u56 u57 u58 u59 u60 u61 u62 u63 u64 u65 u66 u67 u68 u69 u70 u71 u72 u73 u74 u75 u76 u77 u78 u79 u80 u81 u82 u83 u84 u85 u86 u87 u88 u89 u90 u91 u92 u93 u94 i R hi hLe hA HRl HS HR hlt
      exact hR0.out
    · skip
      rename_i Z1 Z2 Z3
      revert hle hcap Z1 w1 H1 HB1 wL g cap L hg hLc HLl HTK HDR hLm' HLm Z2 Z3 wA pl hgl wr u8 u12 u15 u16 u17 u18 u19 u20 u21 u48 u49 u50 u51 u52 u53 u54 u55 u56 u57 u58 u59 u60 u61 u62 u63 u64 u65 u66 u67 u68 u69 u70 u71 u72 u73 u74 u75 u76 u77 u78 u79 u80 u81 u82 u83 u84 u85 u86 u87 u88 u89 u90 u91 u92 u93 u94 i R hi hLe hA HRl HS HR hlt
      exact hR1.out⟩
end Go.Proofs.Ytofdpccjpodbhaa
