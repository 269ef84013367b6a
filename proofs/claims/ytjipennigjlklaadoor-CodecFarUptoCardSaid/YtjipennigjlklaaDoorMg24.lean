/-
  What stands behind is not looked at; a beginning is short; what is written tells values apart. Plain lemmas. No conditions.
  What the statements without the document say of the codec, as laws of values and bytes. Plain lemmas. No conditions.
  The codec's inner, put of every right value; Encode, Length. Conditions: the value lies in memory; the tables stand.
  Values that came in lie in memory. Plain lemmas over the form's readings. No conditions.
-/
import Derived.Test.YtjipennigjlklaaDoorCd
import Derived.Test.YtjipennigjlklaaDoorDd
import Derived.Test.YtjipennigjlklaaDoorMg04
import Derived.Test.YtjipennigjlklaaDoorRows
import Derived.ProofKit
import Derived.OpenShut
import Derived.ChangeArms
import Derived.Deep.Slices
namespace Go.Proofs.YtjipennigjlklaaDoor
open Go.RowKit
set_option linter.unusedVariables false

theorem take_app {s t : List UInt8} {w : Nat} (h : w ≤ s.length) : (s ++ t).take w = s.take w := List.take_append_of_le_length h
theorem drop_app {s t : List UInt8} {w : Nat} (h : w ≤ s.length) : (s ++ t).drop w = s.drop w ++ t := List.drop_append_of_le_length h
theorem fixed_ext {c : Nat} {s t : List UInt8} (h : fixedR c s ≠ .error .short) : fixedR c (s ++ t) = fixedR c s := by
  unfold fixedR at h ⊢
  by_cases a : s.length < widC c
  · rw [if_pos a] at h; exact absurd rfl h
  rw [if_neg a, if_neg (by rw [List.length_append]; omega), take_app (by omega)]
theorem raw_ext {c : Nat} {s t : List UInt8} (h : rawR c s ≠ .error .short) : rawR c (s ++ t) = rawR c s := by
  unfold rawR at h ⊢
  by_cases a : s.length < 16
  · rw [if_pos a] at h; exact absurd rfl h
  rw [if_neg a, if_neg (by rw [List.length_append]; omega), take_app (by omega)]
theorem text_ext {c : Nat} {s t : List UInt8} (h : textR c s ≠ .error .short) : textR c (s ++ t) = textR c s := by
  unfold textR at h ⊢
  by_cases a : s.length < wOf c
  · rw [if_pos a] at h; exact absurd rfl h
  rw [if_neg a] at h ⊢
  rw [take_app (by omega : wOf c ≤ s.length)]
  by_cases b : s.length < wOf c + beVal (s.take (wOf c))
  · rw [if_pos b] at h; exact absurd rfl h
  rw [if_neg b, if_neg (by rw [List.length_append]; omega), if_neg (by rw [List.length_append]; omega), drop_app (by omega), take_app (by rw [List.length_drop]; omega)]
theorem within_ext {c least : Nat} {rd : Nat → List UInt8 → Res} {s t : List UInt8} (h : withinR c least rd s ≠ .error .short) : withinR c least rd (s ++ t) = withinR c least rd s := by
  unfold withinR at h ⊢
  by_cases a : s.length < wOf c
  · rw [if_pos a] at h; exact absurd rfl h
  rw [if_neg a] at h ⊢
  rw [take_app (by omega : wOf c ≤ s.length), if_neg (by rw [List.length_append]; omega)]
  by_cases d : beVal (s.take (wOf c)) < least
  · rw [if_pos d, if_pos d]
  rw [if_neg d] at h ⊢
  rw [if_neg d]
  by_cases b : s.length < wOf c + beVal (s.take (wOf c))
  · rw [if_pos b] at h; exact absurd rfl h
  rw [if_neg b, if_neg (by rw [List.length_append]; omega), drop_app (by omega), take_app (by rw [List.length_drop]; omega)]
theorem dat_ext {rv : List UInt8 → Res} {rd : Nat → List UInt8 → Res} {c : Nat} {s t : List UInt8} (h : datR rv rd c s ≠ .error .short) : datR rv rd c (s ++ t) = datR rv rd c s := by
  unfold datR at h ⊢
  by_cases a : c / 16 = 9
  · rw [if_pos a] at h; rw [if_pos a, if_pos a]; exact raw_ext h
  rw [if_neg a] at h; rw [if_neg a, if_neg a]
  by_cases a : c / 16 = 10 ∨ c / 16 = 11
  · rw [if_pos a] at h; rw [if_pos a, if_pos a]; exact text_ext h
  rw [if_neg a] at h; rw [if_neg a, if_neg a]
  by_cases a : c / 16 = 12 ∨ c / 16 = 13
  · rw [if_pos a] at h; rw [if_pos a, if_pos a]; exact within_ext h
  rw [if_neg a] at h; rw [if_neg a, if_neg a]
  by_cases a : c / 16 = 14 ∨ c / 16 = 15
  · rw [if_pos a] at h; rw [if_pos a, if_pos a]; exact within_ext h
  rw [if_neg a] at h; rw [if_neg a, if_neg a]
  exact fixed_ext h
theorem headE_short {e : Er} (h : (Except.error (headE e) : Res) ≠ .error .short) : e ≠ .short := by rintro rfl; exact h rfl
theorem shiftE_short {e : Er} {k : Nat} (h : (Except.error (shiftE k e) : Res) ≠ .error .short) : e ≠ .short := by rintro rfl; exact h rfl
theorem err_ne {e : Er} (h : e ≠ .short) : (Except.error e : Res) ≠ .error .short := fun q => h (by cases q; rfl)
theorem val_ext : ∀ (n : Nat) (s t : List UInt8), s.length ≤ maxLen → rdV n s ≠ .error .short → rdV n (s ++ t) = rdV n s
  | 0, [], t, hs, h => absurd rfl h
  | 0, x :: s, t, hs, h => rfl
  | n + 1, [], t, hs, h => absurd rfl h
  | n + 1, x :: s, t, hs, h => by
    simp only [List.length_cons] at hs
    rw [rdV_succ] at h ⊢
    rw [List.cons_append, valR_cons]
    rw [valR_cons] at h
    rw [valR_cons]
    by_cases a : kindC x.toNat < 0
    · rw [if_pos a, if_pos a]
    rw [if_neg a] at h; rw [if_neg a, if_neg a]
    by_cases a : x.toNat = 0
    · rw [if_pos a] at h; rw [if_pos a, if_pos a]
      unfold pairR at h ⊢
      cases h1 : rdV n s with
      | error e =>
        rw [h1] at h
        have h2 := shiftE_short h
        have h3 := val_ext n s t (by omega) (by rw [h1]; exact err_ne h2)
        rw [h1] at h3
        rw [h3]
      | ok p =>
        obtain ⟨d, k⟩ := p
        rw [h1] at h
        have h3 := val_ext n s t (by omega) (by rw [h1]; simp)
        rw [h1] at h3
        rw [h3]
        have hg := ((both_good n).2 s d k (by omega) h1).le
        simp only at h ⊢
        rw [drop_app hg]
        cases h4 : rdV n (s.drop k) with
        | error e =>
          rw [h4] at h
          have h2 := shiftE_short h
          have h5 := val_ext n (s.drop k) t (by rw [List.length_drop]; omega) (by rw [h4]; exact err_ne h2)
          rw [h4] at h5
          rw [h5]
        | ok p =>
          have h5 := val_ext n (s.drop k) t (by rw [List.length_drop]; omega) (by rw [h4]; simp)
          rw [h4] at h5
          rw [h5]
    rw [if_neg a] at h; rw [if_neg a, if_neg a]
    by_cases a : x.toNat / 16 = 4
    · rw [if_pos a, if_pos a]
    rw [if_neg a] at h; rw [if_neg a, if_neg a]
    cases h1 : datR (rdV n) (rdD n) x.toNat s with
    | error e =>
      rw [h1] at h
      have h2 := headE_short h
      have h3 := dat_ext (t := t) (show datR (rdV n) (rdD n) x.toNat s ≠ .error .short by rw [h1]; exact err_ne h2)
      rw [h1] at h3
      rw [h3]
    | ok p =>
      have h3 := dat_ext (t := t) (show datR (rdV n) (rdD n) x.toNat s ≠ .error .short by rw [h1]; simp)
      rw [h1] at h3
      rw [h3]

/-! ### the bytes of a value alone -/
/-! ### apart -/

theorem right_iff {v : V} (hw : AllP V.Wf v 1) : firstBad (v.pre 1) = 0 ↔ Right v ∧ v.dep ≤ 32 := by
  rw [check_law v 1 (by omega)]
  constructor
  · rintro ⟨h1, h2⟩
    exact ⟨fun p hp => ⟨h1 p hp, hw p hp⟩, by omega⟩
  · rintro ⟨h1, h2⟩
    exact ⟨h1.ok, by omega⟩
theorem vin_wf {w : World} : ∀ (v : V) (s : Value), VIn w v s → AllP V.Wf v 1 := by
  refine V.ind (fun v ih s h => ?_)
  refine (allP_iff v 1).2 ⟨h.wf, fun x hx => (allP_any x 1 2).1 ?_⟩
  obtain ⟨i, hi, rfl⟩ := List.getElem_of_mem hx
  obtain ⟨p, c, hs, h1, h2, h3⟩ := h.slice
  obtain ⟨b, o, rfl⟩ := h3 (by omega)
  obtain ⟨t, _, ht⟩ := h.part hs hi
  exact ih _ hx t ht
noncomputable def ansS (len : Int) (at_ : Int) : Res → V × Int × Int
  | .error .short => (zeroV, len, 10)
  | .error (.own e) => (zeroV, at_, e.1)
  | .error (.pl r e) => (zeroV, at_ + r, e.1)
  | .ok (v, k) => if 1048576 < k then (zeroV, at_, 2) else (v, at_ + k, 0)
theorem decS_in {b : List UInt8} {n : Nat} (h : n ≤ b.length) : decS b n = ansS b.length n (rdV 32 (b.drop n)) := by
  unfold decS
  rw [if_neg (by omega), show ((n : Nat) : Int).toNat = n by omega]
  cases rdV 32 (b.drop n) with
  | error e => cases e <;> rfl
  | ok p => rfl
theorem decS_out {b : List UInt8} {at_ : Int} (h : at_ < 0 ∨ (b.length : Int) < at_) : decS b at_ = (zeroV, 0, 1) := by
  unfold decS
  rw [if_pos h]
theorem decS_good {b : List UInt8} {at_ : Int} (hb : b.length ≤ maxLen) (h : (decS b at_).2.2 = 0) : ∃ n k : Nat, at_ = n ∧ n + k ≤ b.length ∧ 1 ≤ k ∧ k ≤ 1048576 ∧ (decS b at_).2.1 = (n : Int) + k ∧ rdV 32 (b.drop n) = .ok ((decS b at_).1, k) ∧ GoodV 32 (b.drop n) (decS b at_).1 k := by
  by_cases a : at_ < 0 ∨ (b.length : Int) < at_
  · rw [decS_out a] at h; simp at h
  · obtain ⟨n, rfl⟩ : ∃ n : Nat, at_ = n := ⟨at_.toNat, by omega⟩
    have hn : n ≤ b.length := by omega
    rw [decS_in hn] at h ⊢
    cases hr : rdV 32 (b.drop n) with
    | error e =>
      rw [hr] at h
      cases e with
      | short => simp [ansS] at h
      | own e => exact absurd h e.2
      | pl r e => exact absurd h e.2
    | ok p =>
      obtain ⟨v, k⟩ := p
      rw [hr] at h
      unfold ansS at h
      simp only at h
      by_cases c : 1048576 < k
      · rw [if_pos c] at h; simp at h
      have hl : (b.drop n).length = b.length - n := List.length_drop
      have g := read_good (by omega) hr
      have gl := g.le
      refine ⟨n, k, rfl, by omega, g.pos, by omega, ?_, ?_, ?_⟩
      · simp only [ansS, if_neg c]
      · simp only [ansS, if_neg c]; exact hr
      · simp only [ansS, if_neg c]; exact g
section
variable {v : V} (hv : Right v) (hd : v.dep ≤ 32) (hw : v.wt ≤ 2000000) (hl : (putV v).length ≤ 1048576)
include hv hd hw hl
end
theorem far_ahead (A b : List UInt8) : decS (A ++ b) A.length = ((decS b 0).1, (A.length : Int) + (decS b 0).2.1, (decS b 0).2.2) := by
  have h1 := decS_in (b := A ++ b) (n := A.length) (by rw [List.length_append]; omega)
  have h2 := decS_in (b := b) (n := 0) (Nat.zero_le _)
  rw [List.drop_left] at h1
  rw [List.drop_zero, show ((0 : Nat) : Int) = 0 from rfl] at h2
  rw [h1, h2]
  cases rdV 32 b with
  | error e =>
    cases e with
    | short => simp [ansS]
    | own e => simp [ansS]
    | pl r e => simp [ansS]
  | ok p =>
    obtain ⟨v, k⟩ := p
    unfold ansS
    by_cases c : 1048576 < k
    · simp only [if_pos c]; simp
    · simp only [if_neg c]; simp
theorem far_behind {b C : List UInt8} (hb : b.length ≤ maxLen) (h : (decS b 0).2.2 ≠ 10) : decS (b ++ C) 0 = decS b 0 := by
  have h1 := decS_in (b := b ++ C) (n := 0) (Nat.zero_le _)
  have h2 := decS_in (b := b) (n := 0) (Nat.zero_le _)
  rw [List.drop_zero, show ((0 : Nat) : Int) = 0 from rfl] at h1 h2
  rw [h2] at h
  have hn : rdV 32 b ≠ .error .short := fun e => by rw [e] at h; exact h rfl
  rw [h1, h2, val_ext 32 b C hb hn]
  cases hr : rdV 32 b with
  | error e =>
    cases e with
    | short => exact absurd hr hn
    | own e => rfl
    | pl r e => rfl
  | ok p => rfl
set_option maxHeartbeats 4000000

attribute [local go_sem] Oper.semAt_some

set_option maxRecDepth 20000 in
theorem inn_of (v : V) (ih : ∀ x ∈ v.list, PutOn x) (hu : UniOn v) : InnOn v := by
  intro hr hwt w s hv
  obtain ⟨p, cs, hs, h1, h2, h3⟩ := hv.slice
  obtain ⟨N, hN⟩ : ∃ N, v.list.length = N := ⟨_, rfl⟩
  rw [hN] at hs h1 h3
  subst hs
  have hlw := list_wt v
  have hNb : (N : Int) ≤ 4294967296 := by omega
  have HV := Lib.hid (And.intro hv (And.intro hN h3))
  have HR := Lib.hid (And.intro hr hwt)
  have HU := Lib.hid hu
  clear hv hN h1 h2 h3 hr hwt hlw hu
  go_enter Tryd.func27, Tryd.ntmps27
  go_upto_region 1 with fail
  have hb0 : Below w.heap.size w (w.alloc (.cells #[.int .i64 v.kind, .int .u64 v.num, .string v.text, (.slice p N cs), .int .i64 v.elem] 25)) := ((Below.refl _ _).alloc (Nat.le_refl _) _)
  have ox := _root_.Go.heap_alloc_new w (.cells #[.int .i64 v.kind, .int .u64 v.num, .string v.text, (.slice p N cs), .int .i64 v.elem] 25)
  generalize (w.alloc (.cells #[.int .i64 v.kind, .int .u64 v.num, .string v.text, (.slice p N cs), .int .i64 v.elem] 25)) = w0 at *
  obtain ⟨x, hx⟩ : ∃ x, w.heap.size = x := ⟨_, rfl⟩
  rw [hx] at ox ⊢
  have HB0 := Lib.hid hb0
  have x0 : w0.cell? ⟨x, 0, none⟩ = some (.int .i64 v.kind) := (cell_of_row _ _ 0 _ _ _ ox).trans rfl
  have x1 : w0.cell? ⟨x, 1, none⟩ = some (.int .u64 v.num) := (cell_of_row _ _ 1 _ _ _ ox).trans rfl
  have x2 : w0.cell? ⟨x, 2, none⟩ = some (.string v.text) := (cell_of_row _ _ 2 _ _ _ ox).trans rfl
  have x3 : w0.cell? ⟨x, 3, none⟩ = some ((.slice p N cs)) := (cell_of_row _ _ 3 _ _ _ ox).trans rfl
  have x4 : w0.cell? ⟨x, 4, none⟩ = some (.int .i64 v.elem) := (cell_of_row _ _ 4 _ _ _ ox).trans rfl
  have HX := Lib.hid hx
  have HOX := Lib.hid ox
  clear hb0 ox hx
  have HW0 := Lib.hid (And.intro HB0.out HB0.out.size)
  by_cases hk : v.kind = 23
  · have hc := HU.out HR.out.1 HR.out.2 hk w0 _ (HV.out.1.blw HB0.out)
    have HC := Lib.hid hc
    have hk2 : (v.kind == 23) = true := by simp [hk]
    clear hc hk
    go_wp2_with fail
    refine HC.out.mono ?_
    clear x0 x1 x2 x3 x4
    rintro e w1 ⟨u, rfl, hu, hb1⟩
    have HO := Lib.hid (show OwnBytes w1 w.heap.size 5 u (inn v) from ⟨ownsRow_base hu.row (fun i hi => by have h1 := (hu.row.lt i hi).1; have h2 := HW0.out.2; omega)⟩)
    have HB1 := Lib.hid (HB0.out.trans (hb1.mono HW0.out.2))
    clear hu hb1
    go_wp2_with fail
    go_ret
    exact ⟨_, rfl, HO.out, HB1.out⟩
  · have hk2 : (v.kind == 23) = false := by simp [hk]
    have HK := Lib.hid hk
    clear hk
    go_wp2_with fail
    go_loopw [3, 14] (fun v3 v14 wr => ∃ (k : Nat) (u : Value), k ≤ N ∧ v14 = .int .i64 k ∧ u = v3 ∧ OwnBytes wr w.heap.size 5 u (putVs (v.list.take k)) ∧ Below w.heap.size w wr) (fun _ v14 _ => N - (intOf v14).toNat)
    case atStart => exact ⟨0, _, Nat.zero_le _, rfl, rfl, by simpa [putVs] using OwnBytes.nil _ _ _, HB0.out⟩
    case round =>
      obtain ⟨k, u, hkN, rfl, rfl, ho, hb⟩ := hrel
      have HOB := Lib.hid (And.intro ho hb)
      clear ho hb x0 x1 x2 x3 x4
      by_cases hlt : (k : Int) < N
      · have ka : k < v.list.length := by rw [HV.out.2.1]; omega
        obtain ⟨b, o, rfl⟩ := HV.out.2.2 (by omega)
        obtain ⟨t, hct, hvx⟩ := HV.out.1.part rfl ka
        have hmx := List.getElem_mem ka
        obtain ⟨px, nx, hsx, _⟩ := hvx.slice
        have hpv : putVs (v.list.take (k + 1)) = putVs (v.list.take k) ++ putV v.list[k] := by unfold putVs; rw [List.take_add_one, List.getElem?_eq_getElem ka, Option.toList_some, List.flatMap_append]; simp
        have hlen : (putVs (v.list.take k)).length + 81 * v.list[k].wt ≤ 81 * v.wt := by
          have h1 : (putVs (v.list.take k)).length ≤ 81 * wts (v.list.take k) := lens_le putV _ (fun x _ => (putV_len x).2)
          have h2 := wts_append (v.list.take k) (v.list.drop k)
          rw [List.take_append_drop] at h2
          have h3 : v.list[k].wt ≤ wts (v.list.drop k) := wts_mem (List.mem_of_getElem? (i := 0) (by rw [List.getElem?_drop, Nat.add_zero, List.getElem?_eq_getElem ka]))
          have h4 := v.wt_eq
          omega
        have hpx := ih _ hmx (HR.out.1.part hmx) (by have := V.wt_lt hmx; have := HR.out.2; omega)
        obtain ⟨c0, c1, c2, c3, c4⟩ := part_cells (rangeAt_rd hct (rd_below HOB.out.2))
        generalize v.list[k] = y at *
        obtain ⟨ny, hny⟩ : ∃ ny, y.list.length = ny := ⟨_, rfl⟩
        rw [hny] at hsx
        subst hsx
        have HY := Lib.hid (And.intro hvx (And.intro hpv (And.intro hlen hpx)))
        clear hct hvx hpv hlen hpx hmx ka hny
        skip
        go_upto_region 7 with (refine wpList_store_rowTo rfl 25 (.tmp 5) (.tmp 17) rfl rfl wr.heap.size #[.int .i64 y.kind, .int .u64 y.num, .string y.text, .slice px ny nx, .int .i64 y.elem] rfl rfl 25 zR (_root_.Go.heap_alloc_new wr _) (by as_aux_lemma => kernel_rfl) (by as_aux_lemma => kernel_rfl) (by simp [Value.oneCell']) ?_)
        have hb_w5 : Below wr.heap.size wr ((wr.alloc (.cells zR 25)).setRow wr.heap.size #[.int .i64 y.kind, .int .u64 y.num, .string y.text, .slice px ny nx, .int .i64 y.elem]) := below_setRow ((Below.refl _ _).alloc (Nat.le_refl _) _) (Nat.le_refl _) _
        have oxy := setRow_heap (wr.alloc (.cells zR 25)) wr.heap.size _ #[.int .i64 y.kind, .int .u64 y.num, .string y.text, .slice px ny nx, .int .i64 y.elem] _ _ (_root_.Go.heap_alloc_new wr _)
        change Code.wp _ _ _ _ ((wr.alloc (.cells zR 25)).setRow wr.heap.size #[.int .i64 y.kind, .int .u64 y.num, .string y.text, .slice px ny nx, .int .i64 y.elem])
        generalize ((wr.alloc (.cells zR 25)).setRow wr.heap.size #[.int .i64 y.kind, .int .u64 y.num, .string y.text, .slice px ny nx, .int .i64 y.elem]) = w5 at *
        obtain ⟨xy, hx_xy⟩ : ∃ x, wr.heap.size = x := ⟨_, rfl⟩
        rw [hx_xy] at oxy ⊢
        have HX_xy := Lib.hid hx_xy
        clear hx_xy
        have HB5 := Lib.hid hb_w5
        have HXY := Lib.hid oxy
        clear hb_w5 oxy c0 c1 c2 c3 c4
        have y0 : w5.cell? ⟨xy, 0, none⟩ = some (.int .i64 y.kind) := (cell_of_row _ _ 0 _ _ _ HXY.out).trans rfl
        have y1 : w5.cell? ⟨xy, 1, none⟩ = some (.int .u64 y.num) := (cell_of_row _ _ 1 _ _ _ HXY.out).trans rfl
        have y2 : w5.cell? ⟨xy, 2, none⟩ = some (.string y.text) := (cell_of_row _ _ 2 _ _ _ HXY.out).trans rfl
        have y3 : w5.cell? ⟨xy, 3, none⟩ = some (.slice px ny nx) := (cell_of_row _ _ 3 _ _ _ HXY.out).trans rfl
        have y4 : w5.cell? ⟨xy, 4, none⟩ = some (.int .i64 y.elem) := (cell_of_row _ _ 4 _ _ _ HXY.out).trans rfl
        have hbz : Below w.heap.size w w5 := HOB.out.2.trans (HB5.out.mono HOB.out.2.size)
        have hd := HY.out.2.2.2 w5 w _ u _ HY.out.1 hbz (HOB.out.1.of_below HB5.out) (by have h1 := HY.out.2.2.1; have h2 := HR.out.2; omega)
        have HD := Lib.hid hd
        have HZ := Lib.hid hbz
        clear hd hbz
        go_wp2_with fail
        refine HD.out.mono ?_
        rintro e w7 ⟨u7, rfl, ho7, hg7⟩
        have HO7 := Lib.hid ho7
        have HB7 := Lib.hid (HZ.out.trans (hg7.below (HOB.out.1.of_below HB5.out) HZ.out.size))
        clear ho7 hg7 y0 y1 y2 y3 y4
        go_wp2_with fail
        go_roundw
        case rel => exact ⟨k + 1, _, by omega, by go_num, rfl, by rw [HY.out.2.1]; exact HO7.out, HB7.out⟩
        case measure => simp [intOf]; omega
      · have hkN2 : k = N := by omega
        have HE := Lib.hid (show OwnBytes wr w.heap.size 5 u (inn v) from by
          have h := HOB.out.1
          rw [hkN2, List.take_of_length_le (by rw [HV.out.2.1]; exact Nat.le_refl _)] at h
          rw [inn_eq, if_neg HK.out]
          exact h)
        clear hkN2
        go_wp2_with fail
        go_ret
        exact ⟨_, rfl, HE.out, HOB.out.2⟩
theorem both_on : ∀ v : V, InnOn v ∧ PutOn v := by
  refine V.ind (fun v ih => ?_)
  have h1 : InnOn v := inn_of v (fun x hx => (ih x hx).2) (uni_of v (fun x hx => (ih x hx).1))
  exact ⟨h1, put_of v (fun x hx => (ih x hx).2) h1⟩
def EncTo (w : World) (v : V) (e : Ending) (w' : World) : Prop := ∃ u, e = .returned (.tuple #[u, .int .i64 (encS v).2]) ∧ OwnBytes w' w.heap.size 5 u (encS v).1 ∧ Below w.heap.size w w'
set_option maxRecDepth 20000 in
theorem encode_any (v : V) (w : World) (s : Value) (hv : VIn w v s) (hT : Tabs w) (hwt : v.wt ≤ 2000000) :
    Calls Tryd.prog 10 #[.agg #[.int .i64 v.kind, .int .u64 v.num, .string v.text, s, .int .i64 v.elem]] w (EncTo w v) := by
  have hc := fun W (hW : Below w.heap.size w W) => check_any v W s (hv.blw hW) (hT.below hW) hwt
  obtain ⟨E, hE⟩ : ∃ E, firstBad (v.pre 1) = E := ⟨_, rfl⟩
  rw [hE] at hc
  have HC := Lib.hid hc
  have HV := Lib.hid (And.intro hv (And.intro hwt hE))
  clear hc hv hT hwt hE
  go_enter Tryd.func10, Tryd.ntmps10
  go_upto_region 1 with fail
  have hb0 : Below w.heap.size w (w.alloc (.cells #[.int .i64 v.kind, .int .u64 v.num, .string v.text, s, .int .i64 v.elem] 25)) := ((Below.refl _ _).alloc (Nat.le_refl _) _)
  have ox := _root_.Go.heap_alloc_new w (.cells #[.int .i64 v.kind, .int .u64 v.num, .string v.text, s, .int .i64 v.elem] 25)
  generalize (w.alloc (.cells #[.int .i64 v.kind, .int .u64 v.num, .string v.text, s, .int .i64 v.elem] 25)) = w0 at *
  obtain ⟨x, hx⟩ : ∃ x, w.heap.size = x := ⟨_, rfl⟩
  rw [hx] at ox ⊢
  have HB0 := Lib.hid hb0
  have x0 : w0.cell? ⟨x, 0, none⟩ = some (.int .i64 v.kind) := (cell_of_row _ _ 0 _ _ _ ox).trans rfl
  have x1 : w0.cell? ⟨x, 1, none⟩ = some (.int .u64 v.num) := (cell_of_row _ _ 1 _ _ _ ox).trans rfl
  have x2 : w0.cell? ⟨x, 2, none⟩ = some (.string v.text) := (cell_of_row _ _ 2 _ _ _ ox).trans rfl
  have x3 : w0.cell? ⟨x, 3, none⟩ = some (s) := (cell_of_row _ _ 3 _ _ _ ox).trans rfl
  have x4 : w0.cell? ⟨x, 4, none⟩ = some (.int .i64 v.elem) := (cell_of_row _ _ 4 _ _ _ ox).trans rfl
  have HX := Lib.hid hx
  have HOX := Lib.hid ox
  clear hb0 ox hx
  go_wp2_with fail
  refine (HC.out w0 HB0.out).mono ?_
  clear x0 x1 x2 x3 x4
  rintro e w1 ⟨rfl, hb1⟩
  have HX1 := Lib.hid ((hb1.block x (gl HOX.out)).trans HOX.out)
  have HB1 := Lib.hid (HB0.out.trans (hb1.mono HB0.out.size))
  clear hb1
  by_cases hE : E = 0
  · subst hE
    obtain ⟨hr, hd⟩ := (right_iff (vin_wf v s HV.out.1)).1 HV.out.2.2
    have hp := (both_on v).2 hr (by have := HV.out.2.1; omega) w1 w s (.slice none 0 0) [] HV.out.1 HB1.out (OwnBytes.nil _ _ _) (by have := HV.out.2.1; simp; omega)
    have HP := Lib.hid hp
    have HR := Lib.hid hr
    clear hp hr hd
    have x0 : w1.cell? ⟨x, 0, none⟩ = some (.int .i64 v.kind) := (cell_of_row _ _ 0 _ _ _ HX1.out).trans rfl
    have x1 : w1.cell? ⟨x, 1, none⟩ = some (.int .u64 v.num) := (cell_of_row _ _ 1 _ _ _ HX1.out).trans rfl
    have x2 : w1.cell? ⟨x, 2, none⟩ = some (.string v.text) := (cell_of_row _ _ 2 _ _ _ HX1.out).trans rfl
    have x3 : w1.cell? ⟨x, 3, none⟩ = some s := (cell_of_row _ _ 3 _ _ _ HX1.out).trans rfl
    have x4 : w1.cell? ⟨x, 4, none⟩ = some (.int .i64 v.elem) := (cell_of_row _ _ 4 _ _ _ HX1.out).trans rfl
    go_wp2_with fail
    refine HP.out.mono ?_
    clear x0 x1 x2 x3 x4
    rintro e w2 ⟨u, rfl, ho, hg⟩
    rw [List.nil_append] at ho
    have hb2 := HB1.out.trans (hg.below (OwnBytes.nil w1 w.heap.size _) HB1.out.size)
    obtain ⟨q, cc, hu, _⟩ := ho.bytes
    subst hu
    obtain ⟨m, hm⟩ : ∃ m, (putV v).length = m := ⟨_, rfl⟩
    rw [hm] at ho ⊢
    have HO := Lib.hid (And.intro ho (And.intro hb2 hm))
    clear ho hg hb2 hm
    by_cases hl : 1048576 < (m : Int)
    · have he : encS v = ([], 2) := by unfold encS; rw [if_neg (by rw [HV.out.2.2]; simp), if_pos (by have := HO.out.2.2; omega)]
      have HE := Lib.hid he
      clear he
      go_wp2_with fail
      go_ret2
      exact ⟨.slice none 0 0, by rw [HE.out]; rfl, by rw [HE.out]; exact OwnBytes.nil _ _ _, HO.out.2.1⟩
    · have he : encS v = (putV v, 0) := by unfold encS; rw [if_neg (by rw [HV.out.2.2]; simp), if_neg (by have := HO.out.2.2; omega)]
      have HE := Lib.hid he
      clear he
      go_wp2_with fail
      go_ret2
      exact ⟨.slice q m cc, by rw [HE.out]; rfl, by rw [HE.out]; exact HO.out.1, HO.out.2.1⟩
  · have he : encS v = ([], E) := by unfold encS; rw [HV.out.2.2, if_pos hE]
    have HE := Lib.hid he
    have hE2 : (E == 0) = false := by simp [hE]
    clear he
    go_wp2_with fail
    go_ret2
    exact ⟨.slice none 0 0, by rw [HE.out]; rfl, by rw [HE.out]; exact OwnBytes.nil _ _ _, HB1.out⟩
set_option maxRecDepth 20000 in
theorem length_any (v : V) (w : World) (s : Value) (hv : VIn w v s) (hT : Tabs w) (hwt : v.wt ≤ 2000000) :
    Calls Tryd.prog 17 #[.agg #[.int .i64 v.kind, .int .u64 v.num, .string v.text, s, .int .i64 v.elem]] w fun e w' => e = .returned (.tuple #[.int .i64 (encS v).1.length, .int .i64 (encS v).2]) ∧ Below w.heap.size w w' := by
  have hc := fun W (hW : Below w.heap.size w W) => encode_any v W s (hv.blw hW) (hT.below hW) hwt
  have HC := Lib.hid hc
  clear hc hv hT hwt
  go_enter Tryd.func17, Tryd.ntmps17
  go_upto_region 1 with fail
  have hb0 : Below w.heap.size w (w.alloc (.cells #[.int .i64 v.kind, .int .u64 v.num, .string v.text, s, .int .i64 v.elem] 25)) := ((Below.refl _ _).alloc (Nat.le_refl _) _)
  have ox := _root_.Go.heap_alloc_new w (.cells #[.int .i64 v.kind, .int .u64 v.num, .string v.text, s, .int .i64 v.elem] 25)
  generalize (w.alloc (.cells #[.int .i64 v.kind, .int .u64 v.num, .string v.text, s, .int .i64 v.elem] 25)) = w0 at *
  obtain ⟨x, hx⟩ : ∃ x, w.heap.size = x := ⟨_, rfl⟩
  rw [hx] at ox ⊢
  have HB0 := Lib.hid hb0
  have x0 : w0.cell? ⟨x, 0, none⟩ = some (.int .i64 v.kind) := (cell_of_row _ _ 0 _ _ _ ox).trans rfl
  have x1 : w0.cell? ⟨x, 1, none⟩ = some (.int .u64 v.num) := (cell_of_row _ _ 1 _ _ _ ox).trans rfl
  have x2 : w0.cell? ⟨x, 2, none⟩ = some (.string v.text) := (cell_of_row _ _ 2 _ _ _ ox).trans rfl
  have x3 : w0.cell? ⟨x, 3, none⟩ = some (s) := (cell_of_row _ _ 3 _ _ _ ox).trans rfl
  have x4 : w0.cell? ⟨x, 4, none⟩ = some (.int .i64 v.elem) := (cell_of_row _ _ 4 _ _ _ ox).trans rfl
  have HX := Lib.hid hx
  have HOX := Lib.hid ox
  clear hb0 ox hx
  go_wp2_with fail
  refine (HC.out w0 HB0.out).mono ?_
  clear x0 x1 x2 x3 x4
  rintro e w1 ⟨u, rfl, ho, hb1⟩
  have HB1 := Lib.hid (HB0.out.trans (hb1.mono HB0.out.size))
  obtain ⟨q, cc, hu, _⟩ := ho.bytes
  subst hu
  clear ho hb1
  go_wp2_with fail
  go_ret2
  exact ⟨rfl, HB1.out⟩
end Go.Proofs.YtjipennigjlklaaDoor

namespace Go.Proofs.YtjipennigjlklaaDoor
open Go.RowKit Go.ChangeShapes Go.WideShapes Go.ChangeAt Go.Deep
set_option linter.unusedVariables false

theorem wf_u64V {n : Int} (h : (Lit.int .u64 n).wf = true) : IsU64 n := by
  obtain ⟨m, rfl, hm⟩ := bd_u64 h
  exact ⟨by omega, by omega⟩
section
variable {H : Type} {enc : TypeId × Value → H} {w : World}

end
end Go.Proofs.YtjipennigjlklaaDoor
