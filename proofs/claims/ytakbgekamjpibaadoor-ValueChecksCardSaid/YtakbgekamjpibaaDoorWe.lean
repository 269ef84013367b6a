/-
  The reference's Depth. Conditions: the value lies in memory.
-/
import Derived.Test.YtakbgekamjpibaaDoorVe
import Derived.Test.YtakbgekamjpibaaDoorWa
namespace Go.Proofs.YtakbgekamjpibaaDoor
open Go.RowKit
set_option linter.unusedVariables false

mutual
/-- how deep a value is -/
def V.dep : V → Int
  | .mk _ _ _ l _ => deps l 0 + 1
def deps : List V → Int → Int
  | [], n => n
  | v :: r, n => deps r (max n v.dep)
end
theorem V.dep_eq (v : V) : v.dep = deps v.list 0 + 1 := by cases v; rw [V.dep]; rfl
theorem dep_bd : ∀ v : V, 1 ≤ v.dep ∧ v.dep ≤ v.wt := by
  refine V.ind (fun v ih => ?_)
  have key : ∀ (l : List V), (∀ x ∈ l, 1 ≤ x.dep ∧ x.dep ≤ x.wt) → ∀ n : Int, n ≤ deps l n ∧ deps l n ≤ max n (wts l) := by
    intro l
    induction l with
    | nil => intro _ n; rw [deps]; omega
    | cons a r ihl =>
      intro h n
      obtain ⟨h1, h2⟩ := h a (List.mem_cons_self ..)
      obtain ⟨q1, q2⟩ := ihl (fun x hx => h x (List.mem_cons_of_mem _ hx)) (max n a.dep)
      rw [deps, wts]
      omega
  have h0 := key v.list ih 0
  rw [V.dep_eq, V.wt_eq]
  omega
theorem deps_mono (l : List V) : ∀ n : Int, 0 ≤ n → deps l n = max n (deps l 0) := by
  induction l with
  | nil => intro n hn; rw [deps, deps]; omega
  | cons a r ih =>
    intro n hn
    have h1 := (dep_bd a).1
    rw [deps, deps, ih (max n a.dep) (by omega), ih (max 0 a.dep) (by omega)]
    omega
theorem deps_drop {l : List V} {k : Nat} (h : k < l.length) (m : Int) : deps (l.drop k) m = deps (l.drop (k + 1)) (max m l[k].dep) := by
  rw [List.drop_eq_getElem_cons h, deps]
theorem foldD_append (g : Int → Int → Int) (l r : List (Int × V)) : ∀ m, foldD g m (l ++ r) = foldD g (foldD g m l) r := by
  induction l with
  | nil => intro m; rfl
  | cons a l ih => intro m; obtain ⟨d, x⟩ := a; rw [List.cons_append, foldD, foldD, ih]
/-- the greatest depth that is told -/
theorem foldD_pre : ∀ (v : V) (d m : Int), foldD max m (v.pre d) = max m (d - 1 + v.dep) := by
  refine V.ind (fun v ih d m => ?_)
  have key : ∀ (l : List V), (∀ x ∈ l, ∀ d m, foldD max m (x.pre d) = max m (d - 1 + x.dep)) → ∀ d m : Int, d - 1 ≤ m → foldD max m (pres l d) = max m (d - 1 + deps l 0) := by
    intro l
    induction l with
    | nil => intro _ d m hm; rw [pres, foldD, deps]; omega
    | cons a r ihl =>
      intro h d m hm
      have h1 := (dep_bd a).1
      rw [pres, foldD_append, h a (List.mem_cons_self ..), ihl (fun x hx => h x (List.mem_cons_of_mem _ hx)) d _ (by omega), deps, deps_mono r _ (show (0 : Int) ≤ max 0 a.dep by omega)]
      omega
  rw [V.pre_eq, foldD, key v.list ih (d + 1) (max m d) (by omega), V.dep_eq]
  have h0 := deps_mono v.list 0 (Int.le_refl 0)
  omega

set_option maxRecDepth 20000 in
set_option maxHeartbeats 4000000 in
theorem rdepth_any : ∀ (v : V) (w : World) (s : Value), VIn w v s → v.wt ≤ 1000000 →
    Calls Tryd.prog 25 #[.agg #[.int .i64 v.kind, .int .u64 v.num, .string v.text, s, .int .i64 v.elem]] w fun e w' => e = .returned (.int .i64 v.dep) ∧ Below w.heap.size w w' := by
  refine V.ind (fun v ih w s h hwt => ?_)
  obtain ⟨p, c, hs, h1, h2, h3⟩ := h.slice
  obtain ⟨N, hN⟩ : ∃ N, v.list.length = N := ⟨_, rfl⟩
  rw [hN] at hs h1 h3
  subst hs
  unfold maxLen at h2
  obtain ⟨D, hD⟩ : ∃ D, v.dep = D := ⟨_, rfl⟩
  have hbd := dep_bd v
  rw [hD] at hbd ⊢
  obtain ⟨hb1, hb2⟩ := hbd
  have hD2 : D ≤ 1000000 := by omega
  have HD := Lib.hid (show deps (v.list.drop 0) 0 = D - 1 by rw [List.drop_zero, ← hD, V.dep_eq]; omega)
  have HI := Lib.hid ih
  have HN := Lib.hid hN
  have HV := Lib.hid h
  have HW := Lib.hid hwt
  clear ih h hN hD hb2 hwt
  go_enter Tryd.func25, Tryd.ntmps25
  go_upto_region 1 with fail
  have hb0 : Below w.heap.size w (w.alloc (.cells #[.int .i64 v.kind, .int .u64 v.num, .string v.text, (.slice p N c), .int .i64 v.elem] 25)) := ((Below.refl _ _).alloc (Nat.le_refl _) _)
  have ox : (w.alloc (.cells #[.int .i64 v.kind, .int .u64 v.num, .string v.text, (.slice p N c), .int .i64 v.elem] 25)).heap[w.heap.size]? = some (.cells #[.int .i64 v.kind, .int .u64 v.num, .string v.text, (.slice p N c), .int .i64 v.elem] 25 (0, 0)) := _root_.Go.heap_alloc_new _ _
  generalize (w.alloc (.cells #[.int .i64 v.kind, .int .u64 v.num, .string v.text, (.slice p N c), .int .i64 v.elem] 25)) = w0 at *
  obtain ⟨x, hx⟩ : ∃ x, w.heap.size = x := ⟨_, rfl⟩
  rw [hx] at ox ⊢
  have HB0 := Lib.hid hb0
  have HOx := Lib.hid ox
  clear hb0 ox hx
  have x3 : w0.cell? ⟨x, 3, none⟩ = some (.slice p N c) := (cell_of_row _ _ 3 _ _ _ HOx.out).trans rfl
  go_wp2_with fail
  go_loopw [3, 4] (fun v3 v4 wr => ∃ (k : Nat) (m : Int), k ≤ N ∧ v4 = .int .i64 k ∧ v3 = .int .i64 m ∧ (0 ≤ m ∧ m ≤ 1000000) ∧ deps (v.list.drop k) m = D - 1 ∧ Below w0.heap.size w0 wr) (fun _ v4 _ => N - (intOf v4).toNat)
  case atStart => exact ⟨0, 0, Nat.zero_le _, rfl, rfl, ⟨by omega, by omega⟩, HD.out, Below.refl _ _⟩
  case round =>
    obtain ⟨k, m, hk, rfl, rfl, ⟨hm0, hm1⟩, hrest, hb⟩ := hrel
    have HR := Lib.hid (And.intro hrest hb)
    have x3 := bs_cellV hb x3
    clear hrest hb
    by_cases hkN : (k : Int) < N
    · have hk' : k < v.list.length := by rw [HN.out]; omega
      obtain ⟨b, o, rfl⟩ := h3 (by omega)
      have hB := HB0.out.trans (HR.out.2.mono HB0.out.size)
      obtain ⟨t, ht, hin⟩ := (HV.out.blw hB).part rfl hk'
      obtain ⟨c0, c1, c2, c3, c4⟩ := part_cells ht
      have hlw := V.wt_lt (List.getElem_mem hk')
      have hc := HI.out _ (List.getElem_mem hk') wr t hin (by have := HW.out; omega)
      have hstep := deps_drop hk' m
      rw [HR.out.1] at hstep
      have hpos := dep_bd v.list[k]
      have hup : v.list[k].dep ≤ 1000000 := by have := HW.out; omega
      generalize v.list[k].dep = m2 at *
      generalize v.list[k] = y at *
      have HS := Lib.hid hstep
      clear hB ht hin hstep hpos hlw
      go_wp2_with fail
      refine hc.mono ?_
      clear hc
      rintro e w1 ⟨rfl, hb1⟩
      have HB1 := Lib.hid (HR.out.2.trans (hb1.mono HR.out.2.size))
      clear hb1
      go_wp2_with fail
      all_goals
        go_roundw
        case rel => exact ⟨k + 1, max m m2, by omega, by go_num, rfl, ⟨by omega, by omega⟩, HS.out.symm, HB1.out⟩
        case measure => simp [intOf]; omega
    · have hr : m = D - 1 := by rw [← HR.out.1, List.drop_eq_nil_of_le (by rw [HN.out]; omega), deps]
      subst hr
      go_wp2_with fail
      go_ret
      exact ⟨by simp, HB0.out.trans (HR.out.2.mono HB0.out.size)⟩


end Go.Proofs.YtakbgekamjpibaaDoor
