/-
  ValueStands: Order is one order of any three values. Conditions: the values lie in memory; the tables stand.
  The reference's Depth. Conditions: the value lies in memory.
-/
import Derived.Test.YtakbgekamjpibaaDoorMg23
import Derived.Test.YtakbgekamjpibaaDoorVe
namespace Go.Proofs.YtakbgekamjpibaaDoor
open Go.RowKit
set_option linter.unusedVariables false

/-- a list that was laid at once -/
theorem vin_row {w : World} {g T : Nat} {l : List V} {ss : Nat → Value} (hh : w.heap[g]? = some (.cells (vrow l ss).toArray T (0, 0))) (hin : ∀ i (hi : i < l.length), VIn w l[i] (ss i)) (hl : l.length ≤ maxLen) : VIn w (.mk 0 0 ⟨#[]⟩ l 0) (.slice (some ⟨g, 0, none⟩) l.length l.length) := by
  refine .mk (V.mk 0 0 ⟨#[]⟩ l 0) (some ⟨g, 0, none⟩) l.length ss ⟨⟨by show (-9223372036854775808 : Int) ≤ 0; omega, by show (0 : Int) ≤ 9223372036854775807; omega⟩, ⟨by show (0 : Int) ≤ 0; omega, by show (0 : Int) ≤ 18446744073709551615; omega⟩, Nat.zero_le _, ⟨by show (-9223372036854775808 : Int) ≤ 0; omega, by show (0 : Int) ≤ 9223372036854775807; omega⟩⟩ (Nat.le_refl _) hl (fun _ => ⟨g, 0, rfl⟩) ?_ hin
  intro b o e i hi j u hu
  have hi2 : i < l.length := hi
  simp only [Option.some.injEq, Addr.mk.injEq] at e
  obtain ⟨rfl, rfl, _⟩ := e
  rw [cell_of_row _ _ _ _ _ _ hh, List.getElem?_toArray, Nat.zero_add, vrow_get l ss i j hi2 (List.getElem?_eq_some_iff.1 hu).1]
  exact hu

/-- how three values may stand -/
theorem stands_law (a b c : V) : ordV c a = -ordV a c ∧ Sgn (ordV a b) ∧ Sgn (ordV b c) ∧ Sgn (ordV a c) ∧ (ordV a b ≤ 0 → ordV b c ≤ 0 → ordV a c ≤ 0 ∧ (ordV a c = 0 ↔ ordV a b = 0 ∧ ordV b c = 0)) ∧ (0 ≤ ordV a b → 0 ≤ ordV b c → 0 ≤ ordV a c ∧ (ordV a c = 0 ↔ ordV a b = 0 ∧ ordV b c = 0)) := by
  refine ⟨ordV_neg a c, ordV_sgn a b, ordV_sgn b c, ordV_sgn a c, ordV_tri a b c, fun h1 h2 => ?_⟩
  have n1 := ordV_neg a b
  have n2 := ordV_neg b c
  have n3 := ordV_neg a c
  obtain ⟨q1, q2⟩ := ordV_tri c b a (by omega) (by omega)
  refine ⟨by omega, ?_⟩
  constructor
  · intro h
    have := q2.1 (by omega)
    omega
  · intro h
    have := q2.2 (by omega)
    omega

set_option maxRecDepth 20000 in
set_option maxHeartbeats 4000000 in
theorem stands_walk (w : World) (hT : Tabs w) (a : V) (s : Value) (b : V) (t : Value) (c : V) (u : Value) (ha : VIn w a s) (hb : VIn w b t) (hc : VIn w c u) :
    Calls Tryd.prog 4 #[.agg #[.int .i64 a.kind, .int .u64 a.num, .string a.text, s, .int .i64 a.elem], .agg #[.int .i64 b.kind, .int .u64 b.num, .string b.text, t, .int .i64 b.elem], .agg #[.int .i64 c.kind, .int .u64 c.num, .string c.text, u, .int .i64 c.elem]] w fun e w' => e = .returned (.bool true) ∧ Below w.heap.size w w' := by
  have hlaw := stands_law a b c
  obtain ⟨pa, ca, hsa, _⟩ := ha.slice
  obtain ⟨na, hna⟩ : ∃ n, a.list.length = n := ⟨_, rfl⟩
  rw [hna] at hsa
  subst hsa
  obtain ⟨pb, cb, hsb, _⟩ := hb.slice
  obtain ⟨nb, hnb⟩ : ∃ n, b.list.length = n := ⟨_, rfl⟩
  rw [hnb] at hsb
  subst hsb
  obtain ⟨pc, cc, hsc, _⟩ := hc.slice
  obtain ⟨nc, hnc⟩ : ∃ n, c.list.length = n := ⟨_, rfl⟩
  rw [hnc] at hsc
  subst hsc
  have HV := Lib.hid (And.intro ha (And.intro hb hc))
  have HT := Lib.hid hT
  have HL := Lib.hid hlaw
  clear ha hb hc hT hlaw hna hnb hnc
  go_enter Tryd.func4, Tryd.ntmps4
  go_upto_region 1 with fail
  have hb0 : Below w.heap.size w (((w.alloc (.cells #[.int .i64 a.kind, .int .u64 a.num, .string a.text, .slice pa na ca, .int .i64 a.elem] 25)).alloc (.cells #[.int .i64 b.kind, .int .u64 b.num, .string b.text, .slice pb nb cb, .int .i64 b.elem] 25)).alloc (.cells #[.int .i64 c.kind, .int .u64 c.num, .string c.text, .slice pc nc cc, .int .i64 c.elem] 25)) := (((Below.refl _ _).alloc (Nat.le_refl _) _).alloc (by simp) _).alloc (by simp; omega) _
  have o0 : (((w.alloc (.cells #[.int .i64 a.kind, .int .u64 a.num, .string a.text, .slice pa na ca, .int .i64 a.elem] 25)).alloc (.cells #[.int .i64 b.kind, .int .u64 b.num, .string b.text, .slice pb nb cb, .int .i64 b.elem] 25)).alloc (.cells #[.int .i64 c.kind, .int .u64 c.num, .string c.text, .slice pc nc cc, .int .i64 c.elem] 25)).heap[w.heap.size]? = some (.cells #[.int .i64 a.kind, .int .u64 a.num, .string a.text, .slice pa na ca, .int .i64 a.elem] 25 (0, 0)) := (_root_.Go.heap_alloc_old _ _ (by simp; omega)).trans ((_root_.Go.heap_alloc_old _ _ (by simp)).trans (_root_.Go.heap_alloc_new _ _))
  have o1 : (((w.alloc (.cells #[.int .i64 a.kind, .int .u64 a.num, .string a.text, .slice pa na ca, .int .i64 a.elem] 25)).alloc (.cells #[.int .i64 b.kind, .int .u64 b.num, .string b.text, .slice pb nb cb, .int .i64 b.elem] 25)).alloc (.cells #[.int .i64 c.kind, .int .u64 c.num, .string c.text, .slice pc nc cc, .int .i64 c.elem] 25)).heap[w.heap.size + 1]? = some (.cells #[.int .i64 b.kind, .int .u64 b.num, .string b.text, .slice pb nb cb, .int .i64 b.elem] 25 (0, 0)) := (_root_.Go.heap_alloc_old _ _ (by simp)).trans (by have := _root_.Go.heap_alloc_new (w.alloc (.cells #[.int .i64 a.kind, .int .u64 a.num, .string a.text, .slice pa na ca, .int .i64 a.elem] 25)) (.cells #[.int .i64 b.kind, .int .u64 b.num, .string b.text, .slice pb nb cb, .int .i64 b.elem] 25); rwa [World.size_alloc] at this)
  have o2 : (((w.alloc (.cells #[.int .i64 a.kind, .int .u64 a.num, .string a.text, .slice pa na ca, .int .i64 a.elem] 25)).alloc (.cells #[.int .i64 b.kind, .int .u64 b.num, .string b.text, .slice pb nb cb, .int .i64 b.elem] 25)).alloc (.cells #[.int .i64 c.kind, .int .u64 c.num, .string c.text, .slice pc nc cc, .int .i64 c.elem] 25)).heap[w.heap.size + 1 + 1]? = some (.cells #[.int .i64 c.kind, .int .u64 c.num, .string c.text, .slice pc nc cc, .int .i64 c.elem] 25 (0, 0)) := by have := _root_.Go.heap_alloc_new ((w.alloc (.cells #[.int .i64 a.kind, .int .u64 a.num, .string a.text, .slice pa na ca, .int .i64 a.elem] 25)).alloc (.cells #[.int .i64 b.kind, .int .u64 b.num, .string b.text, .slice pb nb cb, .int .i64 b.elem] 25)) (.cells #[.int .i64 c.kind, .int .u64 c.num, .string c.text, .slice pc nc cc, .int .i64 c.elem] 25); rwa [World.size_alloc, World.size_alloc] at this
  generalize (((w.alloc (.cells #[.int .i64 a.kind, .int .u64 a.num, .string a.text, .slice pa na ca, .int .i64 a.elem] 25)).alloc (.cells #[.int .i64 b.kind, .int .u64 b.num, .string b.text, .slice pb nb cb, .int .i64 b.elem] 25)).alloc (.cells #[.int .i64 c.kind, .int .u64 c.num, .string c.text, .slice pc nc cc, .int .i64 c.elem] 25)) = w0 at *
  obtain ⟨x, hx⟩ : ∃ x, w.heap.size = x := ⟨_, rfl⟩
  rw [hx] at o0 o1 o2 ⊢
  obtain ⟨y, hy⟩ : ∃ y, x + 1 = y := ⟨_, rfl⟩
  rw [hy] at o1 o2 ⊢
  obtain ⟨z, hz⟩ : ∃ z, y + 1 = z := ⟨_, rfl⟩
  rw [hz] at o2 ⊢
  have HB0 := Lib.hid hb0
  have HO := Lib.hid (And.intro o0 (And.intro o1 o2))
  have haw := awake_any w0 (HT.out.below hb0)
  clear hb0 o0 o1 o2 hx hy hz
  have HCL : Hid (∀ W, Below w0.heap.size w0 W → W.cell? ⟨x, 0, none⟩ = some (.int .i64 a.kind) ∧ W.cell? ⟨x, 1, none⟩ = some (.int .u64 a.num) ∧ W.cell? ⟨x, 2, none⟩ = some (.string a.text) ∧ W.cell? ⟨x, 3, none⟩ = some (.slice pa na ca) ∧ W.cell? ⟨x, 4, none⟩ = some (.int .i64 a.elem) ∧ W.cell? ⟨y, 0, none⟩ = some (.int .i64 b.kind) ∧ W.cell? ⟨y, 1, none⟩ = some (.int .u64 b.num) ∧ W.cell? ⟨y, 2, none⟩ = some (.string b.text) ∧ W.cell? ⟨y, 3, none⟩ = some (.slice pb nb cb) ∧ W.cell? ⟨y, 4, none⟩ = some (.int .i64 b.elem) ∧ W.cell? ⟨z, 0, none⟩ = some (.int .i64 c.kind) ∧ W.cell? ⟨z, 1, none⟩ = some (.int .u64 c.num) ∧ W.cell? ⟨z, 2, none⟩ = some (.string c.text) ∧ W.cell? ⟨z, 3, none⟩ = some (.slice pc nc cc) ∧ W.cell? ⟨z, 4, none⟩ = some (.int .i64 c.elem)) := Lib.hid (fun W hB => by
    have q0 := (hB.block x (Array.getElem?_eq_some_iff.1 HO.out.1).1).trans HO.out.1
    have q1 := (hB.block y (Array.getElem?_eq_some_iff.1 HO.out.2.1).1).trans HO.out.2.1
    have q2 := (hB.block z (Array.getElem?_eq_some_iff.1 HO.out.2.2).1).trans HO.out.2.2
    exact ⟨(cell_of_row _ _ 0 _ _ _ q0).trans rfl, (cell_of_row _ _ 1 _ _ _ q0).trans rfl, (cell_of_row _ _ 2 _ _ _ q0).trans rfl, (cell_of_row _ _ 3 _ _ _ q0).trans rfl, (cell_of_row _ _ 4 _ _ _ q0).trans rfl, (cell_of_row _ _ 0 _ _ _ q1).trans rfl, (cell_of_row _ _ 1 _ _ _ q1).trans rfl, (cell_of_row _ _ 2 _ _ _ q1).trans rfl, (cell_of_row _ _ 3 _ _ _ q1).trans rfl, (cell_of_row _ _ 4 _ _ _ q1).trans rfl, (cell_of_row _ _ 0 _ _ _ q2).trans rfl, (cell_of_row _ _ 1 _ _ _ q2).trans rfl, (cell_of_row _ _ 2 _ _ _ q2).trans rfl, (cell_of_row _ _ 3 _ _ _ q2).trans rfl, (cell_of_row _ _ 4 _ _ _ q2).trans rfl⟩)
  go_wp2_with fail
  refine haw.mono ?_
  clear haw
  rintro e w1 ⟨rfl, hb1⟩
  have HB1 := Lib.hid hb1
  clear hb1
  obtain ⟨x0, x1, x2, x3, x4, y0, y1, y2, y3, y4, z0, z1, z2, z3, z4⟩ := HCL.out w1 HB1.out
  have hbr : Below w1.heap.size w1 (w1.alloc (.cells #[.int .i64 a.kind, .int .u64 a.num, .string a.text, .slice pa na ca, .int .i64 a.elem, .int .i64 b.kind, .int .u64 b.num, .string b.text, .slice pb nb cb, .int .i64 b.elem, .int .i64 c.kind, .int .u64 c.num, .string c.text, .slice pc nc cc, .int .i64 c.elem] 25)) := (Below.refl _ _).alloc (Nat.le_refl _) _
  have hrow : (w1.alloc (.cells #[.int .i64 a.kind, .int .u64 a.num, .string a.text, .slice pa na ca, .int .i64 a.elem, .int .i64 b.kind, .int .u64 b.num, .string b.text, .slice pb nb cb, .int .i64 b.elem, .int .i64 c.kind, .int .u64 c.num, .string c.text, .slice pc nc cc, .int .i64 c.elem] 25)).heap[w1.heap.size]? = some (.cells (vrow [a, b, c] (fun i => match i with | 0 => .slice pa na ca | 1 => .slice pb nb cb | _ => .slice pc nc cc)).toArray 25 (0, 0)) := _root_.Go.heap_alloc_new w1 _
  have hB2 : Below w.heap.size w (w1.alloc (.cells #[.int .i64 a.kind, .int .u64 a.num, .string a.text, .slice pa na ca, .int .i64 a.elem, .int .i64 b.kind, .int .u64 b.num, .string b.text, .slice pb nb cb, .int .i64 b.elem, .int .i64 c.kind, .int .u64 c.num, .string c.text, .slice pc nc cc, .int .i64 c.elem] 25)) := (HB0.out.trans (HB1.out.mono HB0.out.size)).trans (hbr.mono (HB0.out.trans (HB1.out.mono HB0.out.size)).size)
  have hgr := greatAll_any (.mk 0 0 ⟨#[]⟩ [a, b, c] 0) _ _ (vin_row hrow (fun i hi => by
    match i, hi with
    | 0, _ => exact HV.out.1.blw hB2
    | 1, _ => exact HV.out.2.1.blw hB2
    | 2, _ => exact HV.out.2.2.blw hB2) (by show 3 ≤ maxLen; unfold maxLen; omega))
  have HG : Hid (Calls Tryd.prog 21 #[.slice (some ⟨w1.heap.size, 0, none⟩) 3 3] (w1.alloc (.cells #[.int .i64 a.kind, .int .u64 a.num, .string a.text, .slice pa na ca, .int .i64 a.elem, .int .i64 b.kind, .int .u64 b.num, .string b.text, .slice pb nb cb, .int .i64 b.elem, .int .i64 c.kind, .int .u64 c.num, .string c.text, .slice pc nc cc, .int .i64 c.elem] 25)) _) := Lib.hid hgr
  have HB2 := Lib.hid (And.intro hB2 (HB1.out.trans (hbr.mono HB1.out.size)))
  clear hbr hrow hB2 hgr
  go_wp2_with fail
  refine HG.out.mono ?_
  clear x0 x1 x2 x3 x4 y0 y1 y2 y3 y4 z0 z1 z2 z3 z4
  obtain ⟨G, hG⟩ : ∃ G, decide (100000 < wts (V.mk 0 0 ⟨#[]⟩ [a, b, c] 0).list) = G := ⟨_, rfl⟩
  rw [hG]
  rintro e w2 ⟨rfl, hb2⟩
  have HB3 := Lib.hid (And.intro (HB2.out.1.trans (hb2.mono HB2.out.1.size)) (HB2.out.2.trans (hb2.mono HB2.out.2.size)))
  clear hb2 hG
  cases G
  rotate_left
  · go_wp2_with fail
    go_ret
    exact ⟨rfl, HB3.out.1⟩
  obtain ⟨x0, x1, x2, x3, x4, y0, y1, y2, y3, y4, z0, z1, z2, z3, z4⟩ := HCL.out w2 HB3.out.2
  have HC := Lib.hid (order_on a w2 _ b _ (HV.out.1.blw HB3.out.1) (HV.out.2.1.blw HB3.out.1))
  go_wp2_with fail
  refine HC.out.mono ?_
  clear x0 x1 x2 x3 x4 y0 y1 y2 y3 y4 z0 z1 z2 z3 z4 HC
  rintro e w3 ⟨rfl, hb3⟩
  have HB4 := Lib.hid (And.intro (HB3.out.1.trans (hb3.mono HB3.out.1.size)) (HB3.out.2.trans (hb3.mono HB3.out.2.size)))
  clear hb3
  obtain ⟨x0, x1, x2, x3, x4, y0, y1, y2, y3, y4, z0, z1, z2, z3, z4⟩ := HCL.out w3 HB4.out.2
  have HC := Lib.hid (order_on b w3 _ c _ (HV.out.2.1.blw HB4.out.1) (HV.out.2.2.blw HB4.out.1))
  go_wp2_with fail
  refine HC.out.mono ?_
  clear x0 x1 x2 x3 x4 y0 y1 y2 y3 y4 z0 z1 z2 z3 z4 HC
  rintro e w4 ⟨rfl, hb4⟩
  have HB5 := Lib.hid (And.intro (HB4.out.1.trans (hb4.mono HB4.out.1.size)) (HB4.out.2.trans (hb4.mono HB4.out.2.size)))
  clear hb4
  obtain ⟨x0, x1, x2, x3, x4, y0, y1, y2, y3, y4, z0, z1, z2, z3, z4⟩ := HCL.out w4 HB5.out.2
  have HC := Lib.hid (order_on a w4 _ c _ (HV.out.1.blw HB5.out.1) (HV.out.2.2.blw HB5.out.1))
  go_wp2_with fail
  refine HC.out.mono ?_
  clear x0 x1 x2 x3 x4 y0 y1 y2 y3 y4 z0 z1 z2 z3 z4 HC
  rintro e w5 ⟨rfl, hb5⟩
  have HB6 := Lib.hid (And.intro (HB5.out.1.trans (hb5.mono HB5.out.1.size)) (HB5.out.2.trans (hb5.mono HB5.out.2.size)))
  clear hb5
  obtain ⟨x0, x1, x2, x3, x4, y0, y1, y2, y3, y4, z0, z1, z2, z3, z4⟩ := HCL.out w5 HB6.out.2
  have HC := Lib.hid (order_on c w5 _ a _ (HV.out.2.2.blw HB6.out.1) (HV.out.1.blw HB6.out.1))
  go_wp2_with fail
  refine HC.out.mono ?_
  clear x0 x1 x2 x3 x4 y0 y1 y2 y3 y4 z0 z1 z2 z3 z4 HC
  rintro e w6 ⟨rfl, hb6⟩
  have HB7 := Lib.hid (HB6.out.1.trans (hb6.mono HB6.out.1.size))
  clear hb6
  have hlaw := HL.out
  generalize ordV a b = p at *
  generalize ordV b c = q at *
  generalize ordV a c = r at *
  generalize ordV c a = r' at *
  obtain ⟨hneg, h1, h2, h3, h4, h5⟩ := hlaw
  have HLL := Lib.hid (And.intro h4 h5)
  clear HL h4 h5
  rcases h1 with rfl | rfl | rfl <;> rcases h2 with rfl | rfl | rfl <;> rcases h3 with rfl | rfl | rfl <;> ((try simp only [Int.neg_neg, Int.neg_zero, Int.reduceNeg] at hneg); subst hneg)
  all_goals first
    | (exfalso; have := HLL.out; omega)
    | (go_wp2_with fail
       go_ret
       exact ⟨rfl, HB7.out⟩)

end Go.Proofs.YtakbgekamjpibaaDoor

namespace Go.Proofs.YtakbgekamjpibaaDoor
open Go.RowKit
set_option linter.unusedVariables false

mutual
/-- how deep a value is -/
def V.dep : V → Int
  | .mk _ _ _ l _ => deps l 0 + 1
def deps : List V → Int → Int
  | [], n => n
  | v :: r, n => deps r (max n v.dep)
end
theorem V.dep_eq (v : V) : v.dep = deps v.list 0 + 1 := by cases v; rw [V.dep]; rfl
theorem dep_bd : ∀ v : V, 1 ≤ v.dep ∧ v.dep ≤ v.wt := by
  refine V.ind (fun v ih => ?_)
  have key : ∀ (l : List V), (∀ x ∈ l, 1 ≤ x.dep ∧ x.dep ≤ x.wt) → ∀ n : Int, n ≤ deps l n ∧ deps l n ≤ max n (wts l) := by
    intro l
    induction l with
    | nil => intro _ n; rw [deps]; omega
    | cons a r ihl =>
      intro h n
      obtain ⟨h1, h2⟩ := h a (List.mem_cons_self ..)
      obtain ⟨q1, q2⟩ := ihl (fun x hx => h x (List.mem_cons_of_mem _ hx)) (max n a.dep)
      rw [deps, wts]
      omega
  have h0 := key v.list ih 0
  rw [V.dep_eq, V.wt_eq]
  omega
theorem deps_mono (l : List V) : ∀ n : Int, 0 ≤ n → deps l n = max n (deps l 0) := by
  induction l with
  | nil => intro n hn; rw [deps, deps]; omega
  | cons a r ih =>
    intro n hn
    have h1 := (dep_bd a).1
    rw [deps, deps, ih (max n a.dep) (by omega), ih (max 0 a.dep) (by omega)]
    omega
theorem deps_drop {l : List V} {k : Nat} (h : k < l.length) (m : Int) : deps (l.drop k) m = deps (l.drop (k + 1)) (max m l[k].dep) := by
  rw [List.drop_eq_getElem_cons h, deps]
theorem foldD_append (g : Int → Int → Int) (l r : List (Int × V)) : ∀ m, foldD g m (l ++ r) = foldD g (foldD g m l) r := by
  induction l with
  | nil => intro m; rfl
  | cons a l ih => intro m; obtain ⟨d, x⟩ := a; rw [List.cons_append, foldD, foldD, ih]
/-- the greatest depth that is told -/
theorem foldD_pre : ∀ (v : V) (d m : Int), foldD max m (v.pre d) = max m (d - 1 + v.dep) := by
  refine V.ind (fun v ih d m => ?_)
  have key : ∀ (l : List V), (∀ x ∈ l, ∀ d m, foldD max m (x.pre d) = max m (d - 1 + x.dep)) → ∀ d m : Int, d - 1 ≤ m → foldD max m (pres l d) = max m (d - 1 + deps l 0) := by
    intro l
    induction l with
    | nil => intro _ d m hm; rw [pres, foldD, deps]; omega
    | cons a r ihl =>
      intro h d m hm
      have h1 := (dep_bd a).1
      rw [pres, foldD_append, h a (List.mem_cons_self ..), ihl (fun x hx => h x (List.mem_cons_of_mem _ hx)) d _ (by omega), deps, deps_mono r _ (show (0 : Int) ≤ max 0 a.dep by omega)]
      omega
  rw [V.pre_eq, foldD, key v.list ih (d + 1) (max m d) (by omega), V.dep_eq]
  have h0 := deps_mono v.list 0 (Int.le_refl 0)
  omega

set_option maxRecDepth 20000 in
set_option maxHeartbeats 4000000 in
theorem rdepth_any : ∀ (v : V) (w : World) (s : Value), VIn w v s → v.wt ≤ 1000000 →
    Calls Tryd.prog 25 #[.agg #[.int .i64 v.kind, .int .u64 v.num, .string v.text, s, .int .i64 v.elem]] w fun e w' => e = .returned (.int .i64 v.dep) ∧ Below w.heap.size w w' := by
  refine V.ind (fun v ih w s h hwt => ?_)
  obtain ⟨p, c, hs, h1, h2, h3⟩ := h.slice
  obtain ⟨N, hN⟩ : ∃ N, v.list.length = N := ⟨_, rfl⟩
  rw [hN] at hs h1 h3
  subst hs
  unfold maxLen at h2
  obtain ⟨D, hD⟩ : ∃ D, v.dep = D := ⟨_, rfl⟩
  have hbd := dep_bd v
  rw [hD] at hbd ⊢
  obtain ⟨hb1, hb2⟩ := hbd
  have hD2 : D ≤ 1000000 := by omega
  have HD := Lib.hid (show deps (v.list.drop 0) 0 = D - 1 by rw [List.drop_zero, ← hD, V.dep_eq]; omega)
  have HI := Lib.hid ih
  have HN := Lib.hid hN
  have HV := Lib.hid h
  have HW := Lib.hid hwt
  clear ih h hN hD hb2 hwt
  go_enter Tryd.func25, Tryd.ntmps25
  go_upto_region 1 with fail
  have hb0 : Below w.heap.size w (w.alloc (.cells #[.int .i64 v.kind, .int .u64 v.num, .string v.text, (.slice p N c), .int .i64 v.elem] 25)) := ((Below.refl _ _).alloc (Nat.le_refl _) _)
  have ox : (w.alloc (.cells #[.int .i64 v.kind, .int .u64 v.num, .string v.text, (.slice p N c), .int .i64 v.elem] 25)).heap[w.heap.size]? = some (.cells #[.int .i64 v.kind, .int .u64 v.num, .string v.text, (.slice p N c), .int .i64 v.elem] 25 (0, 0)) := _root_.Go.heap_alloc_new _ _
  generalize (w.alloc (.cells #[.int .i64 v.kind, .int .u64 v.num, .string v.text, (.slice p N c), .int .i64 v.elem] 25)) = w0 at *
  obtain ⟨x, hx⟩ : ∃ x, w.heap.size = x := ⟨_, rfl⟩
  rw [hx] at ox ⊢
  have HB0 := Lib.hid hb0
  have HOx := Lib.hid ox
  clear hb0 ox hx
  have x3 : w0.cell? ⟨x, 3, none⟩ = some (.slice p N c) := (cell_of_row _ _ 3 _ _ _ HOx.out).trans rfl
  go_wp2_with fail
  go_loopw [3, 4] (fun v3 v4 wr => ∃ (k : Nat) (m : Int), k ≤ N ∧ v4 = .int .i64 k ∧ v3 = .int .i64 m ∧ (0 ≤ m ∧ m ≤ 1000000) ∧ deps (v.list.drop k) m = D - 1 ∧ Below w0.heap.size w0 wr) (fun _ v4 _ => N - (intOf v4).toNat)
  case atStart => exact ⟨0, 0, Nat.zero_le _, rfl, rfl, ⟨by omega, by omega⟩, HD.out, Below.refl _ _⟩
  case round =>
    obtain ⟨k, m, hk, rfl, rfl, ⟨hm0, hm1⟩, hrest, hb⟩ := hrel
    have HR := Lib.hid (And.intro hrest hb)
    have x3 := bs_cellV hb x3
    clear hrest hb
    by_cases hkN : (k : Int) < N
    · have hk' : k < v.list.length := by rw [HN.out]; omega
      obtain ⟨b, o, rfl⟩ := h3 (by omega)
      have hB := HB0.out.trans (HR.out.2.mono HB0.out.size)
      obtain ⟨t, ht, hin⟩ := (HV.out.blw hB).part rfl hk'
      obtain ⟨c0, c1, c2, c3, c4⟩ := part_cells ht
      have hlw := V.wt_lt (List.getElem_mem hk')
      have hc := HI.out _ (List.getElem_mem hk') wr t hin (by have := HW.out; omega)
      have hstep := deps_drop hk' m
      rw [HR.out.1] at hstep
      have hpos := dep_bd v.list[k]
      have hup : v.list[k].dep ≤ 1000000 := by have := HW.out; omega
      generalize v.list[k].dep = m2 at *
      generalize v.list[k] = y at *
      have HS := Lib.hid hstep
      clear hB ht hin hstep hpos hlw
      go_wp2_with fail
      refine hc.mono ?_
      clear hc
      rintro e w1 ⟨rfl, hb1⟩
      have HB1 := Lib.hid (HR.out.2.trans (hb1.mono HR.out.2.size))
      clear hb1
      go_wp2_with fail
      all_goals
        go_roundw
        case rel => exact ⟨k + 1, max m m2, by omega, by go_num, rfl, ⟨by omega, by omega⟩, HS.out.symm, HB1.out⟩
        case measure => simp [intOf]; omega
    · have hr : m = D - 1 := by rw [← HR.out.1, List.drop_eq_nil_of_le (by rw [HN.out]; omega), deps]
      subst hr
      go_wp2_with fail
      go_ret
      exact ⟨by simp, HB0.out.trans (HR.out.2.mono HB0.out.size)⟩


end Go.Proofs.YtakbgekamjpibaaDoor
