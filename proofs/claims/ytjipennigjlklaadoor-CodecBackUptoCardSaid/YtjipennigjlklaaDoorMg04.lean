/-
  Values in memory: as they came in (VIn), and as one's own, each list in a block of its own (VO). Plain lemmas. No conditions.
  The reference's weigh, Great, GreatAll. Conditions: the value lies in memory.
  A region that draws its order, walked by hand: reads that are taken first, steps. It speaks of no program. No conditions.
  The reference's Equal, Order. Conditions: the values lie in memory.
-/
import Derived.Test.YtjipennigjlklaaDoorMg01
import Derived.Test.YtjipennigjlklaaDoorGbA
import Derived.Test.YtjipennigjlklaaDoorRows
import Derived.WalkKit
import Derived.Deep.Draws
import Derived.Deep.DeepCutAuto
import Derived.StillTailTactics
import Derived.Deep.QuietTactic
import Derived.BigQuiet
import Derived.Laws.CopyOwn
import Derived.Laws.Tables
import Derived.Laws.Rows
import Derived.Great.BuildSlice
import Derived.Deep.RegionHeld3
import Derived.Orders
import Derived.OrdersHeld
import Derived.Deep.RegionHeld
namespace Go.Proofs.YtjipennigjlklaaDoor
open Go.RowKit
set_option linter.unusedVariables false

def IsI64 (a : Int) : Prop := -9223372036854775808 ≤ a ∧ a ≤ 9223372036854775807
def IsU64 (a : Int) : Prop := 0 ≤ a ∧ a ≤ 18446744073709551615
structure V.Wf (v : V) : Prop where
  k : IsI64 v.kind
  n : IsU64 v.num
  t : v.text.size ≤ maxLen
  e : IsI64 v.elem

def vcells (v : V) (s : Value) : List Value := [.int .i64 v.kind, .int .u64 v.num, .string v.text, s, .int .i64 v.elem]
theorem vcells_len (v : V) (s : Value) : (vcells v s).length = 5 := rfl
def vrow : List V → (Nat → Value) → List Value
  | [], _ => []
  | v :: r, ss => vcells v (ss 0) ++ vrow r (fun i => ss (i + 1))
theorem vrow_len : ∀ (l : List V) (ss : Nat → Value), (vrow l ss).length = l.length * 5
  | [], _ => rfl
  | v :: r, ss => by rw [vrow, List.length_append, vrow_len r, vcells_len, List.length_cons]; omega
theorem vrow_get : ∀ (l : List V) (ss : Nat → Value) (i j : Nat) (h : i < l.length), j < 5 → (vrow l ss)[i * 5 + j]? = (vcells l[i] (ss i))[j]?
  | [], _, i, _, h, _ => by simp at h
  | v :: r, ss, i, j, h, hj => by
    rw [vrow]
    cases i with
    | zero => rw [List.getElem?_append_left (by rw [vcells_len]; omega)]; simp
    | succ i =>
      rw [List.getElem?_append_right (by rw [vcells_len]; omega), vcells_len, show (i + 1) * 5 + j - 5 = i * 5 + j by omega]
      have := vrow_get r (fun i => ss (i + 1)) i j (by simpa using h) hj
      simpa using this
theorem vrow_congr : ∀ (l : List V) (ss tt : Nat → Value), (∀ i, i < l.length → ss i = tt i) → vrow l ss = vrow l tt
  | [], _, _, _ => rfl
  | v :: r, ss, tt, h => by
    rw [vrow, vrow, h 0 (by simp), vrow_congr r _ (fun i => tt (i + 1)) (fun i hi => h (i + 1) (by simpa using hi))]
theorem vrow_snoc : ∀ (l : List V) (x : V) (ss : Nat → Value), vrow (l ++ [x]) ss = vrow l ss ++ vcells x (ss l.length)
  | [], x, ss => by simp [vrow]
  | v :: r, x, ss => by rw [List.cons_append, vrow, vrow, vrow_snoc r x, List.append_assoc]; rfl

theorem bs_cellV {w w' : World} {a : Addr} {u : Value} (hb : Below w.heap.size w w') (h : w.cell? a = some u) : w'.cell? a = some u := (World.cell?_of_block (hb.block _ (World.block_lt_of_cell? w a h))).trans h

inductive VIn (w : World) : V → Value → Prop
  | mk (v : V) (p : Option Addr) (c : Nat) (ss : Nat → Value) (wf : v.Wf) (hc : v.list.length ≤ c) (hm : c ≤ maxLen) (ha : 0 < v.list.length → ∃ b o, p = some ⟨b, o, none⟩)
      (hcell : ∀ b o, p = some ⟨b, o, none⟩ → ∀ i (h : i < v.list.length), w.rangeAt b (o + i * 5) (vcells v.list[i] (ss i))) (hin : ∀ i (h : i < v.list.length), VIn w v.list[i] (ss i)) : VIn w v (.slice p v.list.length c)

section
variable {w w' : World} {v : V} {s : Value} {B B' : Nat} {F : Nat → Prop}

theorem VIn.wf (h : VIn w v s) : v.Wf := by cases h; assumption
theorem VIn.slice (h : VIn w v s) : ∃ p c, s = .slice p v.list.length c ∧ v.list.length ≤ c ∧ c ≤ maxLen ∧ (0 < v.list.length → ∃ b o, p = some ⟨b, o, none⟩) := by
  cases h with
  | mk _ p c ss wf hc hm ha hcell hin => exact ⟨p, c, rfl, hc, hm, ha⟩
theorem VIn.part (h : VIn w v s) {b o n c : Nat} (hs : s = .slice (some ⟨b, o, none⟩) n c) {i : Nat} (hi : i < v.list.length) : ∃ t, w.rangeAt b (o + i * 5) (vcells v.list[i] t) ∧ VIn w v.list[i] t := by
  cases h with
  | mk _ p c' ss wf hc hm ha hcell hin =>
    simp only [Value.slice.injEq] at hs
    exact ⟨ss i, hcell b o hs.1 i hi, hin i hi⟩
theorem VIn.blw (h : VIn w v s) (hb : Below w.heap.size w w') : VIn w' v s := by
  induction h with
  | mk v p c ss wf hc hm ha hcell hin ih =>
    exact .mk v p c ss wf hc hm ha (fun b o e i hi j u hu => bs_cellV hb (hcell b o e i hi j u hu)) ih

inductive VO (w : World) (B : Nat) : V → Value → (Nat → Prop) → Prop
  | mk (v : V) (s : Value) (F : Nat → Prop) (ss : Nat → Value) (Fs : Nat → Nat → Prop) (wf : v.Wf) (hrow : w.ownsRow B 25 5 s v.list.length (vrow v.list ss)) (hin : ∀ i (h : i < v.list.length), VO w B v.list[i] (ss i) (Fs i))
      (hd : ∀ i j, i < v.list.length → j < v.list.length → i ≠ j → ∀ b, Fs i b → ¬ Fs j b) (hs : ∀ g, s.ownBlock = some g → ∀ i, i < v.list.length → ¬ Fs i g) (hF : ∀ b, F b ↔ (s.ownBlock = some b ∨ ∃ i, i < v.list.length ∧ Fs i b)) : VO w B v s F

theorem VO.wf (h : VO w B v s F) : v.Wf := by cases h; assumption
theorem VO.lt (h : VO w B v s F) : ∀ b, F b → B ≤ b ∧ b < w.heap.size := by
  induction h with
  | mk v s F ss Fs wf hrow hin hd hs hF ih =>
    intro b hb
    rcases (hF b).1 hb with q | ⟨i, hi, q⟩
    · exact hrow.lt b q
    · exact ih i hi b q
theorem VO.keep (h : VO w B v s F) (e : ∀ b, F b → w'.heap[b]? = w.heap[b]?) : VO w' B v s F := by
  induction h with
  | mk v s F ss Fs wf hrow hin hd hs hF ih =>
    exact .mk v s F ss Fs wf (ownsRow_keep hrow (fun j hj => e j ((hF j).2 (.inl hj)))) (fun i hi => ih i hi (fun b hb => e b ((hF b).2 (.inr ⟨i, hi, hb⟩)))) hd hs hF
theorem VO.blw (h : VO w B v s F) (hb : Below w.heap.size w w') : VO w' B v s F := h.keep (fun b q => hb.block b (h.lt b q).2)
theorem ownsRow_base {B B' n e K : Nat} {u : Value} {xs : List Value} (h : w.ownsRow B e K u n xs) (hB : ∀ b, u.ownBlock = some b → B' ≤ b) : w.ownsRow B' e K u n xs := by
  refine ⟨h.1, ?_⟩
  rcases h.2 with hn | ⟨g, cap, cur, hv, hbg, hb, rest⟩
  · exact .inl hn
  · exact .inr ⟨g, cap, cur, hv, hB g (by rw [hv]; rfl), hb, rest⟩
theorem VO.base (h : VO w B v s F) (hB : ∀ b, F b → B' ≤ b) : VO w B' v s F := by
  induction h with
  | mk v s F ss Fs wf hrow hin hd hs hF ih =>
    exact .mk v s F ss Fs wf (ownsRow_base hrow (fun b hb => hB b ((hF b).2 (.inl hb)))) (fun i hi => ih i hi (fun b hb => hB b ((hF b).2 (.inr ⟨i, hi, hb⟩)))) hd hs hF
theorem VO.mono (h : VO w B v s F) (hB : B' ≤ B) : VO w B' v s F := h.base (fun b hb => Nat.le_trans hB (h.lt b hb).1)
theorem VO.vin (h : VO w B v s F) : VIn w v s := by
  induction h with
  | mk v s F ss Fs wf hrow hin hd hs hF ih =>
    obtain ⟨p, c, rfl, h1, h2, h3⟩ := ownsRow_form hrow
    refine .mk v p c ss wf h1 h2 (fun q => by obtain ⟨g, e, _⟩ := h3 q; exact ⟨g, 0, e⟩) (fun b o e i hi j u hu => ?_) ih
    obtain ⟨g, e2, _⟩ := h3 (by omega)
    have : b = g ∧ o = 0 := by rw [e] at e2; simp only [Option.some.injEq, Addr.mk.injEq] at e2; exact ⟨e2.1, e2.2.1⟩
    obtain ⟨rfl, rfl⟩ := this
    have hj : j < 5 := (List.getElem?_eq_some_iff.1 hu).1
    rw [e] at hrow
    rw [Nat.zero_add]
    exact ownsRow_cell hrow (by rw [vrow_get _ _ _ _ hi hj]; exact hu)
theorem VO.nil (w : World) (B : Nat) (hw : v.Wf) (hl : v.list = []) : VO w B v (.slice none 0 0) (fun _ => False) := by
  have h0 : v.list.length = 0 := by rw [hl]; rfl
  refine .mk v _ _ (fun _ => undef) (fun _ _ => False) hw ?_ (fun i hi => by omega) (fun _ _ _ _ _ _ h => h.elim) (fun _ _ _ _ h => h) (fun b => ⟨fun h => h.elim, fun h => ?_⟩)
  · rw [hl]; exact World.ownsRow_nil _ _ _ _
  · rcases h with h | ⟨_, _, h⟩
    · cases h
    · exact h
end

def V.with (v : V) (l : List V) : V := .mk v.kind v.num v.text l v.elem
theorem V.with_list (v : V) (l : List V) : (v.with l).list = l := rfl
section
variable {w w' wr : World} {v x : V} {s s' t : Value} {B : Nat} {F Fx : Nat → Prop} {l : List V}
end

theorem part_cells {w : World} {b o i : Nat} {x : V} {t : Value} (h : w.rangeAt b (o + i * 5) (vcells x t)) : w.cell? ⟨b, o + i * 5, none⟩ = some (.int .i64 x.kind) ∧ w.cell? ⟨b, o + i * 5 + 1, none⟩ = some (.int .u64 x.num) ∧ w.cell? ⟨b, o + i * 5 + 2, none⟩ = some (.string x.text) ∧ w.cell? ⟨b, o + i * 5 + 3, none⟩ = some t ∧ w.cell? ⟨b, o + i * 5 + 4, none⟩ = some (.int .i64 x.elem) :=
  ⟨h 0 _ rfl, h 1 _ rfl, h 2 _ rfl, h 3 _ rfl, h 4 _ rfl⟩
theorem wghs_drop {l : List V} {k : Nat} (h : k < l.length) {m : Int} (hm : m ≤ 100000) : wghs (l.drop k) m = wghs (l.drop (k + 1)) (wgh l[k] m) := by
  rw [List.drop_eq_getElem_cons h, wghs, if_pos hm]

set_option maxRecDepth 20000 in
set_option maxHeartbeats 4000000 in
theorem weigh_any : ∀ (v : V) (w : World) (s : Value) (n : Int), VIn w v s → 0 ≤ n → n ≤ 100000 →
    Calls Tryd.prog 18 #[.agg #[.int .i64 v.kind, .int .u64 v.num, .string v.text, s, .int .i64 v.elem], .int .i64 n] w fun e w' => e = .returned (.int .i64 (wgh v n)) ∧ Below w.heap.size w w' := by
  refine V.ind (fun v ih w s n h hn0 hn1 => ?_)
  obtain ⟨p, c, hs, h1, h2, h3⟩ := h.slice
  obtain ⟨N, hN⟩ : ∃ N, v.list.length = N := ⟨_, rfl⟩
  rw [hN] at hs h1 h3
  subst hs
  unfold maxLen at h2
  have htz := h.wf.t
  unfold maxLen at htz
  obtain ⟨D, hD⟩ : ∃ D, wgh v n = D := ⟨_, rfl⟩
  have HD := Lib.hid (show wghs (v.list.drop 0) (n + 1 + (v.text.size / 64 : Nat)) = D by rw [List.drop_zero, ← hD, wgh_eq])
  rw [hD]
  have HI := Lib.hid ih
  have HN := Lib.hid hN
  have HV := Lib.hid h
  clear ih h hN hD
  go_enter Tryd.func18, Tryd.ntmps18
  go_upto_region 1 with fail
  have hb0 : Below w.heap.size w (w.alloc (.cells #[.int .i64 v.kind, .int .u64 v.num, .string v.text, (.slice p N c), .int .i64 v.elem] 25)) := ((Below.refl _ _).alloc (Nat.le_refl _) _)
  have ox : (w.alloc (.cells #[.int .i64 v.kind, .int .u64 v.num, .string v.text, (.slice p N c), .int .i64 v.elem] 25)).heap[w.heap.size]? = some (.cells #[.int .i64 v.kind, .int .u64 v.num, .string v.text, (.slice p N c), .int .i64 v.elem] 25 (0, 0)) := _root_.Go.heap_alloc_new _ _
  generalize (w.alloc (.cells #[.int .i64 v.kind, .int .u64 v.num, .string v.text, (.slice p N c), .int .i64 v.elem] 25)) = w0 at *
  obtain ⟨x, hx⟩ : ∃ x, w.heap.size = x := ⟨_, rfl⟩
  rw [hx] at ox ⊢
  have HB0 := Lib.hid hb0
  have HOx := Lib.hid ox
  clear hb0 ox hx
  have x2 : w0.cell? ⟨x, 2, none⟩ = some (.string v.text) := (cell_of_row _ _ 2 _ _ _ HOx.out).trans rfl
  have x3 : w0.cell? ⟨x, 3, none⟩ = some (.slice p N c) := (cell_of_row _ _ 3 _ _ _ HOx.out).trans rfl
  have hd64 : ((v.text.size / 64 : Nat) : Int) = (v.text.size : Int) / 64 := by omega
  have HD2 : Hid (wghs (v.list.drop 0) (n + 1 + (v.text.size : Int) / 64) = D) := Lib.hid (by rw [← hd64]; exact HD.out)
  clear hd64
  go_wp2_with fail
  go_loopw [1, 5] (fun v1 v5 wr => ∃ (k : Nat) (m : Int), k ≤ N ∧ v5 = .int .i64 k ∧ v1 = .int .i64 m ∧ 0 ≤ m ∧ wghs (v.list.drop k) m = D ∧ Below w0.heap.size w0 wr) (fun _ v5 _ => N - (intOf v5).toNat)
  case atStart => exact ⟨0, _, Nat.zero_le _, rfl, rfl, by omega, HD2.out, Below.refl _ _⟩
  case round =>
    obtain ⟨k, m, hk, rfl, rfl, hm0, hrest, hb⟩ := hrel
    have HR := Lib.hid (And.intro hrest hb)
    have x3 := bs_cellV hb x3
    clear hrest hb x2
    by_cases hkN : (k : Int) < N
    · by_cases hmm : m ≤ 100000
      · have hk' : k < v.list.length := by rw [HN.out]; omega
        obtain ⟨b, o, rfl⟩ := h3 (by omega)
        have hB := HB0.out.trans (HR.out.2.mono HB0.out.size)
        obtain ⟨t, ht, hin⟩ := (HV.out.blw hB).part rfl hk'
        obtain ⟨c0, c1, c2, c3, c4⟩ := part_cells ht
        have hc := HI.out _ (List.getElem_mem hk') wr t m hin hm0 hmm
        have hstep := wghs_drop hk' hmm
        rw [HR.out.1] at hstep
        have hpos := (wgh_spec v.list[k] m).2.2
        generalize wgh v.list[k] m = m2 at *
        generalize v.list[k] = y at *
        have HS := Lib.hid hstep
        clear hB ht hin hstep
        go_wp2_with fail
        refine hc.mono ?_
        clear hc
        rintro e w1 ⟨rfl, hb1⟩
        have HB1 := Lib.hid (HR.out.2.trans (hb1.mono HR.out.2.size))
        clear hb1
        go_wp2_with fail
        go_roundw
        case rel => exact ⟨k + 1, m2, by omega, by go_num, rfl, by omega, HS.out.symm, HB1.out⟩
        case measure => simp [intOf]; omega
      · have hr : D = m := by rw [← HR.out.1, wghs_big (by omega)]
        subst hr
        go_wp2_with fail
        go_ret
        exact ⟨rfl, HB0.out.trans (HR.out.2.mono HB0.out.size)⟩
    · have hr : D = m := by rw [← HR.out.1, List.drop_eq_nil_of_le (by rw [HN.out]; omega), wghs]
      subst hr
      by_cases hmm : D ≤ 100000
      all_goals
        go_wp2_with fail
        go_ret
        exact ⟨rfl, HB0.out.trans (HR.out.2.mono HB0.out.size)⟩

set_option maxRecDepth 20000 in
set_option maxHeartbeats 4000000 in
theorem great_any (v : V) (w : World) (s : Value) (h : VIn w v s) :
    Calls Tryd.prog 9 #[.agg #[.int .i64 v.kind, .int .u64 v.num, .string v.text, s, .int .i64 v.elem]] w fun e w' => e = .returned (.bool (decide (100000 < v.wt))) ∧ Below w.heap.size w w' := by
  obtain ⟨p, c, hs, _⟩ := h.slice
  have hg : decide (100000 < v.wt) = decide (100000 < wgh v 0) := by
    obtain ⟨g1, g2, _⟩ := wgh_spec v 0
    rw [decide_eq_decide]
    constructor
    · intro q
      exact g2 (by omega)
    · intro q
      refine Classical.byContradiction fun q2 => ?_
      rw [g1 (by omega)] at q
      omega
  rw [hg]
  subst hs
  obtain ⟨N, hN⟩ : ∃ N, v.list.length = N := ⟨_, rfl⟩
  rw [hN] at h
  rw [hN]
  have HV := Lib.hid h
  obtain ⟨D, hD⟩ : ∃ D, wgh v 0 = D := ⟨_, rfl⟩
  rw [hD]
  have HD := Lib.hid hD
  clear h hN hg hD
  go_enter Tryd.func9, Tryd.ntmps9
  go_upto_region 1 with fail
  have hb0 : Below w.heap.size w (w.alloc (.cells #[.int .i64 v.kind, .int .u64 v.num, .string v.text, (.slice p N c), .int .i64 v.elem] 25)) := ((Below.refl _ _).alloc (Nat.le_refl _) _)
  have ox : (w.alloc (.cells #[.int .i64 v.kind, .int .u64 v.num, .string v.text, (.slice p N c), .int .i64 v.elem] 25)).heap[w.heap.size]? = some (.cells #[.int .i64 v.kind, .int .u64 v.num, .string v.text, (.slice p N c), .int .i64 v.elem] 25 (0, 0)) := _root_.Go.heap_alloc_new _ _
  generalize (w.alloc (.cells #[.int .i64 v.kind, .int .u64 v.num, .string v.text, (.slice p N c), .int .i64 v.elem] 25)) = w0 at *
  obtain ⟨x, hx⟩ : ∃ x, w.heap.size = x := ⟨_, rfl⟩
  rw [hx] at ox ⊢
  have HB0 := Lib.hid hb0
  have HOx := Lib.hid ox
  clear hb0 ox hx
  have x0 : w0.cell? ⟨x, 0, none⟩ = some (.int .i64 v.kind) := (cell_of_row _ _ 0 _ _ _ HOx.out).trans rfl
  have x1 : w0.cell? ⟨x, 1, none⟩ = some (.int .u64 v.num) := (cell_of_row _ _ 1 _ _ _ HOx.out).trans rfl
  have x2 : w0.cell? ⟨x, 2, none⟩ = some (.string v.text) := (cell_of_row _ _ 2 _ _ _ HOx.out).trans rfl
  have x3 : w0.cell? ⟨x, 3, none⟩ = some (.slice p N c) := (cell_of_row _ _ 3 _ _ _ HOx.out).trans rfl
  have x4 : w0.cell? ⟨x, 4, none⟩ = some (.int .i64 v.elem) := (cell_of_row _ _ 4 _ _ _ HOx.out).trans rfl
  have hc := weigh_any v w0 _ 0 (HV.out.blw HB0.out) (by omega) (by omega)
  rw [HD.out] at hc
  go_wp2_with fail
  refine hc.mono ?_
  clear hc
  rintro e w1 ⟨rfl, hb1⟩
  have HB1 := Lib.hid (HB0.out.trans (hb1.mono HB0.out.size))
  clear hb1
  go_wp2_with fail
  go_ret
  exact ⟨by simp, HB1.out⟩


theorem takeD {P : Program} {ops : Array Oper} {Q : Exit → Act → World → Prop} {md : Region.Mode} {S : World → Prop} {i : Nat} {oi : Oper} {v : Value} {fuel : Nat} {listed : Array Bool} {a : Act} {w : World} (d : Option Tmp) (hi : ops[i]? = some oi) (hd : oi.dst = d)
    (hs : Region.noSelect ops = true) (hf : Region.free md ops listed i = true) (hr : (Region.ready md ops listed).contains i = true)
    (hQ : ∀ c a w, Q (.panic c) (a.put oi.dst v) w → Q (.panic c) a w) (hy : YieldsIf P ops S oi v a) (hS : S w)
    (h : wpAnyH P md ops Q S fuel (listed.setIfInBounds i true) (a.put d v) w) : wpAnyH P md ops Q S (fuel + 1) listed a w := by
  subst hd
  exact wpAnyH_take hi hs hf hr hQ hy hS h

theorem yieldsIf_load_row {P : Program} {ops : Array Oper} {S : World → Prop} {o : Oper} {a : Act} (ty : TypeId) (x : Operand) (ho : o.op = .load ty x) (hw : Region.wanted o (yielded ops a.tmps) = true) (g : Nat) (hx : a.eval x = .pointer (some ⟨g, 0, none⟩)) (t : TypeId) (cs : Array Value) (fr : Nat × Nat) (d : TypeDesc) (hg : ∀ V, S V → V.heap[g]? = some (.cells cs t fr))
    (hu : P.underlying ty = some d) (hd : (match d with | .struct _ | .array _ _ => true | _ => false) = true) (hi : (P.info? ty).map (·.size) = some cs.size) : YieldsIf P ops S o (.agg cs) a := by
  refine .inl ⟨hw, fun V hV => ?_⟩
  unfold execOp
  simp only [ho, hx, Instr.loadAt, Instr.sureAddr, Sem.run_bind, Sem.run_pure, Result.andThen_ok, run_loadVar_row V g t ty cs fr d (hg V hV) hu hd hi]

theorem stepD {P : Program} {ops : Array Oper} {Q : Exit → Act → World → Prop} {md : Region.Mode} {S : World → Prop} {fuel : Nat} {listed : Array Bool} {a : Act} {w : World} {i : Nat} {o : Oper} (ho : ops[i]? = some o) (hw : Region.wanted o (yielded ops a.tmps) = true)
    (h : ∀ K' : Act → World → Prop, Shut (∀ a w, S w → wpAnyH P md ops Q S fuel (listed.setIfInBounds i true) a w → K' a w) → Oper.wp P o a w K' Q) : wpOp P ops Q i (fun a' w' => S w' ∧ wpAnyH P md ops Q S fuel (listed.setIfInBounds i true) a' w') a w := by
  unfold wpOp
  simp only [ho]
  rw [if_pos hw]
  exact .inl (h _ (fun a w h1 h2 => ⟨h1, h2⟩))

theorem wp_region_heldN {P : Program} {ops : Array Oper} {Q : Exit → Act → World → Prop} {id : Nat} {a : Act} {w : World} (S : World → Prop) (f : Nat) (hf : ops.size = f) (hm : P.follows .mixedOrders = true)
    (h : wpAnyH P .any ops Q S f (Array.replicate f false) a w.drew) : (Code.region id ops true).wp P Q a w := by
  subst hf
  exact wp_region_held hm h
theorem sA {α : Type} (l : List α) (i : Nat) (a : α) : l.toArray.setIfInBounds i a = (l.set i a).toArray := List.setIfInBounds_toArray ..
theorem sB {α : Type} {x : α} {xs : List α} {a : α} : (x :: xs).set 0 a = a :: xs := List.set_cons_zero
theorem sC {α : Type} {x : α} {xs : List α} {i : Nat} {a : α} : (x :: xs).set (i + 1) a = x :: xs.set i a := List.set_cons_succ
theorem tkD {P : Program} {ops : Array Oper} {Q : Exit → Act → World → Prop} {md : Region.Mode} {S : World → Prop} {i : Nat} {oi : Oper} {v : Value} {fuel : Nat} {listed : Array Bool} {a : Act} {w : World} (d : Option Tmp) (hi : ops[i]? = some oi) (hd : oi.dst = d)
    (hh : (Region.noSelect ops && (Region.free md ops listed i && (Region.ready md ops listed).contains i)) = true)
    (hQ : ∀ c a w, Q (.panic c) (a.put oi.dst v) w → Q (.panic c) a w) (hy : YieldsIf P ops S oi v a) (hS : S w)
    (h : wpAnyH P md ops Q S fuel (listed.setIfInBounds i true) (a.put d v) w) : wpAnyH P md ops Q S (fuel + 1) listed a w := by
  rw [Bool.and_eq_true, Bool.and_eq_true] at hh
  exact takeD d hi hd hh.1 hh.2.1 hh.2.2 hQ hy hS h
theorem oneH {P : Program} {ops : Array Oper} {Q : Exit → Act → World → Prop} {md : Region.Mode} {S : World → Prop} {fuel : Nat} {listed : Array Bool} {a : Act} {w : World} {i : Nat} (hr : Region.ready md ops listed = [i])
    (h : wpOp P ops Q i (fun a' w' => S w' ∧ wpAnyH P md ops Q S fuel (listed.setIfInBounds i true) a' w') a w) : wpAnyH P md ops Q S (fuel + 1) listed a w :=
  wpAnyH_all hr (by simp) (fun j hj => by
    simp only [List.mem_cons, List.not_mem_nil, or_false] at hj
    subst hj
    exact h)

theorem teq (a b : ByteArray) : (a.toList == b.toList) = decide (a = b) := by
  rw [ByteArray.toList_eq, ByteArray.toList_eq, Bool.eq_iff_iff]
  simp only [beq_iff_eq, decide_eq_true_eq]
  exact ⟨fun h => by cases a; cases b; congr 1; exact Array.toList_inj.1 h, fun h => by rw [h]⟩
theorem list_ext_k {a b : List V} (hl : a.length = b.length) (h : ∀ j (h1 : j < a.length) (h2 : j < b.length), a[j] = b[j]) : a = b := List.ext_getElem hl h
end Go.Proofs.YtjipennigjlklaaDoor
