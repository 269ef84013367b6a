/-
  A region of All's body: it draws its order, and yields. No conditions.
-/
import Derived.Test.YtakbgekamjpibaaDoorMg20
namespace Go.Proofs.YtakbgekamjpibaaDoor
open Go.RowKit
set_option linter.unusedVariables false

attribute [local go_sem] Oper.semAt_some

/-- one operation of a drawing region, within a round -/
theorem stepI {P : Program} {ops : Array Oper} {Q : Exit → Act → World → Prop} {md : Region.Mode} {l n fuel : Nat} {listed : Array Bool} {a : Act} {w : World} {i : Nat} {o : Oper} (ho : ops[i]? = some o) (hw : Region.wanted o (yielded ops a.tmps) = true) (hd : ∀ c, o.op ≠ .defer c)
    (h : ∀ K' : Act → World → Prop, Shut (∀ a w, wpAnyIn (Fence.wide.inRound l) n P md ops Q fuel (listed.setIfInBounds i true) a w → K' a w) → Oper.wp P o a w K' Q) : wpOpIn (Fence.wide.inRound l) n P ops Q i (wpAnyIn (Fence.wide.inRound l) n P md ops Q fuel (listed.setIfInBounds i true)) a w := by
  unfold wpOpIn
  simp only [ho]
  rw [if_pos hw]
  exact operIn_of hd (h _ (fun a w h => h))
theorem wpIn_region_f {P : Program} {ops : Array Oper} {Q : Exit → Act → World → Prop} {l n id f : Nat} {a : Act} {w : World} (hf : ops.size = f) (hm : P.follows .mixedOrders = true)
    (h : wpAnyIn (Fence.wide.inRound l) n P .any ops Q f (Array.replicate f false) a w.drew) : (Code.region id ops true).wpIn (Fence.wide.inRound l) n P Q a w := by
  subst hf
  exact wpIn_region_any hm h
theorem roundIn_any {P : Program} {l lp m f : Nat} {tmps : Array Value} {assign body : Code} {w : World} {R : Ending → World → Prop} (h : RoundIn Fence.wide 3 P l f tmps assign body w R) : RoundIn (Fence.wide.inRound lp) m P l f tmps assign body w R :=
  ⟨trivial, fun c cs _ => h.2 c cs (room_wide _)⟩
def regOf : Code → Nat → Option (Array Oper)
  | .seq a b, n => match regOf a n with | some r => some r | none => regOf b n
  | .cond _ a b, n => match regOf a n with | some r => some r | none => regOf b n
  | .block _ c, n => regOf c n
  | .loop c, n => regOf c n
  | .scope c, n => regOf c n
  | .region m o _, n => if m = n then some o else none
  | _, _ => none
/-- what the yield leaves -/
def YR (l : Nat) (v3 : Value) (x : V) (u : Value) (V : World) (R : Bool → World → Prop) : Prop := YieldAt Fence.wide 3 Tryd.prog l #[v3, .agg #[.int .i64 x.kind, .int .u64 x.num, .string x.text, u, .int .i64 x.elem]] V fun e W2 => ∃ b, e = .returned (.bool b) ∧ R b W2

section
variable {ops : Array Oper} (hops : ((Tryd.f53.body.bind rfOf).bind fun q => regOf q.2 4) = some ops) {l n0 y N c lp : Nat} {p : Option Addr} {x : V} {v0 v1 v3 v5 v6 v7 v8 : Value} {Q : Exit → Act → World → Prop} {R : Bool → World → Prop}
include hops in
set_option maxRecDepth 20000 in
theorem gA0123 (u : Value) (V : World) (hy : YR l v3 x u V R) (hfin : ∀ b W2, R b W2 → Q .normal { tmps := #[v0, v1, .pointer (some ⟨n0, 0, none⟩), v3, .pointer (some ⟨y, 0, none⟩), v5, v6, v7, v8, .func (.yield l) #[] #[], v3, .agg #[.int .i64 x.kind, .int .u64 x.num, .string x.text, (.slice p N c), .int .i64 x.elem], .agg #[.int .i64 x.kind, .int .u64 x.num, .string x.text, u, .int .i64 x.elem], .bool b, .bool (!b)], defers := [] } W2) : wpAnyIn (Fence.wide.inRound lp) 3 Tryd.prog .any ops Q 2 #[true, true, true, true, false, false] { tmps := #[v0, v1, .pointer (some ⟨n0, 0, none⟩), v3, .pointer (some ⟨y, 0, none⟩), v5, v6, v7, v8, .func (.yield l) #[] #[], v3, .agg #[.int .i64 x.kind, .int .u64 x.num, .string x.text, (.slice p N c), .int .i64 x.elem], .agg #[.int .i64 x.kind, .int .u64 x.num, .string x.text, u, .int .i64 x.elem], undef, undef], defers := [] } V := by
  have hops0 := hops
  simp only [Tryd.f53, Option.bind_some, rfOf, regOf, if_true, Option.some.injEq] at hops
  subst hops
  refine wpAnyIn_all (rs := [4]) (by kernel_rfl) (by simp) ?_
  intro i hi
  simp only [List.mem_cons, List.not_mem_nil, or_false] at hi
  subst hi
  obtain ⟨fn, tmps, asg, bdy, hyy, hRd⟩ := hy
  unfold wpOpIn
  simp only [List.getElem?_toArray, List.getElem?_cons_succ, List.getElem?_cons_zero]
  rw [if_pos (by rfl)]
  refine ⟨fun _ _ => trivial, ?_⟩
  rw [Oper.semAt_eq _ _ _ (by intro c h; cases h)]
  simp [execOp, resolve, invoke, go_sem, hyy, Oper.uponIn, Act.eval]
  refine (roundIn_any hRd).mono ?_
  rintro e W2 ⟨b, rfl, hRb⟩
  refine wpAnyIn_all (rs := [5]) (by kernel_rfl) (by simp) ?_
  intro i hi
  simp only [List.mem_cons, List.not_mem_nil, or_false] at hi
  subst hi
  refine stepI (i := 5) rfl (by rfl) (by intro c h; cases h) (fun K0 h => ?_)
  go_simp
  refine h.out _ _ ?_
  simp only [List.setIfInBounds_toArray, List.set_cons_zero, List.set_cons_succ]
  exact wpAnyIn_done (by kernel_rfl) (hfin b W2 hRb) _

include hops in
set_option maxRecDepth 20000 in
theorem gA023 (u : Value) (V : World) (hy : YR l v3 x u V R) (hfin : ∀ b W2, R b W2 → Q .normal { tmps := #[v0, v1, .pointer (some ⟨n0, 0, none⟩), v3, .pointer (some ⟨y, 0, none⟩), v5, v6, v7, v8, .func (.yield l) #[] #[], v3, .agg #[.int .i64 x.kind, .int .u64 x.num, .string x.text, (.slice p N c), .int .i64 x.elem], .agg #[.int .i64 x.kind, .int .u64 x.num, .string x.text, u, .int .i64 x.elem], .bool b, .bool (!b)], defers := [] } W2) : wpAnyIn (Fence.wide.inRound lp) 3 Tryd.prog .any ops Q 3 #[true, false, true, true, false, false] { tmps := #[v0, v1, .pointer (some ⟨n0, 0, none⟩), v3, .pointer (some ⟨y, 0, none⟩), v5, v6, v7, v8, .func (.yield l) #[] #[], undef, .agg #[.int .i64 x.kind, .int .u64 x.num, .string x.text, (.slice p N c), .int .i64 x.elem], .agg #[.int .i64 x.kind, .int .u64 x.num, .string x.text, u, .int .i64 x.elem], undef, undef], defers := [] } V := by
  have hops0 := hops
  simp only [Tryd.f53, Option.bind_some, rfOf, regOf, if_true, Option.some.injEq] at hops
  subst hops
  refine wpAnyIn_all (rs := [1]) (by kernel_rfl) (by simp) ?_
  intro i hi
  simp only [List.mem_cons, List.not_mem_nil, or_false] at hi
  subst hi
  refine stepI (i := 1) rfl (by rfl) (by intro c h; cases h) (fun K0 h => ?_)
  go_simp
  refine h.out _ _ ?_
  simp only [List.setIfInBounds_toArray, List.set_cons_zero, List.set_cons_succ]
  exact gA0123 hops0 u V hy hfin

include hops in
set_option maxRecDepth 20000 in
theorem gA123 (u : Value) (V : World) (hy : YR l v3 x u V R) (hn : V.cell? ⟨n0, 0, none⟩ = some (.func (.yield l) #[] #[])) (hfin : ∀ b W2, R b W2 → Q .normal { tmps := #[v0, v1, .pointer (some ⟨n0, 0, none⟩), v3, .pointer (some ⟨y, 0, none⟩), v5, v6, v7, v8, .func (.yield l) #[] #[], v3, .agg #[.int .i64 x.kind, .int .u64 x.num, .string x.text, (.slice p N c), .int .i64 x.elem], .agg #[.int .i64 x.kind, .int .u64 x.num, .string x.text, u, .int .i64 x.elem], .bool b, .bool (!b)], defers := [] } W2) : wpAnyIn (Fence.wide.inRound lp) 3 Tryd.prog .any ops Q 3 #[false, true, true, true, false, false] { tmps := #[v0, v1, .pointer (some ⟨n0, 0, none⟩), v3, .pointer (some ⟨y, 0, none⟩), v5, v6, v7, v8, undef, v3, .agg #[.int .i64 x.kind, .int .u64 x.num, .string x.text, (.slice p N c), .int .i64 x.elem], .agg #[.int .i64 x.kind, .int .u64 x.num, .string x.text, u, .int .i64 x.elem], undef, undef], defers := [] } V := by
  have hops0 := hops
  simp only [Tryd.f53, Option.bind_some, rfOf, regOf, if_true, Option.some.injEq] at hops
  subst hops
  refine wpAnyIn_all (rs := [0]) (by kernel_rfl) (by simp) ?_
  intro i hi
  simp only [List.mem_cons, List.not_mem_nil, or_false] at hi
  subst hi
  refine stepI (i := 0) rfl (by rfl) (by intro c h; cases h) (fun K0 h => ?_)
  go_simp
  refine h.out _ _ ?_
  simp only [List.setIfInBounds_toArray, List.set_cons_zero]
  exact gA0123 hops0 u V hy hfin

include hops in
set_option maxRecDepth 20000 in
theorem gA23 (u : Value) (V : World) (hy : YR l v3 x u V R) (hn : V.cell? ⟨n0, 0, none⟩ = some (.func (.yield l) #[] #[])) (hfin : ∀ b W2, R b W2 → Q .normal { tmps := #[v0, v1, .pointer (some ⟨n0, 0, none⟩), v3, .pointer (some ⟨y, 0, none⟩), v5, v6, v7, v8, .func (.yield l) #[] #[], v3, .agg #[.int .i64 x.kind, .int .u64 x.num, .string x.text, (.slice p N c), .int .i64 x.elem], .agg #[.int .i64 x.kind, .int .u64 x.num, .string x.text, u, .int .i64 x.elem], .bool b, .bool (!b)], defers := [] } W2) : wpAnyIn (Fence.wide.inRound lp) 3 Tryd.prog .any ops Q 4 #[false, false, true, true, false, false] { tmps := #[v0, v1, .pointer (some ⟨n0, 0, none⟩), v3, .pointer (some ⟨y, 0, none⟩), v5, v6, v7, v8, undef, undef, .agg #[.int .i64 x.kind, .int .u64 x.num, .string x.text, (.slice p N c), .int .i64 x.elem], .agg #[.int .i64 x.kind, .int .u64 x.num, .string x.text, u, .int .i64 x.elem], undef, undef], defers := [] } V := by
  have hops0 := hops
  simp only [Tryd.f53, Option.bind_some, rfOf, regOf, if_true, Option.some.injEq] at hops
  subst hops
  refine wpAnyIn_all (rs := [0, 1]) (by kernel_rfl) (by simp) ?_
  intro i hi
  simp only [List.mem_cons, List.not_mem_nil, or_false] at hi
  rcases hi with rfl | rfl
  · refine stepI (i := 0) rfl (by rfl) (by intro c h; cases h) (fun K0 h => ?_)
    go_simp
    refine h.out _ _ ?_
    simp only [List.setIfInBounds_toArray, List.set_cons_zero]
    exact gA023 hops0 u V hy hfin
  · refine stepI (i := 1) rfl (by rfl) (by intro c h; cases h) (fun K0 h => ?_)
    go_simp
    refine h.out _ _ ?_
    simp only [List.setIfInBounds_toArray, List.set_cons_zero, List.set_cons_succ]
    exact gA123 hops0 u V hy hn hfin

include hops in
set_option maxRecDepth 20000 in
theorem gA012 (V : World) (hc : Calls Tryd.prog 52 #[.agg #[.int .i64 x.kind, .int .u64 x.num, .string x.text, (.slice p N c), .int .i64 x.elem]] V fun e V' => ∃ u, e = .returned (.agg #[.int .i64 x.kind, .int .u64 x.num, .string x.text, u, .int .i64 x.elem]) ∧ V'.cell? ⟨n0, 0, none⟩ = some (.func (.yield l) #[] #[]) ∧ YR l v3 x u V' R) (hfin : ∀ u b W2, R b W2 → Q .normal { tmps := #[v0, v1, .pointer (some ⟨n0, 0, none⟩), v3, .pointer (some ⟨y, 0, none⟩), v5, v6, v7, v8, .func (.yield l) #[] #[], v3, .agg #[.int .i64 x.kind, .int .u64 x.num, .string x.text, (.slice p N c), .int .i64 x.elem], .agg #[.int .i64 x.kind, .int .u64 x.num, .string x.text, u, .int .i64 x.elem], .bool b, .bool (!b)], defers := [] } W2) : wpAnyIn (Fence.wide.inRound lp) 3 Tryd.prog .any ops Q 3 #[true, true, true, false, false, false] { tmps := #[v0, v1, .pointer (some ⟨n0, 0, none⟩), v3, .pointer (some ⟨y, 0, none⟩), v5, v6, v7, v8, .func (.yield l) #[] #[], v3, .agg #[.int .i64 x.kind, .int .u64 x.num, .string x.text, (.slice p N c), .int .i64 x.elem], undef, undef, undef], defers := [] } V := by
  have hops0 := hops
  simp only [Tryd.f53, Option.bind_some, rfOf, regOf, if_true, Option.some.injEq] at hops
  subst hops
  refine wpAnyIn_all (rs := [3]) (by kernel_rfl) (by simp) ?_
  intro i hi
  simp only [List.mem_cons, List.not_mem_nil, or_false] at hi
  subst hi
  refine stepI (i := 3) rfl (by rfl) (by intro c h; cases h) (fun K0 h => ?_)
  go_simp
  (with_reducible refine hc.mono ?_)
  rintro e V' ⟨u, rfl, hn', hy⟩
  refine h.out _ _ ?_
  simp only [List.setIfInBounds_toArray, List.set_cons_zero, List.set_cons_succ]
  exact gA0123 hops0 u V' hy (hfin u)

include hops in
set_option maxRecDepth 20000 in
theorem gA02 (V : World) (hc : Calls Tryd.prog 52 #[.agg #[.int .i64 x.kind, .int .u64 x.num, .string x.text, (.slice p N c), .int .i64 x.elem]] V fun e V' => ∃ u, e = .returned (.agg #[.int .i64 x.kind, .int .u64 x.num, .string x.text, u, .int .i64 x.elem]) ∧ V'.cell? ⟨n0, 0, none⟩ = some (.func (.yield l) #[] #[]) ∧ YR l v3 x u V' R) (hfin : ∀ u b W2, R b W2 → Q .normal { tmps := #[v0, v1, .pointer (some ⟨n0, 0, none⟩), v3, .pointer (some ⟨y, 0, none⟩), v5, v6, v7, v8, .func (.yield l) #[] #[], v3, .agg #[.int .i64 x.kind, .int .u64 x.num, .string x.text, (.slice p N c), .int .i64 x.elem], .agg #[.int .i64 x.kind, .int .u64 x.num, .string x.text, u, .int .i64 x.elem], .bool b, .bool (!b)], defers := [] } W2) : wpAnyIn (Fence.wide.inRound lp) 3 Tryd.prog .any ops Q 4 #[true, false, true, false, false, false] { tmps := #[v0, v1, .pointer (some ⟨n0, 0, none⟩), v3, .pointer (some ⟨y, 0, none⟩), v5, v6, v7, v8, .func (.yield l) #[] #[], undef, .agg #[.int .i64 x.kind, .int .u64 x.num, .string x.text, (.slice p N c), .int .i64 x.elem], undef, undef, undef], defers := [] } V := by
  have hops0 := hops
  simp only [Tryd.f53, Option.bind_some, rfOf, regOf, if_true, Option.some.injEq] at hops
  subst hops
  refine wpAnyIn_all (rs := [1, 3]) (by kernel_rfl) (by simp) ?_
  intro i hi
  simp only [List.mem_cons, List.not_mem_nil, or_false] at hi
  rcases hi with rfl | rfl
  · refine stepI (i := 1) rfl (by rfl) (by intro c h; cases h) (fun K0 h => ?_)
    go_simp
    refine h.out _ _ ?_
    simp only [List.setIfInBounds_toArray, List.set_cons_zero, List.set_cons_succ]
    exact gA012 hops0 V hc hfin
  · refine stepI (i := 3) rfl (by rfl) (by intro c h; cases h) (fun K0 h => ?_)
    go_simp
    (with_reducible refine hc.mono ?_)
    rintro e V' ⟨u, rfl, hn', hy⟩
    refine h.out _ _ ?_
    simp only [List.setIfInBounds_toArray, List.set_cons_zero, List.set_cons_succ]
    exact gA023 hops0 u V' hy (hfin u)

include hops in
set_option maxRecDepth 20000 in
theorem gA12 (V : World) (hc : Calls Tryd.prog 52 #[.agg #[.int .i64 x.kind, .int .u64 x.num, .string x.text, (.slice p N c), .int .i64 x.elem]] V fun e V' => ∃ u, e = .returned (.agg #[.int .i64 x.kind, .int .u64 x.num, .string x.text, u, .int .i64 x.elem]) ∧ V'.cell? ⟨n0, 0, none⟩ = some (.func (.yield l) #[] #[]) ∧ YR l v3 x u V' R) (hn : V.cell? ⟨n0, 0, none⟩ = some (.func (.yield l) #[] #[])) (hfin : ∀ u b W2, R b W2 → Q .normal { tmps := #[v0, v1, .pointer (some ⟨n0, 0, none⟩), v3, .pointer (some ⟨y, 0, none⟩), v5, v6, v7, v8, .func (.yield l) #[] #[], v3, .agg #[.int .i64 x.kind, .int .u64 x.num, .string x.text, (.slice p N c), .int .i64 x.elem], .agg #[.int .i64 x.kind, .int .u64 x.num, .string x.text, u, .int .i64 x.elem], .bool b, .bool (!b)], defers := [] } W2) : wpAnyIn (Fence.wide.inRound lp) 3 Tryd.prog .any ops Q 4 #[false, true, true, false, false, false] { tmps := #[v0, v1, .pointer (some ⟨n0, 0, none⟩), v3, .pointer (some ⟨y, 0, none⟩), v5, v6, v7, v8, undef, v3, .agg #[.int .i64 x.kind, .int .u64 x.num, .string x.text, (.slice p N c), .int .i64 x.elem], undef, undef, undef], defers := [] } V := by
  have hops0 := hops
  simp only [Tryd.f53, Option.bind_some, rfOf, regOf, if_true, Option.some.injEq] at hops
  subst hops
  refine wpAnyIn_all (rs := [0, 3]) (by kernel_rfl) (by simp) ?_
  intro i hi
  simp only [List.mem_cons, List.not_mem_nil, or_false] at hi
  rcases hi with rfl | rfl
  · refine stepI (i := 0) rfl (by rfl) (by intro c h; cases h) (fun K0 h => ?_)
    go_simp
    refine h.out _ _ ?_
    simp only [List.setIfInBounds_toArray, List.set_cons_zero]
    exact gA012 hops0 V hc hfin
  · refine stepI (i := 3) rfl (by rfl) (by intro c h; cases h) (fun K0 h => ?_)
    go_simp
    (with_reducible refine hc.mono ?_)
    rintro e V' ⟨u, rfl, hn', hy⟩
    refine h.out _ _ ?_
    simp only [List.setIfInBounds_toArray, List.set_cons_zero, List.set_cons_succ]
    exact gA123 hops0 u V' hy hn' (hfin u)

include hops in
set_option maxRecDepth 20000 in
theorem gA2 (V : World) (hc : Calls Tryd.prog 52 #[.agg #[.int .i64 x.kind, .int .u64 x.num, .string x.text, (.slice p N c), .int .i64 x.elem]] V fun e V' => ∃ u, e = .returned (.agg #[.int .i64 x.kind, .int .u64 x.num, .string x.text, u, .int .i64 x.elem]) ∧ V'.cell? ⟨n0, 0, none⟩ = some (.func (.yield l) #[] #[]) ∧ YR l v3 x u V' R) (hn : V.cell? ⟨n0, 0, none⟩ = some (.func (.yield l) #[] #[])) (hfin : ∀ u b W2, R b W2 → Q .normal { tmps := #[v0, v1, .pointer (some ⟨n0, 0, none⟩), v3, .pointer (some ⟨y, 0, none⟩), v5, v6, v7, v8, .func (.yield l) #[] #[], v3, .agg #[.int .i64 x.kind, .int .u64 x.num, .string x.text, (.slice p N c), .int .i64 x.elem], .agg #[.int .i64 x.kind, .int .u64 x.num, .string x.text, u, .int .i64 x.elem], .bool b, .bool (!b)], defers := [] } W2) : wpAnyIn (Fence.wide.inRound lp) 3 Tryd.prog .any ops Q 5 #[false, false, true, false, false, false] { tmps := #[v0, v1, .pointer (some ⟨n0, 0, none⟩), v3, .pointer (some ⟨y, 0, none⟩), v5, v6, v7, v8, undef, undef, .agg #[.int .i64 x.kind, .int .u64 x.num, .string x.text, (.slice p N c), .int .i64 x.elem], undef, undef, undef], defers := [] } V := by
  have hops0 := hops
  simp only [Tryd.f53, Option.bind_some, rfOf, regOf, if_true, Option.some.injEq] at hops
  subst hops
  refine wpAnyIn_all (rs := [0, 1, 3]) (by kernel_rfl) (by simp) ?_
  intro i hi
  simp only [List.mem_cons, List.not_mem_nil, or_false] at hi
  rcases hi with rfl | rfl | rfl
  · refine stepI (i := 0) rfl (by rfl) (by intro c h; cases h) (fun K0 h => ?_)
    go_simp
    refine h.out _ _ ?_
    simp only [List.setIfInBounds_toArray, List.set_cons_zero]
    exact gA02 hops0 V hc hfin
  · refine stepI (i := 1) rfl (by rfl) (by intro c h; cases h) (fun K0 h => ?_)
    go_simp
    refine h.out _ _ ?_
    simp only [List.setIfInBounds_toArray, List.set_cons_zero, List.set_cons_succ]
    exact gA12 hops0 V hc hn hfin
  · refine stepI (i := 3) rfl (by rfl) (by intro c h; cases h) (fun K0 h => ?_)
    go_simp
    (with_reducible refine hc.mono ?_)
    rintro e V' ⟨u, rfl, hn', hy⟩
    refine h.out _ _ ?_
    simp only [List.setIfInBounds_toArray, List.set_cons_zero, List.set_cons_succ]
    exact gA23 hops0 u V' hy hn' (hfin u)

include hops in
set_option maxRecDepth 20000 in
theorem gA01 (V : World) (hc : Calls Tryd.prog 52 #[.agg #[.int .i64 x.kind, .int .u64 x.num, .string x.text, (.slice p N c), .int .i64 x.elem]] V fun e V' => ∃ u, e = .returned (.agg #[.int .i64 x.kind, .int .u64 x.num, .string x.text, u, .int .i64 x.elem]) ∧ V'.cell? ⟨n0, 0, none⟩ = some (.func (.yield l) #[] #[]) ∧ YR l v3 x u V' R) (h0 : V.cell? ⟨y, 0, none⟩ = some (.int .i64 x.kind)) (h1 : V.cell? ⟨y, 1, none⟩ = some (.int .u64 x.num)) (h2 : V.cell? ⟨y, 2, none⟩ = some (.string x.text)) (h3 : V.cell? ⟨y, 3, none⟩ = some (.slice p N c)) (h4 : V.cell? ⟨y, 4, none⟩ = some (.int .i64 x.elem)) (hfin : ∀ u b W2, R b W2 → Q .normal { tmps := #[v0, v1, .pointer (some ⟨n0, 0, none⟩), v3, .pointer (some ⟨y, 0, none⟩), v5, v6, v7, v8, .func (.yield l) #[] #[], v3, .agg #[.int .i64 x.kind, .int .u64 x.num, .string x.text, (.slice p N c), .int .i64 x.elem], .agg #[.int .i64 x.kind, .int .u64 x.num, .string x.text, u, .int .i64 x.elem], .bool b, .bool (!b)], defers := [] } W2) : wpAnyIn (Fence.wide.inRound lp) 3 Tryd.prog .any ops Q 4 #[true, true, false, false, false, false] { tmps := #[v0, v1, .pointer (some ⟨n0, 0, none⟩), v3, .pointer (some ⟨y, 0, none⟩), v5, v6, v7, v8, .func (.yield l) #[] #[], v3, undef, undef, undef, undef], defers := [] } V := by
  have hops0 := hops
  simp only [Tryd.f53, Option.bind_some, rfOf, regOf, if_true, Option.some.injEq] at hops
  subst hops
  refine wpAnyIn_all (rs := [2]) (by kernel_rfl) (by simp) ?_
  intro i hi
  simp only [List.mem_cons, List.not_mem_nil, or_false] at hi
  subst hi
  refine stepI (i := 2) rfl (by rfl) (by intro c h; cases h) (fun K0 h => ?_)
  go_simp
  refine h.out _ _ ?_
  simp only [List.setIfInBounds_toArray, List.set_cons_zero, List.set_cons_succ]
  exact gA012 hops0 V hc hfin

include hops in
set_option maxRecDepth 20000 in
theorem gA0 (V : World) (hc : Calls Tryd.prog 52 #[.agg #[.int .i64 x.kind, .int .u64 x.num, .string x.text, (.slice p N c), .int .i64 x.elem]] V fun e V' => ∃ u, e = .returned (.agg #[.int .i64 x.kind, .int .u64 x.num, .string x.text, u, .int .i64 x.elem]) ∧ V'.cell? ⟨n0, 0, none⟩ = some (.func (.yield l) #[] #[]) ∧ YR l v3 x u V' R) (h0 : V.cell? ⟨y, 0, none⟩ = some (.int .i64 x.kind)) (h1 : V.cell? ⟨y, 1, none⟩ = some (.int .u64 x.num)) (h2 : V.cell? ⟨y, 2, none⟩ = some (.string x.text)) (h3 : V.cell? ⟨y, 3, none⟩ = some (.slice p N c)) (h4 : V.cell? ⟨y, 4, none⟩ = some (.int .i64 x.elem)) (hfin : ∀ u b W2, R b W2 → Q .normal { tmps := #[v0, v1, .pointer (some ⟨n0, 0, none⟩), v3, .pointer (some ⟨y, 0, none⟩), v5, v6, v7, v8, .func (.yield l) #[] #[], v3, .agg #[.int .i64 x.kind, .int .u64 x.num, .string x.text, (.slice p N c), .int .i64 x.elem], .agg #[.int .i64 x.kind, .int .u64 x.num, .string x.text, u, .int .i64 x.elem], .bool b, .bool (!b)], defers := [] } W2) : wpAnyIn (Fence.wide.inRound lp) 3 Tryd.prog .any ops Q 5 #[true, false, false, false, false, false] { tmps := #[v0, v1, .pointer (some ⟨n0, 0, none⟩), v3, .pointer (some ⟨y, 0, none⟩), v5, v6, v7, v8, .func (.yield l) #[] #[], undef, undef, undef, undef, undef], defers := [] } V := by
  have hops0 := hops
  simp only [Tryd.f53, Option.bind_some, rfOf, regOf, if_true, Option.some.injEq] at hops
  subst hops
  refine wpAnyIn_all (rs := [1, 2]) (by kernel_rfl) (by simp) ?_
  intro i hi
  simp only [List.mem_cons, List.not_mem_nil, or_false] at hi
  rcases hi with rfl | rfl
  · refine stepI (i := 1) rfl (by rfl) (by intro c h; cases h) (fun K0 h => ?_)
    go_simp
    refine h.out _ _ ?_
    simp only [List.setIfInBounds_toArray, List.set_cons_zero, List.set_cons_succ]
    exact gA01 hops0 V hc h0 h1 h2 h3 h4 hfin
  · refine stepI (i := 2) rfl (by rfl) (by intro c h; cases h) (fun K0 h => ?_)
    go_simp
    refine h.out _ _ ?_
    simp only [List.setIfInBounds_toArray, List.set_cons_zero, List.set_cons_succ]
    exact gA02 hops0 V hc hfin

include hops in
set_option maxRecDepth 20000 in
theorem gA1 (V : World) (hc : Calls Tryd.prog 52 #[.agg #[.int .i64 x.kind, .int .u64 x.num, .string x.text, (.slice p N c), .int .i64 x.elem]] V fun e V' => ∃ u, e = .returned (.agg #[.int .i64 x.kind, .int .u64 x.num, .string x.text, u, .int .i64 x.elem]) ∧ V'.cell? ⟨n0, 0, none⟩ = some (.func (.yield l) #[] #[]) ∧ YR l v3 x u V' R) (hn : V.cell? ⟨n0, 0, none⟩ = some (.func (.yield l) #[] #[])) (h0 : V.cell? ⟨y, 0, none⟩ = some (.int .i64 x.kind)) (h1 : V.cell? ⟨y, 1, none⟩ = some (.int .u64 x.num)) (h2 : V.cell? ⟨y, 2, none⟩ = some (.string x.text)) (h3 : V.cell? ⟨y, 3, none⟩ = some (.slice p N c)) (h4 : V.cell? ⟨y, 4, none⟩ = some (.int .i64 x.elem)) (hfin : ∀ u b W2, R b W2 → Q .normal { tmps := #[v0, v1, .pointer (some ⟨n0, 0, none⟩), v3, .pointer (some ⟨y, 0, none⟩), v5, v6, v7, v8, .func (.yield l) #[] #[], v3, .agg #[.int .i64 x.kind, .int .u64 x.num, .string x.text, (.slice p N c), .int .i64 x.elem], .agg #[.int .i64 x.kind, .int .u64 x.num, .string x.text, u, .int .i64 x.elem], .bool b, .bool (!b)], defers := [] } W2) : wpAnyIn (Fence.wide.inRound lp) 3 Tryd.prog .any ops Q 5 #[false, true, false, false, false, false] { tmps := #[v0, v1, .pointer (some ⟨n0, 0, none⟩), v3, .pointer (some ⟨y, 0, none⟩), v5, v6, v7, v8, undef, v3, undef, undef, undef, undef], defers := [] } V := by
  have hops0 := hops
  simp only [Tryd.f53, Option.bind_some, rfOf, regOf, if_true, Option.some.injEq] at hops
  subst hops
  refine wpAnyIn_all (rs := [0, 2]) (by kernel_rfl) (by simp) ?_
  intro i hi
  simp only [List.mem_cons, List.not_mem_nil, or_false] at hi
  rcases hi with rfl | rfl
  · refine stepI (i := 0) rfl (by rfl) (by intro c h; cases h) (fun K0 h => ?_)
    go_simp
    refine h.out _ _ ?_
    simp only [List.setIfInBounds_toArray, List.set_cons_zero]
    exact gA01 hops0 V hc h0 h1 h2 h3 h4 hfin
  · refine stepI (i := 2) rfl (by rfl) (by intro c h; cases h) (fun K0 h => ?_)
    go_simp
    refine h.out _ _ ?_
    simp only [List.setIfInBounds_toArray, List.set_cons_zero, List.set_cons_succ]
    exact gA12 hops0 V hc hn hfin

include hops in
set_option maxRecDepth 20000 in
theorem gAn (V : World) (hc : Calls Tryd.prog 52 #[.agg #[.int .i64 x.kind, .int .u64 x.num, .string x.text, (.slice p N c), .int .i64 x.elem]] V fun e V' => ∃ u, e = .returned (.agg #[.int .i64 x.kind, .int .u64 x.num, .string x.text, u, .int .i64 x.elem]) ∧ V'.cell? ⟨n0, 0, none⟩ = some (.func (.yield l) #[] #[]) ∧ YR l v3 x u V' R) (hn : V.cell? ⟨n0, 0, none⟩ = some (.func (.yield l) #[] #[])) (h0 : V.cell? ⟨y, 0, none⟩ = some (.int .i64 x.kind)) (h1 : V.cell? ⟨y, 1, none⟩ = some (.int .u64 x.num)) (h2 : V.cell? ⟨y, 2, none⟩ = some (.string x.text)) (h3 : V.cell? ⟨y, 3, none⟩ = some (.slice p N c)) (h4 : V.cell? ⟨y, 4, none⟩ = some (.int .i64 x.elem)) (hfin : ∀ u b W2, R b W2 → Q .normal { tmps := #[v0, v1, .pointer (some ⟨n0, 0, none⟩), v3, .pointer (some ⟨y, 0, none⟩), v5, v6, v7, v8, .func (.yield l) #[] #[], v3, .agg #[.int .i64 x.kind, .int .u64 x.num, .string x.text, (.slice p N c), .int .i64 x.elem], .agg #[.int .i64 x.kind, .int .u64 x.num, .string x.text, u, .int .i64 x.elem], .bool b, .bool (!b)], defers := [] } W2) : wpAnyIn (Fence.wide.inRound lp) 3 Tryd.prog .any ops Q 6 #[false, false, false, false, false, false] { tmps := #[v0, v1, .pointer (some ⟨n0, 0, none⟩), v3, .pointer (some ⟨y, 0, none⟩), v5, v6, v7, v8, undef, undef, undef, undef, undef, undef], defers := [] } V := by
  have hops0 := hops
  simp only [Tryd.f53, Option.bind_some, rfOf, regOf, if_true, Option.some.injEq] at hops
  subst hops
  refine wpAnyIn_all (rs := [0, 1, 2]) (by kernel_rfl) (by simp) ?_
  intro i hi
  simp only [List.mem_cons, List.not_mem_nil, or_false] at hi
  rcases hi with rfl | rfl | rfl
  · refine stepI (i := 0) rfl (by rfl) (by intro c h; cases h) (fun K0 h => ?_)
    go_simp
    refine h.out _ _ ?_
    simp only [List.setIfInBounds_toArray, List.set_cons_zero]
    exact gA0 hops0 V hc h0 h1 h2 h3 h4 hfin
  · refine stepI (i := 1) rfl (by rfl) (by intro c h; cases h) (fun K0 h => ?_)
    go_simp
    refine h.out _ _ ?_
    simp only [List.setIfInBounds_toArray, List.set_cons_zero, List.set_cons_succ]
    exact gA1 hops0 V hc hn h0 h1 h2 h3 h4 hfin
  · refine stepI (i := 2) rfl (by rfl) (by intro c h; cases h) (fun K0 h => ?_)
    go_simp
    refine h.out _ _ ?_
    simp only [List.setIfInBounds_toArray, List.set_cons_zero, List.set_cons_succ]
    exact gA2 hops0 V hc hn hfin

end

end Go.Proofs.YtakbgekamjpibaaDoor
