/-
  What FrameOpens keeps: the frames that came out, their rows, the book. No conditions.
-/
import Derived.Test.YtofdpccjpodbhaaMg08
import Derived.Test.YtofdpccjpodbhaaMg09
import Derived.Test.YtofdpccjpodbhaaRefOpen2
namespace Go.Proofs.Ytofdpccjpodbhaa
open Go.RowKit
set_option linter.unusedVariables false

theorem info_frame5 : (Try.prog.info? 24).map (fun i => (i.zero, i.size, i.bytes)) = some (some (.agg #[.int .i64 0, .int .i64 0, .slice none 0 0, .slice none 0 0]), 4, 64) := by kernel_rfl

/-- a frame that came out -/
structure OutF where
  T : Int
  C : Int
  e : Value
  b : Value
  el : List UInt8
  bl : List UInt8

def OutF.cells (r : OutF) : List Value := [.int .i64 r.T, .int .i64 r.C, r.e, r.b]
def OutF.two (r : OutF) : List (Value × List UInt8) := [(r.e, r.el), (r.b, r.bl)]
/-- it reads as the answer says -/
def OutF.is (r : OutF) (q : Nat × Nat × List UInt8 × List UInt8 × Int × Int) : Prop := r.T = q.1 ∧ r.C = q.2.1 ∧ r.el = q.2.2.1 ∧ r.bl = q.2.2.2.1
def rowsOf (R : List OutF) : List (Value × List UInt8) := R.flatMap OutF.two
def valsOf (R : List OutF) : List Value := (rowsOf R).map Prod.fst

theorem rowsOf_snoc (R : List OutF) (r : OutF) : rowsOf (R ++ [r]) = rowsOf R ++ r.two := by simp [rowsOf, List.flatMap_append]
theorem valsOf_snoc (R : List OutF) (r : OutF) : valsOf (R ++ [r]) = valsOf R ++ [r.e, r.b] := by simp [valsOf, rowsOf_snoc, OutF.two]
theorem valsOf_length (R : List OutF) : (valsOf R).length = 2 * R.length := by
  induction R with
  | nil => rfl
  | cons x R ih =>
    have : valsOf (x :: R) = x.e :: x.b :: valsOf R := by simp [valsOf, rowsOf, OutF.two]
    rw [this]
    simp only [List.length_cons, ih]
    omega
theorem valsOf_take : ∀ (R : List OutF) (j : Nat) (r : OutF), R[j]? = some r → (valsOf R).take (2 * j + 2) = (valsOf R).take (2 * j) ++ [r.e, r.b]
  | [], j, r, h => by simp at h
  | x :: R, 0, r, h => by
    simp only [List.getElem?_cons_zero, Option.some.injEq] at h
    subst h
    simp [valsOf, rowsOf, OutF.two]
  | x :: R, j + 1, r, h => by
    rw [List.getElem?_cons_succ] at h
    have ih := valsOf_take R j r h
    have e : valsOf (x :: R) = x.e :: x.b :: valsOf R := by simp [valsOf, rowsOf, OutF.two]
    rw [e, show 2 * (j + 1) + 2 = (2 * j + 2) + 1 + 1 by omega, show 2 * (j + 1) = 2 * j + 1 + 1 by omega]
    simp only [List.take_succ_cons, ih, List.cons_append]
theorem out_get : ∀ (R : List OutF) (j : Nat) (r : OutF) (k : Nat) (v : Value), R[j]? = some r → r.cells[k]? = some v → (R.flatMap OutF.cells)[j * 4 + k]? = some v
  | [], j, r, k, v, h, _ => by simp at h
  | x :: R, 0, r, k, v, h, hk => by
    simp only [List.getElem?_cons_zero, Option.some.injEq] at h
    subst h
    have hk4 : k < 4 := (List.getElem?_eq_some_iff.1 hk).1
    rw [List.flatMap_cons, Nat.zero_mul, Nat.zero_add, List.getElem?_append_left hk4]
    exact hk
  | x :: R, j + 1, r, k, v, h, hk => by
    rw [List.getElem?_cons_succ] at h
    have ih := out_get R j r k v h hk
    rw [List.flatMap_cons, List.getElem?_append_right (by show 4 ≤ _; omega)]
    have : (j + 1) * 4 + k - x.cells.length = j * 4 + k := by
      show (j + 1) * 4 + k - 4 = _
      omega
    rw [this]
    exact ih

theorem off_row {w : World} {B T k n : Nat} {v : Value} {xs : List Value} {row : Option Nat} (h : w.ownsRow B T k v n xs) (hr : ∀ b, row = some b → b < B) : v.ownBlock = none ∨ v.ownBlock ≠ row := by
  cases hv : v.ownBlock with
  | none => exact .inl rfl
  | some g =>
    refine .inr (fun he => ?_)
    have h1 := (h.lt g hv).1
    have h2 := hr g he.symm
    omega

structure Opn (w0 wr : World) (bp B : Nat) (vf : Value) (R RR : List OutF) (vl : Value) (m : Nat) : Prop where
  bel : Below w0.heap.size w0 wr
  le1 : w0.heap.size ≤ bp
  le2 : bp < B
  size : B ≤ wr.heap.size
  row : wr.ownsRow B 24 4 vf R.length (R.flatMap OutF.cells)
  rows : ∀ u ∈ rowsOf RR, OwnBytes wr B 5 u.1 u.2
  book : Book5 wr B bp vl ((valsOf RR).take m)
  dist : (valsOf RR).Pairwise Apart

theorem Opn.kept {w0 wr w' : World} {bp B m : Nat} {vf vl : Value} {R RR : List OutF} {row : Option Nat} (h : Opn w0 wr bp B vf R RR vl m) (hg : wr.grownBy w' row)
    (hr : ∀ k, row = some k → w0.heap.size ≤ k ∧ k < B ∧ k ≠ bp) : Opn w0 w' bp B vf R RR vl m := by
  have hr2 : ∀ b, row = some b → b < B := fun b hb => (hr b hb).2.1
  refine ⟨h.bel.grown hg h.bel.size (fun k hk => (hr k hk).1), h.le1, h.le2, Nat.le_trans h.size hg.size, h.row.kept hg (off_row h.row hr2), fun u hu => (h.rows u hu).kept hg (off_row (h.rows u hu).row hr2), ⟨?_, h.book.row.kept hg (off_row h.book.row hr2)⟩, h.dist⟩
  rw [hg.block bp h.book.lt (fun he => (hr bp he.symm).2.2 rfl)]
  exact h.book.at_

theorem Opn.below {w0 wr w' : World} {bp B m : Nat} {vf vl : Value} {R RR : List OutF} (h : Opn w0 wr bp B vf R RR vl m) (hb : Below wr.heap.size wr w') : Opn w0 w' bp B vf R RR vl m :=
  h.kept (row := none) ⟨hb.os, hb.tape, hb.output, hb.size, fun k hk _ => hb.block k hk⟩ (fun k hk => by simp at hk)

theorem Opn.dist_snoc {w0 wr w2 : World} {bp B m : Nat} {vf vl : Value} {R RR : List OutF} {r : OutF} (h : Opn w0 wr bp B vf R RR vl m)
    (he : OwnBytes w2 wr.heap.size 5 r.e r.el) (hbd : OwnBytes w2 wr.heap.size 5 r.b r.bl) (hap : Apart r.e r.b) : (valsOf (RR ++ [r])).Pairwise Apart := by
  rw [valsOf_snoc, List.pairwise_append]
  refine ⟨h.dist, by simp [hap], fun x hx y hy => ?_⟩
  obtain ⟨u, hu, rfl⟩ := List.mem_map.1 hx
  have hu2 := (h.rows u hu).row
  have hy2 : ∀ g, y.ownBlock = some g → wr.heap.size ≤ g := fun g hg => by
    simp only [List.mem_cons, List.not_mem_nil, or_false] at hy
    rcases hy with rfl | rfl
    · exact (he.row.lt g hg).1
    · exact (hbd.row.lt g hg).1
  unfold Apart
  cases e1 : u.1.ownBlock with
  | none => exact .inl rfl
  | some g1 =>
    cases e2 : y.ownBlock with
    | none => exact .inr (.inl rfl)
    | some g2 =>
      refine .inr (.inr (fun hee => ?_))
      simp only [Option.some.injEq] at hee
      have x1 := (hu2.lt g1 e1).2
      have x2 := hy2 g2 e2
      omega

theorem Opn.putRow {w0 wr w2 : World} {bp B : Nat} {vf vl : Value} {R RR : List OutF} {r : OutF} (h : Opn w0 wr bp B vf R RR vl 0) (hb : Below wr.heap.size wr w2)
    (he : OwnBytes w2 wr.heap.size 5 r.e r.el) (hbd : OwnBytes w2 wr.heap.size 5 r.b r.bl) (hap : Apart r.e r.b) : Opn w0 w2 bp B vf R (RR ++ [r]) vl 0 := by
  have h2 := h.below hb
  have hbk := h2.book
  rw [List.take_zero] at hbk
  refine ⟨h2.bel, h2.le1, h2.le2, h2.size, h2.row, fun u hu => ?_, by rw [List.take_zero]; exact hbk, h.dist_snoc he hbd hap⟩
  rw [rowsOf_snoc] at hu
  rcases List.mem_append.1 hu with hu | hu
  · exact h2.rows u hu
  · simp only [OutF.two, List.mem_cons, List.not_mem_nil, or_false] at hu
    rcases hu with rfl | rfl
    · exact ⟨row_mono5 he.row h.size⟩
    · exact ⟨row_mono5 hbd.row h.size⟩

theorem Opn.putFrame {w0 wr w2 w3 : World} {bp B : Nat} {vf vf' vl : Value} {R : List OutF} {r : OutF} (h : Opn w0 wr bp B vf R R vl 0) (hb : Below wr.heap.size wr w2)
    (he : OwnBytes w2 wr.heap.size 5 r.e r.el) (hbd : OwnBytes w2 wr.heap.size 5 r.b r.bl) (hap : Apart r.e r.b)
    (hr : w3.ownsRow B 24 4 vf' (R.length + 1) (R.flatMap OutF.cells ++ r.cells)) (hg : w2.grownBy w3 vf.ownBlock) : Opn w0 w3 bp B vf' (R ++ [r]) (R ++ [r]) vl 0 := by
  have h2 := h.putRow hb he hbd hap
  have hbk := h2.book
  rw [List.take_zero] at hbk
  refine ⟨h2.bel.grown hg h2.bel.size (fun k hk => Nat.le_trans h.le1 (Nat.le_of_lt (Nat.lt_of_lt_of_le h.le2 (h2.row.lt k hk).1))), h2.le1, h2.le2, Nat.le_trans h2.size hg.size, ?_, fun u hu => (h2.rows u hu).kept hg (rows_apart (h2.rows u hu).row h2.row (by decide)), ?_, h2.dist⟩
  · rw [List.length_append, List.flatMap_append]
    simpa using hr
  · rw [List.take_zero]
    refine ⟨?_, hbk.row.kept hg (rows_apart hbk.row h2.row (by decide))⟩
    rw [hg.block bp hbk.lt (row_not_block5 h2.row hbk.at_ (by decide))]
    exact hbk.at_

theorem Opn.putBook {w0 wr w3 : World} {bp B m : Nat} {vf vl vl' x y : Value} {R RR : List OutF} (h : Opn w0 wr bp B vf R RR vl m)
    (hm : (valsOf RR).take (m + 2) = (valsOf RR).take m ++ [x, y]) (hr : w3.ownsRow B 22 1 vl' (((valsOf RR).take m).length + 2) ((valsOf RR).take m ++ [x, y])) (hg : wr.grownBy w3 vl.ownBlock) :
    Opn w0 (w3.setCell ⟨bp, 0, none⟩ vl') bp B vf R RR vl' (m + 2) := by
  have hbv : w3.heap[bp]? = some (.cells #[vl] 31 (0, 0)) := (hg.block bp h.book.lt (row_not_block5 h.book.row h.book.at_ (by decide))).trans h.book.at_
  have hset := setCell_grown w3 bp 0 vl'
  have hle2 := h.le2
  have hoff : ∀ b, some bp = some b → b < B := fun b hb => by simp only [Option.some.injEq] at hb; omega
  have hrow := h.row.kept hg (rows_apart h.row h.book.row (by decide))
  have hB3 : Below w0.heap.size w0 w3 := h.bel.grown hg h.bel.size (fun k hk => Nat.le_trans h.le1 (Nat.le_of_lt (Nat.lt_of_lt_of_le h.le2 (h.book.row.lt k hk).1)))
  refine ⟨hB3.setCell h.le1 _, h.le1, h.le2, by rw [World.size_setCell]; exact Nat.le_trans h.size hg.size, hrow.kept hset (off_row hrow hoff), fun u hu => ?_, ?_, h.dist⟩
  · have hu3 := (h.rows u hu).kept hg (rows_apart (h.rows u hu).row h.book.row (by decide))
    exact hu3.kept hset (off_row hu3.row hoff)
  · rw [hm]
    refine ⟨?_, ?_⟩
    · have := heap_setCell_same w3 bp 0 _ _ vl' hbv
      simpa using this
    · rw [List.length_append]
      exact hr.kept hset (off_row hr hoff)

theorem Opn.frame {w0 wr : World} {bp B m g c n : Nat} {vl : Value} {R RR : List OutF} (h : Opn w0 wr bp B (.slice (some ⟨g, 0, none⟩) n c) R RR vl m) (hn : R.length = n) (j : Nat) (r : OutF) (hj : R[j]? = some r) (k : Nat) (v : Value) (hv : r.cells[k]? = some v) :
    wr.cell? ⟨g, j * 4 + k, none⟩ = some v := by
  have hjl := (List.getElem?_eq_some_iff.1 hj).1
  have hk4 : k < 4 := (List.getElem?_eq_some_iff.1 hv).1
  have hrow := h.row
  rw [hn] at hrow
  rw [hrow.cellAt (j * 4 + k) (by omega)]
  exact out_get R j r k v hj hv

theorem Opn.row1 {w0 wr : World} {bp B m : Nat} {vf vl : Value} {R RR : List OutF} (h : Opn w0 wr bp B vf R RR vl m) {r : OutF} (hr : r ∈ RR) : OwnBytes wr B 5 r.e r.el ∧ OwnBytes wr B 5 r.b r.bl :=
  ⟨h.rows (r.e, r.el) (List.mem_flatMap.2 ⟨r, hr, by simp [OutF.two]⟩), h.rows (r.b, r.bl) (List.mem_flatMap.2 ⟨r, hr, by simp [OutF.two]⟩)⟩

theorem dist_of_pairwise {vs : List Value} (h : vs.Pairwise Apart) : Dist5 vs := by
  intro i j hi hj hij
  have sym : ∀ {x y : Value}, Apart x y → x.ownBlock = none ∨ y.ownBlock = none ∨ x.ownBlock ≠ y.ownBlock := fun h => h
  have key : ∀ i j, i < j → j < vs.length → Apart (vs.getD i default) (vs.getD j default) := fun i j hij hj => by
    have := List.pairwise_iff_getElem.1 h i j (by omega) hj hij
    simpa [List.getD_eq_getElem?_getD, List.getElem?_eq_getElem hj, List.getElem?_eq_getElem (show i < vs.length by omega)] using this
  cases e1 : (vs.getD i default).ownBlock with
  | none => exact .inl rfl
  | some g1 =>
    refine .inr (fun he => ?_)
    rcases Nat.lt_or_gt_of_ne hij with h1 | h1
    · rcases key i j h1 hj with h2 | h2 | h2
      · rw [e1] at h2; simp at h2
      · rw [← he] at h2; simp at h2
      · exact h2 (e1.trans he)
    · rcases key j i h1 hi with h2 | h2 | h2
      · rw [← he] at h2; simp at h2
      · rw [e1] at h2; simp at h2
      · exact h2 (he.symm.trans e1.symm)

/-- 'append(s, x, y)' of two one-cell values, in the block that the statement has just laid -/
theorem wpList_append_two {P : Program} {wr : World} {ops : Array Oper} {rest : List Oper} {o : Oper} {a : Act} {Q : Exit → Act → World → Prop} (hgd : o.guard = none)
    (s x : Operand) (t : TypeId) (ho : o.op = .call { callee := .builtin .append, args := #[s, x], argTypes := #[t, t] })
    (B e : Nat) (z : Value) (bytes : Nat) (ht : P.underlying t = some (.slice e)) (hinfo : (P.info? e).map (fun i => (i.zero, i.size, i.bytes)) = some (some z, 1, bytes)) (hz1 : z.cells.size = 1)
    (v : Value) (n : Nat) (xs : List Value) (y1 y2 : Value) (hy1 : y1.oneCell' = true) (hy2 : y2.oneCell' = true)
    (hs : a.eval s = v) (hx : a.eval x = .slice (some ⟨wr.heap.size, 0, none⟩) 2 2) (hown : wr.ownsRow B e 1 v n xs)
    (h63 : n + 2 ≤ maxLen) (hbytes : (n + 2) * bytes ≤ 140737488355328) (hbase : B ≤ wr.heap.size)
    (h : ∀ v' w', w'.ownsRow B e 1 v' (n + 2) (xs ++ [y1, y2]) → wr.grownBy w' v.ownBlock → wpList P ops Q rest (a.put o.dst v') w') :
    wpList P ops Q (o :: rest) a (wr.alloc (.cells #[y1, y2] e)) := by
  obtain ⟨i, hi, hzz⟩ := Option.map_eq_some_iff.1 hinfo
  simp only [Prod.mk.injEq] at hzz
  obtain ⟨hz, hsz, hb⟩ := hzz
  refine wpList_plain hgd fun K hK => ?_
  obtain ⟨v', w', hr, h2, h3, h4⟩ := run_append_own (P := P) (wr.alloc (.cells #[y1, y2] e)) B t o.type e i z 1 bytes ht hi hz hsz hb hz1 (by decide) v n xs (hown.alloc _) ⟨wr.heap.size, 0, none⟩ 2 2 [y1, y2] rfl (by
      intro j u hj
      have hadd : (⟨wr.heap.size, 0, none⟩ : Addr).add j = ⟨wr.heap.size, 0 + j, none⟩ := by unfold Addr.add; split <;> simp_all
      rw [hadd, Nat.zero_add]
      simp only [World.cell?, heap_alloc_new]
      simpa using hj) (by
      intro u hu
      simp only [List.mem_cons, List.not_mem_nil, or_false] at hu
      rcases hu with rfl | rfl
      · exact hy1
      · exact hy2) h63 hbytes (by simp; omega)
  have hg : wr.grownBy w' v.ownBlock :=
    ⟨h3.os, h3.tape, h3.output, Nat.le_trans (by simp) h3.size, fun k hk hne => (h3.block k (by simp; omega) hne).trans (Below.heap_alloc wr _ k hk)⟩
  unfold Oper.wp execOp
  simp only [ho, resolve, invoke, builtin, Sem.run_bind, Sem.run_pure, Result.andThen_ok, List.map_toArray, List.map_cons, List.map_nil, hs, hx, hr]
  exact hK _ _ (h v' w' h2 hg)

theorem wp_append_two {P : Program} {wr : World} {o : Oper} {a : Act} {K : Act → World → Prop} {Q : Exit → Act → World → Prop}
    (s x : Operand) (t : TypeId) (ho : o.op = .call { callee := .builtin .append, args := #[s, x], argTypes := #[t, t] })
    (B e : Nat) (z : Value) (bytes : Nat) (ht : P.underlying t = some (.slice e)) (hinfo : (P.info? e).map (fun i => (i.zero, i.size, i.bytes)) = some (some z, 1, bytes)) (hz1 : z.cells.size = 1)
    (v : Value) (n : Nat) (xs : List Value) (y1 y2 : Value) (hy1 : y1.oneCell' = true) (hy2 : y2.oneCell' = true)
    (hs : a.eval s = v) (hx : a.eval x = .slice (some ⟨wr.heap.size, 0, none⟩) 2 2) (hown : wr.ownsRow B e 1 v n xs)
    (h63 : n + 2 ≤ maxLen) (hbytes : (n + 2) * bytes ≤ 140737488355328) (hbase : B ≤ wr.heap.size)
    (h : ∀ v' w', w'.ownsRow B e 1 v' (n + 2) (xs ++ [y1, y2]) → wr.grownBy w' v.ownBlock → K (a.put o.dst v') w') :
    o.wp P a (wr.alloc (.cells #[y1, y2] e)) K Q := by
  obtain ⟨i, hi, hzz⟩ := Option.map_eq_some_iff.1 hinfo
  simp only [Prod.mk.injEq] at hzz
  obtain ⟨hz, hsz, hb⟩ := hzz
  obtain ⟨v', w', hr, h2, h3, h4⟩ := run_append_own (P := P) (wr.alloc (.cells #[y1, y2] e)) B t o.type e i z 1 bytes ht hi hz hsz hb hz1 (by decide) v n xs (hown.alloc _) ⟨wr.heap.size, 0, none⟩ 2 2 [y1, y2] rfl (by
      intro j u hj
      have hadd : (⟨wr.heap.size, 0, none⟩ : Addr).add j = ⟨wr.heap.size, 0 + j, none⟩ := by unfold Addr.add; split <;> simp_all
      rw [hadd, Nat.zero_add]
      simp only [World.cell?, heap_alloc_new]
      simpa using hj) (by
      intro u hu
      simp only [List.mem_cons, List.not_mem_nil, or_false] at hu
      rcases hu with rfl | rfl
      · exact hy1
      · exact hy2) h63 hbytes (by simp; omega)
  have hg : wr.grownBy w' v.ownBlock :=
    ⟨h3.os, h3.tape, h3.output, Nat.le_trans (by simp) h3.size, fun k hk hne => (h3.block k (by simp; omega) hne).trans (Below.heap_alloc wr _ k hk)⟩
  unfold Oper.wp
  simp only [execOp, ho, resolve, invoke, builtin, Sem.run_bind, Sem.run_pure, Result.andThen_ok, List.map_toArray, List.map_cons, List.map_nil, hs, hx, hr]
  exact h v' w' h2 hg

theorem step_append_two {P : Program} {wr : World} {ops : Array Oper} {o : Oper} {a : Act} {K : Act → World → Prop} {Q : Exit → Act → World → Prop} {E : Prop} (hgd : o.guard = none)
    (s x : Operand) (t : TypeId) (ho : o.op = .call { callee := .builtin .append, args := #[s, x], argTypes := #[t, t] })
    (B e : Nat) (z : Value) (bytes : Nat) (ht : P.underlying t = some (.slice e)) (hinfo : (P.info? e).map (fun i => (i.zero, i.size, i.bytes)) = some (some z, 1, bytes)) (hz1 : z.cells.size = 1)
    (v : Value) (n : Nat) (xs : List Value) (y1 y2 : Value) (hy1 : y1.oneCell' = true) (hy2 : y2.oneCell' = true)
    (hs : a.eval s = v) (hx : a.eval x = .slice (some ⟨wr.heap.size, 0, none⟩) 2 2) (hown : wr.ownsRow B e 1 v n xs)
    (h63 : n + 2 ≤ maxLen) (hbytes : (n + 2) * bytes ≤ 140737488355328) (hbase : B ≤ wr.heap.size)
    (h : ∀ v' w', w'.ownsRow B e 1 v' (n + 2) (xs ++ [y1, y2]) → wr.grownBy w' v.ownBlock → K (a.put o.dst v') w') :
    if Region.wanted o (yielded ops a.tmps) = true then Oper.wp P o a (wr.alloc (.cells #[y1, y2] e)) K Q else E := by
  have hw : Region.wanted o (yielded ops a.tmps) = true := by simp [Region.wanted, hgd]
  rw [if_pos hw]
  exact wp_append_two s x t ho B e z bytes ht hinfo hz1 v n xs y1 y2 hy1 hy2 hs hx hown h63 hbytes hbase h

theorem open_row (w : World) (a : Option Addr) (n c : Nat) (l : List UInt8) (at_ most : Int) (h : BytesIn w a n c l) (hz : n ≤ 140737488355328) (t ch : Nat) (el bl : List UInt8) (p er : Int) (hq : openR l at_ most = (t, ch, el, bl, p, er)) :
    Calls Try.prog 18 #[.slice a n c, .int .i64 at_, .int .i64 most] w fun e w' => ∃ ea ne ce ba nb cb, e = .returned (.tuple #[.agg #[.int .i64 t, .int .i64 ch, .slice ea ne ce, .slice ba nb cb], .int .i64 p, .int .i64 er]) ∧ Below w.heap.size w w' ∧
      OwnBytes w' w.heap.size 5 (.slice ea ne ce) el ∧ OwnBytes w' w.heap.size 5 (.slice ba nb cb) bl ∧ Apart (.slice ea ne ce) (.slice ba nb cb) := by
  have := open_any w a n c l at_ most h hz
  rw [hq] at this
  exact this

theorem ropen_row (w : World) (a : Option Addr) (n c : Nat) (l : List UInt8) (at_ most : Int) (h : BytesIn w a n c l) (hz : n ≤ 140737488355328) (t ch : Nat) (el bl : List UInt8) (p er : Int) (hq : openR l at_ most = (t, ch, el, bl, p, er)) :
    Calls Try.prog 19 #[.slice a n c, .int .i64 at_, .int .i64 most] w fun e w' => ∃ ea ne ce ba nb cb, e = .returned (.tuple #[.agg #[.int .i64 t, .int .i64 ch, .slice ea ne ce, .slice ba nb cb], .int .i64 p, .int .i64 er]) ∧ Below w.heap.size w w' ∧
      BytesIn w' ea ne ce el ∧ BytesIn w' ba nb cb bl := by
  have := ropen_any w a n c l at_ most h hz
  rw [hq] at this
  exact this
end Go.Proofs.Ytofdpccjpodbhaa
