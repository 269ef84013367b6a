/-
  Rows of bytes of the call's own that are appended to, with what becomes of other rows in the same block; marks. They speak of no program. No conditions.
  Contracts of octet.Put and octet.Get: what each returns for every argument, in every world. Conditions: a slice of bytes lies in memory.
  What owned of the statements of layer 5 keeps, loop by loop: rows of bytes, some of them whole arrays; one mark a row. No conditions.
-/
import Derived.Test.YtofdpccjpodbhaaMg01
import Derived.Test.YtofdpccjpodbhaaRows
import Derived.Deep.AppendLies
namespace Go.Proofs.Ytofdpccjpodbhaa
open Go.RowKit
set_option linter.unusedVariables false

/-- where an append has put the row: in its place, or into a new block, and nothing else has changed -/
def Grew (w w' : World) (v v' : Value) : Prop :=
  (∃ g n cap, v = .slice (some ⟨g, 0, none⟩) n cap ∧ v' = .slice (some ⟨g, 0, none⟩) (n + 1) cap) ∨ (∃ g, v'.ownBlock = some g ∧ w.heap.size ≤ g ∧ ∀ k, k < w.heap.size → w'.heap[k]? = w.heap[k]?)

theorem append_grew {P : Program} {w w' : World} {base t ty e : Nat} {i : TypeInfo} {z v v' : Value} {bytes n : Nat} {xs : List Value} (ht : P.underlying t = some (.slice e)) (hi : P.info? e = some i) (hz : i.zero = some z)
    (hsize : i.size = 1) (hby : i.bytes = bytes) (hown : w.ownsRow base e 1 v n xs)
    (a : Addr) (c : Nat) (y : Value) (hy : w.cell? a = some y) (h1 : y.oneCell' = true) (h63 : n + 1 ≤ maxLen) (hbytes : (n + 1) * bytes ≤ 140737488355328)
    (hr : (Builtin.append_ #[t, t] ty #[v, .slice (some a) 1 c]).run P w = .ok v' w') : Grew w w' v v' := by
  have hnews : ∀ j u, [y][j]? = some u → w.cell? (a.add j) = some u := by
    intro j u hj
    match j, hj with
    | 0, hj => simp at hj; subst hj; simpa [Addr.add] using hy
  have hl : [y].length = 1 * i.size := by rw [hsize]; rfl
  have hm : n + 1 ≤ 9223372036854775807 := by unfold maxLen at h63; omega
  rcases hown.2 with ⟨rfl, rfl⟩ | ⟨g, cap, cur, rfl, hbg, hg, hnc, hcm, hcs, htake⟩
  · have hq := run_append_nil (P := P) w t ty e i z ht hi hz a 1 c [y] hl hnews (by decide) (by decide) (by rw [hby]; omega)
    rw [hr] at hq
    simp only [Result.ok.injEq] at hq
    refine .inr ⟨w.heap.size, by rw [hq.1]; rfl, Nat.le_refl _, fun k hk => ?_⟩
    rw [hq.2]; exact Below.heap_alloc w.drew _ k hk
  · by_cases hroom : n + 1 ≤ cap
    · have hq := run_append_room (P := P) w t ty e i ht hi g n cap cur hg a 1 c [y] hl hnews (by intro u hu; simp at hu; subst hu; exact h1) hroom (by rw [hsize, hcs]; simp; omega)
      rw [hr] at hq
      simp only [Result.ok.injEq] at hq
      exact .inl ⟨g, n, cap, rfl, by rw [hq.1]⟩
    · have holds : ∀ j u, xs[j]? = some u → w.cell? ((⟨g, 0, none⟩ : Addr).add j) = some u := hown.cells (g := g) rfl
      have hq := run_append_grow (P := P) w t ty e i z ht hi hz ⟨g, 0, none⟩ n cap xs (by rw [hsize]; exact hown.1) holds a 1 c [y] hl hnews (by omega) (by omega) (growslice_fits (by omega) (by rw [hby]; exact hbytes))
      rw [hr] at hq
      simp only [Result.ok.injEq] at hq
      refine .inr ⟨w.heap.size, by rw [hq.1]; rfl, Nat.le_refl _, fun k hk => ?_⟩
      rw [hq.2]; exact Below.heap_alloc w.drew _ k hk

/-- 'append(s, y)' for a byte that the statement has just laid, with where the row lies -/
theorem wpList_append_grew {P : Program} {wr : World} {ops : Array Oper} {rest : List Oper} {o : Oper} {a : Act} {Q : Exit → Act → World → Prop} (hgd : o.guard = none)
    (s x : Operand) (t : TypeId) (ho : o.op = .call { callee := .builtin .append, args := #[s, x], argTypes := #[t, t] })
    (B e : Nat) (ht : P.underlying t = some (.slice e)) (hinfo : (P.info? e).map (fun i => (i.zero, i.size, i.bytes)) = some (some (.int .u8 0), 1, 1))
    (v : Value) (l : List UInt8) (y : UInt8)
    (hs : a.eval s = v) (hx : a.eval x = .slice (some ⟨wr.heap.size, 0, none⟩) 1 1) (hown : OwnBytes wr B e v l)
    (hlen : l.length + 1 ≤ 140737488355328) (hbase : B ≤ wr.heap.size)
    (h : ∀ v' w', OwnBytes w' B e v' (l ++ [y]) → wr.grownBy w' v.ownBlock → Grew wr w' v v' → wpList P ops Q rest (a.put o.dst v') w') :
    wpList P ops Q (o :: rest) a (wr.alloc (.cells #[.int .u8 (y.toNat : Int)] e)) := by
  obtain ⟨i, hi, hzz⟩ := Option.map_eq_some_iff.1 hinfo
  simp only [Prod.mk.injEq] at hzz
  obtain ⟨hz, hsz, hb⟩ := hzz
  have hcell : (wr.alloc (.cells #[.int .u8 (y.toNat : Int)] e)).cell? ⟨wr.heap.size, 0, none⟩ = some (.int .u8 (y.toNat : Int)) := by simp only [World.cell?, heap_alloc_new]; rfl
  have hnews : ∀ j u, [Value.int .u8 (y.toNat : Int)][j]? = some u → (wr.alloc (.cells #[.int .u8 (y.toNat : Int)] e)).cell? ((⟨wr.heap.size, 0, none⟩ : Addr).add j) = some u := by
    intro j u hj
    match j, hj with
    | 0, hj => simp at hj; subst hj; simp [Addr.add]
  have hl2 : l.length + 1 ≤ maxLen := by unfold maxLen; omega
  refine wpList_plain hgd fun K hK => ?_
  obtain ⟨v', w', hr, h2, h3, h4⟩ := run_append_own (P := P) (wr.alloc (.cells #[.int .u8 (y.toNat : Int)] e)) B t o.type e i (.int .u8 0) 1 1 ht hi hz hsz hb rfl (by decide) v l.length (l.map byteV) (hown.row.alloc _) ⟨wr.heap.size, 0, none⟩ 1 1 [.int .u8 (y.toNat : Int)] rfl hnews
    (by intro u hu; simp at hu; subst hu; rfl) hl2 (by omega) (by simp; omega)
  have hf := append_grew ht hi hz hsz hb (hown.row.alloc (.cells #[.int .u8 (y.toNat : Int)] e)) ⟨wr.heap.size, 0, none⟩ 1 (.int .u8 (y.toNat : Int)) hcell rfl hl2 (by omega) hr
  have hg : wr.grownBy w' v.ownBlock :=
    ⟨h3.os, h3.tape, h3.output, Nat.le_trans (by simp) h3.size, fun k hk hne => (h3.block k (by simp; omega) hne).trans (Below.heap_alloc wr _ k hk)⟩
  have hf' : Grew wr w' v v' := by
    rcases hf with hf | ⟨g, hf1, hf2, hf3⟩
    · exact .inl hf
    · exact .inr ⟨g, hf1, by simp at hf2; omega, fun k hk => (hf3 k (by simp; omega)).trans (Below.heap_alloc wr _ k hk)⟩
  unfold Oper.wp execOp
  simp only [ho, resolve, invoke, builtin, Sem.run_bind, Sem.run_pure, Result.andThen_ok, List.map_toArray, List.map_cons, List.map_nil, hs, hx, hr]
  exact hK _ _ (h v' w' ⟨by rw [List.length_append, List.length_singleton, List.map_append]; exact h2⟩ hg hf')

/-- .. the byte as the walk writes it -/
theorem wpList_append_grew' {P : Program} {wr : World} {ops : Array Oper} {rest : List Oper} {o : Oper} {a : Act} {Q : Exit → Act → World → Prop} (hgd : o.guard = none)
    (s x : Operand) (t : TypeId) (ho : o.op = .call { callee := .builtin .append, args := #[s, x], argTypes := #[t, t] })
    (B e : Nat) (ht : P.underlying t = some (.slice e)) (hinfo : (P.info? e).map (fun i => (i.zero, i.size, i.bytes)) = some (some (.int .u8 0), 1, 1))
    (v : Value) (l : List UInt8) (y : UInt8) (yv : Value)
    (hs : a.eval s = v) (hx : a.eval x = .slice (some ⟨wr.heap.size, 0, none⟩) 1 1) (hyv : yv = .int .u8 (y.toNat : Int)) (hown : OwnBytes wr B e v l)
    (hlen : l.length + 1 ≤ 140737488355328) (hbase : B ≤ wr.heap.size)
    (h : ∀ v' w', OwnBytes w' B e v' (l ++ [y]) → wr.grownBy w' v.ownBlock → Grew wr w' v v' → wpList P ops Q rest (a.put o.dst v') w') :
    wpList P ops Q (o :: rest) a (wr.alloc (.cells #[yv] e)) := by
  subst hyv
  exact wpList_append_grew hgd s x t ho B e ht hinfo v l y hs hx hown hlen hbase h

/-- another row of bytes is kept by the append: it lies elsewhere, or is a beginning of the one appended to -/
theorem OwnBytes.grew {w w' : World} {B T : Nat} {v v' u : Value} {l lu : List UInt8} {y : UInt8} (ho : OwnBytes w B T v l) (ho' : OwnBytes w' B T v' (l ++ [y])) (hg : w.grownBy w' v.ownBlock) (hf : Grew w w' v v')
    (hu : OwnBytes w B T u lu) (hne : u.ownBlock = none ∨ u.ownBlock ≠ v.ownBlock ∨ lu <+: l) : OwnBytes w' B T u lu := by
  rcases hne with h | h | h
  · exact hu.kept hg (.inl h)
  · exact hu.kept hg (.inr h)
  · by_cases hb : u.ownBlock = v.ownBlock
    · obtain ⟨h1, h2⟩ := hu.row
      refine ⟨h1, ?_⟩
      rcases h2 with h2 | ⟨g, cap, cur, e, hgB, hh, hn, hm, hs, htk⟩
      · exact .inl h2
      · refine .inr ?_
        subst e
        rcases hf with ⟨g', n, cap', e1, e2⟩ | ⟨g', _, _, hk⟩
        · subst e1 e2
          simp only [Value.ownBlock, Option.some.injEq] at hb
          subst hb
          have r := ho.row.2
          rcases r with ⟨r, _⟩ | ⟨g2, cap2, cur2, r1, r2, r3, r4, r5, r6, r7⟩
          · simp at r
          simp only [Value.slice.injEq, Option.some.injEq, Addr.mk.injEq] at r1
          obtain ⟨⟨rfl, _⟩, rfl, rfl⟩ := r1
          have hcc : cur2 = cur := by
            rw [r3] at hh
            simp only [Option.some.injEq, Obj.cells.injEq] at hh
            exact hh.1
          have r' := ho'.row.2
          rcases r' with ⟨q, _⟩ | ⟨g3, cap3, cur3, q1, q2, q3, q4, q5, q6, q7⟩
          · simp at q
          simp only [Value.slice.injEq, Option.some.injEq, Addr.mk.injEq] at q1
          obtain ⟨⟨rfl, _⟩, q8, rfl⟩ := q1
          have hcap : cap = cap' := by rw [hcc] at r6; omega
          refine ⟨g, cap, cur3, rfl, hgB, q3, hn, hm, by omega, ?_⟩
          have hle := h.length_le
          rw [Nat.mul_one] at q7 ⊢
          have : (cur3.toList.take (l ++ [y]).length).take lu.length = ((l ++ [y]).map byteV).take lu.length := by rw [q7]
          rw [List.take_take, Nat.min_eq_left (by simp; omega)] at this
          rw [this, ← List.map_take, List.take_append_of_le_length hle]
          obtain ⟨tl, rfl⟩ := h
          rw [List.take_left' rfl]
        · exact ⟨g, cap, cur, rfl, hgB, by rw [hk g (Array.getElem?_eq_some_iff.1 hh).1]; exact hh, hn, hm, hs, htk⟩
    · exact hu.kept hg (.inr hb)

/-- the marks of the i-th list -/
def markL (i n : Nat) : List UInt8 := (List.range n).map fun j => UInt8.ofNat (i + j / 251)
theorem markL_length (i n : Nat) : (markL i n).length = n := by simp [markL]
theorem markL_snoc (i n : Nat) : markL i (n + 1) = markL i n ++ [UInt8.ofNat (i + n / 251)] := by simp [markL, List.range_succ]
theorem markL_prefix (i : Nat) {m n : Nat} (h : m ≤ n) : markL i m <+: markL i n := by
  refine ⟨(markL i n).drop m, ?_⟩
  have : markL i m = (markL i n).take m := by
    unfold markL
    rw [← List.map_take, List.take_range, Nat.min_eq_left h]
  rw [this, List.take_append_drop]
theorem markL_getD (i n j : Nat) (h : j < n) : (markL i n).getD j 0 = UInt8.ofNat (i + j / 251) := by
  simp [markL, List.getD_eq_getElem?_getD, h]

/-- rows that are kept, each with its number and its length -/
def Kept (w : World) (B T : Nat) (F : List (Value × Nat × Nat)) : Prop := ∀ u ∈ F, OwnBytes w B T u.1 (markL u.2.1 u.2.2)
/-- each of them lies elsewhere than v, or is a beginning of it -/
def AptTo (F : List (Value × Nat × Nat)) (v : Value) (i n : Nat) : Prop := ∀ u ∈ F, u.1.ownBlock = none ∨ u.1.ownBlock ≠ v.ownBlock ∨ (u.2.1 = i ∧ u.2.2 ≤ n)

theorem Kept.lt {w : World} {B T : Nat} {F : List (Value × Nat × Nat)} (h : Kept w B T F) {u : Value × Nat × Nat} (hu : u ∈ F) {g : Nat} (hg : u.1.ownBlock = some g) : g < w.heap.size := ((h u hu).row.lt g hg).2

theorem Kept.step {w w' : World} {B T i n : Nat} {v v' : Value} {y : UInt8} {F : List (Value × Nat × Nat)} (h : Kept w B T F) (ha : AptTo F v i n) (ho : OwnBytes w B T v (markL i n)) (ho' : OwnBytes w' B T v' (markL i n ++ [y]))
    (hg : w.grownBy w' v.ownBlock) (hf : Grew w w' v v') : Kept w' B T F ∧ AptTo F v' i (n + 1) := by
  refine ⟨fun u hu => ho.grew ho' hg hf (h u hu) ?_, fun u hu => ?_⟩
  · rcases ha u hu with h1 | h1 | ⟨h1, h2⟩
    · exact .inl h1
    · exact .inr (.inl h1)
    · exact .inr (.inr (by rw [h1]; exact markL_prefix i h2))
  · rcases hf with ⟨g, m, cap, e1, e2⟩ | ⟨g, e1, e2, _⟩
    · rcases ha u hu with h1 | h1 | ⟨h1, h2⟩
      · exact .inl h1
      · refine .inr (.inl ?_)
        rw [e2]; rw [e1] at h1; exact h1
      · exact .inr (.inr ⟨h1, by omega⟩)
    · refine .inr (.inl (fun he => ?_))
      have := h.lt hu (g := g) (by rw [he, e1])
      omega
/-- a change elsewhere -/
theorem Kept.other {w w' : World} {B T : Nat} {row : Option Nat} {F : List (Value × Nat × Nat)} (h : Kept w B T F) (hg : w.grownBy w' row) (hne : ∀ u ∈ F, u.1.ownBlock = none ∨ u.1.ownBlock ≠ row) : Kept w' B T F :=
  fun u hu => (h u hu).kept hg (hne u hu)

/-- rows of another type lie elsewhere -/
theorem apart_of_type {w : World} {B B' T T' n : Nat} {u v : Value} {l : List UInt8} {xs : List Value} (hu : OwnBytes w B T u l) (hv : w.ownsRow B' T' 1 v n xs) (hT : T ≠ T') : u.ownBlock = none ∨ u.ownBlock ≠ v.ownBlock := by
  rcases hu.row.2 with ⟨rfl, _⟩ | ⟨g, cap, cur, rfl, _, hh, _⟩
  · exact .inl rfl
  · refine .inr (fun he => ?_)
    rcases hv.2 with ⟨rfl, _⟩ | ⟨g', cap', cur', rfl, _, hh', _⟩
    · simp [Value.ownBlock] at he
    · simp only [Value.ownBlock, Option.some.injEq] at he
      subst he
      rw [hh] at hh'
      simp only [Option.some.injEq, Obj.cells.injEq] at hh'
      exact hT hh'.2.1
theorem apart_of_cells {w : World} {B T T' b : Nat} {u : Value} {l : List UInt8} {cs : Array Value} {fr : Nat × Nat} (hu : OwnBytes w B T u l) (hv : w.heap[b]? = some (.cells cs T' fr)) (hT : T ≠ T') : u.ownBlock ≠ some b := by
  rcases hu.row.2 with ⟨rfl, _⟩ | ⟨g, cap, cur, rfl, _, hh, _⟩
  · simp [Value.ownBlock]
  · intro he
    simp only [Value.ownBlock, Option.some.injEq] at he
    subst he
    rw [hh] at hv
    simp only [Option.some.injEq, Obj.cells.injEq] at hv
    exact hT hv.2.1
end Go.Proofs.Ytofdpccjpodbhaa

namespace Go.Proofs.Ytofdpccjpodbhaa
open Go.RowKit
set_option linter.unusedVariables false

theorem info_u8 : (Try.prog.info? 5).map (fun i => (i.zero, i.size, i.bytes)) = some (some (.int .u8 0), 1, 1) := by kernel_rfl

theorem put_ok (n wd : Nat) (w : World) (h1 : 1 ≤ wd) (h8 : wd ≤ 8) (hn : n < 18446744073709551616) :
    Calls Try.prog 39 #[.int .u64 n, .int .i64 wd] w fun e w' =>
      e = .returned (.slice (some ⟨w.heap.size, 0, none⟩) wd wd) ∧ Below w.heap.size w w' ∧ w'.rowIs w.heap.size 5 wd (fun i => .int .u8 (byteAt n wd i)) := by
  have hmk := run_make_row' (P := Try.prog) 22 5 (.int .u8 0) 1 Try.underlying22 info_u8 rfl .i64 .i64 wd (by omega) (by omega)
  go_enter Try.func39, Try.ntmps39
  go_wp2
  clear hmk
  have hrow := World.rowIs_made w (.int .u8 0) wd 5
  have hb : Below w.heap.size w (w.alloc (.cells (madeCells #[.int .u8 0] wd) 5)) := (Below.refl _ _).alloc (Nat.le_refl _) _
  generalize (w.alloc (.cells (madeCells #[.int .u8 0] wd) 5)) = w1 at *
  go_loopw [0, 6] (fun m i wr => ∃ k : Nat, k ≤ wd ∧ i = .int .i64 ((k : Int) - 1) ∧ m = .int .u64 (n / 256 ^ (wd - k) : Nat) ∧ Below w.heap.size w wr ∧ wr.rowIs w.heap.size 5 wd (fun j => .int .u8 (if k ≤ j then byteAt n wd j else 0))) (fun _ i _ => (intOf i + 1).toNat)
  case atStart => exact ⟨wd, by omega, rfl, by simp, hb, hrow.congr fun i hi => by rw [if_neg (by omega)]⟩
  case round =>
    obtain ⟨k, hk, rfl, rfl, hB, hR⟩ := hrel
    cases k with
    | zero =>
      go_wp2
      go_ret
      exact ⟨rfl, hB, hR.congr fun i hi => by rw [if_pos (Nat.zero_le _)]⟩
    | succ k =>
      have hc := hR.cell (i := k) (by omega)
      have hf := hR.frozen k
      have hle : n / 256 ^ (wd - (k+1)) < 18446744073709551616 := Nat.lt_of_le_of_lt (Nat.div_le_self _ _) hn
      obtain ⟨m, hm⟩ : ∃ m, n / 256 ^ (wd - (k+1)) = m := ⟨_, rfl⟩
      have Hm := Lib.hid hm
      rw [hm]
      rw [hm] at hle
      clear hm
      go_wp2
      go_roundw
      case rel =>
        have hm := Hm.out
        have hd : m / 256 = n / 256 ^ (wd - k) := by
          rw [← hm, Nat.div_div_eq_div_mul, ← Nat.pow_succ]
          congr 2; omega
        have hby : byteAt n wd k = m % 256 := by
          rw [← hm]; unfold byteAt; congr 3; omega
        refine ⟨k, by omega, rfl, by rw [← hd]; rfl, hB.setCell (Nat.le_refl _) _, (hR.set k _).congr fun j hj => ?_⟩
        by_cases e : j = k
        · subst e
          rw [if_pos rfl, if_pos (Nat.le_refl _), hby]; rfl
        · rw [if_neg e]
          by_cases h2 : k + 1 ≤ j
          · rw [if_pos h2, if_pos (by omega)]
          · rw [if_neg h2, if_neg (by omega)]
      case measure => simp [intOf]

theorem put_bytes (n wd : Nat) (w : World) (h1 : 1 ≤ wd) (h8 : wd ≤ 8) (hn : n < 18446744073709551616) :
    Calls Try.prog 39 #[.int .u64 n, .int .i64 wd] w fun e w' =>
      e = .returned (.slice (some ⟨w.heap.size, 0, none⟩) wd wd) ∧ Below w.heap.size w w' ∧ BytesIn w' (some ⟨w.heap.size, 0, none⟩) wd wd (putL n wd) :=
  (put_ok n wd w h1 h8 hn).mono fun e w' ⟨he, hb, hr⟩ => ⟨he, hb, rowIs_bytes (putL n wd) hr (putL_length n wd) (by unfold maxLen; omega) fun i hi => by rw [putL_getD n wd i hi]⟩

theorem put_arg (n wd : Int) (w : World) (h : wd < 1 ∨ 8 < wd) :
    Calls Try.prog 39 #[.int .u64 n, .int .i64 wd] w fun e w' => e = .returned (.slice none 0 0) ∧ w = w' := by
  by_cases h1 : wd < 1
  · go_enter Try.func39, Try.ntmps39
    go_wp2
    go_ret
    exact ⟨rfl, rfl⟩
  · have h8 : 8 < wd := by omega
    clear h
    go_enter Try.func39, Try.ntmps39
    go_wp2
    go_ret
    exact ⟨rfl, rfl⟩

theorem get_short : ∀ (w : World) (a : Option Addr) (n c : Nat) (at_ wd : Nat) (hn : n ≤ maxLen) (h1 : 1 ≤ wd) (h8 : wd ≤ 8) (h : at_ ≤ n) (h' : n < at_ + wd),
    Calls Try.prog 62 #[.slice a n c, .int .i64 at_, .int .i64 wd] w fun e w' =>
      e = .returned (.tuple #[.int .u64 0, .int .i64 10]) ∧ w = w' := by
  intro w a n c at_ wd hn h1 h8 h h'
  unfold maxLen at hn
  have h5 : (n : Int) - (at_ : Int) < (wd : Int) := by omega
  go_enter Try.func62, Try.ntmps62
  go_wp2
  go_ret2
  exact ⟨rfl, rfl⟩
theorem get_arg (w : World) (a : Option Addr) (n c : Nat) (at_ wd : Int) (hn : n ≤ maxLen) (h : wd < 1 ∨ 8 < wd ∨ at_ < 0 ∨ n < at_) :
    Calls Try.prog 62 #[.slice a n c, .int .i64 at_, .int .i64 wd] w fun e w' =>
      e = .returned (.tuple #[.int .u64 0, .int .i64 1]) ∧ w = w' := by
  unfold maxLen at hn
  by_cases h1 : wd < 1
  · clear hn
    go_enter Try.func62, Try.ntmps62
    go_wp2
    go_ret2
    exact ⟨rfl, rfl⟩
  by_cases h2 : 8 < wd
  · go_enter Try.func62, Try.ntmps62
    go_wp2
    go_ret2
    exact ⟨rfl, rfl⟩
  by_cases h3 : at_ < 0
  · go_enter Try.func62, Try.ntmps62
    go_wp2
    go_ret2
    exact ⟨rfl, rfl⟩
  have h4 : (n : Int) < at_ := by omega
  clear h
  go_enter Try.func62, Try.ntmps62
  go_wp2
  go_ret2
  exact ⟨rfl, rfl⟩

theorem get_ok (w : World) (a : Option Addr) (n c : Nat) (l : List UInt8) (h : BytesIn w a n c l) (at_ wd : Nat) (h1 : 1 ≤ wd) (h8 : wd ≤ 8) (hat : at_ + wd ≤ n) :
    Calls Try.prog 62 #[.slice a n c, .int .i64 at_, .int .i64 wd] w fun e w' =>
      e = .returned (.tuple #[.int .u64 (beVal ((l.drop at_).take wd)), .int .i64 0]) ∧ w = w' := by
  obtain ⟨hl, hnc, hcm, hat_⟩ := h
  obtain ⟨b, o, rfl, hb, hcell⟩ := hat_ (by omega)
  unfold maxLen at hcm
  have HL := Lib.hid hl
  clear hl
  go_enter Try.func62, Try.ntmps62
  go_wp2
  go_loop [8, 42] (fun m i => ∃ k : Nat, k ≤ wd ∧ i = .int .i64 k ∧ m = .int .u64 (beVal ((l.drop at_).take k))) (fun _ i => wd - (intOf i).toNat)
  case atStart => exact ⟨0, by omega, rfl, rfl⟩
  case round =>
    obtain ⟨k, hk, rfl, rfl⟩ := hrel
    by_cases hlt : k < wd
    · have hc := hcell (at_ + k) (by omega)
      rw [← Nat.add_assoc] at hc
      have hs := beVal_snoc ((l.drop at_).take k) (l.getD (at_ + k) 0)
      rw [← drop_take_succ l at_ k (by rw [HL.out]; omega)] at hs
      have hm : 256 * beVal ((l.drop at_).take k) + 255 < 18446744073709551616 := by
        have h0 := beVal_lt ((l.drop at_).take k)
        have h2 : 256 ^ ((l.drop at_).take k).length ≤ 256 ^ 7 := Nat.pow_le_pow_right (by omega) (by rw [List.length_take]; omega)
        omega
      have hx := (l.getD (at_ + k) 0).toNat_lt
      obtain ⟨y, hy⟩ : ∃ y, (l.getD (at_ + k) 0).toNat = y := ⟨_, rfl⟩
      obtain ⟨m, hm'⟩ : ∃ m, beVal ((l.drop at_).take k) = m := ⟨_, rfl⟩
      rw [hy] at hc hx hs
      rw [hm'] at hm hs ⊢
      have HS := Lib.hid hs
      clear hs hy hm' hcell
      go_wp2
      go_round
      case rel => exact ⟨k + 1, by omega, by go_num, by rw [HS.out, shl8_or m y hm hx]⟩
      case measure => simp [intOf]; omega
    · obtain rfl : wd = k := by omega
      go_wp2
      go_ret2
      exact ⟨rfl, rfl⟩

end Go.Proofs.Ytofdpccjpodbhaa

namespace Go.Proofs.Ytofdpccjpodbhaa
open Go.RowKit
set_option linter.unusedVariables false

/-- the marks of the i-th list -/
def mk5 (i n : Nat) : List UInt8 := List.replicate n (UInt8.ofNat (i + 1))
theorem mk5_length (i n : Nat) : (mk5 i n).length = n := by simp [mk5]
theorem mk5_snoc (i n : Nat) : mk5 i (n + 1) = mk5 i n ++ [UInt8.ofNat (i + 1)] := by simp [mk5, List.replicate_succ']
theorem mk5_prefix (i : Nat) {m n : Nat} (h : m ≤ n) : mk5 i m <+: mk5 i n := ⟨List.replicate (n - m) (UInt8.ofNat (i + 1)), by unfold mk5; rw [List.replicate_append_replicate, show m + (n - m) = n by omega]⟩
theorem mk5_getD (i n j : Nat) (h : j < n) : (mk5 i n).getD j 0 = UInt8.ofNat (i + 1) := by simp [mk5, List.getD_eq_getElem?_getD, h]

/-- a row of bytes of the call's own, or an array of bytes, whole -/
def RowB (w : World) (B : Nat) (v : Value) (l : List UInt8) : Prop :=
  OwnBytes w B 5 v l ∨ (OwnBytes w B 85 v l ∧ ∃ g, v = .slice (some ⟨g, 0, none⟩) l.length l.length)

theorem RowB.own {w : World} {B : Nat} {v : Value} {l : List UInt8} (h : RowB w B v l) : ∃ T, OwnBytes w B T v l := by
  rcases h with h | h
  · exact ⟨_, h⟩
  · exact ⟨_, h.1⟩
theorem RowB.kept {w w' : World} {row : Option Nat} {B : Nat} {v : Value} {l : List UInt8} (h : RowB w B v l) (hg : w.grownBy w' row) (hne : v.ownBlock = none ∨ v.ownBlock ≠ row) : RowB w' B v l := by
  rcases h with h | ⟨h, h2⟩
  · exact .inl (h.kept hg hne)
  · exact .inr ⟨h.kept hg hne, h2⟩
theorem RowB.of_below {w w' : World} {B : Nat} {v : Value} {l : List UInt8} (h : RowB w B v l) (hb : Below w.heap.size w w') : RowB w' B v l := by
  rcases h with h | ⟨h, h2⟩
  · exact .inl (h.of_below hb)
  · exact .inr ⟨h.of_below hb, h2⟩
theorem RowB.lt {w : World} {B : Nat} {v : Value} {l : List UInt8} (h : RowB w B v l) : ∀ k, v.ownBlock = some k → B ≤ k ∧ k < w.heap.size := by
  obtain ⟨T, h⟩ := h.own
  exact h.row.lt
theorem RowB.set {w : World} {B g n cap : Nat} {l : List UInt8} (h : RowB w B (.slice (some ⟨g, 0, none⟩) n cap) l) (hn : l.length = n) (j : Nat) (y : UInt8) : RowB (w.setCell ⟨g, j, none⟩ (.int .u8 (y.toNat : Int))) B (.slice (some ⟨g, 0, none⟩) n cap) (l.set j y) := by
  rcases h with h | ⟨h, h2⟩
  · exact .inl (h.set hn j y)
  · exact .inr ⟨h.set hn j y, by rw [List.length_set]; exact h2⟩
theorem RowB.apart {w : World} {B B' n : Nat} {u v : Value} {l : List UInt8} {xs : List Value} (hu : RowB w B u l) (hv : w.ownsRow B' 22 1 v n xs) : u.ownBlock = none ∨ u.ownBlock ≠ v.ownBlock := by
  rcases hu with hu | ⟨hu, _⟩
  · exact apart_of_type hu hv (by decide)
  · exact apart_of_type hu hv (by decide)

/-- another row is kept by the append: it lies elsewhere, or is a beginning of the one appended to -/
theorem RowB.grew {w w' : World} {B : Nat} {v v' u : Value} {l lu : List UInt8} {y : UInt8} (ho : RowB w B v l) (ho' : OwnBytes w' B 5 v' (l ++ [y])) (hg : w.grownBy w' v.ownBlock) (hf : Grew w w' v v')
    (hu : RowB w B u lu) (hne : u.ownBlock = none ∨ u.ownBlock ≠ v.ownBlock ∨ lu <+: l) : RowB w' B u lu := by
  rcases hf with ⟨g, n, cap, e1, e2⟩ | ⟨g, e1, e2, hk⟩
  · rcases ho with ho | ⟨ho, g', h2⟩
    · rcases hu with hu | ⟨hu, hu2⟩
      · exact .inl (ho.grew ho' hg (.inl ⟨g, n, cap, e1, e2⟩) hu hne)
      · exact .inr ⟨hu.kept hg (apart_of_type hu ho.row (by decide)), hu2⟩
    · exfalso
      rw [e1] at h2
      simp only [Value.slice.injEq] at h2
      obtain ⟨a, c, e3, hb⟩ := ho'.bytes
      rw [e2] at e3
      simp only [Value.slice.injEq] at e3
      have := hb.le
      rw [List.length_append, List.length_singleton] at this e3
      omega
  · exact hu.of_below ⟨hg.os, hg.tape, hg.output, hg.size, hk⟩

/-- 'append(s, y)' onto a row, or onto an array that is full -/
theorem wpList_append_rowB {P : Program} {wr : World} {ops : Array Oper} {rest : List Oper} {o : Oper} {a : Act} {Q : Exit → Act → World → Prop} (hgd : o.guard = none)
    (s x : Operand) (t : TypeId) (ho : o.op = .call { callee := .builtin .append, args := #[s, x], argTypes := #[t, t] })
    (B : Nat) (ht : P.underlying t = some (.slice 5)) (hinfo : (P.info? 5).map (fun i => (i.zero, i.size, i.bytes)) = some (some (.int .u8 0), 1, 1))
    (v : Value) (l : List UInt8) (y : UInt8) (yv : Value)
    (hs : a.eval s = v) (hx : a.eval x = .slice (some ⟨wr.heap.size, 0, none⟩) 1 1) (hyv : yv = .int .u8 (y.toNat : Int)) (hown : RowB wr B v l)
    (hlen : l.length + 1 ≤ 140737488355328) (hbase : B ≤ wr.heap.size)
    (h : ∀ v' w', OwnBytes w' B 5 v' (l ++ [y]) → wr.grownBy w' v.ownBlock → Grew wr w' v v' → wpList P ops Q rest (a.put o.dst v') w') :
    wpList P ops Q (o :: rest) a (wr.alloc (.cells #[yv] 5)) := by
  rcases hown with hown | ⟨hown, g, hv⟩
  · exact wpList_append_grew' hgd s x t ho B _ ht hinfo v l y yv hs hx hyv hown hlen hbase h
  · subst hyv hv
    obtain ⟨i, hi, hzz⟩ := Option.map_eq_some_iff.1 hinfo
    simp only [Prod.mk.injEq] at hzz
    obtain ⟨hz, hsz, hb⟩ := hzz
    have hrow := hown.row.alloc (.cells #[.int .u8 (y.toNat : Int)] 5)
    have holds := hrow.cells (g := g) rfl
    have hr := run_append_grow (P := P) (wr.alloc (.cells #[.int .u8 (y.toNat : Int)] 5)) t o.type 5 i (.int .u8 0) ht hi hz ⟨g, 0, none⟩ l.length l.length (l.map byteV) (by rw [List.length_map, hsz]; omega) holds ⟨wr.heap.size, 0, none⟩ 1 1 [.int .u8 (y.toNat : Int)] (by rw [hsz]; rfl) (by
      intro j u hj
      match j, hj with
      | 0, hj =>
        simp at hj; subst hj
        simp [Addr.add]) (by omega) (by omega) (by rw [hb]; exact growslice_fits (by omega) (by omega))
    obtain ⟨cap', hcap'⟩ : ∃ c, grownCap (wr.alloc (.cells #[.int .u8 (y.toNat : Int)] 5)) (l.length + 1) l.length 5 = c := ⟨_, rfl⟩
    have hge := grownCap_ge (wr.alloc (.cells #[.int .u8 (y.toNat : Int)] 5)) (l.length + 1) l.length 5
    have hle := grownCap_le_maxLen (wr.alloc (.cells #[.int .u8 (y.toNat : Int)] 5)) (l.length + 1) l.length 5 (by unfold maxLen; omega)
    rw [hcap'] at hr hge hle
    refine wpList_plain hgd fun K hK => ?_
    unfold Oper.wp execOp
    simp only [ho, resolve, invoke, builtin, Sem.run_bind, Sem.run_pure, Result.andThen_ok, List.map_toArray, List.map_cons, List.map_nil, hs, hx, hr]
    refine hK _ _ (h _ _ ⟨⟨by simp, .inr ⟨_, cap', _, by rw [List.length_append]; rfl, by simp; omega, heap_alloc_new _ _, by rw [List.length_append]; exact hge, hle, ?_, ?_⟩⟩⟩ ⟨rfl, rfl, rfl, by simp; omega, fun k hk _ => ?_⟩ (.inr ⟨_, rfl, by simp, fun k hk => ?_⟩))
    · simp [Builtin.zeroCells, Value.cells]; omega
    · rw [Nat.mul_one]
      have e : ((l.map byteV).toArray ++ [Value.int .u8 (y.toNat : Int)].toArray ++ Builtin.zeroCells (Value.int IntKind.u8 0).cells (cap' - (l.length + 1))).toList = (l ++ [y]).map byteV ++ (Builtin.zeroCells (Value.int IntKind.u8 0).cells (cap' - (l.length + 1))).toList := by
        simp [byteV]
      rw [e]
      exact List.take_left' (by simp)
    · exact (heap_alloc_old _ _ (by simp; omega)).trans (Below.heap_alloc wr _ k hk)
    · exact (heap_alloc_old _ _ (by simp; omega)).trans (Below.heap_alloc wr _ k hk)
end Go.Proofs.Ytofdpccjpodbhaa
