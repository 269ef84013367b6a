/-
  A block of bytes of the call's own, known whole: reading, writing, copying. They speak of no program. No conditions.
  Appending onto rows of the call's own, with what is known of the row's block: the same, or a new one. They speak of no program. No conditions.
  The statements' book of lists that came out: what it is in memory. Plain lemmas. No conditions.
-/
import Derived.Test.YtakbgekamjpibaaDoorMg02
import Derived.Laws.CopyOwn
import Derived.Deep.Draws
import Derived.Test.YtakbgekamjpibaaDoorNa
import Derived.Test.YtakbgekamjpibaaDoorMg13
namespace Go.Proofs.YtakbgekamjpibaaDoor
open Go.RowKit
set_option linter.unusedVariables false

/-- block b holds just these bytes -/
structure Blk (w : World) (b T : Nat) (l : List UInt8) : Prop where
  blk : w.heap[b]? = some (.cells (l.map byteV).toArray T (0, 0))

theorem Blk.lt {w : World} {b T : Nat} {l : List UInt8} (h : Blk w b T l) : b < w.heap.size := (Array.getElem?_eq_some_iff.1 h.blk).1
theorem Blk.of_block {w w' : World} {b T : Nat} {l : List UInt8} (h : Blk w b T l) (e : w'.heap[b]? = w.heap[b]?) : Blk w' b T l := ⟨e.trans h.blk⟩
theorem Blk.below {w w' : World} {b T : Nat} {l : List UInt8} (h : Blk w b T l) (hb : Below w.heap.size w w') : Blk w' b T l := h.of_block (hb.block b h.lt)
theorem Blk.drewN {w : World} {b T : Nat} {l : List UInt8} (h : Blk w b T l) (m : Nat) : Blk (w.drewN m) b T l := ⟨h.blk⟩
theorem Blk.cell {w : World} {b T : Nat} {l : List UInt8} (h : Blk w b T l) (i : Nat) (hi : i < l.length) : w.cell? ⟨b, i, none⟩ = some (.int .u8 (l.getD i 0).toNat) := by
  simp only [World.cell?, h.blk, Option.isSome_none, Bool.false_eq_true, if_false]
  simp [byteV, List.getD_eq_getElem?_getD, hi]
theorem Blk.frozen {w : World} {b T : Nat} {l : List UInt8} (h : Blk w b T l) (i : Nat) : w.frozen? ⟨b, i, none⟩ = false := by
  simp [World.frozen?, h.blk]
theorem Blk.set {w : World} {b T : Nat} {l : List UInt8} (h : Blk w b T l) (i : Nat) (x : UInt8) : Blk (w.setCell ⟨b, i, none⟩ (.int .u8 (x.toNat : Int))) b T (l.set i x) := by
  refine ⟨?_⟩
  simp only [World.setCell, Array.getElem?_modify, h.blk, if_true, Option.map_some, Option.isSome_none, Bool.false_eq_true, if_false]
  congr 2
  simp [byteV]
theorem Blk.bytes {w : World} {b T : Nat} {l : List UInt8} (h : Blk w b T l) (off n c : Nat) (hn : off + n ≤ l.length) (hc : n ≤ c) (hm : c ≤ maxLen) :
    BytesIn w (some ⟨b, off, none⟩) n c ((l.drop off).take n) := by
  refine ⟨by rw [List.length_take, List.length_drop]; omega, hc, hm, fun _ => ⟨b, off, rfl, h.lt, fun i hi => ?_⟩⟩
  rw [h.cell (off + i) (by omega)]
  simp only [List.getD_eq_getElem?_getD, List.getElem?_take, if_pos hi, List.getElem?_drop]
theorem Blk.all {w : World} {b T : Nat} {l : List UInt8} (h : Blk w b T l) (n c : Nat) (hn : n = l.length) (hc : n ≤ c) (hm : c ≤ maxLen) : BytesIn w (some ⟨b, 0, none⟩) n c l := by
  have := h.bytes 0 n c (by omega) hc hm
  rwa [List.drop_zero, List.take_of_length_le (by omega)] at this
theorem Blk.made (w : World) (n T : Nat) : Blk (w.alloc (.cells (madeCells #[.int .u8 0] n) T)) w.heap.size T (List.replicate n 0) := by
  obtain ⟨c, h1, h2, h3⟩ := World.rowIs_made w (.int .u8 0) n T
  refine ⟨h1.trans ?_⟩
  congr 2
  apply Array.ext
  · simp [h2]
  · intro i hi1 hi2
    have := h3 i (by omega)
    rw [Array.getElem?_eq_getElem hi1] at this
    simp only [Option.some.injEq] at this
    rw [this]
    simp [byteV]
theorem Blk.of_cells {w : World} {b T : Nat} {l : List UInt8} {c : Array Value} (h : w.heap[b]? = some (.cells c T (0, 0))) (e : c = (l.map byteV).toArray) : Blk w b T l := ⟨by rw [h, e]⟩

/-- what copy leaves in the block -/
def copyL (cur src : List UInt8) (off dLen sLen : Nat) : List UInt8 := cur.take off ++ (src.take dLen ++ cur.drop (off + min sLen dLen))

/-- copy into such a block -/
theorem wpList_copy_bytes {P : Program} {w : World} {ops : Array Oper} {rest : List Oper} {o : Oper} {a : Act} {Q : Exit → Act → World → Prop} (hgd : o.guard = none) (d s : Operand) (dT : TypeId)
    (ho : o.op = .call { callee := .builtin .copy, args := #[d, s], argTypes := #[dT, dT] }) (T : TypeId) (hu : P.underlying dT = some (.slice T)) (hinfo : (P.info? T).map (fun i => (i.zero, i.size, i.bytes)) = some (some (.int .u8 0), 1, 1))
    (dp sp : Option Addr) (dLen dCap sLen sCap : Nat) (hd : a.eval d = .slice dp dLen dCap) (hs : a.eval s = .slice sp sLen sCap)
    (b off : Nat) (cur src : List UInt8) (hb : Blk w b T cur) (hsrc : BytesIn w sp sLen sCap src) (hdp : 0 < dLen → dp = some ⟨b, off, none⟩) (hfit : off + dLen ≤ cur.length)
    (h : ∀ w', Blk w' b T (copyL cur src off dLen sLen) → Below b w w' → w'.heap.size = w.heap.size → (∀ k, k ≠ b → w'.heap[k]? = w.heap[k]?) → wpList P ops Q rest (a.put o.dst (goInt ((min sLen dLen : Nat) : Int))) w') :
    wpList P ops Q (o :: rest) a w := by
  obtain ⟨i, hi, hzz⟩ := Option.map_eq_some_iff.1 hinfo
  simp only [Prod.mk.injEq] at hzz
  have hsz : (P.info? T).map (·.size) = some 1 := by rw [hi]; simp [hzz.2.1]
  have hln : ((src.take dLen).map byteV).length = Nat.min sLen dLen := by
    rw [List.length_map, List.length_take, hsrc.len, Nat.min_comm]
  by_cases h0 : Nat.min sLen dLen = 0
  · refine wpList_copy_nothing hgd d s dT dT ho T hu hsz dp sp dLen dCap sLen sCap hd hs h0 ?_
    have h0' : min sLen dLen = 0 := h0
    have := h w (by
      have e : src.take dLen = [] := List.eq_nil_of_length_eq_zero (by rw [List.length_take, hsrc.len, Nat.min_comm]; exact h0)
      unfold copyL
      rw [h0', e, Nat.add_zero, List.nil_append, List.take_append_drop]; exact hb) (Below.refl _ _) rfl (fun _ _ => rfl)
    rw [h0'] at this
    exact this
  · have hpos : 0 < sLen ∧ 0 < dLen := by
      have : min sLen dLen ≠ 0 := h0
      omega
    obtain ⟨sb, so, rfl, hsb, hcell⟩ := hsrc.at_ (by have := hsrc.le; omega)
    obtain rfl := hdp hpos.2
    refine wpList_copy_own hgd d s dT dT ho T hu hsz b off dLen dCap ⟨sb, so, none⟩ sLen sCap hd hs (cur.map byteV).toArray T hb.blk ((src.take dLen).map byteV) hln ?_ ?_ ?_ ?_
    · intro j v hj
      have hadd : (⟨sb, so, none⟩ : Addr).add j = ⟨sb, so + j, none⟩ := by unfold Addr.add; split <;> simp_all
      have hjl : j < ((src.take dLen).map byteV).length := (List.getElem?_eq_some_iff.1 hj).1
      rw [hln] at hjl
      have hjs : j < sLen := Nat.lt_of_lt_of_le hjl (Nat.min_le_left _ _)
      have hjd : j < dLen := Nat.lt_of_lt_of_le hjl (Nat.min_le_right _ _)
      rw [hadd, hcell j hjs]
      rw [List.getElem?_map, List.getElem?_take, if_pos hjd] at hj
      rw [List.getD_eq_getElem?_getD]
      have hjs' : j < src.length := by rw [hsrc.len]; exact hjs
      rw [List.getElem?_eq_getElem hjs'] at hj ⊢
      simpa [byteV] using hj
    · rw [hln]
      have : Nat.min sLen dLen ≤ dLen := Nat.min_le_right _ _
      simp only [List.size_toArray, List.length_map]; omega
    · intro v hv
      obtain ⟨x, _, rfl⟩ := List.mem_map.1 hv
      rfl
    · rw [hln]
      refine h _ ⟨(setRow_heap w b _ _ T _ hb.blk).trans ?_⟩ (below_setRow (Below.refl _ _) (Nat.le_refl _) _) (by simp [World.setRow]) (fun k hk => setRow_other w b k _ hk)
      congr 2
      unfold copyL
      simp only [List.map_append, List.map_take, List.map_drop]
end Go.Proofs.YtakbgekamjpibaaDoor

namespace Go.Proofs.YtakbgekamjpibaaDoor
open Go.RowKit
set_option linter.unusedVariables false

/-- the block of a row behind an append: the same, or a new one -/
def SameOrNew (w : World) (v v' : Value) : Prop := v'.ownBlock = v.ownBlock ∨ ∃ g, v'.ownBlock = some g ∧ w.heap.size ≤ g

theorem append_fresh {P : Program} {w w' : World} {base t ty e : Nat} {i : TypeInfo} {z v v' : Value} {bytes n : Nat} {xs : List Value} (ht : P.underlying t = some (.slice e)) (hi : P.info? e = some i) (hz : i.zero = some z)
    (hsize : i.size = 1) (hby : i.bytes = bytes) (hown : w.ownsRow base e 1 v n xs)
    (a : Addr) (c : Nat) (y : Value) (hy : w.cell? a = some y) (h1 : y.oneCell' = true) (h63 : n + 1 ≤ maxLen) (hbytes : (n + 1) * bytes ≤ 140737488355328)
    (hr : (Builtin.append_ #[t, t] ty #[v, .slice (some a) 1 c]).run P w = .ok v' w') : SameOrNew w v v' := by
  have hnews : ∀ j u, [y][j]? = some u → w.cell? (a.add j) = some u := by
    intro j u hj
    match j, hj with
    | 0, hj => simp at hj; subst hj; simpa [Addr.add] using hy
  have hl : [y].length = 1 * i.size := by rw [hsize]; rfl
  have hm : n + 1 ≤ 9223372036854775807 := by unfold maxLen at h63; omega
  rcases hown.2 with ⟨rfl, rfl⟩ | ⟨g, cap, cur, rfl, hbg, hg, hnc, hcm, hcs, htake⟩
  · have hq := run_append_nil (P := P) w t ty e i z ht hi hz a 1 c [y] hl hnews (by decide) (by decide) (by rw [hby]; omega)
    rw [hr] at hq
    simp only [Result.ok.injEq] at hq
    exact .inr ⟨w.heap.size, by rw [hq.1]; rfl, Nat.le_refl _⟩
  · by_cases hroom : n + 1 ≤ cap
    · have hq := run_append_room (P := P) w t ty e i ht hi g n cap cur hg a 1 c [y] hl hnews (by intro u hu; simp at hu; subst hu; exact h1) hroom (by rw [hsize, hcs]; simp; omega)
      rw [hr] at hq
      simp only [Result.ok.injEq] at hq
      exact .inl (by rw [hq.1]; rfl)
    · have holds : ∀ j u, xs[j]? = some u → w.cell? ((⟨g, 0, none⟩ : Addr).add j) = some u := hown.cells (g := g) rfl
      have hq := run_append_grow (P := P) w t ty e i z ht hi hz ⟨g, 0, none⟩ n cap xs (by rw [hsize]; exact hown.1) holds a 1 c [y] hl hnews (by omega) (by omega) (growslice_fits (by omega) (by rw [hby]; exact hbytes))
      rw [hr] at hq
      simp only [Result.ok.injEq] at hq
      exact .inr ⟨w.heap.size, by rw [hq.1]; rfl, Nat.le_refl _⟩

/-- 'append(s, y)', y in a place of memory -/
theorem wpList_append_new {P : Program} {w : World} {ops : Array Oper} {rest : List Oper} {o : Oper} {a : Act} {Q : Exit → Act → World → Prop} (hgd : o.guard = none)
    (s x : Operand) (t : TypeId) (ho : o.op = .call { callee := .builtin .append, args := #[s, x], argTypes := #[t, t] })
    (B e : Nat) (z : Value) (bytes : Nat) (ht : P.underlying t = some (.slice e)) (hinfo : (P.info? e).map (fun i => (i.zero, i.size, i.bytes)) = some (some z, 1, bytes)) (hz1 : z.cells.size = 1)
    (v : Value) (n : Nat) (xs : List Value) (y : Value) (hy : y.oneCell' = true) (ad : Addr) (c : Nat)
    (hs : a.eval s = v) (hx : a.eval x = .slice (some ad) 1 c) (hown : w.ownsRow B e 1 v n xs) (hcell : w.cell? ad = some y)
    (h63 : n + 1 ≤ maxLen) (hbytes : (n + 1) * bytes ≤ 140737488355328) (hbase : B ≤ w.heap.size)
    (h : ∀ v' w', w'.ownsRow B e 1 v' (n + 1) (xs ++ [y]) → w.grownBy w' v.ownBlock → Below B w w' → SameOrNew w v v' → wpList P ops Q rest (a.put o.dst v') w') :
    wpList P ops Q (o :: rest) a w := by
  obtain ⟨i, hi, hzz⟩ := Option.map_eq_some_iff.1 hinfo
  simp only [Prod.mk.injEq] at hzz
  obtain ⟨hz, hsz, hb⟩ := hzz
  refine wpList_plain hgd fun K hK => ?_
  have hnews : ∀ j u, [y][j]? = some u → w.cell? (ad.add j) = some u := by
    intro j u hj
    match j, hj with
    | 0, hj => simp at hj; subst hj; simpa [Addr.add] using hcell
  obtain ⟨v', w', hr, h2, h3, h4⟩ := run_append_own (P := P) w B t o.type e i z 1 bytes ht hi hz hsz hb hz1 (by decide) v n xs hown ad 1 c [y] rfl hnews
    (by intro u hu; simp at hu; subst hu; exact hy) h63 hbytes hbase
  have hf := append_fresh ht hi hz hsz hb hown ad c y hcell hy h63 hbytes hr
  unfold Oper.wp execOp
  simp only [ho, resolve, invoke, builtin, Sem.run_bind, Sem.run_pure, Result.andThen_ok, List.map_toArray, List.map_cons, List.map_nil, hs, hx, hr]
  exact hK _ _ (h v' w' h2 h3 ((Below.refl _ _).grown h3 hbase fun k hk => (hown.lt k hk).1) hf)

/-- .. y in the one-place block that the statement has just laid -/
theorem wpList_append_val {P : Program} {wr : World} {ops : Array Oper} {rest : List Oper} {o : Oper} {a : Act} {Q : Exit → Act → World → Prop} (hgd : o.guard = none)
    (s x : Operand) (t : TypeId) (ho : o.op = .call { callee := .builtin .append, args := #[s, x], argTypes := #[t, t] })
    (B e : Nat) (z : Value) (bytes : Nat) (ht : P.underlying t = some (.slice e)) (hinfo : (P.info? e).map (fun i => (i.zero, i.size, i.bytes)) = some (some z, 1, bytes)) (hz1 : z.cells.size = 1)
    (v : Value) (n : Nat) (xs : List Value) (y : Value) (hy : y.oneCell' = true)
    (hs : a.eval s = v) (hx : a.eval x = .slice (some ⟨wr.heap.size, 0, none⟩) 1 1) (hown : wr.ownsRow B e 1 v n xs)
    (h63 : n + 1 ≤ maxLen) (hbytes : (n + 1) * bytes ≤ 140737488355328) (hbase : B ≤ wr.heap.size)
    (h : ∀ v' w', w'.ownsRow B e 1 v' (n + 1) (xs ++ [y]) → wr.grownBy w' v.ownBlock → Below B wr w' → SameOrNew wr v v' → wpList P ops Q rest (a.put o.dst v') w') :
    wpList P ops Q (o :: rest) a (wr.alloc (.cells #[y] e)) := by
  refine wpList_append_new hgd s x t ho B e z bytes ht hinfo hz1 v n xs y hy ⟨wr.heap.size, 0, none⟩ 1 hs hx (hown.alloc _) ?_ h63 hbytes (by simp; omega) ?_
  · simp only [World.cell?, heap_alloc_new]; rfl
  · intro v' w' h1 h2 _ h4
    have hlt := hown.lt
    have hg : wr.grownBy w' v.ownBlock :=
      ⟨h2.os, h2.tape, h2.output, Nat.le_trans (by simp) h2.size, fun k hk hne => (h2.block k (by simp; omega) hne).trans (Below.heap_alloc wr _ k hk)⟩
    refine h v' w' h1 hg ((Below.refl _ _).grown hg hbase fun k hk => (hlt k hk).1) ?_
    rcases h4 with h4 | ⟨g, h4, h5⟩
    · exact .inl h4
    · exact .inr ⟨g, h4, by simp at h5; omega⟩
end Go.Proofs.YtakbgekamjpibaaDoor

namespace Go.Proofs.YtakbgekamjpibaaDoor
open Go.RowKit Go.Maps
set_option linter.unusedVariables false

theorem set_offV {w : World} {b i j : Nat} {v : Value} (h : b ≠ j) : (w.setCell ⟨b, i, none⟩ v).heap[j]? = w.heap[j]? := set_farV (fun e => h e.symm)
theorem row_slice {W : World} {B T k n : Nat} {v : Value} {xs : List Value} (h : W.ownsRow B T k v n xs) : ∃ p c, v = .slice p n c := by
  rcases h.2 with ⟨rfl, rfl⟩ | ⟨g, cap, cur, rfl, _⟩
  · exact ⟨none, 0, rfl⟩
  · exact ⟨_, _, rfl⟩
theorem info_listsV : (Tryd.prog.info? 23).map (fun i => (i.zero, i.size, i.bytes)) = some (some (.slice none 0 0), 1, 24) := by kernel_rfl
theorem getD_mem {α : Type} {l : List α} {j : Nat} {d : α} (h : j < l.length) : l.getD j d ∈ l := by
  rw [List.getD_eq_getElem?_getD, List.getElem?_eq_getElem h]; exact List.getElem_mem h
theorem mem_getD {α : Type} {l : List α} {x : α} (d : α) (h : x ∈ l) : ∃ j, j < l.length ∧ l.getD j d = x := by
  obtain ⟨j, hj, rfl⟩ := List.mem_iff_getElem.1 h
  exact ⟨j, hj, by rw [List.getD_eq_getElem?_getD, List.getElem?_eq_getElem hj]; rfl⟩
theorem getD_snoc_lt {α : Type} {l : List α} {x d : α} {j : Nat} (h : j < l.length) : (l ++ [x]).getD j d = l.getD j d := by
  rw [List.getD_eq_getElem?_getD, List.getElem?_append_left h, ← List.getD_eq_getElem?_getD]
theorem getD_snoc_eq {α : Type} {l : List α} {x d : α} {j : Nat} (h : j = l.length) : (l ++ [x]).getD j d = x := by
  subst h; simp

/-- a block of values -/
def IsVal (w : World) (g : Nat) : Prop := ∃ cs fr, w.heap[g]? = some (.cells cs 25 fr)
theorem ownsRow_isVal {w : World} {B n : Nat} {v : Value} {xs : List Value} (h : w.ownsRow B 25 5 v n xs) {g : Nat} (hg : v.ownBlock = some g) : IsVal w g := by
  rcases h.2 with ⟨rfl, _⟩ | ⟨b, cap, cur, rfl, _, hb, _⟩
  · cases hg
  · simp only [Value.ownBlock, Option.some.injEq] at hg
    subst hg
    exact ⟨_, _, hb⟩
theorem VO.isVal {w : World} {B : Nat} {v : V} {s : Value} {F : Nat → Prop} (h : VO w B v s F) : ∀ g, F g → IsVal w g := by
  induction h with
  | mk v s F ss Fs wf hrow hin hd hs hF ih =>
    intro g hg
    rcases (hF g).1 hg with q | ⟨i, hi, q⟩
    · exact ownsRow_isVal hrow q
    · exact ih i hi g q

/-- a block of the book: its own, or its list of lists -/
def IsBk (w : World) (g : Nat) : Prop := (∃ cs fr, w.heap[g]? = some (.cells cs 42 fr)) ∨ ∃ cs fr, w.heap[g]? = some (.cells cs 23 fr)
theorem IsBk.of {w w' : World} {g : Nat} (h : IsBk w g) (e : w'.heap[g]? = w.heap[g]?) : IsBk w' g := by
  rcases h with ⟨a, b, h⟩ | ⟨a, b, h⟩
  · exact .inl ⟨a, b, e.trans h⟩
  · exact .inr ⟨a, b, e.trans h⟩
theorem IsVal.lt {w : World} {g : Nat} (h : IsVal w g) : g < w.heap.size := by obtain ⟨_, _, h⟩ := h; exact (Array.getElem?_eq_some_iff.1 h).1
theorem IsVal.of {w w' : World} {g : Nat} (h : IsVal w g) (e : w'.heap[g]? = w.heap[g]?) : IsVal w' g := by obtain ⟨a, b, h⟩ := h; exact ⟨a, b, e.trans h⟩
theorem IsVal.notBk {w : World} {g : Nat} (h : IsVal w g) : ¬ IsBk w g := by
  obtain ⟨a, b, h⟩ := h
  rintro (⟨c, d, q⟩ | ⟨c, d, q⟩)
  · rw [h] at q; simp at q
  · rw [h] at q; simp at q
/-- all is kept but the book's own blocks (of other types than values') and what is new -/
structure BkMv (w w' : World) : Prop where
  os : w'.os = w.os
  tape : w'.tape = w.tape
  output : w'.output = w.output
  size : w.heap.size ≤ w'.heap.size
  oth : ∀ g, g < w.heap.size → ¬ IsBk w g → w'.heap[g]? = w.heap[g]?
theorem BkMv.val {w w' : World} (h : BkMv w w') : ∀ g, IsVal w g → w'.heap[g]? = w.heap[g]? := fun g hg => h.oth g hg.lt hg.notBk
theorem BkMv.refl (w : World) : BkMv w w := ⟨rfl, rfl, rfl, Nat.le_refl _, fun _ _ _ => rfl⟩
theorem BkMv.trans {w w1 w2 : World} (h : BkMv w w1) (k : BkMv w1 w2) : BkMv w w2 :=
  ⟨k.os.trans h.os, k.tape.trans h.tape, k.output.trans h.output, Nat.le_trans h.size k.size, fun g hg hn => (k.oth g (Nat.lt_of_lt_of_le hg h.size) (fun q => hn (q.of (h.oth g hg hn).symm))).trans (h.oth g hg hn)⟩
theorem BkMv.of_below {w w' : World} (h : Below w.heap.size w w') : BkMv w w' := ⟨h.os, h.tape, h.output, h.size, fun g hg _ => h.block g hg⟩
theorem BkMv.own {w w' : World} (h : BkMv w w') {B n : Nat} {v : Value} {xs : List Value} (hv : w.ownsRow B 25 5 v n xs) : w'.ownsRow B 25 5 v n xs :=
  ownsRow_keep hv (fun j hj => h.val j (ownsRow_isVal hv hj))
theorem VL.isVal {w : World} {B : Nat} {v : V} {s : Value} {F : Nat → Prop} (h : VL w B v s F) : ∀ g, F g → IsVal w g := by
  induction h with
  | mk v b F c ss Fs wf hc hrow h1 h2 hin hd hs hF ih =>
    intro g hg
    rcases (hF g).1 hg with rfl | ⟨i, hi, q⟩
    · exact ownsRow_isVal hrow rfl
    · exact ih i hi g q
theorem BkMv.vl {w w' : World} (h : BkMv w w') {B : Nat} {v : V} {s : Value} {F : Nat → Prop} (hv : VL w B v s F) : VL w' B v s F := hv.keep (fun b hb => h.val b (hv.isVal b hb))
theorem BkMv.vo {w w' : World} (h : BkMv w w') {B : Nat} {v : V} {s : Value} {F : Nat → Prop} (hv : VO w B v s F) : VO w' B v s F := hv.keep (fun b hb => h.val b (hv.isVal b hb))

/-- the book: its lists vs; Q: where they lie -/
structure BkIn (w : World) (B bp : Nat) (vl : Value) (vs : List Value) (Q : Nat → Prop) : Prop where
  at_ : w.heap[bp]? = some (.cells #[vl] 42 (0, 0))
  row : w.ownsRow B 23 1 vl vs.length vs
  has : ∀ j, j < vs.length → ∃ n xs, w.ownsRow B 25 5 (vs.getD j default) n xs ∧ n ≤ 1000000
  blk : ∀ j, j < vs.length → ∀ g, (vs.getD j default).ownBlock = some g → Q g
  dist : DistG vs
  lt : B ≤ bp
  le : B ≤ w.heap.size
section
variable {w w' wr : World} {B bp : Nat} {vl vl' : Value} {vs : List Value} {Q : Nat → Prop}
theorem BkIn.offl (h : BkIn w B bp vl vs Q) : vl.ownBlock ≠ some bp := ownsRow_off h.row h.at_ (by decide)
theorem BkIn.below (h : BkIn w B bp vl vs Q) (hb : Below w.heap.size w w') : BkIn w' B bp vl vs Q :=
  ⟨(hb.block bp (Array.getElem?_eq_some_iff.1 h.at_).1).trans h.at_, ownsRow_keep h.row (fun j hj => hb.block j (h.row.lt j hj).2), fun j hj => by obtain ⟨n, xs, h1, h2⟩ := h.has j hj; exact ⟨n, xs, ownsRow_keep h1 (fun i hi => hb.block i (h1.lt i hi).2), h2⟩, h.blk, h.dist, h.lt, Nat.le_trans h.le hb.size⟩
theorem BkIn.wide {Q' : Nat → Prop} (h : BkIn w B bp vl vs Q) (hq : ∀ g, Q g → Q' g) : BkIn w B bp vl vs Q' := ⟨h.at_, h.row, h.has, fun j hj g hg => hq g (h.blk j hj g hg), h.dist, h.lt, h.le⟩
/-- some blocks of values are written over, none of the book's -/
theorem BkIn.keepF {F : Nat → Prop} (h : BkIn w B bp vl vs Q) (hk : KeepF F w w') (hF : ∀ g, F g → IsVal w g) (hd : ∀ g, Q g → ¬ F g) : BkIn w' B bp vl vs Q := by
  have off : ∀ {g T : Nat} {cs : Array Value} {fr : Nat × Nat}, w.heap[g]? = some (.cells cs T fr) → T ≠ 25 → ¬ F g := fun {g T cs fr} hg hT hf => by
    obtain ⟨c2, f2, h2⟩ := hF g hf
    rw [hg] at h2
    simp only [Option.some.injEq, Obj.cells.injEq] at h2
    exact hT h2.2.1
  refine ⟨(hk.block bp (Array.getElem?_eq_some_iff.1 h.at_).1 (off h.at_ (by decide))).trans h.at_, ownsRow_keep h.row (fun j hj => hk.block j (h.row.lt j hj).2 (fun hf => ?_)), fun j hj => by obtain ⟨n, xs, h1, h2⟩ := h.has j hj; exact ⟨n, xs, ownsRow_keep h1 (fun i hi => hk.block i (h1.lt i hi).2 (hd i (h.blk j hj i hi))), h2⟩, h.blk, h.dist, h.lt, Nat.le_trans h.le hk.size⟩
  rcases h.row.2 with ⟨rfl, _⟩ | ⟨b, cap, cur, rfl, _, hb, _⟩
  · cases hj
  · simp only [Value.ownBlock, Option.some.injEq] at hj
    subst hj
    exact off hb (by decide) hf
/-- what the lists' owner writes -/
theorem BkIn.keepQ (h : BkIn w B bp vl vs Q) (ho : OnlyG vs w w') : KeepF Q w w' := ⟨ho.os, ho.tape, ho.output, ho.size, fun k hk hn => ho.block k hk (fun v hv q => by
  obtain ⟨j, hj, rfl⟩ := mem_getD default hv
  exact hn (h.blk j hj k q))⟩
theorem BkIn.start {w : World} {B : Nat} (hB : B ≤ w.heap.size) : BkIn (w.alloc (.cells #[.slice none 0 0] 42)) B w.heap.size (.slice none 0 0) [] (fun _ => False) :=
  ⟨_root_.Go.heap_alloc_new _ _, World.ownsRow_nil _ _ _ _, fun j hj => absurd hj (Nat.not_lt_zero _), fun j hj => absurd hj (Nat.not_lt_zero _), fun i j hi => absurd hi (Nat.not_lt_zero _), hB, by simp; omega⟩
/-- a list is put into the book -/
theorem BkIn.push {v : Value} {n : Nat} {xs : List Value} (h : BkIn wr B bp vl vs Q) (hv : wr.ownsRow B 25 5 v n xs) (hn : n ≤ 1000000) (hdis : ∀ g, v.ownBlock = some g → ¬ Q g)
    (hr : w'.ownsRow B 23 1 vl' (vs.length + 1) (vs ++ [v])) (hg : wr.grownBy w' vl.ownBlock) (hs : SameOrNew wr vl vl') :
    BkIn (w'.setCell ⟨bp, 0, none⟩ vl') B bp vl' (vs ++ [v]) (fun g => Q g ∨ v.ownBlock = some g) ∧ BkMv wr (w'.setCell ⟨bp, 0, none⟩ vl') ∧ Below B wr (w'.setCell ⟨bp, 0, none⟩ vl') := by
  have hbp : w'.heap[bp]? = _ := (hg.block bp (Array.getElem?_eq_some_iff.1 h.at_).1 (fun e => h.offl e.symm)).trans h.at_
  have hnew : ∀ j, vl'.ownBlock = some j → vl.ownBlock = some j ∨ wr.heap.size ≤ j := fun j hj => by
    rcases hs with q | ⟨g, q, q2⟩
    · exact .inl (by rw [← q, hj])
    · rw [hj] at q; cases q; exact .inr q2
  have hbl : bp < wr.heap.size := (Array.getElem?_eq_some_iff.1 h.at_).1
  have hmv : BkMv wr (w'.setCell ⟨bp, 0, none⟩ vl') := by
    refine ⟨hg.os, hg.tape, hg.output, by have := hg.size; simp [World.setCell]; omega, fun g hgl hnb => ?_⟩
    have h1 : bp ≠ g := fun e => by subst e; exact hnb (.inl ⟨_, _, h.at_⟩)
    have h2 : some g ≠ vl.ownBlock := fun e => by
      rcases h.row.2 with ⟨q, _⟩ | ⟨b, cap, cur, q, _, hb, _⟩
      · rw [q] at e; cases e
      · rw [q] at e
        simp only [Value.ownBlock, Option.some.injEq] at e
        subst e
        exact hnb (.inr ⟨_, _, hb⟩)
    rw [set_offV h1]
    exact hg.block g hgl h2
  refine ⟨⟨?_, ?_, fun j hj => ?_, fun j hj g hgj => ?_, fun i j hi hj hij => ?_, h.lt, ?_⟩, hmv, ((Below.refl B wr).grown hg h.le (fun k hk => (h.row.lt k hk).1)).setCell (p := ⟨bp, 0, none⟩) h.lt _⟩
  · rw [heap_setCell_same _ bp 0 _ _ _ hbp]
    rfl
  · rw [List.length_append, List.length_singleton]
    refine ownsRow_keep hr (fun j hj => set_offV (fun e => ?_))
    subst e
    rcases hnew _ hj with q | q
    · exact h.offl q
    · omega
  · by_cases hjl : j < vs.length
    · rw [getD_snoc_lt hjl]
      obtain ⟨m, ys, h1, h2⟩ := h.has j hjl
      exact ⟨m, ys, hmv.own h1, h2⟩
    · rw [getD_snoc_eq (by simp at hj; omega)]
      exact ⟨n, xs, hmv.own hv, hn⟩
  · by_cases hjl : j < vs.length
    · rw [getD_snoc_lt hjl] at hgj
      exact .inl (h.blk j hjl g hgj)
    · rw [getD_snoc_eq (by simp at hj; omega)] at hgj
      exact .inr hgj
  · rw [List.length_append, List.length_singleton] at hi hj
    by_cases hiv : i < vs.length
    · rw [getD_snoc_lt hiv]
      by_cases hjv : j < vs.length
      · rw [getD_snoc_lt hjv]; exact h.dist i j hiv hjv hij
      · rw [getD_snoc_eq (show j = vs.length by omega)]
        cases hb : (vs.getD i default).ownBlock with
        | none => exact .inl rfl
        | some b => exact .inr (fun q => hdis b q.symm (h.blk i hiv b hb))
    · rw [getD_snoc_eq (show i = vs.length by omega), getD_snoc_lt (show j < vs.length by omega)]
      cases hb : v.ownBlock with
      | none => exact .inl rfl
      | some b => exact .inr (fun q => hdis b hb (h.blk j (by omega) b q.symm))
  · have := hg.size
    have := h.le
    simp [World.setCell]
    omega
end
end Go.Proofs.YtakbgekamjpibaaDoor
