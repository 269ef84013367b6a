/-
  The statements' book of lists that came out: over, take. Conditions: the book lies in memory; the list that came out is the caller's own.
  A block of bytes of the call's own, known whole: reading, writing, copying. They speak of no program. No conditions.
  Appending onto rows of the call's own, with what is known of the row's block: the same, or a new one. They speak of no program. No conditions.
-/
import Derived.Test.YtbkimebmoafbnaaGbA
import Derived.Test.YtbkimebmoafbnaaSsQ
import Derived.Test.YtbkimebmoafbnaaMg01
import Derived.Laws.CopyOwn
import Derived.Deep.Draws
namespace Go.Proofs.Ytbkimebmoafbnaa
open Go.RowKit Go.Maps
set_option linter.unusedVariables false

theorem info_lists : (Try.prog.info? 56).map (fun i => (i.zero, i.size, i.bytes)) = some (some (.slice none 0 0), 1, 24) := by kernel_rfl

set_option maxRecDepth 20000 in
/-- a list that came out, written over by its owner -/
theorem over_any (w : World) (B n : Nat) (v : Value) (xs : List Value) (h : w.ownsRow B 59 3 v n xs) (hn : n ≤ 1073741824) (hB : B ≤ w.heap.size) :
    Calls Try.prog 68 #[v] w fun e w' => e = .returned (.tuple #[]) ∧ OnlyG [v] w w' := by
  obtain ⟨p, c, rfl, h1, h2, h3⟩ := ownsRow_form h
  unfold maxLen at h2
  have H := Lib.hid h
  have hi0 : (Try.prog.info? 59).map (·.size) = some 3 := by kernel_rfl
  have HI := Lib.hid hi0
  obtain ⟨i0, hi, hz0, hz1, hz2⟩ := info_parts info_pend
  clear h hi0
  go_enter Try.func68, Try.ntmps68
  go_wp2_with fail
  go_loopw [2] (fun v2 wr => ∃ (k : Nat) (ys : List Value), k ≤ n ∧ v2 = .int .i64 k ∧ OnlyG [.slice p n c] w wr ∧ wr.ownsRow B 59 3 (.slice p n c) n ys) (fun v2 _ => n - (intOf v2).toNat)
  case atStart => exact ⟨0, xs, Nat.zero_le _, rfl, OnlyG.refl _ _, H.out⟩
  case round =>
    obtain ⟨k, ys, hk, rfl, ho, hr⟩ := hrel
    have HO := Lib.hid (And.intro ho hr)
    have hbz := ho.size
    clear ho hr
    by_cases hkn : (k : Int) < n
    · obtain ⟨g, rfl, hgB, _⟩ := h3 (by omega)
      have hth := ownsRow_there HO.out.2 (k := k) (by omega)
      have HTH := Lib.hid hth
      clear hth
      go_wp2_with (refine wpList_store_mid rfl 59 (.tmp 12) (.tmp 11) rfl g (k * 3) #[.int .i64 (-7), .int .i64 (-8), .string ⟨#[111, 118, 101, 114]⟩] rfl rfl HTH.out HI.out (by simp [Value.oneCell']) ?_)
      go_roundw
      case rel => exact ⟨k + 1, _, by omega, by go_num, HO.out.1.grown (setCells_grown _ _ _ _) (fun j hj => .inr ⟨_, List.mem_singleton.2 rfl, hj⟩), ownsRow_set HO.out.2 (by omega) rfl⟩
      case measure => simp [intOf]; omega
    · go_wp2_with (first
        | (at_builtin; refine wpList_append_own _ rfl (.tmp 13) (.tmp 17) 56 rfl B 59 i0 _ 3 32 Try.underlying56 hi hz0 hz1 hz2 rfl (by decide) _ _ _ rfl (HO.out.2.alloc _) ⟨wr.heap.size, 0, none⟩ 3 3 [.int .i64 (-9), .int .i64 0, .string ⟨#[]⟩, .int .i64 (-9), .int .i64 0, .string ⟨#[]⟩, .int .i64 (-9), .int .i64 0, .string ⟨#[]⟩] rfl rfl (fun j u hj => cell_of_newrow hj) (by simp [Value.oneCell']) (by unfold maxLen; omega) (by omega) (by simp; omega) ?_; intro v' w9 hown9 hgrow9 hnil9))
      go_end0
      exact ⟨rfl, (HO.out.1.then_ ((Below.refl _ _).alloc (Nat.le_refl _) _)).grown hgrow9 (fun j hj => .inr ⟨_, List.mem_singleton.2 rfl, hj⟩)⟩

/-- the statements' book -/
structure BkIn (w : World) (B bp : Nat) (N : Int) (vl vw : Value) (vs us : List Value) (Ls : List (List Pnd)) : Prop where
  at_ : w.heap[bp]? = some (.cells #[.int .i64 N, vl, vw] 76 (0, 0))
  row : w.ownsRow B 56 1 vl vs.length vs
  roww : w.ownsRow B 56 1 vw us.length us
  lenv : vs.length = Ls.length
  lenu : us.length = Ls.length
  has : ∀ j, j < Ls.length → w.ownsRow B 59 3 (vs.getD j default) (Ls.getD j []).length (pndRow (Ls.getD j [])) ∧ w.ownsRow B 59 3 (us.getD j default) (Ls.getD j []).length (pndRow (Ls.getD j [])) ∧ (Ls.getD j []).length ≤ 1073741824
  dist : DistG vs
  dvw : ∀ j, vl.ownBlock = some j → vw.ownBlock ≠ some j
  le : B ≤ w.heap.size
  lt : B ≤ bp
  N0 : 0 ≤ N

def BkBlk (bp : Nat) (vl vw : Value) (vs us : List Value) (j : Nat) : Prop := j = bp ∨ vl.ownBlock = some j ∨ vw.ownBlock = some j ∨ (∃ v ∈ vs, v.ownBlock = some j) ∨ ∃ u ∈ us, u.ownBlock = some j

theorem getD_mem {α : Type} {l : List α} {j : Nat} {d : α} (h : j < l.length) : l.getD j d ∈ l := by
  rw [List.getD_eq_getElem?_getD, List.getElem?_eq_getElem h]; exact List.getElem_mem h
theorem mem_getD {α : Type} {l : List α} {x : α} (d : α) (h : x ∈ l) : ∃ j, j < l.length ∧ l.getD j d = x := by
  obtain ⟨j, hj, rfl⟩ := List.mem_iff_getElem.1 h
  exact ⟨j, hj, by rw [List.getD_eq_getElem?_getD, List.getElem?_eq_getElem hj]; rfl⟩
theorem getD_snoc_lt {α : Type} {l : List α} {x d : α} {j : Nat} (h : j < l.length) : (l ++ [x]).getD j d = l.getD j d := by
  rw [List.getD_eq_getElem?_getD, List.getElem?_append_left h, ← List.getD_eq_getElem?_getD]
theorem getD_snoc_eq {α : Type} {l : List α} {x d : α} {j : Nat} (h : j = l.length) : (l ++ [x]).getD j d = x := by
  subst h; simp

section
variable {w w' : World} {B bp : Nat} {N : Int} {vl vw : Value} {vs us : List Value} {Ls : List (List Pnd)}
theorem BkIn.keep (h : BkIn w B bp N vl vw vs us Ls) (hz : w.heap.size ≤ w'.heap.size) (e : ∀ j, BkBlk bp vl vw vs us j → w'.heap[j]? = w.heap[j]?) : BkIn w' B bp N vl vw vs us Ls :=
  ⟨(e bp (.inl rfl)).trans h.at_, ownsRow_keep h.row (fun j hj => e j (.inr (.inl hj))), ownsRow_keep h.roww (fun j hj => e j (.inr (.inr (.inl hj)))), h.lenv, h.lenu,
    fun j hj => ⟨ownsRow_keep (h.has j hj).1 (fun i hi => e i (.inr (.inr (.inr (.inl ⟨_, getD_mem (by rw [h.lenv]; exact hj), hi⟩))))), ownsRow_keep (h.has j hj).2.1 (fun i hi => e i (.inr (.inr (.inr (.inr ⟨_, getD_mem (by rw [h.lenu]; exact hj), hi⟩))))), (h.has j hj).2.2⟩,
    h.dist, h.dvw, Nat.le_trans h.le hz, h.lt, h.N0⟩
theorem BkIn.blt (h : BkIn w B bp N vl vw vs us Ls) : ∀ j, BkBlk bp vl vw vs us j → B ≤ j ∧ j < w.heap.size := by
  rintro j (rfl | hj | hj | ⟨v, hv, hj⟩ | ⟨u, hu, hj⟩)
  · exact ⟨h.lt, (Array.getElem?_eq_some_iff.1 h.at_).1⟩
  · exact h.row.lt j hj
  · exact h.roww.lt j hj
  · obtain ⟨i, hi, rfl⟩ := mem_getD default hv
    exact (h.has i (by rw [← h.lenv]; exact hi)).1.lt j hj
  · obtain ⟨i, hi, rfl⟩ := mem_getD default hu
    exact (h.has i (by rw [← h.lenu]; exact hi)).2.1.lt j hj
theorem BkIn.below (h : BkIn w B bp N vl vw vs us Ls) (hb : Below w.heap.size w w') : BkIn w' B bp N vl vw vs us Ls := h.keep hb.size (fun j hj => hb.block j (h.blt j hj).2)
theorem BkIn.cs (h : BkIn w B bp N vl vw vs us Ls) : w.cell? ⟨bp, 0, none⟩ = some (.int .i64 N) ∧ w.cell? ⟨bp, 1, none⟩ = some vl ∧ w.cell? ⟨bp, 2, none⟩ = some vw :=
  ⟨(cell_of_row _ _ 0 _ _ _ h.at_).trans rfl, (cell_of_row _ _ 1 _ _ _ h.at_).trans rfl, (cell_of_row _ _ 2 _ _ _ h.at_).trans rfl⟩
theorem BkIn.fz (h : BkIn w B bp N vl vw vs us Ls) (i : Nat) : w.frozen? ⟨bp, i, none⟩ = false := by simp [World.frozen?, h.at_]

/-- what a take turns: the book, and the list -/
structure BkMv (S : Nat → Prop) (w w' : World) : Prop where
  os : w'.os = w.os
  tape : w'.tape = w.tape
  output : w'.output = w.output
  size : w.heap.size ≤ w'.heap.size
  block : ∀ j, j < w.heap.size → ¬ S j → w'.heap[j]? = w.heap[j]?
end
end Go.Proofs.Ytbkimebmoafbnaa

namespace Go.Proofs.Ytbkimebmoafbnaa
open Go.RowKit
set_option linter.unusedVariables false

/-- block b holds just these bytes -/
structure Blk (w : World) (b T : Nat) (l : List UInt8) : Prop where
  blk : w.heap[b]? = some (.cells (l.map byteV).toArray T (0, 0))

theorem Blk.lt {w : World} {b T : Nat} {l : List UInt8} (h : Blk w b T l) : b < w.heap.size := (Array.getElem?_eq_some_iff.1 h.blk).1
theorem Blk.of_block {w w' : World} {b T : Nat} {l : List UInt8} (h : Blk w b T l) (e : w'.heap[b]? = w.heap[b]?) : Blk w' b T l := ⟨e.trans h.blk⟩
theorem Blk.below {w w' : World} {b T : Nat} {l : List UInt8} (h : Blk w b T l) (hb : Below w.heap.size w w') : Blk w' b T l := h.of_block (hb.block b h.lt)
theorem Blk.drewN {w : World} {b T : Nat} {l : List UInt8} (h : Blk w b T l) (m : Nat) : Blk (w.drewN m) b T l := ⟨h.blk⟩
theorem Blk.cell {w : World} {b T : Nat} {l : List UInt8} (h : Blk w b T l) (i : Nat) (hi : i < l.length) : w.cell? ⟨b, i, none⟩ = some (.int .u8 (l.getD i 0).toNat) := by
  simp only [World.cell?, h.blk, Option.isSome_none, Bool.false_eq_true, if_false]
  simp [byteV, List.getD_eq_getElem?_getD, hi]
theorem Blk.frozen {w : World} {b T : Nat} {l : List UInt8} (h : Blk w b T l) (i : Nat) : w.frozen? ⟨b, i, none⟩ = false := by
  simp [World.frozen?, h.blk]
theorem Blk.set {w : World} {b T : Nat} {l : List UInt8} (h : Blk w b T l) (i : Nat) (x : UInt8) : Blk (w.setCell ⟨b, i, none⟩ (.int .u8 (x.toNat : Int))) b T (l.set i x) := by
  refine ⟨?_⟩
  simp only [World.setCell, Array.getElem?_modify, h.blk, if_true, Option.map_some, Option.isSome_none, Bool.false_eq_true, if_false]
  congr 2
  simp [byteV]
theorem Blk.bytes {w : World} {b T : Nat} {l : List UInt8} (h : Blk w b T l) (off n c : Nat) (hn : off + n ≤ l.length) (hc : n ≤ c) (hm : c ≤ maxLen) :
    BytesIn w (some ⟨b, off, none⟩) n c ((l.drop off).take n) := by
  refine ⟨by rw [List.length_take, List.length_drop]; omega, hc, hm, fun _ => ⟨b, off, rfl, h.lt, fun i hi => ?_⟩⟩
  rw [h.cell (off + i) (by omega)]
  simp only [List.getD_eq_getElem?_getD, List.getElem?_take, if_pos hi, List.getElem?_drop]
theorem Blk.all {w : World} {b T : Nat} {l : List UInt8} (h : Blk w b T l) (n c : Nat) (hn : n = l.length) (hc : n ≤ c) (hm : c ≤ maxLen) : BytesIn w (some ⟨b, 0, none⟩) n c l := by
  have := h.bytes 0 n c (by omega) hc hm
  rwa [List.drop_zero, List.take_of_length_le (by omega)] at this
theorem Blk.made (w : World) (n T : Nat) : Blk (w.alloc (.cells (madeCells #[.int .u8 0] n) T)) w.heap.size T (List.replicate n 0) := by
  obtain ⟨c, h1, h2, h3⟩ := World.rowIs_made w (.int .u8 0) n T
  refine ⟨h1.trans ?_⟩
  congr 2
  apply Array.ext
  · simp [h2]
  · intro i hi1 hi2
    have := h3 i (by omega)
    rw [Array.getElem?_eq_getElem hi1] at this
    simp only [Option.some.injEq] at this
    rw [this]
    simp [byteV]
theorem Blk.of_cells {w : World} {b T : Nat} {l : List UInt8} {c : Array Value} (h : w.heap[b]? = some (.cells c T (0, 0))) (e : c = (l.map byteV).toArray) : Blk w b T l := ⟨by rw [h, e]⟩

/-- what copy leaves in the block -/
def copyL (cur src : List UInt8) (off dLen sLen : Nat) : List UInt8 := cur.take off ++ (src.take dLen ++ cur.drop (off + min sLen dLen))

/-- copy into such a block -/
theorem wpList_copy_bytes {P : Program} {w : World} {ops : Array Oper} {rest : List Oper} {o : Oper} {a : Act} {Q : Exit → Act → World → Prop} (hgd : o.guard = none) (d s : Operand) (dT : TypeId)
    (ho : o.op = .call { callee := .builtin .copy, args := #[d, s], argTypes := #[dT, dT] }) (T : TypeId) (hu : P.underlying dT = some (.slice T)) (hinfo : (P.info? T).map (fun i => (i.zero, i.size, i.bytes)) = some (some (.int .u8 0), 1, 1))
    (dp sp : Option Addr) (dLen dCap sLen sCap : Nat) (hd : a.eval d = .slice dp dLen dCap) (hs : a.eval s = .slice sp sLen sCap)
    (b off : Nat) (cur src : List UInt8) (hb : Blk w b T cur) (hsrc : BytesIn w sp sLen sCap src) (hdp : 0 < dLen → dp = some ⟨b, off, none⟩) (hfit : off + dLen ≤ cur.length)
    (h : ∀ w', Blk w' b T (copyL cur src off dLen sLen) → Below b w w' → w'.heap.size = w.heap.size → (∀ k, k ≠ b → w'.heap[k]? = w.heap[k]?) → wpList P ops Q rest (a.put o.dst (goInt ((min sLen dLen : Nat) : Int))) w') :
    wpList P ops Q (o :: rest) a w := by
  obtain ⟨i, hi, hzz⟩ := Option.map_eq_some_iff.1 hinfo
  simp only [Prod.mk.injEq] at hzz
  have hsz : (P.info? T).map (·.size) = some 1 := by rw [hi]; simp [hzz.2.1]
  have hln : ((src.take dLen).map byteV).length = Nat.min sLen dLen := by
    rw [List.length_map, List.length_take, hsrc.len, Nat.min_comm]
  by_cases h0 : Nat.min sLen dLen = 0
  · refine wpList_copy_nothing hgd d s dT dT ho T hu hsz dp sp dLen dCap sLen sCap hd hs h0 ?_
    have h0' : min sLen dLen = 0 := h0
    have := h w (by
      have e : src.take dLen = [] := List.eq_nil_of_length_eq_zero (by rw [List.length_take, hsrc.len, Nat.min_comm]; exact h0)
      unfold copyL
      rw [h0', e, Nat.add_zero, List.nil_append, List.take_append_drop]; exact hb) (Below.refl _ _) rfl (fun _ _ => rfl)
    rw [h0'] at this
    exact this
  · have hpos : 0 < sLen ∧ 0 < dLen := by
      have : min sLen dLen ≠ 0 := h0
      omega
    obtain ⟨sb, so, rfl, hsb, hcell⟩ := hsrc.at_ (by have := hsrc.le; omega)
    obtain rfl := hdp hpos.2
    refine wpList_copy_own hgd d s dT dT ho T hu hsz b off dLen dCap ⟨sb, so, none⟩ sLen sCap hd hs (cur.map byteV).toArray T hb.blk ((src.take dLen).map byteV) hln ?_ ?_ ?_ ?_
    · intro j v hj
      have hadd : (⟨sb, so, none⟩ : Addr).add j = ⟨sb, so + j, none⟩ := by unfold Addr.add; split <;> simp_all
      have hjl : j < ((src.take dLen).map byteV).length := (List.getElem?_eq_some_iff.1 hj).1
      rw [hln] at hjl
      have hjs : j < sLen := Nat.lt_of_lt_of_le hjl (Nat.min_le_left _ _)
      have hjd : j < dLen := Nat.lt_of_lt_of_le hjl (Nat.min_le_right _ _)
      rw [hadd, hcell j hjs]
      rw [List.getElem?_map, List.getElem?_take, if_pos hjd] at hj
      rw [List.getD_eq_getElem?_getD]
      have hjs' : j < src.length := by rw [hsrc.len]; exact hjs
      rw [List.getElem?_eq_getElem hjs'] at hj ⊢
      simpa [byteV] using hj
    · rw [hln]
      have : Nat.min sLen dLen ≤ dLen := Nat.min_le_right _ _
      simp only [List.size_toArray, List.length_map]; omega
    · intro v hv
      obtain ⟨x, _, rfl⟩ := List.mem_map.1 hv
      rfl
    · rw [hln]
      refine h _ ⟨(setRow_heap w b _ _ T _ hb.blk).trans ?_⟩ (below_setRow (Below.refl _ _) (Nat.le_refl _) _) (by simp [World.setRow]) (fun k hk => setRow_other w b k _ hk)
      congr 2
      unfold copyL
      simp only [List.map_append, List.map_take, List.map_drop]
end Go.Proofs.Ytbkimebmoafbnaa

namespace Go.Proofs.Ytbkimebmoafbnaa
open Go.RowKit
set_option linter.unusedVariables false

/-- the block of a row behind an append: the same, or a new one -/
def SameOrNew (w : World) (v v' : Value) : Prop := v'.ownBlock = v.ownBlock ∨ ∃ g, v'.ownBlock = some g ∧ w.heap.size ≤ g

theorem append_fresh {P : Program} {w w' : World} {base t ty e : Nat} {i : TypeInfo} {z v v' : Value} {bytes n : Nat} {xs : List Value} (ht : P.underlying t = some (.slice e)) (hi : P.info? e = some i) (hz : i.zero = some z)
    (hsize : i.size = 1) (hby : i.bytes = bytes) (hown : w.ownsRow base e 1 v n xs)
    (a : Addr) (c : Nat) (y : Value) (hy : w.cell? a = some y) (h1 : y.oneCell' = true) (h63 : n + 1 ≤ maxLen) (hbytes : (n + 1) * bytes ≤ 140737488355328)
    (hr : (Builtin.append_ #[t, t] ty #[v, .slice (some a) 1 c]).run P w = .ok v' w') : SameOrNew w v v' := by
  have hnews : ∀ j u, [y][j]? = some u → w.cell? (a.add j) = some u := by
    intro j u hj
    match j, hj with
    | 0, hj => simp at hj; subst hj; simpa [Addr.add] using hy
  have hl : [y].length = 1 * i.size := by rw [hsize]; rfl
  have hm : n + 1 ≤ 9223372036854775807 := by unfold maxLen at h63; omega
  rcases hown.2 with ⟨rfl, rfl⟩ | ⟨g, cap, cur, rfl, hbg, hg, hnc, hcm, hcs, htake⟩
  · have hq := run_append_nil (P := P) w t ty e i z ht hi hz a 1 c [y] hl hnews (by decide) (by decide) (by rw [hby]; omega)
    rw [hr] at hq
    simp only [Result.ok.injEq] at hq
    exact .inr ⟨w.heap.size, by rw [hq.1]; rfl, Nat.le_refl _⟩
  · by_cases hroom : n + 1 ≤ cap
    · have hq := run_append_room (P := P) w t ty e i ht hi g n cap cur hg a 1 c [y] hl hnews (by intro u hu; simp at hu; subst hu; exact h1) hroom (by rw [hsize, hcs]; simp; omega)
      rw [hr] at hq
      simp only [Result.ok.injEq] at hq
      exact .inl (by rw [hq.1]; rfl)
    · have holds : ∀ j u, xs[j]? = some u → w.cell? ((⟨g, 0, none⟩ : Addr).add j) = some u := hown.cells (g := g) rfl
      have hq := run_append_grow (P := P) w t ty e i z ht hi hz ⟨g, 0, none⟩ n cap xs (by rw [hsize]; exact hown.1) holds a 1 c [y] hl hnews (by omega) (by omega) (growslice_fits (by omega) (by rw [hby]; exact hbytes))
      rw [hr] at hq
      simp only [Result.ok.injEq] at hq
      exact .inr ⟨w.heap.size, by rw [hq.1]; rfl, Nat.le_refl _⟩

/-- 'append(s, y)', y in a place of memory -/
theorem wpList_append_new {P : Program} {w : World} {ops : Array Oper} {rest : List Oper} {o : Oper} {a : Act} {Q : Exit → Act → World → Prop} (hgd : o.guard = none)
    (s x : Operand) (t : TypeId) (ho : o.op = .call { callee := .builtin .append, args := #[s, x], argTypes := #[t, t] })
    (B e : Nat) (z : Value) (bytes : Nat) (ht : P.underlying t = some (.slice e)) (hinfo : (P.info? e).map (fun i => (i.zero, i.size, i.bytes)) = some (some z, 1, bytes)) (hz1 : z.cells.size = 1)
    (v : Value) (n : Nat) (xs : List Value) (y : Value) (hy : y.oneCell' = true) (ad : Addr) (c : Nat)
    (hs : a.eval s = v) (hx : a.eval x = .slice (some ad) 1 c) (hown : w.ownsRow B e 1 v n xs) (hcell : w.cell? ad = some y)
    (h63 : n + 1 ≤ maxLen) (hbytes : (n + 1) * bytes ≤ 140737488355328) (hbase : B ≤ w.heap.size)
    (h : ∀ v' w', w'.ownsRow B e 1 v' (n + 1) (xs ++ [y]) → w.grownBy w' v.ownBlock → Below B w w' → SameOrNew w v v' → wpList P ops Q rest (a.put o.dst v') w') :
    wpList P ops Q (o :: rest) a w := by
  obtain ⟨i, hi, hzz⟩ := Option.map_eq_some_iff.1 hinfo
  simp only [Prod.mk.injEq] at hzz
  obtain ⟨hz, hsz, hb⟩ := hzz
  refine wpList_plain hgd fun K hK => ?_
  have hnews : ∀ j u, [y][j]? = some u → w.cell? (ad.add j) = some u := by
    intro j u hj
    match j, hj with
    | 0, hj => simp at hj; subst hj; simpa [Addr.add] using hcell
  obtain ⟨v', w', hr, h2, h3, h4⟩ := run_append_own (P := P) w B t o.type e i z 1 bytes ht hi hz hsz hb hz1 (by decide) v n xs hown ad 1 c [y] rfl hnews
    (by intro u hu; simp at hu; subst hu; exact hy) h63 hbytes hbase
  have hf := append_fresh ht hi hz hsz hb hown ad c y hcell hy h63 hbytes hr
  unfold Oper.wp execOp
  simp only [ho, resolve, invoke, builtin, Sem.run_bind, Sem.run_pure, Result.andThen_ok, List.map_toArray, List.map_cons, List.map_nil, hs, hx, hr]
  exact hK _ _ (h v' w' h2 h3 ((Below.refl _ _).grown h3 hbase fun k hk => (hown.lt k hk).1) hf)

/-- .. y in the one-place block that the statement has just laid -/
theorem wpList_append_val {P : Program} {wr : World} {ops : Array Oper} {rest : List Oper} {o : Oper} {a : Act} {Q : Exit → Act → World → Prop} (hgd : o.guard = none)
    (s x : Operand) (t : TypeId) (ho : o.op = .call { callee := .builtin .append, args := #[s, x], argTypes := #[t, t] })
    (B e : Nat) (z : Value) (bytes : Nat) (ht : P.underlying t = some (.slice e)) (hinfo : (P.info? e).map (fun i => (i.zero, i.size, i.bytes)) = some (some z, 1, bytes)) (hz1 : z.cells.size = 1)
    (v : Value) (n : Nat) (xs : List Value) (y : Value) (hy : y.oneCell' = true)
    (hs : a.eval s = v) (hx : a.eval x = .slice (some ⟨wr.heap.size, 0, none⟩) 1 1) (hown : wr.ownsRow B e 1 v n xs)
    (h63 : n + 1 ≤ maxLen) (hbytes : (n + 1) * bytes ≤ 140737488355328) (hbase : B ≤ wr.heap.size)
    (h : ∀ v' w', w'.ownsRow B e 1 v' (n + 1) (xs ++ [y]) → wr.grownBy w' v.ownBlock → Below B wr w' → SameOrNew wr v v' → wpList P ops Q rest (a.put o.dst v') w') :
    wpList P ops Q (o :: rest) a (wr.alloc (.cells #[y] e)) := by
  refine wpList_append_new hgd s x t ho B e z bytes ht hinfo hz1 v n xs y hy ⟨wr.heap.size, 0, none⟩ 1 hs hx (hown.alloc _) ?_ h63 hbytes (by simp; omega) ?_
  · simp only [World.cell?, heap_alloc_new]; rfl
  · intro v' w' h1 h2 _ h4
    have hlt := hown.lt
    have hg : wr.grownBy w' v.ownBlock :=
      ⟨h2.os, h2.tape, h2.output, Nat.le_trans (by simp) h2.size, fun k hk hne => (h2.block k (by simp; omega) hne).trans (Below.heap_alloc wr _ k hk)⟩
    refine h v' w' h1 hg ((Below.refl _ _).grown hg hbase fun k hk => (hlt k hk).1) ?_
    rcases h4 with h4 | ⟨g, h4, h5⟩
    · exact .inl h4
    · exact .inr ⟨g, h4, by simp at h5; omega⟩
end Go.Proofs.Ytbkimebmoafbnaa
