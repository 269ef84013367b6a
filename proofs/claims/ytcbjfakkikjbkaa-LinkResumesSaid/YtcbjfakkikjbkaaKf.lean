/-
  A link: by its parts, and as it lies in memory. Plain lemmas. No conditions.
-/
import Derived.Test.YtcbjfakkikjbkaaKa
import Derived.Test.YtcbjfakkikjbkaaKe
namespace Go.Proofs.Ytcbjfakkikjbkaa
open Go.RowKit Go.Maps
set_option linter.all false

def Word (n : Int) : Prop := 0 ≤ n ∧ n ≤ 4294967295
theorem Word.i64 {n : Int} (h : Word n) : IsI64 n := by unfold IsI64; have := h.1; have := h.2; omega
theorem addS_word (a n : Int) : Word (addS a n) := by have := addS_bd a n; exact ⟨this.1, by omega⟩

/-- what both sides say of a delivery -/
structure Ent where
  own : St
  peer : St
  o : Sl
  p : Sl
instance : Inhabited Ent := ⟨⟨zS, zS, default, default⟩⟩
def Ent.val (e : Ent) : Value := .agg (sarr e.own e.o ++ sarr e.peer e.p)
def zE : Ent := ⟨zS, zS, default, default⟩

/-- a link -/
structure Lk where
  name : ByteArray
  rc : Bool
  snd : Int
  rcv : Int
  ini : Int
  mx : Int
  count : Int
  credit : Int
  bound : Int
  wait : Int
  drain : Bool
  all : List (ByteArray × Ent)

def Lk.cells (l : Lk) (m : Nat) : Array Value := #[.string l.name, .bool l.rc, .int .i64 l.snd, .int .i64 l.rcv, .int .i64 l.ini, .int .i64 l.mx, .int .i64 l.count, .int .i64 l.credit, .int .i64 l.bound, .int .i64 l.wait, .bool l.drain, .map (some m)]
def ents (a : List (ByteArray × Ent)) : List (ByteArray × Value) := a.map fun p => (p.1, p.2.val)
def tagsL (a : List (ByteArray × Ent)) : List ByteArray := a.map Prod.fst
theorem keys_ents (a : List (ByteArray × Ent)) : keysL (ents a) = tagsL a := by simp [keysL, ents, tagsL]
theorem ents_len (a : List (ByteArray × Ent)) : (ents a).length = a.length := by simp [ents]
theorem mem_ents {a : List (ByteArray × Ent)} {k : ByteArray} {v : Value} (h : (k, v) ∈ ents a) : ∃ e, (k, e) ∈ a ∧ v = e.val := by
  obtain ⟨p, hp, e⟩ := List.mem_map.1 h
  simp only [Prod.mk.injEq] at e
  obtain ⟨rfl, rfl⟩ := e
  exact ⟨p.2, hp, rfl⟩
theorem mem_tags {a : List (ByteArray × Ent)} {k : ByteArray} {e : Ent} (h : (k, e) ∈ a) : k ∈ tagsL a := List.mem_map.2 ⟨_, h, rfl⟩

structure Ent.Ok (e : Ent) : Prop where
  of : e.own.Fine
  pf : e.peer.Fine
  ow : e.own.w ≤ 1000000
  pw : e.peer.w ≤ 1000000
theorem zE_ok : zE.Ok := ⟨zS_fine, zS_fine, by decide, by decide⟩

structure Lk.Ok (l : Lk) : Prop where
  name : l.name.size ≤ maxLen
  snd : 0 ≤ l.snd ∧ l.snd ≤ 2
  rcv : 0 ≤ l.rcv ∧ l.rcv ≤ 1
  ini : Word l.ini
  mx : IsI64 l.mx
  count : Word l.count
  credit : 0 ≤ l.credit ∧ l.credit ≤ 2147483647
  bound : Word l.bound
  wait : Word l.wait
  ent : ∀ p ∈ l.all, p.2.Ok

/-- a link in memory: its block, its map's, what its states stand on -/
structure LkIn (w : World) (q m : Nat) (G : Nat → Prop) (l : Lk) : Prop where
  row : w.heap[q]? = some (.cells (l.cells m) 76 (0, 0))
  map : MapOf w m (ents l.all)
  sts : ∀ p ∈ l.all, SI w G p.2.own p.2.o ∧ SI w G p.2.peer p.2.p
  gq : ¬ G q
  gm : ¬ G m
  gl : ∀ b, G b → b < w.heap.size
  ok : l.Ok

/-- a move of a link -/
structure LMv (q m : Nat) (w w' : World) : Prop where
  os : w'.os = w.os
  tape : w'.tape = w.tape
  output : w'.output = w.output
  size : w.heap.size ≤ w'.heap.size
  block : ∀ j, j < w.heap.size → j ≠ q → j ≠ m → w'.heap[j]? = w.heap[j]?

section
variable {w w' w1 w2 : World} {q m : Nat} {G : Nat → Prop} {l l' : Lk}

theorem LMv.refl (q m : Nat) (w : World) : LMv q m w w := ⟨rfl, rfl, rfl, Nat.le_refl _, fun _ _ _ _ => rfl⟩
theorem LMv.trans (h : LMv q m w w1) (k : LMv q m w1 w2) : LMv q m w w2 :=
  ⟨k.os.trans h.os, k.tape.trans h.tape, k.output.trans h.output, Nat.le_trans h.size k.size, fun j hj hn hm => (k.block j (Nat.lt_of_lt_of_le hj h.size) hn hm).trans (h.block j hj hn hm)⟩
theorem LMv.of_below (h : Below w.heap.size w w') : LMv q m w w' := ⟨h.os, h.tape, h.output, h.size, fun j hj _ _ => h.block j hj⟩
theorem LMv.of_grown (h : w.grownBy w' (some m)) : LMv q m w w' := ⟨h.os, h.tape, h.output, h.size, fun j hj _ hn => h.block j hj (fun e => hn (by cases e; rfl))⟩
theorem LMv.below {n : Nat} (h : LMv q m w w') (hq : n ≤ q) (hm : n ≤ m) (hn : n ≤ w.heap.size) : Below n w w' := ⟨h.os, h.tape, h.output, h.size, fun j hj => h.block j (Nat.lt_of_lt_of_le hj hn) (by omega) (by omega)⟩
theorem LMv.set (i : Nat) (v : Value) : LMv q m w (w.setCell ⟨q, i, none⟩ v) := ⟨rfl, rfl, rfl, by simp, fun j hj hn _ => set_farV hn⟩
theorem LMv.cell {i : Nat} {v : Value} (h : LMv q m w w') : LMv q m w (w'.setCell ⟨q, i, none⟩ v) := h.trans (LMv.set i v)

theorem LkIn.lq (h : LkIn w q m G l) : q < w.heap.size := (Array.getElem?_eq_some_iff.1 h.row).1
theorem LkIn.lm (h : LkIn w q m G l) : m < w.heap.size := h.map.lt
theorem LkIn.ne (h : LkIn w q m G l) : q ≠ m := by
  rintro rfl
  obtain ⟨es, c, e⟩ := h.map.obj
  rw [h.row] at e
  cases e
theorem LkIn.keep (h : LkIn w q m G l) (eq : w'.heap[q]? = w.heap[q]?) (em : w'.heap[m]? = w.heap[m]?) (e : ∀ b, G b → w'.heap[b]? = w.heap[b]?) (hz : w.heap.size ≤ w'.heap.size) : LkIn w' q m G l :=
  ⟨eq.trans h.row, h.map.same em, fun p hp => ⟨(h.sts p hp).1.keep e, (h.sts p hp).2.keep e⟩, h.gq, h.gm, fun b hb => Nat.lt_of_lt_of_le (h.gl b hb) hz, h.ok⟩
theorem LkIn.blw (h : LkIn w q m G l) (hb : Below w.heap.size w w') : LkIn w' q m G l := h.keep (hb.block q h.lq) (hb.block m h.lm) (fun b q => hb.block b (h.gl b q)) hb.size
theorem LkIn.cs (h : LkIn w q m G l) (i : Nat) (v : Value) (e : (l.cells m)[i]? = some v) : w.cell? ⟨q, i, none⟩ = some v := (cell_of_row _ _ i _ _ _ h.row).trans e
theorem LkIn.fz (h : LkIn w q m G l) (i : Nat) : w.frozen? ⟨q, i, none⟩ = false := by simp [World.frozen?, h.row]
/-- the link's own cells turn -/
theorem LkIn.turn (h : LkIn w q m G l) (hr : w'.heap[q]? = some (.cells (l'.cells m) 76 (0, 0))) (ha : l'.all = l.all) (hok : l'.Ok) (hw : LMv q m w w') (hm : w'.heap[m]? = w.heap[m]?) : LkIn w' q m G l' :=
  ⟨hr, by rw [ha]; exact h.map.same hm, fun p hp => by
    have e : ∀ b, G b → w'.heap[b]? = w.heap[b]? := fun b hb => hw.block b (h.gl b hb) (fun q => h.gq (q ▸ hb)) (fun q => h.gm (q ▸ hb))
    rw [ha] at hp
    exact ⟨(h.sts p hp).1.keep e, (h.sts p hp).2.keep e⟩, h.gq, h.gm, fun b hb => Nat.lt_of_lt_of_le (h.gl b hb) hw.size, hok⟩
/-- the link's map turns -/
theorem LkIn.turnM (h : LkIn w q m G l) {a : List (ByteArray × Ent)} (hm : MapOf w' m (ents a)) (hg : w.grownBy w' (some m)) (ha : ∀ p ∈ a, SI w G p.2.own p.2.o ∧ SI w G p.2.peer p.2.p) (hok : ∀ p ∈ a, p.2.Ok) : LkIn w' q m G { l with all := a } := by
  have e : ∀ b, G b → w'.heap[b]? = w.heap[b]? := fun b hb => hg.block b (h.gl b hb) (fun q => h.gm (by cases q; exact hb))
  have o := h.ok
  exact ⟨(hg.block q h.lq (fun e => h.ne (by cases e; rfl))).trans h.row, hm, fun p hp => ⟨(ha p hp).1.keep e, (ha p hp).2.keep e⟩, h.gq, h.gm, fun b hb => Nat.lt_of_lt_of_le (h.gl b hb) hg.size, ⟨o.name, o.snd, o.rcv, o.ini, o.mx, o.count, o.credit, o.bound, o.wait, hok⟩⟩
/-- it may stand on more -/
theorem LkIn.wide (h : LkIn w q m G l) {G' : Nat → Prop} (e : ∀ b, G b → G' b) (hq : ¬ G' q) (hm : ¬ G' m) (hl : ∀ b, G' b → b < w.heap.size) : LkIn w q m G' l :=
  ⟨h.row, h.map, fun p hp => ⟨(h.sts p hp).1.wide e, (h.sts p hp).2.wide e⟩, hq, hm, hl, h.ok⟩
end

/-- what a link is behind a delivery more or less -/
def Lk.goes (l : Lk) (n : Int) : Lk := { l with count := addS l.count n, credit := max 0 (l.credit - n), drain := if l.rc = true ∧ max 0 (l.credit - n) = 0 then false else l.drain }
def Lk.counts (l : Lk) (tag : ByteArray) (settled : Bool) : Lk × Int :=
  if tag.size = 0 ∨ 32 < tag.size then (l, 122)
  else if (if l.rc then l.count = l.bound else l.credit = 0) then (l, 140)
  else if tag ∈ tagsL l.all then (l, 142)
  else if (settled = true ∧ l.snd = 0) ∨ (settled = false ∧ l.snd = 1) then (l, 141)
  else ({ l.goes 1 with wait := max 0 (l.wait - 1), all := if settled then l.all else l.all ++ [(tag, zE)] }, 0)
/-- the first element at a key, or none -/
def entAt (a : List (ByteArray × Ent)) (tag : ByteArray) : Ent := ((a.find? fun p => decide (p.1 = tag)).map Prod.snd).getD zE
def entSet (a : List (ByteArray × Ent)) (tag : ByteArray) (e : Ent) : List (ByteArray × Ent) := a.map fun p => if p.1 = tag then (tag, e) else p
theorem ents_set (a : List (ByteArray × Ent)) (tag : ByteArray) (e : Ent) : ents (entSet a tag e) = (ents a).map fun p => if p.1 = tag then (tag, e.val) else p := by
  simp only [ents, entSet, List.map_map]
  refine List.map_congr_left (fun p _ => ?_)
  simp only [Function.comp]
  split <;> rfl
theorem tags_set (a : List (ByteArray × Ent)) (tag : ByteArray) (e : Ent) : tagsL (entSet a tag e) = tagsL a := by
  simp only [tagsL, entSet, List.map_map]
  refine List.map_congr_left (fun p _ => ?_)
  simp only [Function.comp]
  split <;> simp_all
theorem ents_del (a : List (ByteArray × Ent)) (tag : ByteArray) : ents (a.filter fun p => decide (p.1 ≠ tag)) = (ents a).filter fun p => decide (p.1 ≠ tag) := by
  simp only [ents, List.filter_map]
  rfl
theorem ents_put (a : List (ByteArray × Ent)) (tag : ByteArray) (e : Ent) : ents (a ++ [(tag, e)]) = ents a ++ [(tag, e.val)] := by simp [ents]
theorem entAt_mem {a : List (ByteArray × Ent)} {tag : ByteArray} (h : tag ∈ tagsL a) : (tag, entAt a tag) ∈ a := by
  obtain ⟨p, hp, rfl⟩ := List.mem_map.1 h
  unfold entAt
  cases hf : a.find? (fun x => decide (x.1 = p.1)) with
  | none => have := List.find?_eq_none.1 hf p hp; simp at this
  | some x =>
    have h1 := List.mem_of_find?_eq_some hf
    have h2 := List.find?_some hf
    simp only [decide_eq_true_eq] at h2
    simp only [Option.map_some, Option.getD_some]
    rw [← h2]
    exact h1
theorem entAt_none {a : List (ByteArray × Ent)} {tag : ByteArray} (h : tag ∉ tagsL a) : entAt a tag = zE := by
  unfold entAt
  rw [List.find?_eq_none.2 (fun p hp => by simp only [decide_eq_true_eq]; exact fun e => h (List.mem_map.2 ⟨p, hp, e⟩))]
  rfl
theorem ent_unique {a : List (ByteArray × Ent)} (nd : (tagsL a).Nodup) {k : ByteArray} {e f : Ent} (he : (k, e) ∈ a) (hf : (k, f) ∈ a) : e = f := by
  induction a with
  | nil => cases he
  | cons p r ih =>
    simp only [tagsL, List.map_cons, List.nodup_cons] at nd
    rcases List.mem_cons.1 he with he1 | he1 <;> rcases List.mem_cons.1 hf with hf1 | hf1
    · rw [← he1] at hf1; cases hf1; rfl
    · exact absurd (mem_tags hf1) (by rw [← he1] at nd; exact nd.1)
    · exact absurd (mem_tags he1) (by rw [← hf1] at nd; exact nd.1)
    · exact ih nd.2 he1 hf1
end Go.Proofs.Ytcbjfakkikjbkaa
