/-
  Lemmas on the codec. Conditions: as each says.
-/
import Derived.Test.YtnnnfhobbnjmfaaGreatDoorEn22
import Derived.Test.YtnnnfhobbnjmfaaGreatDoorEn06
import Derived.Test.YtnnnfhobbnjmfaaGreatDoorEn07
import Derived.Deep.AppendLies
import Derived.Handy
import Derived.Laws.BytesArg
import Derived.Deep.DeepCutAuto
import Derived.Deep.QuietTactic
import Derived.BigQuiet
import Derived.OwnWalk
import Derived.StillTailTactics
import Derived.Deep.RegionLaw
import Derived.Lib.SlBytesConst
import Derived.Laws.IdiomCopy
import Derived.Lib.AppendStr
import Derived.Lib.ConvBytes
import Derived.Lib.SmallJoins
import Derived.Laws.EntriesVeiled
import Derived.Laws.StructEq
import Derived.Deep.OwnRows
import Derived.Orders
import Derived.OrdersIn
import Derived.OrdersHeld
import Derived.Deep.RegionHeld
import Derived.RangeFuncCalls
import Derived.Laws.Rows
import Derived.Laws.Tables
import Derived.Sort.CutIn
namespace Go.Proofs.YtnnnfhobbnjmfaaGreatDoor
open Go.RowKit Go.Lib
set_option linter.all false
def Grew (w w' : World) (v v' : Value) : Prop :=
  (∃ g n cap, v = .slice (some ⟨g, 0, none⟩) n cap ∧ v' = .slice (some ⟨g, 0, none⟩) (n + 1) cap) ∨ (∃ g, v'.ownBlock = some g ∧ w.heap.size ≤ g ∧ ∀ k, k < w.heap.size → w'.heap[k]? = w.heap[k]?)

theorem append_grew {P : Program} {w w' : World} {base t ty e : Nat} {i : TypeInfo} {z v v' : Value} {bytes n : Nat} {xs : List Value} (ht : P.underlying t = some (.slice e)) (hi : P.info? e = some i) (hz : i.zero = some z)
    (hsize : i.size = 1) (hby : i.bytes = bytes) (hown : w.ownsRow base e 1 v n xs)
    (a : Addr) (c : Nat) (y : Value) (hy : w.cell? a = some y) (h1 : y.oneCell' = true) (h63 : n + 1 ≤ maxLen) (hbytes : (n + 1) * bytes ≤ 140737488355328)
    (hr : (Builtin.append_ #[t, t] ty #[v, .slice (some a) 1 c]).run P w = .ok v' w') : Grew w w' v v' := by
  have hnews : ∀ j u, [y][j]? = some u → w.cell? (a.add j) = some u := by
    intro j u hj
    match j, hj with
    | 0, hj => simp at hj; subst hj; simpa [Addr.add] using hy
  have hl : [y].length = 1 * i.size := by rw [hsize]; rfl
  have hm : n + 1 ≤ 9223372036854775807 := by unfold maxLen at h63; omega
  rcases hown.2 with ⟨rfl, rfl⟩ | ⟨g, cap, cur, rfl, hbg, hg, hnc, hcm, hcs, htake⟩
  · have hq := run_append_nil (P := P) w t ty e i z ht hi hz a 1 c [y] hl hnews (by decide) (by decide) (by rw [hby]; omega)
    rw [hr] at hq
    simp only [Result.ok.injEq] at hq
    refine .inr ⟨w.heap.size, by rw [hq.1]; rfl, Nat.le_refl _, fun k hk => ?_⟩
    rw [hq.2]; exact Below.heap_alloc w.drew _ k hk
  · by_cases hroom : n + 1 ≤ cap
    · have hq := run_append_room (P := P) w t ty e i ht hi g n cap cur hg a 1 c [y] hl hnews (by intro u hu; simp at hu; subst hu; exact h1) hroom (by rw [hsize, hcs]; simp; omega)
      rw [hr] at hq
      simp only [Result.ok.injEq] at hq
      exact .inl ⟨g, n, cap, rfl, by rw [hq.1]⟩
    · have holds : ∀ j u, xs[j]? = some u → w.cell? ((⟨g, 0, none⟩ : Addr).add j) = some u := hown.cells (g := g) rfl
      have hq := run_append_grow (P := P) w t ty e i z ht hi hz ⟨g, 0, none⟩ n cap xs (by rw [hsize]; exact hown.1) holds a 1 c [y] hl hnews (by omega) (by omega) (growslice_fits (by omega) (by rw [hby]; exact hbytes))
      rw [hr] at hq
      simp only [Result.ok.injEq] at hq
      refine .inr ⟨w.heap.size, by rw [hq.1]; rfl, Nat.le_refl _, fun k hk => ?_⟩
      rw [hq.2]; exact Below.heap_alloc w.drew _ k hk

theorem wpList_append_grew {P : Program} {wr : World} {ops : Array Oper} {rest : List Oper} {o : Oper} {a : Act} {Q : Exit → Act → World → Prop} (hgd : o.guard = none)
    (s x : Operand) (t : TypeId) (ho : o.op = .call { callee := .builtin .append, args := #[s, x], argTypes := #[t, t] })
    (B e : Nat) (ht : P.underlying t = some (.slice e)) (hinfo : (P.info? e).map (fun i => (i.zero, i.size, i.bytes)) = some (some (.int .u8 0), 1, 1))
    (v : Value) (l : List UInt8) (y : UInt8)
    (hs : a.eval s = v) (hx : a.eval x = .slice (some ⟨wr.heap.size, 0, none⟩) 1 1) (hown : OwnBytes wr B e v l)
    (hlen : l.length + 1 ≤ 140737488355328) (hbase : B ≤ wr.heap.size)
    (h : ∀ v' w', OwnBytes w' B e v' (l ++ [y]) → wr.grownBy w' v.ownBlock → Grew wr w' v v' → wpList P ops Q rest (a.put o.dst v') w') :
    wpList P ops Q (o :: rest) a (wr.alloc (.cells #[.int .u8 (y.toNat : Int)] e)) := by
  obtain ⟨i, hi, hzz⟩ := Option.map_eq_some_iff.1 hinfo
  simp only [Prod.mk.injEq] at hzz
  obtain ⟨hz, hsz, hb⟩ := hzz
  have hcell : (wr.alloc (.cells #[.int .u8 (y.toNat : Int)] e)).cell? ⟨wr.heap.size, 0, none⟩ = some (.int .u8 (y.toNat : Int)) := by simp only [World.cell?, heap_alloc_new]; rfl
  have hnews : ∀ j u, [Value.int .u8 (y.toNat : Int)][j]? = some u → (wr.alloc (.cells #[.int .u8 (y.toNat : Int)] e)).cell? ((⟨wr.heap.size, 0, none⟩ : Addr).add j) = some u := by
    intro j u hj
    match j, hj with
    | 0, hj => simp at hj; subst hj; simp [Addr.add]
  have hl2 : l.length + 1 ≤ maxLen := by unfold maxLen; omega
  refine wpList_plain hgd fun K hK => ?_
  obtain ⟨v', w', hr, h2, h3, h4⟩ := run_append_own (P := P) (wr.alloc (.cells #[.int .u8 (y.toNat : Int)] e)) B t o.type e i (.int .u8 0) 1 1 ht hi hz hsz hb rfl (by decide) v l.length (l.map byteV) (hown.row.alloc _) ⟨wr.heap.size, 0, none⟩ 1 1 [.int .u8 (y.toNat : Int)] rfl hnews
    (by intro u hu; simp at hu; subst hu; rfl) hl2 (by omega) (by simp; omega)
  have hf := append_grew ht hi hz hsz hb (hown.row.alloc (.cells #[.int .u8 (y.toNat : Int)] e)) ⟨wr.heap.size, 0, none⟩ 1 (.int .u8 (y.toNat : Int)) hcell rfl hl2 (by omega) hr
  have hg : wr.grownBy w' v.ownBlock :=
    ⟨h3.os, h3.tape, h3.output, Nat.le_trans (by simp) h3.size, fun k hk hne => (h3.block k (by simp; omega) hne).trans (Below.heap_alloc wr _ k hk)⟩
  have hf' : Grew wr w' v v' := by
    rcases hf with hf | ⟨g, hf1, hf2, hf3⟩
    · exact .inl hf
    · exact .inr ⟨g, hf1, by simp at hf2; omega, fun k hk => (hf3 k (by simp; omega)).trans (Below.heap_alloc wr _ k hk)⟩
  unfold Oper.wp execOp
  simp only [ho, resolve, invoke, builtin, Sem.run_bind, Sem.run_pure, Result.andThen_ok, List.map_toArray, List.map_cons, List.map_nil, hs, hx, hr]
  exact hK _ _ (h v' w' ⟨by rw [List.length_append, List.length_singleton, List.map_append]; exact h2⟩ hg hf')

theorem wpList_append_grew' {P : Program} {wr : World} {ops : Array Oper} {rest : List Oper} {o : Oper} {a : Act} {Q : Exit → Act → World → Prop} (hgd : o.guard = none)
    (s x : Operand) (t : TypeId) (ho : o.op = .call { callee := .builtin .append, args := #[s, x], argTypes := #[t, t] })
    (B e : Nat) (ht : P.underlying t = some (.slice e)) (hinfo : (P.info? e).map (fun i => (i.zero, i.size, i.bytes)) = some (some (.int .u8 0), 1, 1))
    (v : Value) (l : List UInt8) (y : UInt8) (yv : Value)
    (hs : a.eval s = v) (hx : a.eval x = .slice (some ⟨wr.heap.size, 0, none⟩) 1 1) (hyv : yv = .int .u8 (y.toNat : Int)) (hown : OwnBytes wr B e v l)
    (hlen : l.length + 1 ≤ 140737488355328) (hbase : B ≤ wr.heap.size)
    (h : ∀ v' w', OwnBytes w' B e v' (l ++ [y]) → wr.grownBy w' v.ownBlock → Grew wr w' v v' → wpList P ops Q rest (a.put o.dst v') w') :
    wpList P ops Q (o :: rest) a (wr.alloc (.cells #[yv] e)) := by
  subst hyv
  exact wpList_append_grew hgd s x t ho B e ht hinfo v l y hs hx hown hlen hbase h

theorem OwnBytes.grew {w w' : World} {B T : Nat} {v v' u : Value} {l lu : List UInt8} {y : UInt8} (ho : OwnBytes w B T v l) (ho' : OwnBytes w' B T v' (l ++ [y])) (hg : w.grownBy w' v.ownBlock) (hf : Grew w w' v v')
    (hu : OwnBytes w B T u lu) (hne : u.ownBlock = none ∨ u.ownBlock ≠ v.ownBlock ∨ lu <+: l) : OwnBytes w' B T u lu := by
  rcases hne with h | h | h
  · exact hu.kept hg (.inl h)
  · exact hu.kept hg (.inr h)
  · by_cases hb : u.ownBlock = v.ownBlock
    · obtain ⟨h1, h2⟩ := hu.row
      refine ⟨h1, ?_⟩
      rcases h2 with h2 | ⟨g, cap, cur, e, hgB, hh, hn, hm, hs, htk⟩
      · exact .inl h2
      · refine .inr ?_
        subst e
        rcases hf with ⟨g', n, cap', e1, e2⟩ | ⟨g', _, _, hk⟩
        · subst e1 e2
          simp only [Value.ownBlock, Option.some.injEq] at hb
          subst hb
          have r := ho.row.2
          rcases r with ⟨r, _⟩ | ⟨g2, cap2, cur2, r1, r2, r3, r4, r5, r6, r7⟩
          · simp at r
          simp only [Value.slice.injEq, Option.some.injEq, Addr.mk.injEq] at r1
          obtain ⟨⟨rfl, _⟩, rfl, rfl⟩ := r1
          have hcc : cur2 = cur := by
            rw [r3] at hh
            simp only [Option.some.injEq, Obj.cells.injEq] at hh
            exact hh.1
          have r' := ho'.row.2
          rcases r' with ⟨q, _⟩ | ⟨g3, cap3, cur3, q1, q2, q3, q4, q5, q6, q7⟩
          · simp at q
          simp only [Value.slice.injEq, Option.some.injEq, Addr.mk.injEq] at q1
          obtain ⟨⟨rfl, _⟩, q8, rfl⟩ := q1
          have hcap : cap = cap' := by rw [hcc] at r6; omega
          refine ⟨g, cap, cur3, rfl, hgB, q3, hn, hm, by omega, ?_⟩
          have hle := h.length_le
          rw [Nat.mul_one] at q7 ⊢
          have : (cur3.toList.take (l ++ [y]).length).take lu.length = ((l ++ [y]).map byteV).take lu.length := by rw [q7]
          rw [List.take_take, Nat.min_eq_left (by simp; omega)] at this
          rw [this, ← List.map_take, List.take_append_of_le_length hle]
          obtain ⟨tl, rfl⟩ := h
          rw [List.take_left' rfl]
        · exact ⟨g, cap, cur, rfl, hgB, by rw [hk g (Array.getElem?_eq_some_iff.1 hh).1]; exact hh, hn, hm, hs, htk⟩
    · exact hu.kept hg (.inr hb)

def markL (i n : Nat) : List UInt8 := (List.range n).map fun j => UInt8.ofNat (i + j / 251)
theorem markL_length (i n : Nat) : (markL i n).length = n := by simp [markL]
theorem markL_snoc (i n : Nat) : markL i (n + 1) = markL i n ++ [UInt8.ofNat (i + n / 251)] := by simp [markL, List.range_succ]
theorem markL_prefix (i : Nat) {m n : Nat} (h : m ≤ n) : markL i m <+: markL i n := by
  refine ⟨(markL i n).drop m, ?_⟩
  have : markL i m = (markL i n).take m := by
    unfold markL
    rw [← List.map_take, List.take_range, Nat.min_eq_left h]
  rw [this, List.take_append_drop]
theorem markL_getD (i n j : Nat) (h : j < n) : (markL i n).getD j 0 = UInt8.ofNat (i + j / 251) := by
  simp [markL, List.getD_eq_getElem?_getD, h]

def Kept (w : World) (B T : Nat) (F : List (Value × Nat × Nat)) : Prop := ∀ u ∈ F, OwnBytes w B T u.1 (markL u.2.1 u.2.2)
def AptTo (F : List (Value × Nat × Nat)) (v : Value) (i n : Nat) : Prop := ∀ u ∈ F, u.1.ownBlock = none ∨ u.1.ownBlock ≠ v.ownBlock ∨ (u.2.1 = i ∧ u.2.2 ≤ n)

theorem Kept.lt {w : World} {B T : Nat} {F : List (Value × Nat × Nat)} (h : Kept w B T F) {u : Value × Nat × Nat} (hu : u ∈ F) {g : Nat} (hg : u.1.ownBlock = some g) : g < w.heap.size := ((h u hu).row.lt g hg).2

theorem Kept.step {w w' : World} {B T i n : Nat} {v v' : Value} {y : UInt8} {F : List (Value × Nat × Nat)} (h : Kept w B T F) (ha : AptTo F v i n) (ho : OwnBytes w B T v (markL i n)) (ho' : OwnBytes w' B T v' (markL i n ++ [y]))
    (hg : w.grownBy w' v.ownBlock) (hf : Grew w w' v v') : Kept w' B T F ∧ AptTo F v' i (n + 1) := by
  refine ⟨fun u hu => ho.grew ho' hg hf (h u hu) ?_, fun u hu => ?_⟩
  · rcases ha u hu with h1 | h1 | ⟨h1, h2⟩
    · exact .inl h1
    · exact .inr (.inl h1)
    · exact .inr (.inr (by rw [h1]; exact markL_prefix i h2))
  · rcases hf with ⟨g, m, cap, e1, e2⟩ | ⟨g, e1, e2, _⟩
    · rcases ha u hu with h1 | h1 | ⟨h1, h2⟩
      · exact .inl h1
      · refine .inr (.inl ?_)
        rw [e2]; rw [e1] at h1; exact h1
      · exact .inr (.inr ⟨h1, by omega⟩)
    · refine .inr (.inl (fun he => ?_))
      have := h.lt hu (g := g) (by rw [he, e1])
      omega
theorem apart_of_type {w : World} {B B' T T' n : Nat} {u v : Value} {l : List UInt8} {xs : List Value} (hu : OwnBytes w B T u l) (hv : w.ownsRow B' T' 1 v n xs) (hT : T ≠ T') : u.ownBlock = none ∨ u.ownBlock ≠ v.ownBlock := by
  rcases hu.row.2 with ⟨rfl, _⟩ | ⟨g, cap, cur, rfl, _, hh, _⟩
  · exact .inl rfl
  · refine .inr (fun he => ?_)
    rcases hv.2 with ⟨rfl, _⟩ | ⟨g', cap', cur', rfl, _, hh', _⟩
    · simp [Value.ownBlock] at he
    · simp only [Value.ownBlock, Option.some.injEq] at he
      subst he
      rw [hh] at hh'
      simp only [Option.some.injEq, Obj.cells.injEq] at hh'
      exact hT hh'.2.1
theorem apart_of_cells {w : World} {B T T' b : Nat} {u : Value} {l : List UInt8} {cs : Array Value} {fr : Nat × Nat} (hu : OwnBytes w B T u l) (hv : w.heap[b]? = some (.cells cs T' fr)) (hT : T ≠ T') : u.ownBlock ≠ some b := by
  rcases hu.row.2 with ⟨rfl, _⟩ | ⟨g, cap, cur, rfl, _, hh, _⟩
  · simp [Value.ownBlock]
  · intro he
    simp only [Value.ownBlock, Option.some.injEq] at he
    subst he
    rw [hh] at hv
    simp only [Option.some.injEq, Obj.cells.injEq] at hv
    exact hT hv.2.1
def headL (p : Nat) : List UInt8 := [76, 83, 72, 82, UInt8.ofNat p, 1, 0, 0]

def headP (rest : List UInt8) : Nat := if 4 < rest.length ∧ (rest.getD 4 0 = 0 ∨ rest.getD 4 0 = 3) then (rest.getD 4 0).toNat else 0
def readH (b : List UInt8) (at_ : Int) : Int × Int × Int :=
  if at_ < 0 ∨ (b.length : Int) < at_ then (0, 0, 1)
  else
    let rest := (b.drop at_.toNat).take 8
    if rest ≠ (headL (headP rest)).take rest.length then (0, 0, 50)
    else if rest.length < 8 then (0, 0, 10)
    else (headP rest, at_ + 8, 0)

def openR (b : List UInt8) (at_ most : Int) : Nat × Nat × List UInt8 × List UInt8 × Int × Int :=
  if at_ < 0 ∨ (b.length : Int) < at_ ∨ most < 512 ∨ 1048576 < most then (0, 0, [], [], 0, 1)
  else
    let L := b.drop at_.toNat
    if L.length < 4 then (0, 0, [], [], 0, 10)
    else
      let size := beVal (L.take 4)
      if size < 8 ∨ most < size then (0, 0, [], [], 0, 51)
      else if L.length < 5 then (0, 0, [], [], 0, 10)
      else
        let off := 4 * (L.getD 4 0).toNat
        if off < 8 ∨ size < off then (0, 0, [], [], 0, 52)
        else if L.length < 6 then (0, 0, [], [], 0, 10)
        else
          let kind := (L.getD 5 0).toNat
          if 1 < kind then (0, 0, [], [], 0, 53)
          else if L.length < size then (0, 0, [], [], 0, 10)
          else (kind, if kind = 0 then beVal ((L.drop 6).take 2) else 0, (L.drop 8).take (off - 8), (L.drop off).take (size - off), at_ + size, 0)

theorem OwnBytes.slice {w : World} {B T n c : Nat} {p : Option Addr} {l : List UInt8} (h : OwnBytes w B T (.slice p n c) l) : l.length = n ∧ BytesIn w p n c l := by
  obtain ⟨a, c', e, hb⟩ := h.bytes
  simp only [Value.slice.injEq] at e
  obtain ⟨rfl, rfl, rfl⟩ := e
  exact ⟨rfl, hb⟩

theorem OwnBytes.off {w : World} {B T b : Nat} {v : Value} {l : List UInt8} (h : OwnBytes w B T v l) (hb : b < B) : v.ownBlock = none ∨ v.ownBlock ≠ some b := by
  cases hv : v.ownBlock with
  | none => exact .inl rfl
  | some g =>
    refine .inr (fun he => ?_)
    simp only [Option.some.injEq] at he
    have := (h.row.lt g hv).1
    omega

structure SM where
  ph : Nat
  held : List UInt8
  taken : Int
  at_ : Int
  most : Nat
  size : Nat
  hdr : Bool
  kind : Int
  err : Int
structure Itm where
  kind : Int
  proto : Int
  T : Nat
  ch : Nat
  ext : List UInt8
  body : List UInt8

def Itm.no : Itm := ⟨0, 0, 0, 0, [], []⟩
def SM.fail (s : SM) (e : Int) : SM := { s with err := e, held := [] }
def SM.tell (s : SM) : SM := { s with held := [], at_ := s.taken, ph := 1 }

def next1 (s : SM) : SM × Itm :=
  if s.ph = 0 then
    if (readH s.held 0).2.2 = 10 then (s, .no)
    else if (readH s.held 0).2.2 = 0 then (({ s with hdr := false, kind := if (readH s.held 0).1 = 3 then 1 else 0 } : SM).tell, ⟨1, (readH s.held 0).1, 0, 0, [], []⟩)
    else (s.fail (readH s.held 0).2.2, .no)
  else if s.ph = 1 then
    if s.held.length < 4 then (s, .no)
    else if s.held = [76, 83, 72, 82] then (s.fail 60, .no)
    else if beVal (s.held.take 4) < 8 ∨ s.most < beVal (s.held.take 4) then (s.fail 51, .no)
    else ({ s with size := beVal (s.held.take 4), ph := 2 }, .no)
  else if s.ph = 2 then
    if (s.held.getD 4 0).toNat < 2 ∨ s.size < 4 * (s.held.getD 4 0).toNat then (s.fail 52, .no)
    else ({ s with ph := 3 }, .no)
  else if s.ph = 3 then
    if (s.held.getD 5 0).toNat ≠ 0 ∧ (s.held.getD 5 0).toNat ≠ 1 then (s.fail 53, .no)
    else if ((s.held.getD 5 0).toNat : Int) ≠ s.kind then (s.fail 60, .no)
    else ({ s with ph := 4 }, .no)
  else
    if s.held.length < s.size then (s, .no)
    else if (openR s.held 0 1048576).2.2.2.2.2 = 0 then
      (s.tell, ⟨2, 0, (openR s.held 0 1048576).1, (openR s.held 0 1048576).2.1, (openR s.held 0 1048576).2.2.1, (openR s.held 0 1048576).2.2.2.1⟩)
    else (s.fail (openR s.held 0 1048576).2.2.2.2.2, .no)

def SM.take1 (s : SM) (c : UInt8) : SM := { s with held := s.held ++ [c], taken := wrap64 (s.taken + 1) }
def step (s : SM) (c : UInt8) : SM × Itm := next1 (s.take1 c)

attribute [local go_sem] Oper.semAt_some

theorem OwnBytes.cells {w w' : World} {B T : Nat} {v : Value} {l : List UInt8} (h : OwnBytes w B T v l) (e : ∀ j cs fr, v.ownBlock = some j → w.heap[j]? = some (.cells cs T fr) → w'.heap[j]? = w.heap[j]?) : OwnBytes w' B T v l := by
  obtain ⟨h1, h2⟩ := h.row
  refine ⟨⟨h1, ?_⟩⟩
  rcases h2 with h2 | ⟨g, cap, cur, e1, hg, hh, r⟩
  · exact .inl h2
  · exact .inr ⟨g, cap, cur, e1, hg, (e g _ _ (by rw [e1]; rfl) hh).trans hh, r⟩

set_option linter.all false

theorem marked_any (w : World) (a : Option Addr) (n c i : Nat) (hi : i ≤ 1152921504606846976) (h : BytesIn w a n c (markL i n)) :
    Calls Tryz.prog 35 #[.slice a n c, .int .i64 i] w fun e w' => e = .returned (.bool true) ∧ ∃ m, w' = w.drewN m := by
  have hn := h.le
  have hc := h.cap
  unfold maxLen at hc
  go_enter Tryz.func35, Tryz.ntmps35
  go_wp2_with fail
  go_loopw [5] (fun s5 wr => ∃ k m : Nat, k ≤ n ∧ s5 = .int .i64 k ∧ wr = w.drewN m) (fun s5 _ => n - (intOf s5).toNat)
  case atStart => exact ⟨0, 0, by omega, rfl, by rw [World.drewN_zero]⟩
  case round =>
    obtain ⟨k, m, hk, rfl, rfl⟩ := hrel
    by_cases hlt : k < n
    · obtain ⟨b, o, rfl, hb, hcell⟩ := h.at_ (by omega)
      have hcl := hcell k hlt
      rw [markL_getD i n k hlt] at hcl
      have hcl' : (w.drewN m).cell? ⟨b, o + k, none⟩ = some (.int .u8 (((i + k / 251) % 256 : Nat) : Int)) := by
        have e : (UInt8.ofNat (i + k / 251)).toNat = (i + k / 251) % 256 := by simp
        rw [← e]; exact hcl
      clear hcl hcell
      go_wp2_with fail
      go_roundw
      case rel => exact ⟨k + 1, m, by omega, by go_num, rfl⟩
      case measure => simp [intOf]; omega
    · obtain rfl : k = n := by omega
      go_wp2_with fail
      go_ret
      exact ⟨rfl, _, rfl⟩

theorem grownBy_setCell (w : World) (b j : Nat) (v : Value) : w.grownBy (w.setCell ⟨b, j, none⟩ v) (some b) :=
  ⟨rfl, rfl, rfl, by simp [World.setCell], fun k hk hne => by
    have : b ≠ k := fun h => hne (by rw [h])
    simp [World.setCell, Array.getElem?_modify, this]⟩

structure BookIs (w : World) (B bp : Nat) (vl : Value) (vs : List Value) : Prop where
  at_ : w.heap[bp]? = some (.cells #[vl] 38 (0, 0))
  row : w.ownsRow B 28 1 vl vs.length vs

theorem BookIs.cell {w : World} {B bp : Nat} {vl : Value} {vs : List Value} (h : BookIs w B bp vl vs) : w.cell? ⟨bp, 0, none⟩ = some vl := by
  simp only [World.cell?, h.at_]; rfl
theorem BookIs.lt {w : World} {B bp : Nat} {vl : Value} {vs : List Value} (h : BookIs w B bp vl vs) : bp < w.heap.size := (Array.getElem?_eq_some_iff.1 h.at_).1
theorem BookIs.apart {w : World} {B bp : Nat} {vl : Value} {vs : List Value} (h : BookIs w B bp vl vs) : vl.ownBlock ≠ some bp := by
  rcases h.row.2 with ⟨rfl, _⟩ | ⟨g, cap, cur, rfl, _, hh, _⟩
  · simp [Value.ownBlock]
  · intro he
    simp only [Value.ownBlock, Option.some.injEq] at he
    subst he
    have := h.at_
    rw [hh] at this
    simp at this
theorem info_row : (Tryz.prog.info? 28).map (fun i => (i.zero, i.size, i.bytes)) = some (some (.slice none 0 0), 1, 24) := by kernel_rfl

theorem btake_any (w : World) (B bp : Nat) (vl : Value) (vs : List Value) (p : Option Addr) (n c : Nat) (hbk : BookIs w B bp vl vs) (hB : B ≤ w.heap.size) (hsz : vs.length ≤ 1099511627776) :
    Calls Tryz.prog 12 #[.pointer (some ⟨bp, 0, none⟩), .slice p n c] w fun e w' => e = .returned (.tuple #[]) ∧ ∃ vl', BookIs w' B bp vl' (vs ++ [.slice p n c]) ∧ w.heap.size ≤ w'.heap.size ∧ (∀ k, k < w.heap.size → k ≠ bp → some k ≠ vl.ownBlock → w'.heap[k]? = w.heap[k]?) ∧ w'.os = w.os ∧ w'.tape = w.tape ∧ w'.output = w.output := by
  have hc := hbk.cell
  go_enter Tryz.func12, Tryz.ntmps12
  go_wp2_with (at_builtin; refine wpList_append_val rfl (.tmp 8) (.tmp 10) 36 rfl B 28 (.slice none 0 0) 24 Tryz.underlying36 info_row rfl vl vs.length vs (.slice p n c) rfl rfl rfl hbk.row ?h63 ?hbytes hB ?_)
  case h63 => unfold maxLen; omega
  case hbytes => omega
  intro vl' w1 r1 g1 b1 n1
  obtain ⟨g0, cap0, rfl, _, _⟩ := r1.form (by omega)
  have hne : vl.ownBlock ≠ some bp := hbk.apart
  have hat : w1.heap[bp]? = some (.cells #[vl] 38 (0, 0)) := by
    rw [g1.block bp hbk.lt (fun h => hne h.symm)]; exact hbk.at_
  have hc1 : w1.cell? ⟨bp, 0, none⟩ = some vl := by simp only [World.cell?, hat]; rfl
  have hf1 : w1.frozen? ⟨bp, 0, none⟩ = false := by simp [World.frozen?, hat]
  have hbk1 : BookIs w1 B bp vl vs → True := fun _ => trivial
  have ha1 : (Value.slice (some ⟨g0, 0, none⟩) (vs.length + 1) cap0).ownBlock ≠ some bp := by
    rcases r1.2 with ⟨hq, _⟩ | ⟨g, cap, cur, hq, _, hh, _⟩
    · cases hq
    · intro he
      simp only [Value.slice.injEq, Option.some.injEq, Addr.mk.injEq] at hq
      obtain ⟨⟨rfl, _⟩, _⟩ := hq
      simp only [Value.ownBlock, Option.some.injEq] at he
      subst he
      rw [hh] at hat
      simp at hat
  have R1 := Lib.hid r1
  clear r1
  go_wp2_with fail
  refine bodyPost_end (results_none rfl _ _ _) rfl ?_
  refine ⟨rfl, .slice (some ⟨g0, 0, none⟩) (vs.length + 1) cap0, ⟨?_, ?_⟩, ?_, ?_, ?_⟩
  · simp [World.setCell, Array.getElem?_modify, hat]
  · rw [List.length_append, List.length_singleton]
    exact R1.out.kept (grownBy_setCell w1 bp 0 _) (.inr ha1)
  · have := g1.size
    simpa [World.setCell] using this
  · intro k hk hkb hkv
    rw [(grownBy_setCell w1 bp 0 _).block k (by have := g1.size; omega) (by simpa using hkb)]
    exact g1.block k hk hkv
  · exact ⟨g1.os, g1.tape, g1.output⟩
set_option linter.all false

structure OnlyRows (vs : List Value) (w w' : World) : Prop where
  os : w'.os = w.os
  tape : w'.tape = w.tape
  output : w'.output = w.output
  size : w.heap.size ≤ w'.heap.size
  block : ∀ k, k < w.heap.size → (∀ v ∈ vs, v.ownBlock ≠ some k) → w'.heap[k]? = w.heap[k]?

theorem OnlyRows.refl (vs : List Value) (w : World) : OnlyRows vs w w := ⟨rfl, rfl, rfl, Nat.le_refl _, fun _ _ _ => rfl⟩
theorem OnlyRows.drewN {vs : List Value} {w w' : World} (h : OnlyRows vs w w') (m : Nat) : OnlyRows vs w (w'.drewN m) := ⟨h.os, h.tape, h.output, h.size, h.block⟩
theorem OnlyRows.grown {vs : List Value} {w wr w' : World} {row : Option Nat} (h : OnlyRows vs w wr) (hg : wr.grownBy w' row) (hr : ∀ k, row = some k → w.heap.size ≤ k ∨ ∃ v ∈ vs, v.ownBlock = some k) : OnlyRows vs w w' := by
  refine ⟨hg.os.trans h.os, hg.tape.trans h.tape, hg.output.trans h.output, Nat.le_trans h.size hg.size, fun k hk hn => ?_⟩
  have hs := h.size
  rw [hg.block k (by omega) (fun he => ?_)]
  · exact h.block k hk hn
  · rcases hr k he.symm with h1 | ⟨v, hv, h1⟩
    · omega
    · exact hn v hv h1
theorem OnlyRows.below {vs : List Value} {B : Nat} {w w' : World} (h : OnlyRows vs w w') (hB : B ≤ w.heap.size) (hv : ∀ v ∈ vs, ∀ k, v.ownBlock = some k → B ≤ k) : Below B w w' := by
  refine ⟨h.os, h.tape, h.output, h.size, fun k hk => h.block k (by omega) (fun v hv' he => ?_)⟩
  have := hv v hv' k he
  omega

theorem BookIs.only {w w' : World} {B bp : Nat} {vl : Value} {vs : List Value} (h : BookIs w B bp vl vs) (hv : ∀ v ∈ vs, ∃ l, OwnBytes w B 5 v l) (ho : OnlyRows vs w w') : BookIs w' B bp vl vs := by
  refine ⟨?_, ?_⟩
  · rw [ho.block bp h.lt (fun v hv' => by obtain ⟨l, hl⟩ := hv v hv'; exact apart_of_cells hl h.at_ (by decide))]
    exact h.at_
  · obtain ⟨h1, h2⟩ := h.row
    refine ⟨h1, ?_⟩
    rcases h2 with h2 | ⟨g, cap, cur, e, hg, hh, r⟩
    · exact .inl h2
    · refine .inr ⟨g, cap, cur, e, hg, ?_, r⟩
      rw [ho.block g (Array.getElem?_eq_some_iff.1 hh).1 (fun v hv' => by obtain ⟨l, hl⟩ := hv v hv'; exact apart_of_cells hl hh (by decide))]
      exact hh

def Distinct (vs : List Value) : Prop := ∀ i j, i < vs.length → j < vs.length → i ≠ j → (vs.getD i default).ownBlock = none ∨ (vs.getD i default).ownBlock ≠ (vs.getD j default).ownBlock

def FilledTo (w : World) (B : Nat) (vs : List Value) (nn : Nat → Nat) (i k : Nat) : Prop :=
  ∀ j, j < vs.length → ∃ l : List UInt8, l.length = nn j ∧ OwnBytes w B 5 (vs.getD j default) l ∧ ∀ m, m < nn j → (j < i ∨ (j = i ∧ m < k)) → l.getD m 0 = UInt8.ofNat (j + m / 251)

theorem FilledTo.next {w : World} {B : Nat} {vs : List Value} {nn : Nat → Nat} {i : Nat} (h : FilledTo w B vs nn i (nn i)) : FilledTo w B vs nn (i + 1) 0 := fun j hj => by
  obtain ⟨l, h1, h2, h3⟩ := h j hj
  refine ⟨l, h1, h2, fun m hm hc => h3 m hm ?_⟩
  rcases hc with hc | ⟨_, hc⟩
  · by_cases e : j = i
    · exact .inr ⟨e, by rw [← e]; exact hm⟩
    · exact .inl (by omega)
  · omega
theorem FilledTo.done {w : World} {B : Nat} {vs : List Value} {nn : Nat → Nat} (h : FilledTo w B vs nn vs.length 0) (j : Nat) (hj : j < vs.length) : OwnBytes w B 5 (vs.getD j default) (markL j (nn j)) := by
  obtain ⟨l, h1, h2, h3⟩ := h j hj
  have : l = markL j (nn j) := by
    apply List.ext_getElem
    · rw [h1, markL_length]
    · intro m h4 h5
      have := h3 m (by omega) (.inl hj)
      rw [List.getD_eq_getElem?_getD, List.getElem?_eq_getElem h4] at this
      simp only [Option.getD_some] at this
      rw [this]
      simp [markL]
  rw [← this]; exact h2
theorem FilledTo.set {w : World} {B : Nat} {vs : List Value} {nn : Nat → Nat} {i k g cap : Nat} (h : FilledTo w B vs nn i k) (hd : Distinct vs) (hi : i < vs.length) (hk : k < nn i) (hv : vs.getD i default = .slice (some ⟨g, 0, none⟩) (nn i) cap) :
    FilledTo (w.setCell ⟨g, k, none⟩ (.int .u8 (((i + k / 251) % 256 : Nat) : Int))) B vs nn i (k + 1) := fun j hj => by
  have hy : (((i + k / 251) % 256 : Nat) : Int) = ((UInt8.ofNat (i + k / 251)).toNat : Int) := by simp
  obtain ⟨l, h1, h2, h3⟩ := h j hj
  by_cases e : j = i
  · subst e
    rw [hv] at h2
    refine ⟨l.set k (UInt8.ofNat (j + k / 251)), by rw [List.length_set, h1], ?_, fun m hm hc => ?_⟩
    · rw [hy, hv]
      exact h2.set h1 k _
    · by_cases hmk : m = k
      · subst hmk
        simp [List.getD_eq_getElem?_getD, h1, hm]
      · rw [List.getD_eq_getElem?_getD, List.getElem?_set_ne (by omega), ← List.getD_eq_getElem?_getD]
        exact h3 m hm (by omega)
  · refine ⟨l, h1, h2.kept (grownBy_setCell w g k _) ?_, fun m hm hc => h3 m hm (by omega)⟩
    have := hd j i hj hi e
    rw [hv] at this
    exact this

def rowsT (vs : List Value) (nn : Nat → Nat) : List (Value × Nat × Nat) := (List.range vs.length).map fun j => (vs.getD j default, j, nn j)
theorem mem_rowsT {vs : List Value} {nn : Nat → Nat} {u : Value × Nat × Nat} (h : u ∈ rowsT vs nn) : ∃ j, j < vs.length ∧ u = (vs.getD j default, j, nn j) := by
  simp only [rowsT, List.mem_map, List.mem_range] at h
  obtain ⟨j, hj, rfl⟩ := h
  exact ⟨j, hj, rfl⟩

def FromRow (vs : List Value) (S : Nat) (v : Value) (i : Nat) : Prop := v.ownBlock = (vs.getD i default).ownBlock ∨ ∃ g, v.ownBlock = some g ∧ S ≤ g

structure GS (w wr : World) (B : Nat) (vs : List Value) (nn : Nat → Nat) (gv : Value) (G : List (Value × Nat × Nat)) (i : Nat) : Prop where
  only : OnlyRows vs w wr
  kept : Kept wr B 5 (rowsT vs nn ++ G)
  row : wr.ownsRow w.heap.size 28 1 gv G.length (G.map (·.1))
  idx : ∀ t, t < G.length → (G.getD t default).2.1 = t / 5
  from_ : ∀ u ∈ G, u.2.1 ≤ i ∧ FromRow vs w.heap.size u.1 u.2.1

structure GK (w wr : World) (B : Nat) (vs : List Value) (nn : Nat → Nat) (gv : Value) (G : List (Value × Nat × Nat)) (i n : Nat) (v : Value) : Prop extends GS w wr B vs nn gv G i where
  own : OwnBytes wr B 5 v (markL i n)
  apt : AptTo (rowsT vs nn ++ G) v i n
  vfrom : FromRow vs w.heap.size v i

theorem GS.start {w wr : World} {B : Nat} {vs : List Value} {nn : Nat → Nat} (ho : OnlyRows vs w wr) (hf : FilledTo wr B vs nn vs.length 0) : GS w wr B vs nn (.slice none 0 0) [] 0 :=
  ⟨ho, fun u hu => by
    rw [List.append_nil] at hu
    obtain ⟨j, hj, rfl⟩ := mem_rowsT hu
    exact hf.done j hj, World.ownsRow_nil _ _ _ _, fun t ht => absurd ht (Nat.not_lt_zero _), fun u hu => by simp at hu⟩

theorem GS.begin {w wr : World} {B : Nat} {vs : List Value} {nn : Nat → Nat} {gv : Value} {G : List (Value × Nat × Nat)} {i : Nat} (h : GS w wr B vs nn gv G i) (hG : ∀ u ∈ G, u.2.1 < i) (hi : i < vs.length) (hd : Distinct vs)
    (hlt : ∀ j, j < vs.length → ∀ g, (vs.getD j default).ownBlock = some g → g < w.heap.size) : GK w wr B vs nn gv G i (nn i) (vs.getD i default) := by
  refine { h with own := ?_, apt := fun u hu => ?_, vfrom := .inl rfl }
  · exact h.kept (vs.getD i default, i, nn i) (List.mem_append_left _ (by simp only [rowsT, List.mem_map, List.mem_range]; exact ⟨i, hi, rfl⟩))
  · rcases List.mem_append.1 hu with hu | hu
    · obtain ⟨j, hj, rfl⟩ := mem_rowsT hu
      by_cases e : j = i
      · exact .inr (.inr ⟨e, by subst e; exact Nat.le_refl _⟩)
      · rcases hd j i hj hi e with h1 | h1
        · exact .inl h1
        · exact .inr (.inl h1)
    · have hj := hG u hu
      rcases (h.from_ u hu).2 with h1 | ⟨g, h1, h2⟩
      · rcases hd u.2.1 i (by omega) hi (by omega) with h3 | h3
        · exact .inl (h1.trans h3)
        · exact .inr (.inl (by rw [h1]; exact h3))
      · refine .inr (.inl (fun he => ?_))
        have := hlt i hi g (by rw [← he, h1])
        omega

theorem GK.put {w wr w' : World} {B : Nat} {vs : List Value} {nn : Nat → Nat} {gv v v' : Value} {G : List (Value × Nat × Nat)} {i n : Nat} (h : GK w wr B vs nn gv G i n v) (hi : i < vs.length)
    (ho' : OwnBytes w' B 5 v' (markL i n ++ [UInt8.ofNat (i + n / 251)])) (hg : wr.grownBy w' v.ownBlock) (hf : Grew wr w' v v') : GK w w' B vs nn gv G i (n + 1) v' := by
  obtain ⟨hk, ha⟩ := h.kept.step h.apt h.own ho' hg hf
  have hvm : vs.getD i default ∈ vs := by
    rw [List.getD_eq_getElem?_getD, List.getElem?_eq_getElem hi]; exact List.getElem_mem hi
  refine { only := h.only.grown hg ?_, kept := hk, row := h.row.kept hg ?_, idx := h.idx, from_ := h.from_, own := by rw [markL_snoc]; exact ho', apt := ha, vfrom := ?_ }
  · intro k hk
    rcases h.vfrom with h1 | ⟨g, h1, h2⟩
    · exact .inr ⟨_, hvm, by rw [← h1, hk]⟩
    · rw [h1] at hk
      simp only [Option.some.injEq] at hk
      exact .inl (by omega)
  · rcases apart_of_type h.own h.row (by decide) with h1 | h1
    · rw [h1]
      cases hb : gv.ownBlock with
      | none => exact .inl rfl
      | some b => exact .inr (fun h => by cases h)
    · exact .inr (fun h => h1 h.symm)
  · rcases hf with ⟨g, m, cap, e1, e2⟩ | ⟨g, e1, e2, _⟩
    · rcases h.vfrom with h1 | ⟨g', h1, h2⟩
      · refine .inl ?_
        rw [← h1, e1, e2]; rfl
      · refine .inr ⟨g', ?_, h2⟩
        rw [← h1, e1, e2]; rfl
    · exact .inr ⟨g, e1, Nat.le_trans h.only.size e2⟩

theorem GK.note {w wr w' : World} {B : Nat} {vs : List Value} {nn : Nat → Nat} {gv gv' v : Value} {G : List (Value × Nat × Nat)} {i n : Nat} (h : GK w wr B vs nn gv G i n v) (hi : G.length / 5 = i)
    (hr : w'.ownsRow w.heap.size 28 1 gv' (G.length + 1) (G.map (·.1) ++ [v])) (hg : wr.grownBy w' gv.ownBlock) : GK w w' B vs nn gv' (G ++ [(v, i, n)]) i n v := by
  have hty : ∀ {u : Value} {l : List UInt8}, OwnBytes wr B 5 u l → u.ownBlock = none ∨ u.ownBlock ≠ gv.ownBlock := fun hu => apart_of_type hu h.row (by decide)
  have hk : ∀ u ∈ rowsT vs nn ++ (G ++ [(v, i, n)]), u ∈ rowsT vs nn ++ G ∨ u = (v, i, n) := fun u hu => by
    rw [← List.append_assoc] at hu
    rcases List.mem_append.1 hu with hu | hu
    · exact .inl hu
    · exact .inr (by simpa using hu)
  refine { only := h.only.grown hg ?_, kept := fun u hu => ?_, row := ?_, idx := fun t ht => ?_, from_ := fun u hu => ?_, own := h.own.kept hg (hty h.own), apt := fun u hu => ?_, vfrom := h.vfrom }
  · intro k hk
    exact .inl (h.row.lt k hk).1
  · rcases hk u hu with hu | rfl
    · exact (h.kept u hu).kept hg (hty (h.kept u hu))
    · exact h.own.kept hg (hty h.own)
  · rw [List.length_append, List.length_singleton, List.map_append]; exact hr
  · rw [List.length_append, List.length_singleton] at ht
    by_cases e : t < G.length
    · rw [List.getD_eq_getElem?_getD, List.getElem?_append_left e, ← List.getD_eq_getElem?_getD]; exact h.idx t e
    · have : t = G.length := by omega
      subst this
      simp [hi]
  · rcases List.mem_append.1 hu with hu | hu
    · exact h.from_ u hu
    · have : u = (v, i, n) := by simpa using hu
      subst this
      exact ⟨Nat.le_refl _, h.vfrom⟩
  · rcases hk u hu with hu | rfl
    · exact h.apt u hu
    · exact .inr (.inr ⟨rfl, Nat.le_refl _⟩)
theorem GK.next {w wr : World} {B : Nat} {vs : List Value} {nn : Nat → Nat} {gv v : Value} {G : List (Value × Nat × Nat)} {i n : Nat} (h : GK w wr B vs nn gv G i n v) : GS w wr B vs nn gv G (i + 1) :=
  { h.toGS with from_ := fun u hu => ⟨Nat.le_succ_of_le (h.from_ u hu).1, (h.from_ u hu).2⟩ }
theorem GS.bytes {w wr : World} {B : Nat} {vs : List Value} {nn : Nat → Nat} {gv : Value} {G : List (Value × Nat × Nat)} {i j : Nat} (h : GS w wr B vs nn gv G i) (hj : j < vs.length) (m : Nat) :
    ∃ p c, vs.getD j default = .slice p (nn j) c ∧ BytesIn (wr.drewN m) p (nn j) c (markL j (nn j)) := by
  have := h.kept (vs.getD j default, j, nn j) (List.mem_append_left _ (by simp only [rowsT, List.mem_map, List.mem_range]; exact ⟨j, hj, rfl⟩))
  obtain ⟨p, c, h1, h2⟩ := this.bytes
  rw [markL_length] at h1 h2
  exact ⟨p, c, h1, h2.below ⟨rfl, rfl, rfl, Nat.le_refl _, fun _ _ => rfl⟩⟩
theorem GS.item {w wr : World} {B : Nat} {vs : List Value} {nn : Nat → Nat} {gv : Value} {G : List (Value × Nat × Nat)} {i t : Nat} (h : GS w wr B vs nn gv G i) (ht : t < G.length) (m : Nat) :
    ∃ g c p n cc, gv = .slice (some ⟨g, 0, none⟩) G.length c ∧ (wr.drewN m).cell? ⟨g, t, none⟩ = some (.slice p n cc) ∧ BytesIn (wr.drewN m) p n cc (markL (t / 5) n) := by
  obtain ⟨g, c, rfl, _, _⟩ := h.row.form (by omega)
  have hm : G.getD t default ∈ G := by
    rw [List.getD_eq_getElem?_getD, List.getElem?_eq_getElem ht]; exact List.getElem_mem ht
  obtain ⟨p, cc, h1, h2⟩ := (h.kept _ (List.mem_append_right _ hm)).bytes
  rw [markL_length] at h1 h2
  rw [h.idx t ht] at h2
  refine ⟨g, c, p, _, cc, rfl, ?_, h2.below ⟨rfl, rfl, rfl, Nat.le_refl _, fun _ _ => rfl⟩⟩
  show wr.cell? ⟨g, t, none⟩ = _
  rw [h.row.cellAt t (by omega), List.getElem?_map, ← h1, List.getD_eq_getElem?_getD, List.getElem?_eq_getElem ht]
  rfl
theorem GS.form {w wr : World} {B : Nat} {vs : List Value} {nn : Nat → Nat} {gv : Value} {G : List (Value × Nat × Nat)} {i : Nat} (h : GS w wr B vs nn gv G i) : ∃ a c, gv = .slice a G.length c ∧ G.length ≤ c ∧ c ≤ 9223372036854775807 := by
  rcases h.row.2 with ⟨e1, e2⟩ | ⟨g, cap, cur, e1, _, _, e3, e4, _⟩
  · exact ⟨none, 0, by rw [e1, e2], by omega, by omega⟩
  · exact ⟨_, cap, e1, e3, by unfold maxLen at e4; omega⟩
set_option linter.all false

def cnt (k : Nat) : Nat := min k 3 + (if 8 < k then 1 else 0) + (if 19 < k then 1 else 0)

set_option maxHeartbeats 4000000 in
theorem owned_any (w : World) (B bp : Nat) (vl : Value) (vs : List Value) (nn : Nat → Nat) (hbk : BookIs w B bp vl vs) (hB : B ≤ w.heap.size) (hd : Distinct vs)
    (hv : ∀ j, j < vs.length → ∃ l : List UInt8, l.length = nn j ∧ OwnBytes w B 5 (vs.getD j default) l) (hN : vs.length ≤ 1099511627776) (hnn : ∀ j, nn j ≤ 140737488355200) :
    Calls Tryz.prog 13 #[.pointer (some ⟨bp, 0, none⟩)] w fun e w' => e = .returned (.bool true) ∧ OnlyRows vs w w' := by
  have hvm : ∀ v ∈ vs, ∃ l, OwnBytes w B 5 v l := fun v hv' => by
    obtain ⟨j, hj, rfl⟩ := List.mem_iff_getElem.1 hv'
    obtain ⟨l, _, h2⟩ := hv j hj
    rw [List.getD_eq_getElem?_getD, List.getElem?_eq_getElem hj] at h2
    exact ⟨l, h2⟩
  have hmem : ∀ j, j < vs.length → vs.getD j default ∈ vs := fun j hj => by
    rw [List.getD_eq_getElem?_getD, List.getElem?_eq_getElem hj]; exact List.getElem_mem hj
  have hlt : ∀ j, j < vs.length → ∀ g, (vs.getD j default).ownBlock = some g → g < w.heap.size := fun j hj g hg => by
    obtain ⟨l, _, h2⟩ := hv j hj
    exact (h2.row.lt g hg).2
  have hf0 : FilledTo w B vs nn 0 0 := fun j hj => by
    obtain ⟨l, h1, h2⟩ := hv j hj
    exact ⟨l, h1, h2, fun m _ hc => by omega⟩
  -- the list of the lists, in any later world
  have hbook : ∀ wr, OnlyRows vs w wr → BookIs wr B bp vl vs := fun wr ho => hbk.only hvm ho
  obtain ⟨la, lc, hvl, hlc⟩ : ∃ la lc, vl = .slice la vs.length lc ∧ (0 < vs.length → ∃ g, la = some ⟨g, 0, none⟩) := by
    rcases hbk.row.2 with ⟨e1, e2⟩ | ⟨g, cap, cur, e1, _⟩
    · exact ⟨none, 0, by rw [e1, e2], fun h => by omega⟩
    · exact ⟨_, cap, e1, fun _ => ⟨g, rfl⟩⟩
  subst hvl
  have hitem : ∀ wr, OnlyRows vs w wr → ∀ i, i < vs.length → ∀ g, la = some ⟨g, 0, none⟩ → wr.cell? ⟨g, i, none⟩ = some (vs.getD i default) := fun wr ho i hi g hg => by
    have h := (hbook wr ho).row
    subst hg
    rw [h.cellAt i (by omega), List.getD_eq_getElem?_getD, List.getElem?_eq_getElem hi]
    rfl
  obtain ⟨N, hNN⟩ : ∃ N, vs.length = N := ⟨_, rfl⟩
  rw [hNN] at hlc
  have HN := Lib.hid hNN
  have HB := Lib.hid hbook
  have HI := Lib.hid hitem
  have HF := Lib.hid hf0
  have HL := Lib.hid hlt
  have HM := Lib.hid hmem
  have HV := Lib.hid hvm
  have hN' : N ≤ 1099511627776 := by omega
  have hc0 := hbk.cell
  rw [hNN] at hc0
  have hcells : ∀ wr, OnlyRows vs w wr → wr.cell? ⟨bp, 0, none⟩ = some (.slice la N lc) := fun wr ho => by
    have := (hbook wr ho).cell
    rw [hNN] at this
    exact this
  have HC := Lib.hid hcells
  clear hcells hbook hitem hf0 hlt hmem hvm hNN hv hbk hc0
  have hn63 : lc ≤ lc := Nat.le_refl _
  go_enter Tryz.func13, Tryz.ntmps13
  go_wp2_with fail
  go_loopw [3] (fun s3 wr => ∃ i : Nat, i ≤ N ∧ s3 = .int .i64 i ∧ OnlyRows vs w wr ∧ FilledTo wr B vs nn i 0) (fun s3 _ => N - (intOf s3).toNat)
  case atStart => exact ⟨0, by omega, rfl, OnlyRows.refl _ _, HF.out⟩
  case round =>
    obtain ⟨i, hi, rfl, hO, hF⟩ := hrel
    have hcb := HC.out wr hO
    by_cases hlt : i < N
    · obtain ⟨g, rfl⟩ := hlc (by omega)
      have hcell := HI.out wr hO i (by rw [HN.out]; exact hlt) g rfl
      obtain ⟨l, hll, hl, _⟩ := hF i (by rw [HN.out]; exact hlt)
      obtain ⟨p, c, hpc, hby⟩ := hl.bytes
      rw [hll] at hpc
      have hnni := hnn i
      rw [hpc] at hcell
      have hcc : nn i ≤ c ∧ c ≤ 9223372036854775807 := ⟨by have := hby.le; omega, by have := hby.cap; unfold maxLen at this; omega⟩
      obtain ⟨n, hn⟩ : ∃ n, nn i = n := ⟨_, rfl⟩
      have hpp : 0 < n → ∃ g', p = some ⟨g', 0, none⟩ := fun h0 => by
        obtain ⟨g', cap', e, _⟩ := hl.some_ (by omega)
        rw [hpc] at e
        simp only [Value.slice.injEq] at e
        exact ⟨g', e.1⟩
      rw [hn] at hpc hcell hnni hcc
      have HP := Lib.hid hpc
      have HNI := Lib.hid hn
      have hF' := Lib.hid hF
      clear hpc hn hll hl hby hF
      go_wp2_with fail
      go_loopw [5] (fun s5 wq => ∃ k : Nat, k ≤ n ∧ s5 = .int .i64 k ∧ OnlyRows vs w wq ∧ FilledTo wq B vs nn i k) (fun s5 _ => n - (intOf s5).toNat)
      case atStart => exact ⟨0, by omega, rfl, hO, hF'.out⟩
      case round =>
        obtain ⟨k, hk, rfl, hO2, hF2⟩ := hrel
        by_cases hkt : k < n
        · obtain ⟨g', rfl⟩ := hpp (by omega)
          obtain ⟨l, hll, hl, _⟩ := hF2 i (by rw [HN.out]; exact hlt)
          rw [HP.out] at hl
          rw [HNI.out] at hll
          have hcell2 := hl.cell hll k hkt
          have hfr := hl.frozen hll k
          have hset := hF2.set hd (by rw [HN.out]; exact hlt) (by rw [HNI.out]; exact hkt) (by rw [HP.out, HNI.out])
          have hgr := hO2.grown (grownBy_setCell wr g' k (.int .u8 (((i + k / 251) % 256 : Nat) : Int))) (fun k' hk' => by
            simp only [Option.some.injEq] at hk'
            exact .inr ⟨_, HM.out i (by rw [HN.out]; exact hlt), by rw [HP.out, ← hk']; rfl⟩)
          have HS := Lib.hid hset
          have HG := Lib.hid hgr
          clear hset hgr hl hll hF2
          go_wp2_with fail
          go_roundw
          case rel => exact ⟨k + 1, by omega, by go_num, HG.out, HS.out⟩
          case measure => simp [intOf]; omega
        · obtain rfl : k = n := by omega
          go_wp2_with fail
          go_roundw
          case rel => exact ⟨i + 1, by omega, by go_num, hO2, FilledTo.next (by rw [HNI.out]; exact hF2)⟩
          case measure => simp [intOf]; omega
    · obtain rfl : i = N := by omega
      have hG0 := GS.start hO (by rw [HN.out]; exact hF)
      have HG0 := Lib.hid hG0
      clear hG0 hF HF
      go_wp2_with fail
      go_loopw [6, 7] (fun s6 s7 wr => ∃ (j : Nat) (G : List (Value × Nat × Nat)), j ≤ i ∧ s7 = .int .i64 j ∧ GS w wr B vs nn s6 G j ∧ G.length = 5 * j ∧ ∀ u ∈ G, u.2.1 < j) (fun _ s7 _ => i - (intOf s7).toNat)
      case atStart => exact ⟨0, [], by omega, rfl, HG0.out, rfl, fun u hu => by simp at hu⟩
      case round =>
        obtain ⟨j, G, hj, rfl, hG, hGl, hGi⟩ := hrel
        have hcb := HC.out wr hG.only
        by_cases hjt : j < i
        · obtain ⟨g, rfl⟩ := hlc (by omega)
          have hcell := HI.out wr hG.only j (by rw [HN.out]; exact hjt) g rfl
          have hK := hG.begin hGi (by rw [HN.out]; exact hjt) hd HL.out
          have hnni := hnn j
          obtain ⟨n, hn⟩ : ∃ n, nn j = n := ⟨_, rfl⟩
          rw [hn] at hnni hK
          obtain ⟨v0, hv0⟩ : ∃ v0, vs.getD j default = v0 := ⟨_, rfl⟩
          rw [hv0] at hcell hK
          have HK := Lib.hid hK
          clear hn hv0 hK hG hGi
          go_wp2_with fail
          go_loopw [6, 8, 9] (fun s6 s8 s9 wq => ∃ (k : Nat) (G : List (Value × Nat × Nat)), k ≤ 20 ∧ s9 = .int .i64 k ∧ GK w wq B vs nn s6 G j (n + k) s8 ∧ G.length = 5 * j + cnt k) (fun _ _ s9 _ => 20 - (intOf s9).toNat)
          case atStart => exact ⟨0, G, by omega, rfl, HK.out, hGl⟩
          case round =>
            obtain ⟨k, G, hk, rfl, hK, hGl⟩ := hrel
            by_cases hkt : k < 20
            · obtain ⟨m, hm⟩ : ∃ m, n + k = m := ⟨_, rfl⟩
              have hmb : m ≤ 140737488355220 := by omega
              rw [hm] at hK
              obtain ⟨p, c, hpc, _⟩ := hK.own.bytes
              rw [markL_length] at hpc
              subst hpc
              have hown := hK.own
              have HM2 := Lib.hid hm
              have hBq : B ≤ wr.heap.size := Nat.le_trans hB hK.only.size
              have hnote : (k < 3 ∨ k = 8 ∨ k = 19) ∨ ((k : Int) < 3) = False ∧ ((k : Int) == 8) = false ∧ ((k : Int) == 19) = false := by
                by_cases h1 : k < 3
                · exact .inl (.inl h1)
                by_cases h2 : k = 8
                · exact .inl (.inr (.inl h2))
                by_cases h3 : k = 19
                · exact .inl (.inr (.inr h3))
                exact .inr ⟨by simp; omega, by simp; omega, by simp; omega⟩
              have HNO := Lib.hid hnote
              clear hm hnote
              go_wp2_with (at_builtin; refine wpList_append_grew' rfl (.tmp 64) (.tmp 71) 28 rfl B 5 Tryz.underlying28 info_u8 _ (markL j m) (UInt8.ofNat (j + m / 251)) _ rfl rfl ?hyv hown ?hlen ?hbase ?_)
              case hyv => simp
              case hlen => rw [markL_length]; omega
              case hbase => exact hBq
              intro v' w' ho' hg' hf'
              have ho2 : OwnBytes w' B 5 v' (markL j m ++ [UInt8.ofNat (j + m / 251)]) := by simpa using ho'
              have hP := hK.put (by rw [HN.out]; exact hjt) ho2 hg' hf'
              obtain ⟨g2, c2, hv2, _⟩ := ho'.some_ (by simp)
              rw [List.length_append, markL_length, List.length_singleton] at hv2
              subst hv2
              have hSz : w.heap.size ≤ w'.heap.size := hP.only.size
              have hrw := hP.row
              have HP := Lib.hid hP
              clear hK hown ho' ho2 hg' hf' hP
              rcases HNO.out with hno | ⟨n1, n2, n3⟩
              · have hcn : cnt (k + 1) = cnt k + 1 ∧ cnt k < 5 := by
                  unfold cnt
                  rcases hno with h | h | h
                  · rw [if_neg (by omega), if_neg (by omega), if_neg (by omega), if_neg (by omega)]; omega
                  · subst h; decide
                  · subst h; decide
                have ht : (((k : Int) < 3) = True) ∨ (((k : Int) < 3) = False ∧ ((k : Int) == 8) = true) ∨ (((k : Int) < 3) = False ∧ ((k : Int) == 8) = false ∧ ((k : Int) == 19) = true) := by
                  rcases hno with h | h | h
                  · exact .inl (by simp; omega)
                  · subst h; exact .inr (.inl ⟨by decide, by decide⟩)
                  · subst h; exact .inr (.inr ⟨by decide, by decide, by decide⟩)
                rcases ht with n1 | ⟨n1, n2⟩ | ⟨n1, n2, n3⟩ <;>
                · go_wp2_with (at_builtin; refine wpList_append_val rfl (.tmp 83) (.tmp 85) 36 rfl w.heap.size 28 (.slice none 0 0) 24 Tryz.underlying36 info_row rfl _ _ _ (.slice (some ⟨g2, 0, none⟩) (m + 1) c2) rfl rfl rfl hrw ?h63 ?hbytes hSz ?_)
                  case h63 => unfold maxLen; omega
                  case hbytes => omega
                  intro gv' w2 hr2 hg2 _ _
                  rw [← hGl] at hr2
                  have hQ := HP.out.note (by omega) hr2 hg2
                  have HQ := Lib.hid hQ
                  clear hQ hr2 hg2
                  go_wp2_with fail
                  go_roundw
                  case rel => exact ⟨k + 1, _, by omega, by go_num, by rw [← Nat.add_assoc, HM2.out]; exact HQ.out, by rw [List.length_append, List.length_singleton]; omega⟩
                  case measure => simp [intOf]; omega
              · have hcn : cnt (k + 1) = cnt k := by
                  have h1 : ¬ k < 3 := by
                    intro h; have : ((k : Int) < 3) := by omega
                    rw [n1] at this; exact this
                  have h2 : k ≠ 8 := by intro h; subst h; simp at n2
                  have h3 : k ≠ 19 := by intro h; subst h; simp at n3
                  unfold cnt
                  split <;> split <;> split <;> split <;> omega
                go_wp2_with fail
                go_roundw
                case rel => exact ⟨k + 1, G, by omega, by go_num, by rw [← Nat.add_assoc, HM2.out]; exact HP.out, by omega⟩
                case measure => simp [intOf]; omega
            · obtain rfl : k = 20 := by omega
              go_wp2_with fail
              go_roundw
              case rel => exact ⟨j + 1, G, by omega, by go_num, hK.next, by rw [hGl]; unfold cnt; simp; omega, fun u hu => by have := (hK.from_ u hu).1; omega⟩
              case measure => simp [intOf]; omega
        · obtain rfl : j = i := by omega
          have HG := Lib.hid hG
          have hON := hG.only
          obtain ⟨ga, gc, hgv, hgc1, hgc2⟩ := hG.form
          obtain ⟨q, hq⟩ : ∃ q, G.length = q := ⟨_, rfl⟩
          rw [hq] at hgv hgc1 hGl
          have HQ := Lib.hid hq
          have HGV := Lib.hid hgv
          subst hgv
          clear hG hGi hq HG0
          go_wp2_with fail
          go_loopw [10] (fun s10 wq => ∃ (t m : Nat), t ≤ j ∧ s10 = .int .i64 t ∧ wq = wr.drewN m) (fun s10 _ => j - (intOf s10).toNat)
          case atStart => exact ⟨0, 0, by omega, rfl, by rw [World.drewN_zero]⟩
          case round =>
            obtain ⟨t, m, ht, rfl, rfl⟩ := hrel
            have hcb2 := HC.out _ (hON.drewN m)
            by_cases htt : t < j
            · obtain ⟨g, rfl⟩ := hlc (by omega)
              have hcell := HI.out _ (hON.drewN m) t (by rw [HN.out]; exact htt) g rfl
              obtain ⟨p, c, hpc, hby⟩ := HG.out.bytes (j := t) (by rw [HN.out]; exact htt) m
              rw [hpc] at hcell
              have hmk := marked_any _ p _ c t (by omega) hby
              have HMK := Lib.hid hmk
              clear hmk hby hpc
              go_wp2_with fail
              refine HMK.out.mono ?_
              rintro e w2 ⟨rfl, m2, rfl⟩
              go_wp2_with fail
              go_roundw
              case rel => exact ⟨t + 1, _, by omega, by go_num, rfl⟩
              case measure => simp [intOf]; omega
            · obtain rfl : t = j := by omega
              have hON2 := hON.drewN m
              go_wp2_with fail
              go_loopw [12] (fun s12 wq => ∃ (s m : Nat), s ≤ q ∧ s12 = .int .i64 s ∧ wq = wr.drewN m) (fun s12 _ => q - (intOf s12).toNat)
              case atStart => exact ⟨0, m, by omega, rfl, rfl⟩
              case round =>
                obtain ⟨s, m, hs, rfl, rfl⟩ := hrel
                by_cases hst : s < q
                · obtain ⟨g', c', p, n, cc, e, hcell, hby⟩ := HG.out.item (t := s) (by rw [HQ.out]; exact hst) m
                  simp only [Value.slice.injEq] at e
                  obtain ⟨rfl, _, rfl⟩ := e
                  have hmk := marked_any _ p _ cc (s / 5) (by omega) hby
                  have HMK := Lib.hid hmk
                  clear hmk hby
                  go_wp2_with fail
                  refine HMK.out.mono ?_
                  rintro e w2 ⟨rfl, m2, rfl⟩
                  go_wp2_with fail
                  go_roundw
                  case rel => exact ⟨s + 1, _, by omega, by go_num, rfl⟩
                  case measure => simp [intOf]; omega
                · obtain rfl : s = q := by omega
                  go_wp2_with fail
                  go_ret
                  exact ⟨rfl, hON.drewN m⟩
end Go.Proofs.YtnnnfhobbnjmfaaGreatDoor
