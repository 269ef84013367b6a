/-
  Small lemmas of our own: bytes in memory, numbers of bytes. They speak of no program. No conditions.
-/
import Derived.WalkKit
import Derived.Deep.OwnRows
import Derived.Lib.Hide
import Derived.ProofKit
namespace Go.Proofs.Ytcbjfakkikjbkaa
open Go.RowKit

/-- a slice of bytes in memory, nil or not -/
structure BytesIn (w : World) (a : Option Addr) (n c : Nat) (l : List UInt8) : Prop where
  len : l.length = n
  le : n ≤ c
  cap : c ≤ maxLen
  at_ : 0 < c → ∃ b o, a = some ⟨b, o, none⟩ ∧ b < w.heap.size ∧ ∀ i, i < n → w.cell? ⟨b, o + i, none⟩ = some (.int .u8 (l.getD i 0).toNat)

theorem BytesIn.below {w w' : World} {a : Option Addr} {n c : Nat} {l : List UInt8} (h : BytesIn w a n c l) (hb : Below w.heap.size w w') : BytesIn w' a n c l := by
  obtain ⟨h1, h2, h3, h4⟩ := h
  refine ⟨h1, h2, h3, fun hc => ?_⟩
  obtain ⟨b, o, e, hlt, hcell⟩ := h4 hc
  exact ⟨b, o, e, Nat.lt_of_lt_of_le hlt hb.size, fun i hi => (hb.cell (p := ⟨b, o + i, none⟩) hlt).trans (hcell i hi)⟩

theorem BytesIn.nil (w : World) : BytesIn w none 0 0 [] := ⟨rfl, Nat.le_refl _, Nat.zero_le _, fun h => absurd h (by omega)⟩

/-- numbers of bytes, the highest first -/
def beVal (l : List UInt8) : Nat := l.foldl (fun n x => 256 * n + x.toNat) 0
theorem beVal_snoc (l : List UInt8) (x : UInt8) : beVal (l ++ [x]) = 256 * beVal l + x.toNat := by simp [beVal]
theorem beVal_fold (l : List UInt8) : ∀ (k acc : Nat), acc < 256 ^ k → l.foldl (fun n x => 256 * n + x.toNat) acc < 256 ^ (k + l.length) := by
  induction l with
  | nil => intro k acc h; exact h
  | cons x l ih =>
    intro k acc h
    have hx := x.toNat_lt
    have := ih (k + 1) (256 * acc + x.toNat) (by rw [Nat.pow_succ]; omega)
    rw [List.length_cons, show k + (l.length + 1) = k + 1 + l.length by omega]
    exact this
theorem beVal_lt (l : List UInt8) : beVal l < 256 ^ l.length := by
  have := beVal_fold l 0 0 (by simp)
  simpa [beVal] using this
def byteAt (n wd i : Nat) : Nat := (n / 256 ^ (wd - 1 - i)) % 256

theorem take_succ_getD (l : List UInt8) (k : Nat) (h : k < l.length) : l.take (k + 1) = l.take k ++ [l.getD k 0] := by
  rw [List.take_succ_eq_append_getElem h]
  simp [List.getD_eq_getElem?_getD, h]
theorem drop_take_succ (l : List UInt8) (a k : Nat) (h : a + k < l.length) : (l.drop a).take (k + 1) = (l.drop a).take k ++ [l.getD (a + k) 0] := by
  rw [take_succ_getD _ _ (by rw [List.length_drop]; omega)]
  simp [List.getD_eq_getElem?_getD]

theorem shl8_or (m y : Nat) (hm : 256 * m + 255 < 18446744073709551616) (hy : y < 256) :
    bits BinOp.or IntKind.u64 ((m : Int) * 256) (y : Int) = ((256 * m + y : Nat) : Int) := by
  have e : (m : Int) * 256 = ((m * 256 : Nat) : Int) := by omega
  rw [e, u64_or_nat _ _ (by omega) (by omega), nat_join 8 (m * 256) y (by omega) (by omega)]
  congr 1; omega

/-- a byte as a value -/
def byteV (x : UInt8) : Value := .int .u8 (x.toNat : Int)

/-- 'append(s, y)' onto a row of the call's own: y lies in the one-place block that the statement has just laid -/
theorem wpList_append_one {P : Program} {wr : World} {ops : Array Oper} {rest : List Oper} {o : Oper} {a : Act} {Q : Exit → Act → World → Prop} (hgd : o.guard = none)
    (s x : Operand) (t : TypeId) (ho : o.op = .call { callee := .builtin .append, args := #[s, x], argTypes := #[t, t] })
    (B e : Nat) (z : Value) (bytes : Nat) (ht : P.underlying t = some (.slice e)) (hinfo : (P.info? e).map (fun i => (i.zero, i.size, i.bytes)) = some (some z, 1, bytes)) (hz1 : z.cells.size = 1)
    (v : Value) (n : Nat) (xs : List Value) (y : Value) (hy : y.oneCell' = true)
    (hs : a.eval s = v) (hx : a.eval x = .slice (some ⟨wr.heap.size, 0, none⟩) 1 1) (hown : wr.ownsRow B e 1 v n xs)
    (h63 : n + 1 ≤ maxLen) (hbytes : (n + 1) * bytes ≤ 140737488355328) (hbase : B ≤ wr.heap.size)
    (h : ∀ v' w', w'.ownsRow B e 1 v' (n + 1) (xs ++ [y]) → wr.grownBy w' v.ownBlock → Below B wr w' → wpList P ops Q rest (a.put o.dst v') w') :
    wpList P ops Q (o :: rest) a (wr.alloc (.cells #[y] e)) := by
  obtain ⟨i, hi, hzz⟩ := Option.map_eq_some_iff.1 hinfo
  simp only [Prod.mk.injEq] at hzz
  obtain ⟨hz, hsz, hb⟩ := hzz
  refine wpList_append_own _ hgd s x t ho B e i z 1 bytes ht hi hz hsz hb hz1 (by decide) v n xs hs (hown.alloc _) ⟨wr.heap.size, 0, none⟩ 1 1 [y] hx rfl ?_ ?_ h63 hbytes (by simp; omega) ?_
  · intro j u hj
    match j, hj with
    | 0, hj => simp at hj; subst hj; simp [Addr.add]
  · intro u hu; simp at hu; subst hu; exact hy
  · intro v' w' h1 h2 _
    have hlt := hown.lt
    have hg : wr.grownBy w' v.ownBlock :=
      ⟨h2.os, h2.tape, h2.output, Nat.le_trans (by simp) h2.size, fun k hk hne => (h2.block k (by simp; omega) hne).trans (Below.heap_alloc wr _ k hk)⟩
    exact h v' w' h1 hg ((Below.refl _ _).grown hg hbase fun k hk => (hlt k hk).1)

theorem ownsRow_bytes {w : World} {B T n : Nat} {v : Value} {l : List UInt8} (h : w.ownsRow B T 1 v n (l.map byteV)) :
    ∃ a c, v = .slice a n c ∧ BytesIn w a n c l := by
  obtain ⟨h1, h2⟩ := h
  have hl : l.length = n := by simpa using h1
  rcases h2 with ⟨rfl, rfl⟩ | ⟨g, cap, cur, rfl, hb, hh, hn, hm, hs, ht⟩
  · exact ⟨none, 0, rfl, by simpa using hl, Nat.le_refl _, Nat.zero_le _, fun h => absurd h (by omega)⟩
  · refine ⟨_, _, rfl, hl, hn, hm, fun _ => ⟨g, 0, rfl, (Array.getElem?_eq_some_iff.1 hh).1, fun i hi => ?_⟩⟩
    rw [Nat.mul_one] at ht
    have e : cur.toList[i]? = (l.map byteV)[i]? := by rw [← ht, List.getElem?_take, if_pos hi]
    have e2 : cur[i]? = (l.map byteV)[i]? := by rw [← e]; simp
    simp only [World.cell?, hh, Option.isSome_none, Bool.false_eq_true, if_false, Nat.zero_add]
    rw [e2, List.getElem?_map, List.getD_eq_getElem?_getD]
    have : i < l.length := by omega
    simp [this, byteV]

theorem BytesIn.cell {w : World} {a : Option Addr} {n c : Nat} {l : List UInt8} (h : BytesIn w a n c l) {b o : Nat} (e : a = some ⟨b, o, none⟩) (i : Nat) (hi : i < n) :
    w.cell? ⟨b, o + i, none⟩ = some (.int .u8 (l.getD i 0).toNat) := by
  obtain ⟨b', o', e', _, hc⟩ := h.at_ (by have := h.le; omega)
  rw [e] at e'
  simp only [Option.some.injEq, Addr.mk.injEq] at e'
  obtain ⟨rfl, rfl, _⟩ := e'
  exact hc i hi

/-- a row of bytes of the call's own -/
structure OwnBytes (w : World) (B T : Nat) (v : Value) (l : List UInt8) : Prop where
  row : w.ownsRow B T 1 v l.length (l.map byteV)

theorem OwnBytes.nil (w : World) (B T : Nat) : OwnBytes w B T (.slice none 0 0) [] := ⟨World.ownsRow_nil _ _ _ _⟩
theorem OwnBytes.bytes {w : World} {B T : Nat} {v : Value} {l : List UInt8} (h : OwnBytes w B T v l) : ∃ a c, v = .slice a l.length c ∧ BytesIn w a l.length c l := ownsRow_bytes h.row
theorem OwnBytes.kept {w w' : World} {row : Option Nat} {B T : Nat} {v : Value} {l : List UInt8} (h : OwnBytes w B T v l) (hg : w.grownBy w' row) (hne : v.ownBlock = none ∨ v.ownBlock ≠ row) : OwnBytes w' B T v l := ⟨h.row.kept hg hne⟩
theorem OwnBytes.of_below {w w' : World} {B T : Nat} {v : Value} {l : List UInt8} (h : OwnBytes w B T v l) (hb : Below w.heap.size w w') : OwnBytes w' B T v l := by
  have hlt := h.row.lt
  obtain ⟨h1, h2⟩ := h.row
  refine ⟨h1, ?_⟩
  rcases h2 with h2 | ⟨g, cap, cur, e, hg, hh, r⟩
  · exact .inl h2
  · exact .inr ⟨g, cap, cur, e, hg, by rw [hb.block g (Array.getElem?_eq_some_iff.1 hh).1]; exact hh, r⟩

theorem OwnBytes.some_ {w : World} {B T : Nat} {v : Value} {l : List UInt8} (h : OwnBytes w B T v l) (hl : 0 < l.length) :
    ∃ g cap, v = .slice (some ⟨g, 0, none⟩) l.length cap ∧ B ≤ g ∧ g < w.heap.size ∧ l.length ≤ cap ∧ cap ≤ maxLen := by
  rcases h.row.2 with ⟨_, h0⟩ | ⟨g, cap, cur, e, hg, hh, h1, h2, _⟩
  · omega
  · exact ⟨g, cap, e, hg, (Array.getElem?_eq_some_iff.1 hh).1, h1, h2⟩
theorem OwnBytes.cell {w : World} {B T g n cap : Nat} {l : List UInt8} (h : OwnBytes w B T (.slice (some ⟨g, 0, none⟩) n cap) l) (hn : l.length = n) (j : Nat) (hj : j < n) :
    w.cell? ⟨g, j, none⟩ = some (.int .u8 ((l.getD j 0).toNat : Int)) := by
  have h1 := h.row
  rw [hn] at h1
  rw [h1.cellAt j (by omega), List.getElem?_map, List.getD_eq_getElem?_getD, List.getElem?_eq_getElem (by omega)]
  rfl
theorem OwnBytes.frozen {w : World} {B T g n cap : Nat} {l : List UInt8} (h : OwnBytes w B T (.slice (some ⟨g, 0, none⟩) n cap) l) (hn : l.length = n) (j : Nat) : w.frozen? ⟨g, j, none⟩ = false := by
  have h1 := h.row
  rw [hn] at h1
  exact h1.frozenAt j
theorem OwnBytes.set {w : World} {B T g n cap : Nat} {l : List UInt8} (h : OwnBytes w B T (.slice (some ⟨g, 0, none⟩) n cap) l) (hn : l.length = n) (j : Nat) (y : UInt8) :
    OwnBytes (w.setCell ⟨g, j, none⟩ (.int .u8 (y.toNat : Int))) B T (.slice (some ⟨g, 0, none⟩) n cap) (l.set j y) := by
  have h1 := h.row
  rw [hn] at h1
  have h2 := (h1.stored j (.int .u8 (y.toNat : Int))).1
  refine ⟨?_⟩
  rw [List.length_set, hn, List.map_set]
  exact h2

/-- 'append(s, y)' for a byte -/
theorem wpList_append_byte {P : Program} {wr : World} {ops : Array Oper} {rest : List Oper} {o : Oper} {a : Act} {Q : Exit → Act → World → Prop} (hgd : o.guard = none)
    (s x : Operand) (t : TypeId) (ho : o.op = .call { callee := .builtin .append, args := #[s, x], argTypes := #[t, t] })
    (B e : Nat) (ht : P.underlying t = some (.slice e)) (hinfo : (P.info? e).map (fun i => (i.zero, i.size, i.bytes)) = some (some (.int .u8 0), 1, 1))
    (v : Value) (l : List UInt8) (y : UInt8)
    (hs : a.eval s = v) (hx : a.eval x = .slice (some ⟨wr.heap.size, 0, none⟩) 1 1) (hown : OwnBytes wr B e v l)
    (hlen : l.length + 1 ≤ 140737488355328) (hbase : B ≤ wr.heap.size)
    (h : ∀ v' w', OwnBytes w' B e v' (l ++ [y]) → wr.grownBy w' v.ownBlock → Below B wr w' → wpList P ops Q rest (a.put o.dst v') w') :
    wpList P ops Q (o :: rest) a (wr.alloc (.cells #[.int .u8 (y.toNat : Int)] e)) :=
  wpList_append_one hgd s x t ho B e (.int .u8 0) 1 ht hinfo rfl v l.length (l.map byteV) (.int .u8 (y.toNat : Int)) rfl hs hx hown.row (by unfold maxLen; omega) (by omega) hbase
    fun v' w' h1 h2 h3 => h v' w' ⟨by rw [List.length_append, List.length_singleton, List.map_append]; exact h1⟩ h2 h3

theorem map_take_snoc (l : List UInt8) (k : Nat) (h : k < l.length) : (l.take (k + 1)).map byteV = (l.take k).map byteV ++ [.int .u8 ((l.getD k 0).toNat : Int)] := by
  rw [take_succ_getD l k h]; simp [byteV]

/-- what Put writes -/
def putL (n wd : Nat) : List UInt8 := (List.range wd).map fun i => UInt8.ofNat (byteAt n wd i)
theorem putL_length (n wd : Nat) : (putL n wd).length = wd := by simp [putL]
theorem byteAt_lt (n wd i : Nat) : byteAt n wd i < 256 := Nat.mod_lt _ (by decide)
theorem putL_getD (n wd i : Nat) (h : i < wd) : ((putL n wd).getD i 0).toNat = byteAt n wd i := by
  have hb := byteAt_lt n wd i
  simp only [putL, List.getD_eq_getElem?_getD, List.getElem?_map, List.getElem?_range h, Option.map_some, Option.getD_some, UInt8.toNat_ofNat']
  exact Nat.mod_eq_of_lt hb
theorem beVal_put_take (n wd : Nat) : ∀ k, k ≤ wd → beVal ((putL n wd).take k) = n / 256 ^ (wd - k) % 256 ^ k
  | 0, _ => by simp [beVal, Nat.mod_one]
  | k + 1, h => by
    rw [take_succ_getD _ _ (by rw [putL_length]; omega), beVal_snoc, beVal_put_take n wd k (by omega), putL_getD n wd k (by omega)]
    have e : wd - k = (wd - (k + 1)) + 1 := by omega
    have e2 : wd - 1 - k = wd - (k + 1) := by omega
    unfold byteAt
    rw [e, e2, Nat.pow_succ, ← Nat.div_div_eq_div_mul]
    generalize n / 256 ^ (wd - (k + 1)) = m
    rw [Nat.pow_succ, Nat.mul_comm (256 ^ k) 256, Nat.mod_mul]
    omega
theorem beVal_put (n wd : Nat) : beVal (putL n wd) = n % 256 ^ wd := by
  have h := beVal_put_take n wd wd (Nat.le_refl _)
  rw [List.take_of_length_le (by rw [putL_length]; omega)] at h
  simpa using h

theorem rowIs_bytes {w : World} {b T n : Nat} {f : Nat → Value} (l : List UInt8) (h : w.rowIs b T n f) (hl : l.length = n) (hm : n ≤ maxLen) (hf : ∀ i, i < n → f i = .int .u8 ((l.getD i 0).toNat : Int)) :
    BytesIn w (some ⟨b, 0, none⟩) n n l :=
  ⟨hl, Nat.le_refl _, hm, fun _ => ⟨b, 0, rfl, h.lt, fun i hi => by rw [Nat.zero_add, h.cell hi, hf i hi]⟩⟩

section opens
open Go.ChangeShapes Go.WideShapes Go.ChangeAt
variable {H : Type} {enc : TypeId × Value → H} {P : Program} {w : World} {fuel : Nat} {t e : TypeId} {x : DataW H × List MemPlace} {a : Option Addr} {n c : Nat}

/-- a slice of integers in memory, nil or not -/
structure IntsIn (k : IntKind) (w : World) (a : Option Addr) (n c : Nat) (l : List Int) : Prop where
  len : l.length = n
  le : n ≤ c
  cap : c ≤ maxLen
  wf : ∀ z ∈ l, (Lit.int k z).wf = true
  at_ : 0 < c → ∃ b o, a = some ⟨b, o, none⟩ ∧ b < w.heap.size ∧ ∀ i, i < n → w.cell? ⟨b, o + i, none⟩ = some (.int k (l.getD i 0))

theorem IntsIn.below {k : IntKind} {w w' : World} {a : Option Addr} {n c : Nat} {l : List Int} (h : IntsIn k w a n c l) (hb : Below w.heap.size w w') : IntsIn k w' a n c l := by
  obtain ⟨h1, h2, h3, hw, h4⟩ := h
  refine ⟨h1, h2, h3, hw, fun hc => ?_⟩
  obtain ⟨b, o, e, hlt, hcell⟩ := h4 hc
  exact ⟨b, o, e, Nat.lt_of_lt_of_le hlt hb.size, fun i hi => (hb.cell (p := ⟨b, o + i, none⟩) hlt).trans (hcell i hi)⟩

theorem ints_open {k : IntKind} (ht : P.underlying t = some (.slice e)) (he : P.underlying e = some (.int k)) (hc : P.cellsOf e = 1)
    (h : DataW.trod enc P w 0 (fun _ => true) true fuel t [.slice a n c] = some x) :
    ∃ l, IntsIn k w a n c l ∧ ((n = 0 ∧ x.1 = .nil) ∨ ∃ es sp : List (DataW H), x.1 = .slice es sp ∧ es.length = n ∧ sp.length = c - n) := by
  rcases open_ints ht he hc h with ⟨hcs, hx⟩ | ⟨ad, len, cap, zs, hcs, _, hl, hm, hz, hx, hcell, hwz⟩
  · simp only [List.cons.injEq, Value.slice.injEq, and_true] at hcs
    obtain ⟨rfl, rfl, rfl⟩ := hcs
    exact ⟨[], ⟨rfl, Nat.le_refl _, Nat.zero_le _, fun z hz => by simp at hz, fun h => absurd h (by omega)⟩, .inl ⟨rfl, by rw [hx]⟩⟩
  · simp only [List.cons.injEq, Value.slice.injEq, and_true] at hcs
    obtain ⟨rfl, rfl, rfl⟩ := hcs
    simp only [if_true] at hz
    refine ⟨zs.take n, ⟨by rw [List.length_take]; omega, hl, hm, fun z hz' => hwz z (List.mem_of_mem_take hz'), fun hpos => ?_⟩, .inr ⟨lits k (zs.take n), lits k (zs.drop n), by rw [hx], by simp only [lits, List.length_map, List.length_take]; omega, by simp only [lits, List.length_map, List.length_drop]; omega⟩⟩
    obtain ⟨b, o, spot⟩ := ad
    have h0 := hcell 0 (by omega)
    have hspot : spot = none := by simpa [Addr.add] using World.cell?_spot h0
    subst hspot
    have hadd : ∀ i, (⟨b, o, none⟩ : Addr).add i = ⟨b, o + i, none⟩ := fun i => by unfold Addr.add; split <;> simp_all
    refine ⟨b, o, rfl, ?_, fun i hi => ?_⟩
    · have := World.block_lt_of_cell? w _ h0
      rwa [hadd] at this
    · rw [← hadd, hcell i (by omega)]
      congr 2
      simp only [List.getD_eq_getElem?_getD, List.getElem?_take, if_pos hi]

theorem bytes_of_ints {l : List Int} (h : IntsIn .u8 w a n c l) : BytesIn w a n c (l.map fun z => UInt8.ofNat z.toNat) := by
  obtain ⟨h1, h2, h3, hw, h4⟩ := h
  refine ⟨by simpa using h1, h2, h3, fun hc => ?_⟩
  obtain ⟨b, o, e, hlt, hcell⟩ := h4 hc
  refine ⟨b, o, e, hlt, fun i hi => ?_⟩
  rw [hcell i hi]
  have hi' : i < l.length := by omega
  have hz := hw l[i] (List.getElem_mem hi')
  have hb : 0 ≤ l[i] ∧ l[i] ≤ 255 := by simpa [Lit.wf, IntKind.min, IntKind.max, IntKind.signed, IntKind.bits] using hz
  simp only [List.getD_eq_getElem?_getD, List.getElem?_map, List.getElem?_eq_getElem hi', Option.map_some, Option.getD_some]
  congr 2
  have : (UInt8.ofNat l[i].toNat).toNat = l[i].toNat := by
    rw [UInt8.toNat_ofNat']; exact Nat.mod_eq_of_lt (by omega)
  rw [this]; omega
end opens

theorem bd_i64 {z : Int} (h : (Lit.int .i64 z).wf = true) : -9223372036854775808 ≤ z ∧ z ≤ 9223372036854775807 := by simpa [Lit.wf, IntKind.min, IntKind.max, IntKind.signed, IntKind.bits] using h
theorem bd_u64 {z : Int} (h : (Lit.int .u64 z).wf = true) : ∃ n : Nat, z = n ∧ n < 18446744073709551616 := by
  have hb : 0 ≤ z ∧ z ≤ 18446744073709551615 := by simpa [Lit.wf, IntKind.min, IntKind.max, IntKind.signed, IntKind.bits] using h
  exact ⟨z.toNat, by omega, by omega⟩
theorem bd_u32 {z : Int} (h : (Lit.int .u32 z).wf = true) : ∃ n : Nat, z = n ∧ n < 4294967296 := by
  have hb : 0 ≤ z ∧ z ≤ 4294967295 := by simpa [Lit.wf, IntKind.min, IntKind.max, IntKind.signed, IntKind.bits] using h
  exact ⟨z.toNat, by omega, by omega⟩

theorem BytesIn.sub {w : World} {b o n c : Nat} {l : List UInt8} (h : BytesIn w (some ⟨b, o, none⟩) n c l) (A k : Nat) (hk : A + k ≤ n) : BytesIn w (some ⟨b, o + A, none⟩) k (c - A) ((l.drop A).take k) := by
  have h1 := h.len
  have h2 := h.le
  have h3 := h.cap
  refine ⟨by rw [List.length_take, List.length_drop]; omega, by omega, by omega, fun hc => ?_⟩
  obtain ⟨b', o', e, hlt, hcell⟩ := h.at_ (by omega)
  simp only [Option.some.injEq, Addr.mk.injEq] at e
  obtain ⟨rfl, rfl, _⟩ := e
  refine ⟨b, o + A, rfl, hlt, fun i hi => ?_⟩
  rw [Nat.add_assoc, hcell (A + i) (by omega)]
  simp only [List.getD_eq_getElem?_getD, List.getElem?_take, if_pos hi, List.getElem?_drop]
theorem BytesIn.empty {w : World} (a : Option Addr) : BytesIn w a 0 0 [] := ⟨rfl, Nat.le_refl _, Nat.zero_le _, fun h => absurd h (by omega)⟩
end Go.Proofs.Ytcbjfakkikjbkaa
