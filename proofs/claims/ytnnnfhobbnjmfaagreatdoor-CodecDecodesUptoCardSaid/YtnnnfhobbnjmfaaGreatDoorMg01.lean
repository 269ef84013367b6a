/-
  Lemmas on the codec. Conditions: as each says.
-/
import Derived.Lib.Bytealg
import Derived.Lib.Hide
import Derived.WalkKit
import Derived.Deep.OwnRows
import Derived.ProofKit
import Derived.Laws.AppendOwn
import Derived.Deep.MidRow
import Derived.Deep.Upon
import Derived.Deep.Draws
import Derived.Deep.AppendLies
import Derived.Laws.OwnMore
namespace Go.Proofs.YtnnnfhobbnjmfaaGreatDoor
set_option linter.all false

inductive V where
 | mk (kind num : Int) (text : ByteArray) (list : List V) (elem : Int)

def V.kind : V → Int | .mk k _ _ _ _ => k
def V.num : V → Int | .mk _ n _ _ _ => n
def V.text : V → ByteArray | .mk _ _ t _ _ => t
def V.list : V → List V | .mk _ _ _ l _ => l
def V.elem : V → Int | .mk _ _ _ _ e => e

mutual
def V.sz : V → Nat
 | .mk _ _ _ l _ => 1 + szs l
def szs : List V → Nat
 | [] => 0
 | v :: r => v.sz + szs r
end
mutual
def V.wt : V → Nat
 | .mk _ _ t l _ => 1 + t.size / 64 + wts l
def wts : List V → Nat
 | [] => 0
 | v :: r => v.wt + wts r
end
theorem V.sz_eq (v : V) : v.sz = 1 + szs v.list := by cases v; simp [V.sz, V.list]
theorem V.wt_eq (v : V) : v.wt = 1 + v.text.size / 64 + wts v.list := by cases v; simp [V.wt, V.list, V.text]
theorem V.wt_pos (v : V) : 1 ≤ v.wt := by rw [V.wt_eq]; omega
theorem szs_mem {v : V} {l : List V} (h : v ∈ l) : v.sz ≤ szs l := by
 induction l with
 | nil => cases h
 | cons a r ih =>
  simp only [szs]
  rcases List.mem_cons.1 h with rfl | h
  ·omega
  ·have := ih h; omega
theorem wts_mem {v : V} {l : List V} (h : v ∈ l) : v.wt ≤ wts l := by
 induction l with
 | nil => cases h
 | cons a r ih =>
  simp only [wts]
  rcases List.mem_cons.1 h with rfl | h
  ·omega
  ·have := ih h; omega
theorem V.sz_lt {v x : V} (h : x ∈ v.list) : x.sz < v.sz := by rw [v.sz_eq]; have := szs_mem h; omega
theorem V.wt_lt {v x : V} (h : x ∈ v.list) : x.wt < v.wt := by rw [v.wt_eq]; have := wts_mem h; omega
theorem V.ind {P : V → Prop} (h : ∀ v, (∀ x ∈ v.list, P x) → P v) : ∀ v, P v := by
 intro v
 induction hn : v.sz using Nat.strongRecOn generalizing v with
 | ind n ih => exact h v (fun x hx => ih x.sz (by rw [← hn]; exact V.sz_lt hx) x rfl)
theorem V.ext {a b : V} (h1 : a.kind = b.kind) (h2 : a.num = b.num) (h3 : a.text = b.text) (h4 : a.list = b.list) (h5 : a.elem = b.elem) : a = b := by
 cases a; cases b; simp_all [V.kind, V.num, V.text, V.list, V.elem]
theorem len_le_wts (l : List V) : l.length ≤ wts l := by
 induction l with
 | nil => exact Nat.le_refl _
 | cons a r ih => have := a.wt_pos; simp only [wts, List.length_cons]; omega
theorem V.len_lt (v : V) : v.list.length < v.wt := by rw [V.wt_eq]; have := len_le_wts v.list; omega
theorem wts_append (l r : List V) : wts (l ++ r) = wts l + wts r := by
 induction l with
 | nil => simp [wts]
 | cons a t ih => simp only [List.cons_append, wts, ih]; omega
theorem V.text_le (v : V) : v.text.size / 64 < v.wt := by rw [V.wt_eq]; omega

noncomputable instance : DecidableEq V := fun a b => Classical.propDecidable (a = b)
instance : Inhabited V := ⟨.mk 0 0 ByteArray.empty [] 0⟩

/-! ### the weight, as it is reckoned -/
mutual
def wgh : V → Int → Int
 | .mk _ _ t l _, n => wghs l (n + 1 + (t.size / 64 : Nat))
def wghs : List V → Int → Int
 | [], n => n
 | v :: r, n => if n ≤ 100000 then wghs r (wgh v n) else n
end
/-! ### the order -/
def sgnZ (a b : Int) : Int := if a < b then -1 else if b < a then 1 else 0
def thenZ (a b : Int) : Int := if a ≠ 0 then a else b
def cmpT (a b : ByteArray) : Int := Lib.compareBytes a.data.toList b.data.toList
mutual
def ordV : V → V → Int
 | .mk k n t l e, .mk k' n' t' l' e' => thenZ (sgnZ k k') (thenZ (sgnZ n n') (thenZ (cmpT t t') (thenZ (ordL l l') (sgnZ e e'))))
def ordL : List V → List V → Int
 | [], [] => 0
 | [], _ :: _ => -1
 | _ :: _, [] => 1
 | a :: r, b :: s => thenZ (ordV a b) (ordL r s)
end
theorem ordV_eq (a b : V) : ordV a b = thenZ (sgnZ a.kind b.kind) (thenZ (sgnZ a.num b.num) (thenZ (cmpT a.text b.text) (thenZ (ordL a.list b.list) (sgnZ a.elem b.elem)))) := by cases a; cases b; rw [ordV]; rfl

def Sgn (x : Int) : Prop := x = -1 ∨ x = 0 ∨ x = 1
theorem Sgn.then_ {a b : Int} (h : Sgn a) (k : Sgn b) : Sgn (thenZ a b) := by unfold thenZ; split <;> assumption
theorem sgnZ_neg (a b : Int) : sgnZ b a = -sgnZ a b := by unfold sgnZ; by_cases h1 : a < b <;> by_cases h2 : b < a <;> simp [h1, h2] <;> omega
theorem thenZ_neg {a b a' b' : Int} (h : a' = -a) (k : b' = -b) : thenZ a' b' = -thenZ a b := by
 subst h k
 unfold thenZ
 by_cases h : a = 0 <;> simp [h]
theorem cmpB_neg : ∀ a b : List UInt8, Lib.compareBytes b a = -Lib.compareBytes a b
 | [], [] => rfl
 | [], _ :: _ => rfl
 | _ :: _, [] => rfl
 | a :: r, b :: s => by
  have ih := cmpB_neg r s
  unfold Lib.compareBytes
  by_cases h1 : a < b
  ·have h2 : ¬ b < a := UInt8.lt_asymm h1
   rw [if_neg h2, if_pos h1, if_pos h1]; rfl
  ·by_cases h2 : b < a
   ·rw [if_pos h2, if_neg h1, if_pos h2]
   ·rw [if_neg h1, if_neg h2, if_neg h2, if_neg h1]
    exact ih
theorem ordV_neg : ∀ a b : V, ordV b a = -ordV a b := by
 refine V.ind (fun a ih b => ?_)
 have key : ∀ l : List V, (∀ x ∈ l, ∀ b, ordV b x = -ordV x b) → ∀ s, ordL s l = -ordL l s := by
  intro l
  induction l with
  | nil => intro _ s; cases s <;> simp [ordL]
  | cons x r ihl =>
   intro h s
   cases s with
   | nil => simp [ordL]
   | cons y s => rw [ordL, ordL]; exact thenZ_neg (h x (List.mem_cons_self ..) y) (ihl (fun z hz => h z (List.mem_cons_of_mem _ hz)) s)
 rw [ordV_eq, ordV_eq a b]
 exact thenZ_neg (sgnZ_neg _ _) (thenZ_neg (sgnZ_neg _ _) (thenZ_neg (cmpB_neg _ _) (thenZ_neg (key a.list ih b.list) (sgnZ_neg _ _))))

theorem sgnZ_zero {a b : Int} : sgnZ a b = 0 ↔ a = b := by unfold sgnZ; split; omega; split <;> omega
theorem thenZ_zero {a b : Int} : thenZ a b = 0 ↔ a = 0 ∧ b = 0 := by unfold thenZ; split <;> omega
theorem cmpB_zero : ∀ {a b : List UInt8}, Lib.compareBytes a b = 0 ↔ a = b
 | [], [] => by simp [Lib.compareBytes]
 | [], _ :: _ => by simp [Lib.compareBytes]
 | _ :: _, [] => by simp [Lib.compareBytes]
 | a :: r, b :: s => by
  have ih := @cmpB_zero r s
  unfold Lib.compareBytes
  by_cases h1 : a < b
  ·have h : a ≠ b := fun e => by subst e; exact UInt8.lt_irrefl _ h1
   rw [if_pos h1]; simp [h]
  ·by_cases h2 : b < a
   ·have h : a ≠ b := fun e => by subst e; exact UInt8.lt_irrefl _ h2
    rw [if_neg h1, if_pos h2]; simp [h]
   ·have h : a = b := UInt8.le_antisymm (UInt8.not_lt.1 h2) (UInt8.not_lt.1 h1)
    rw [if_neg h1, if_neg h2, ih]; simp [h]
theorem cmpT_zero {a b : ByteArray} : cmpT a b = 0 ↔ a = b := by
 unfold cmpT
 rw [cmpB_zero]
 exact ⟨fun h => by cases a; cases b; congr 1; exact Array.toList_inj.1 h, fun h => by rw [h]⟩
theorem ordV_zero : ∀ {a b : V}, ordV a b = 0 ↔ a = b := by
 have : ∀ a : V, ∀ b, ordV a b = 0 ↔ a = b := by
  refine V.ind (fun a ih b => ?_)
  have key : ∀ l : List V, (∀ x ∈ l, ∀ b, ordV x b = 0 ↔ x = b) → ∀ s, ordL l s = 0 ↔ l = s := by
   intro l
   induction l with
   | nil => intro _ s; cases s <;> simp [ordL]
   | cons x r ihl =>
    intro h s
    cases s with
    | nil => simp [ordL]
    | cons y s => rw [ordL, thenZ_zero, h x (List.mem_cons_self ..) y, ihl (fun z hz => h z (List.mem_cons_of_mem _ hz)) s]; simp
  rw [ordV_eq, thenZ_zero, thenZ_zero, thenZ_zero, thenZ_zero, sgnZ_zero, sgnZ_zero, cmpT_zero, key a.list ih b.list, sgnZ_zero]
  exact ⟨fun ⟨h1, h2, h3, h4, h5⟩ => V.ext h1 h2 h3 h4 h5, fun h => by subst h; simp⟩
 intro a b
 exact this a b

def Tri (x y z : Int) : Prop := x ≤ 0 → y ≤ 0 → z ≤ 0 ∧ (z = 0 ↔ x = 0 ∧ y = 0)
theorem Tri.then_ {x y z x' y' z' : Int} (h : Tri x y z) (k : x = 0 → y = 0 → Tri x' y' z') : Tri (thenZ x x') (thenZ y y') (thenZ z z') := by
 unfold Tri thenZ at *
 intro h1 h2
 have hx : x ≤ 0 := by split at h1 <;> omega
 have hy : y ≤ 0 := by split at h2 <;> omega
 obtain ⟨h3, h4⟩ := h hx hy
 by_cases e : x = 0 ∧ y = 0
 ·have hz := h4.2 e
  simp only [e.1, e.2, hz, ne_eq, not_true, if_false] at h1 h2 ⊢
  exact k e.1 e.2 h1 h2
 ·have hz : z ≠ 0 := fun q => e (h4.1 q)
  rw [if_pos hz]
  refine ⟨h3, fun q => absurd q hz, fun q => ?_⟩
  exfalso
  apply e
  obtain ⟨q1, q2⟩ := q
  constructor
  ·split at q1 <;> omega
  ·split at q2 <;> omega
theorem sgnZ_tri (a b c : Int) : Tri (sgnZ a b) (sgnZ b c) (sgnZ a c) := by
 have h : ∀ x y : Int, (x < y ∧ sgnZ x y = -1) ∨ (x = y ∧ sgnZ x y = 0) ∨ (y < x ∧ sgnZ x y = 1) := fun x y => by
  unfold sgnZ
  by_cases h1 : x < y
  ·simp [h1]
  ·by_cases h2 : y < x
   ·simp [h1, h2]
   ·simp [h1, h2]; omega
 have h1 := h a b
 have h2 := h b c
 have h3 := h a c
 unfold Tri
 omega
theorem cmpB_tri : ∀ a b c : List UInt8, Tri (Lib.compareBytes a b) (Lib.compareBytes b c) (Lib.compareBytes a c)
 | [], [], [] => by simp [Tri, Lib.compareBytes]
 | [], [], _ :: _ => by simp [Tri, Lib.compareBytes]
 | [], _ :: _, [] => by simp [Tri, Lib.compareBytes]
 | [], _ :: _, _ :: _ => by simp [Tri, Lib.compareBytes]
 | _ :: _, [], _ => by simp [Tri, Lib.compareBytes]
 | _ :: _, _ :: _, [] => by simp [Tri, Lib.compareBytes]
 | a :: r, b :: s, c :: t => by
  have ih := cmpB_tri r s t
  have e : ∀ (x y : UInt8) (p q : List UInt8), Lib.compareBytes (x :: p) (y :: q) = thenZ (sgnZ x.toNat y.toNat) (Lib.compareBytes p q) := fun x y p q => by
   rw [Lib.compareBytes]
   unfold thenZ sgnZ
   by_cases h1 : x < y
   ·have : (x.toNat : Int) < y.toNat := by have := UInt8.lt_iff_toNat_lt.1 h1; omega
    simp [h1, this]
   ·by_cases h2 : y < x
    ·have h3 : (y.toNat : Int) < x.toNat := by have := UInt8.lt_iff_toNat_lt.1 h2; omega
     have h4 : ¬ (x.toNat : Int) < y.toNat := by omega
     simp only [if_neg h1, if_pos h2, if_neg h4, if_pos h3]
     rfl
    ·have h3 : ¬ (x.toNat : Int) < y.toNat := fun q => h1 (UInt8.lt_iff_toNat_lt.2 (by omega))
     have h4 : ¬ (y.toNat : Int) < x.toNat := fun q => h2 (UInt8.lt_iff_toNat_lt.2 (by omega))
     simp only [if_neg h1, if_neg h2, if_neg h3, if_neg h4]
     simp
  rw [e, e, e]
  exact (sgnZ_tri _ _ _).then_ (fun _ _ => ih)
theorem ordV_tri : ∀ a b c : V, Tri (ordV a b) (ordV b c) (ordV a c) := by
 refine V.ind (fun a ih b c => ?_)
 have key : ∀ l : List V, (∀ x ∈ l, ∀ b c, Tri (ordV x b) (ordV b c) (ordV x c)) → ∀ s t, Tri (ordL l s) (ordL s t) (ordL l t) := by
  intro l
  induction l with
  | nil => intro _ s t; cases s <;> cases t <;> simp [ordL, Tri]
  | cons x r ihl =>
   intro h s t
   cases s with
   | nil => simp [ordL, Tri]
   | cons y s =>
    cases t with
    | nil => simp [ordL, Tri]
    | cons z t =>
     rw [ordL, ordL, ordL]
     exact (h x (List.mem_cons_self ..) y z).then_ (fun _ _ => ihl (fun w hw => h w (List.mem_cons_of_mem _ hw)) s t)
 rw [ordV_eq a b, ordV_eq b c, ordV_eq a c]
 exact (sgnZ_tri _ _ _).then_ (fun _ _ => (sgnZ_tri _ _ _).then_ (fun _ _ => (cmpB_tri _ _ _).then_ (fun _ _ => (key a.list ih b.list c.list).then_ (fun _ _ => sgnZ_tri _ _ _))))
end Go.Proofs.YtnnnfhobbnjmfaaGreatDoor

namespace Go.Proofs.YtnnnfhobbnjmfaaGreatDoor
open Go.RowKit

structure BytesIn (w : World) (a : Option Addr) (n c : Nat) (l : List UInt8) : Prop where
 len : l.length = n
 le : n ≤ c
 cap : c ≤ maxLen
 at_ : 0 < c → ∃ b o, a = some ⟨b, o, none⟩ ∧ b < w.heap.size ∧ ∀ i, i < n → w.cell? ⟨b, o + i, none⟩ = some (.int .u8 (l.getD i 0).toNat)

theorem BytesIn.below {w w' : World} {a : Option Addr} {n c : Nat} {l : List UInt8} (h : BytesIn w a n c l) (hb : Below w.heap.size w w') : BytesIn w' a n c l := by
 obtain ⟨h1, h2, h3, h4⟩ := h
 refine ⟨h1, h2, h3, fun hc => ?_⟩
 obtain ⟨b, o, e, hlt, hcell⟩ := h4 hc
 exact ⟨b, o, e, Nat.lt_of_lt_of_le hlt hb.size, fun i hi => (hb.cell (p := ⟨b, o + i, none⟩) hlt).trans (hcell i hi)⟩

theorem BytesIn.nil (w : World) : BytesIn w none 0 0 [] := ⟨rfl, Nat.le_refl _, Nat.zero_le _, fun h => absurd h (by omega)⟩

def beVal (l : List UInt8) : Nat := l.foldl (fun n x => 256 * n + x.toNat) 0
theorem beVal_snoc (l : List UInt8) (x : UInt8) : beVal (l ++ [x]) = 256 * beVal l + x.toNat := by simp [beVal]
theorem beVal_fold (l : List UInt8) : ∀ (k acc : Nat), acc < 256 ^ k → l.foldl (fun n x => 256 * n + x.toNat) acc < 256 ^ (k + l.length) := by
 induction l with
 | nil => intro k acc h; exact h
 | cons x l ih =>
  intro k acc h
  have hx := x.toNat_lt
  have := ih (k + 1) (256 * acc + x.toNat) (by rw [Nat.pow_succ]; omega)
  rw [List.length_cons, show k + (l.length + 1) = k + 1 + l.length by omega]
  exact this
theorem beVal_lt (l : List UInt8) : beVal l < 256 ^ l.length := by
 have := beVal_fold l 0 0 (by simp)
 simpa [beVal] using this
def byteAt (n wd i : Nat) : Nat := (n / 256 ^ (wd - 1 - i)) % 256

theorem take_succ_getD (l : List UInt8) (k : Nat) (h : k < l.length) : l.take (k + 1) = l.take k ++ [l.getD k 0] := by
 rw [List.take_succ_eq_append_getElem h]
 simp [List.getD_eq_getElem?_getD, h]
theorem drop_take_succ (l : List UInt8) (a k : Nat) (h : a + k < l.length) : (l.drop a).take (k + 1) = (l.drop a).take k ++ [l.getD (a + k) 0] := by
 rw [take_succ_getD _ _ (by rw [List.length_drop]; omega)]
 simp [List.getD_eq_getElem?_getD]

theorem shl8_or (m y : Nat) (hm : 256 * m + 255 < 18446744073709551616) (hy : y < 256) :
  bits BinOp.or IntKind.u64 ((m : Int) * 256) (y : Int) = ((256 * m + y : Nat) : Int) := by
 have e : (m : Int) * 256 = ((m * 256 : Nat) : Int) := by omega
 rw [e, u64_or_nat _ _ (by omega) (by omega), nat_join 8 (m * 256) y (by omega) (by omega)]
 congr 1; omega

def byteV (x : UInt8) : Value := .int .u8 (x.toNat : Int)

theorem ownsRow_bytes {w : World} {B T n : Nat} {v : Value} {l : List UInt8} (h : w.ownsRow B T 1 v n (l.map byteV)) :
  ∃ a c, v = .slice a n c ∧ BytesIn w a n c l := by
 obtain ⟨h1, h2⟩ := h
 have hl : l.length = n := by simpa using h1
 rcases h2 with ⟨rfl, rfl⟩ | ⟨g, cap, cur, rfl, hb, hh, hn, hm, hs, ht⟩
 ·exact ⟨none, 0, rfl, by simpa using hl, Nat.le_refl _, Nat.zero_le _, fun h => absurd h (by omega)⟩
 ·refine ⟨_, _, rfl, hl, hn, hm, fun _ => ⟨g, 0, rfl, (Array.getElem?_eq_some_iff.1 hh).1, fun i hi => ?_⟩⟩
  rw [Nat.mul_one] at ht
  have e : cur.toList[i]? = (l.map byteV)[i]? := by rw [← ht, List.getElem?_take, if_pos hi]
  have e2 : cur[i]? = (l.map byteV)[i]? := by rw [← e]; simp
  simp only [World.cell?, hh, Option.isSome_none, Bool.false_eq_true, if_false, Nat.zero_add]
  rw [e2, List.getElem?_map, List.getD_eq_getElem?_getD]
  have : i < l.length := by omega
  simp [this, byteV]

theorem BytesIn.cell {w : World} {a : Option Addr} {n c : Nat} {l : List UInt8} (h : BytesIn w a n c l) {b o : Nat} (e : a = some ⟨b, o, none⟩) (i : Nat) (hi : i < n) :
  w.cell? ⟨b, o + i, none⟩ = some (.int .u8 (l.getD i 0).toNat) := by
 obtain ⟨b', o', e', _, hc⟩ := h.at_ (by have := h.le; omega)
 rw [e] at e'
 simp only [Option.some.injEq, Addr.mk.injEq] at e'
 obtain ⟨rfl, rfl, _⟩ := e'
 exact hc i hi

structure OwnBytes (w : World) (B T : Nat) (v : Value) (l : List UInt8) : Prop where
 row : w.ownsRow B T 1 v l.length (l.map byteV)

theorem OwnBytes.nil (w : World) (B T : Nat) : OwnBytes w B T (.slice none 0 0) [] := ⟨World.ownsRow_nil _ _ _ _⟩
theorem OwnBytes.bytes {w : World} {B T : Nat} {v : Value} {l : List UInt8} (h : OwnBytes w B T v l) : ∃ a c, v = .slice a l.length c ∧ BytesIn w a l.length c l := ownsRow_bytes h.row
theorem OwnBytes.kept {w w' : World} {row : Option Nat} {B T : Nat} {v : Value} {l : List UInt8} (h : OwnBytes w B T v l) (hg : w.grownBy w' row) (hne : v.ownBlock = none ∨ v.ownBlock ≠ row) : OwnBytes w' B T v l := ⟨h.row.kept hg hne⟩
theorem OwnBytes.of_below {w w' : World} {B T : Nat} {v : Value} {l : List UInt8} (h : OwnBytes w B T v l) (hb : Below w.heap.size w w') : OwnBytes w' B T v l := by
 have hlt := h.row.lt
 obtain ⟨h1, h2⟩ := h.row
 refine ⟨h1, ?_⟩
 rcases h2 with h2 | ⟨g, cap, cur, e, hg, hh, r⟩
 ·exact .inl h2
 ·exact .inr ⟨g, cap, cur, e, hg, by rw [hb.block g (Array.getElem?_eq_some_iff.1 hh).1]; exact hh, r⟩

theorem OwnBytes.cell {w : World} {B T g n cap : Nat} {l : List UInt8} (h : OwnBytes w B T (.slice (some ⟨g, 0, none⟩) n cap) l) (hn : l.length = n) (j : Nat) (hj : j < n) :
  w.cell? ⟨g, j, none⟩ = some (.int .u8 ((l.getD j 0).toNat : Int)) := by
 have h1 := h.row
 rw [hn] at h1
 rw [h1.cellAt j (by omega), List.getElem?_map, List.getD_eq_getElem?_getD, List.getElem?_eq_getElem (by omega)]
 rfl
theorem OwnBytes.frozen {w : World} {B T g n cap : Nat} {l : List UInt8} (h : OwnBytes w B T (.slice (some ⟨g, 0, none⟩) n cap) l) (hn : l.length = n) (j : Nat) : w.frozen? ⟨g, j, none⟩ = false := by
 have h1 := h.row
 rw [hn] at h1
 exact h1.frozenAt j
theorem OwnBytes.set {w : World} {B T g n cap : Nat} {l : List UInt8} (h : OwnBytes w B T (.slice (some ⟨g, 0, none⟩) n cap) l) (hn : l.length = n) (j : Nat) (y : UInt8) :
  OwnBytes (w.setCell ⟨g, j, none⟩ (.int .u8 (y.toNat : Int))) B T (.slice (some ⟨g, 0, none⟩) n cap) (l.set j y) := by
 have h1 := h.row
 rw [hn] at h1
 have h2 := (h1.stored j (.int .u8 (y.toNat : Int))).1
 refine ⟨?_⟩
 rw [List.length_set, hn, List.map_set]
 exact h2

def putL (n wd : Nat) : List UInt8 := (List.range wd).map fun i => UInt8.ofNat (byteAt n wd i)
theorem putL_length (n wd : Nat) : (putL n wd).length = wd := by simp [putL]
theorem byteAt_lt (n wd i : Nat) : byteAt n wd i < 256 := Nat.mod_lt _ (by decide)
theorem putL_getD (n wd i : Nat) (h : i < wd) : ((putL n wd).getD i 0).toNat = byteAt n wd i := by
 have hb := byteAt_lt n wd i
 simp only [putL, List.getD_eq_getElem?_getD, List.getElem?_map, List.getElem?_range h, Option.map_some, Option.getD_some, UInt8.toNat_ofNat']
 exact Nat.mod_eq_of_lt hb
theorem beVal_put_take (n wd : Nat) : ∀ k, k ≤ wd → beVal ((putL n wd).take k) = n / 256 ^ (wd - k) % 256 ^ k
 | 0, _ => by simp [beVal, Nat.mod_one]
 | k + 1, h => by
  rw [take_succ_getD _ _ (by rw [putL_length]; omega), beVal_snoc, beVal_put_take n wd k (by omega), putL_getD n wd k (by omega)]
  have e : wd - k = (wd - (k + 1)) + 1 := by omega
  have e2 : wd - 1 - k = wd - (k + 1) := by omega
  unfold byteAt
  rw [e, e2, Nat.pow_succ, ← Nat.div_div_eq_div_mul]
  generalize n / 256 ^ (wd - (k + 1)) = m
  rw [Nat.pow_succ, Nat.mul_comm (256 ^ k) 256, Nat.mod_mul]
  omega
theorem beVal_put (n wd : Nat) : beVal (putL n wd) = n % 256 ^ wd := by
 have h := beVal_put_take n wd wd (Nat.le_refl _)
 rw [List.take_of_length_le (by rw [putL_length]; omega)] at h
 simpa using h

theorem rowIs_bytes {w : World} {b T n : Nat} {f : Nat → Value} (l : List UInt8) (h : w.rowIs b T n f) (hl : l.length = n) (hm : n ≤ maxLen) (hf : ∀ i, i < n → f i = .int .u8 ((l.getD i 0).toNat : Int)) :
  BytesIn w (some ⟨b, 0, none⟩) n n l :=
 ⟨hl, Nat.le_refl _, hm, fun _ => ⟨b, 0, rfl, h.lt, fun i hi => by rw [Nat.zero_add, h.cell hi, hf i hi]⟩⟩

section opens
open Go.ChangeShapes Go.WideShapes Go.ChangeAt
variable {H : Type} {enc : TypeId × Value → H} {P : Program} {w : World} {fuel : Nat} {t e : TypeId} {x : DataW H × List MemPlace} {a : Option Addr} {n c : Nat}

structure IntsIn (k : IntKind) (w : World) (a : Option Addr) (n c : Nat) (l : List Int) : Prop where
 len : l.length = n
 le : n ≤ c
 cap : c ≤ maxLen
 wf : ∀ z ∈ l, (Lit.int k z).wf = true
 at_ : 0 < c → ∃ b o, a = some ⟨b, o, none⟩ ∧ b < w.heap.size ∧ ∀ i, i < n → w.cell? ⟨b, o + i, none⟩ = some (.int k (l.getD i 0))

theorem IntsIn.below {k : IntKind} {w w' : World} {a : Option Addr} {n c : Nat} {l : List Int} (h : IntsIn k w a n c l) (hb : Below w.heap.size w w') : IntsIn k w' a n c l := by
 obtain ⟨h1, h2, h3, hw, h4⟩ := h
 refine ⟨h1, h2, h3, hw, fun hc => ?_⟩
 obtain ⟨b, o, e, hlt, hcell⟩ := h4 hc
 exact ⟨b, o, e, Nat.lt_of_lt_of_le hlt hb.size, fun i hi => (hb.cell (p := ⟨b, o + i, none⟩) hlt).trans (hcell i hi)⟩

theorem ints_open {k : IntKind} (ht : P.underlying t = some (.slice e)) (he : P.underlying e = some (.int k)) (hc : P.cellsOf e = 1)
  (h : DataW.trod enc P w 0 (fun _ => true) true fuel t [.slice a n c] = some x) :
  ∃ l, IntsIn k w a n c l ∧ ((n = 0 ∧ x.1 = .nil) ∨ ∃ es sp : List (DataW H), x.1 = .slice es sp ∧ es.length = n ∧ sp.length = c - n) := by
 rcases open_ints ht he hc h with ⟨hcs, hx⟩ | ⟨ad, len, cap, zs, hcs, _, hl, hm, hz, hx, hcell, hwz⟩
 ·simp only [List.cons.injEq, Value.slice.injEq, and_true] at hcs
  obtain ⟨rfl, rfl, rfl⟩ := hcs
  exact ⟨[], ⟨rfl, Nat.le_refl _, Nat.zero_le _, fun z hz => by simp at hz, fun h => absurd h (by omega)⟩, .inl ⟨rfl, by rw [hx]⟩⟩
 ·simp only [List.cons.injEq, Value.slice.injEq, and_true] at hcs
  obtain ⟨rfl, rfl, rfl⟩ := hcs
  simp only [if_true] at hz
  refine ⟨zs.take n, ⟨by rw [List.length_take]; omega, hl, hm, fun z hz' => hwz z (List.mem_of_mem_take hz'), fun hpos => ?_⟩, .inr ⟨lits k (zs.take n), lits k (zs.drop n), by rw [hx], by simp only [lits, List.length_map, List.length_take]; omega, by simp only [lits, List.length_map, List.length_drop]; omega⟩⟩
  obtain ⟨b, o, spot⟩ := ad
  have h0 := hcell 0 (by omega)
  have hspot : spot = none := by simpa [Addr.add] using World.cell?_spot h0
  subst hspot
  have hadd : ∀ i, (⟨b, o, none⟩ : Addr).add i = ⟨b, o + i, none⟩ := fun i => by unfold Addr.add; split <;> simp_all
  refine ⟨b, o, rfl, ?_, fun i hi => ?_⟩
  ·have := World.block_lt_of_cell? w _ h0
   rwa [hadd] at this
  ·rw [← hadd, hcell i (by omega)]
   congr 2
   simp only [List.getD_eq_getElem?_getD, List.getElem?_take, if_pos hi]

theorem bytes_of_ints {l : List Int} (h : IntsIn .u8 w a n c l) : BytesIn w a n c (l.map fun z => UInt8.ofNat z.toNat) := by
 obtain ⟨h1, h2, h3, hw, h4⟩ := h
 refine ⟨by simpa using h1, h2, h3, fun hc => ?_⟩
 obtain ⟨b, o, e, hlt, hcell⟩ := h4 hc
 refine ⟨b, o, e, hlt, fun i hi => ?_⟩
 rw [hcell i hi]
 have hi' : i < l.length := by omega
 have hz := hw l[i] (List.getElem_mem hi')
 have hb : 0 ≤ l[i] ∧ l[i] ≤ 255 := by simpa [Lit.wf, IntKind.min, IntKind.max, IntKind.signed, IntKind.bits] using hz
 simp only [List.getD_eq_getElem?_getD, List.getElem?_map, List.getElem?_eq_getElem hi', Option.map_some, Option.getD_some]
 congr 2
 have : (UInt8.ofNat l[i].toNat).toNat = l[i].toNat := by
  rw [UInt8.toNat_ofNat']; exact Nat.mod_eq_of_lt (by omega)
 rw [this]; omega
end opens

theorem bd_i64 {z : Int} (h : (Lit.int .i64 z).wf = true) : -9223372036854775808 ≤ z ∧ z ≤ 9223372036854775807 := by simpa [Lit.wf, IntKind.min, IntKind.max, IntKind.signed, IntKind.bits] using h
theorem bd_u64 {z : Int} (h : (Lit.int .u64 z).wf = true) : ∃ n : Nat, z = n ∧ n < 18446744073709551616 := by
 have hb : 0 ≤ z ∧ z ≤ 18446744073709551615 := by simpa [Lit.wf, IntKind.min, IntKind.max, IntKind.signed, IntKind.bits] using h
 exact ⟨z.toNat, by omega, by omega⟩
theorem BytesIn.sub {w : World} {b o n c : Nat} {l : List UInt8} (h : BytesIn w (some ⟨b, o, none⟩) n c l) (A k : Nat) (hk : A + k ≤ n) : BytesIn w (some ⟨b, o + A, none⟩) k (c - A) ((l.drop A).take k) := by
 have h1 := h.len
 have h2 := h.le
 have h3 := h.cap
 refine ⟨by rw [List.length_take, List.length_drop]; omega, by omega, by omega, fun hc => ?_⟩
 obtain ⟨b', o', e, hlt, hcell⟩ := h.at_ (by omega)
 simp only [Option.some.injEq, Addr.mk.injEq] at e
 obtain ⟨rfl, rfl, _⟩ := e
 refine ⟨b, o + A, rfl, hlt, fun i hi => ?_⟩
 rw [Nat.add_assoc, hcell (A + i) (by omega)]
 simp only [List.getD_eq_getElem?_getD, List.getElem?_take, if_pos hi, List.getElem?_drop]
theorem BytesIn.empty {w : World} (a : Option Addr) : BytesIn w a 0 0 [] := ⟨rfl, Nat.le_refl _, Nat.zero_le _, fun h => absurd h (by omega)⟩
theorem gl {α : Type} {xs : Array α} {i : Nat} {a : α} (h : xs[i]? = some a) : i < xs.size := (Array.getElem?_eq_some_iff.1 h).1

def App1 (w w' : World) (base e size n : Nat) (v v' : Value) (xs : List Value) : Prop :=
 (∃ g cap, v = .slice (some ⟨g, 0, none⟩) n cap ∧ v' = .slice (some ⟨g, 0, none⟩) (n + 1) cap ∧ n + 1 ≤ cap ∧ cap ≤ maxLen ∧ w'.ownsRow base e size v' (n + 1) xs ∧ w.grownBy w' (some g)) ∨
 (∃ cap, v' = .slice (some ⟨w.heap.size, 0, none⟩) (n + 1) cap ∧ n + 1 ≤ cap ∧ cap ≤ maxLen ∧ w'.ownsRow w.heap.size e size v' (n + 1) xs ∧ w.grownBy w' none)

section
variable {P : Program}

theorem new_row (w : World) (e : TypeId) (z : Value) (size : Nat) (hzs : z.cells.size = size) (ys : List Value) (k cap : Nat) (hl : ys.length = k * size) (hk : k ≤ cap) (hc : cap ≤ maxLen) :
  (w.drew.alloc (.cells (ys.toArray ++ Builtin.zeroCells z.cells (cap - k)) e)).ownsRow w.heap.size e size (.slice (some ⟨w.heap.size, 0, none⟩) k cap) k ys ∧ w.grownBy (w.drew.alloc (.cells (ys.toArray ++ Builtin.zeroCells z.cells (cap - k)) e)) none := by
 refine ⟨⟨hl, .inr ⟨w.heap.size, cap, _, rfl, Nat.le_refl _, _root_.Go.heap_alloc_new w.drew _, hk, hc, ?_, ?_⟩⟩, ⟨rfl, rfl, rfl, by simp, fun j hj _ => Below.heap_alloc w.drew _ j hj⟩⟩
 ·rw [Array.size_append, List.size_toArray, size_zeroCells, hzs, hl, ← Nat.add_mul]
  congr 1
  omega
 ·rw [Array.toList_append, ← hl]
  exact List.take_left

theorem run_append_two (w : World) (base : Nat) (t ty e : TypeId) (i : TypeInfo) (z : Value) (size bytes : Nat) (ht : P.underlying t = some (.slice e)) (hi : P.info? e = some i) (hz : i.zero = some z)
  (hsize : i.size = size) (hby : i.bytes = bytes) (hzs : z.cells.size = size)
  (v : Value) (n : Nat) (xs : List Value) (hown : w.ownsRow base e size v n xs) (a : Addr) (c : Nat) (news : List Value) (hl : news.length = size) (hnews : ∀ j u, news[j]? = some u → w.cell? (a.add j) = some u) (h1 : ∀ u ∈ news, u.oneCell' = true)
  (h63 : n + 1 ≤ maxLen) (hbytes : (n + 1) * bytes ≤ 140737488355328) :
  ∃ v' w', (Builtin.append_ #[t, t] ty #[v, .slice (some a) 1 c]).run P w = .ok v' w' ∧ App1 w w' base e size n v v' (xs ++ news) := by
 have h64 : n + 1 ≤ 9223372036854775807 := by unfold maxLen at h63; omega
 have hl1 : news.length = 1 * i.size := by rw [hl, hsize, Nat.one_mul]
 have hys : (xs ++ news).length = (n + 1) * size := by rw [List.length_append, hown.1, hl, Nat.succ_mul]
 rcases hown.2 with ⟨rfl, rfl⟩ | ⟨g, cap, cur, rfl, hB, hb, hn, hc, hz2, htk⟩
 ·have hx : xs = [] := List.eq_nil_of_length_eq_zero (by have := hown.1; simpa using this)
  subst hx
  have hr := run_append_nil (P := P) w t ty e i z ht hi hz a 1 c news hl1 hnews (by omega) (by omega) (by rw [hby]; omega)
  refine ⟨_, _, hr, .inr ⟨_, rfl, grownCap_ge w 1 0 e, grownCap_le_maxLen w 1 0 e h63, ?_⟩⟩
  have hnr := new_row w e z size hzs news 1 (grownCap w 1 0 e) (by rw [hl, Nat.one_mul]) (grownCap_ge w 1 0 e) (grownCap_le_maxLen w 1 0 e h63)
  exact hnr
 ·by_cases hroom : n + 1 ≤ cap
  ·have hfit : n * i.size + news.length ≤ cur.size := by
    rw [hl, hsize, hz2, ← Nat.succ_mul]
    exact Nat.mul_le_mul_right _ hroom
   have hr := run_append_room (P := P) w t ty e i ht hi g n cap cur hb a 1 c news hl1 hnews h1 hroom hfit
   refine ⟨_, _, hr, .inl ⟨g, cap, rfl, rfl, hroom, hc, ⟨hys, .inr ⟨g, cap, _, rfl, hB, setRow_heap w g cur _ e _ hb, hroom, hc, ?_, ?_⟩⟩, ⟨rfl, rfl, rfl, by simp, fun k _ hk => setRow_other w g k _ (fun e => hk (by rw [e]))⟩⟩⟩
   ·simp only [List.size_toArray, List.length_append, List.length_take, List.length_drop, Array.length_toList, hsize]
    rw [hsize] at hfit
    omega
   ·rw [hsize, htk]
    have : (n + 1) * size = (xs ++ news).length := hys.symm
    rw [this]
    exact List.take_left
  ·have holds : ∀ j u, xs[j]? = some u → w.cell? ((⟨g, 0, none⟩ : Addr).add j) = some u := hown.cells (g := g) rfl
   have hr := run_append_grow (P := P) w t ty e i z ht hi hz ⟨g, 0, none⟩ n cap xs (by rw [hsize]; exact hown.1) holds a 1 c news hl1 hnews (by omega) (by omega) (growslice_fits (by omega) (by rw [hby]; exact hbytes))
   refine ⟨_, _, hr, .inr ⟨_, rfl, grownCap_ge w (n + 1) cap e, grownCap_le_maxLen w (n + 1) cap e h63, ?_⟩⟩
   have hnr := new_row w e z size hzs (xs ++ news) (n + 1) (grownCap w (n + 1) cap e) hys (grownCap_ge w (n + 1) cap e) (grownCap_le_maxLen w (n + 1) cap e h63)
   rw [← List.append_toArray xs news] at hnr
   exact hnr

theorem wpList_append_two (w : World) {ops : Array Oper} {rest : List Oper} {o : Oper} {a : Act} {Q : Exit → Act → World → Prop} (hgd : o.guard = none) (s x : Operand) (t : TypeId)
  (ho : o.op = .call { callee := .builtin .append, args := #[s, x], argTypes := #[t, t] }) (base : Nat) (e : TypeId) (i : TypeInfo) (z : Value) (size bytes : Nat) (ht : P.underlying t = some (.slice e)) (hi : P.info? e = some i) (hz : i.zero = some z)
  (hsize : i.size = size) (hby : i.bytes = bytes) (hzs : z.cells.size = size) (v : Value) (n : Nat) (xs : List Value) (hs : a.eval s = v) (hown : w.ownsRow base e size v n xs)
  (ad : Addr) (c : Nat) (news : List Value) (hx : a.eval x = .slice (some ad) 1 c) (hl : news.length = size) (hnews : ∀ j u, news[j]? = some u → w.cell? (ad.add j) = some u) (h1 : ∀ u ∈ news, u.oneCell' = true)
  (h63 : n + 1 ≤ maxLen) (hbytes : (n + 1) * bytes ≤ 140737488355328)
  (h : ∀ v' w', App1 w w' base e size n v v' (xs ++ news) → wpList P ops Q rest (a.put o.dst v') w') : wpList P ops Q (o :: rest) a w := by
 refine wpList_plain hgd fun K hK => ?_
 obtain ⟨v', w', hr, h2⟩ := run_append_two w base t o.type e i z size bytes ht hi hz hsize hby hzs v n xs hown ad c news hl hnews h1 h63 hbytes
 unfold Oper.wp execOp
 simp only [ho, resolve, invoke, builtin, Sem.run_bind, Sem.run_pure, Result.andThen_ok, List.map_toArray, List.map_cons, List.map_nil, hs, hx, hr]
 exact hK _ _ (h v' w' h2)
end

theorem App1.slice {w w' : World} {base e size n : Nat} {v v' : Value} {xs : List Value} (h : App1 w w' base e size n v v' xs) : ∃ p c, v' = .slice p (n + 1) c := by
 rcases h with ⟨g, cap, _, h, _⟩ | ⟨cap, h, _⟩
 ·exact ⟨_, _, h⟩
 ·exact ⟨_, _, h⟩
theorem App1.owns {w w' : World} {base e size n : Nat} {v v' : Value} {xs : List Value} (h : App1 w w' base e size n v v' xs) (hb : base ≤ w.heap.size) : w'.ownsRow base e size v' (n + 1) xs := by
 rcases h with ⟨g, cap, _, _, _, _, h, _⟩ | ⟨cap, _, _, _, h, _⟩
 ·exact h
 ·refine ⟨h.1, ?_⟩
  rcases h.2 with hn | ⟨g, cap, cur, hv, hbg, rest⟩
  ·exact .inl hn
  ·exact .inr ⟨g, cap, cur, hv, Nat.le_trans hb hbg, rest⟩
theorem App1.grown {w w' : World} {base e size n : Nat} {v v' : Value} {xs : List Value} (h : App1 w w' base e size n v v' xs) : w.grownBy w' v.ownBlock := by
 rcases h with ⟨g, cap, rfl, _, _, _, _, h⟩ | ⟨cap, _, _, _, _, h⟩
 ·exact h
 ·exact ⟨h.os, h.tape, h.output, h.size, fun j hj _ => h.block j hj (by simp)⟩
theorem App1.own {w w' : World} {base e size n : Nat} {v v' : Value} {xs : List Value} (h : App1 w w' base e size n v v' xs) {j : Nat} (hj : v'.ownBlock = some j) : v.ownBlock = some j ∨ j = w.heap.size := by
 rcases h with ⟨g, cap, rfl, rfl, _⟩ | ⟨cap, rfl, _⟩
 ·exact .inl hj
 ·simp only [Value.ownBlock, Option.some.injEq] at hj
  exact .inr hj.symm

/-! ### a store of several cells -/
def splice (l : List Value) (o : Nat) (vs : List Value) : List Value := l.take o ++ vs ++ l.drop (o + vs.length)
theorem splice_length (l : List Value) (o : Nat) (vs : List Value) (h : o + vs.length ≤ l.length) : (splice l o vs).length = l.length := by
 simp [splice]; omega
theorem splice_cons (l : List Value) (o : Nat) (v : Value) (vs : List Value) (h : o + (vs.length + 1) ≤ l.length) : splice (l.set o v) (o + 1) vs = splice l o (v :: vs) := by
 apply List.ext_getElem?
 intro i
 unfold splice
 have h1 : ((l.set o v).take (o + 1)).length = o + 1 := by simp; omega
 have h2 : (l.take o).length = o := by simp; omega
 by_cases a : i < o
 ·rw [List.append_assoc, List.append_assoc, List.getElem?_append_left (by omega), List.getElem?_append_left (by omega), List.getElem?_take_of_lt (by omega), List.getElem?_take_of_lt a, List.getElem?_set_ne (by omega)]
 ·by_cases b : i = o
  ·subst b
   rw [List.append_assoc, List.getElem?_append_left (by omega), List.getElem?_take_of_lt (by omega), List.getElem?_set_self (by omega), List.append_assoc, List.getElem?_append_right (by omega), h2]
   simp
  ·rw [List.append_assoc, List.append_assoc, List.getElem?_append_right (l₁ := (l.set o v).take (o + 1)) (by omega), List.getElem?_append_right (l₁ := l.take o) (by omega), h1, h2]
   by_cases c : i < o + 1 + vs.length
   ·rw [List.getElem?_append_left (by omega), List.getElem?_append_left (by simp; omega), show i - o = (i - (o + 1)) + 1 by omega, List.getElem?_cons_succ]
   ·rw [List.getElem?_append_right (by omega), List.getElem?_append_right (by simp; omega), List.getElem?_drop, List.getElem?_drop, List.getElem?_set_ne (by omega)]
    congr 1
    simp
    omega
theorem heap_setCells (g : Nat) (t : TypeId) : ∀ (vs : List Value) (o : Nat) (w : World) (C : Array Value), w.heap[g]? = some (.cells C t (0, 0)) → o + vs.length ≤ C.size → (w.setCells g o vs).heap[g]? = some (.cells (splice C.toList o vs).toArray t (0, 0))
 | [], o, w, C, h, _ => by
  simp only [World.setCells, splice, List.append_nil, List.length_nil, Nat.add_zero, List.take_append_drop]
  exact h
 | v :: vs, o, w, C, h, hl => by
  simp only [World.setCells]
  rw [List.length_cons] at hl
  have h1 := heap_setCell_same w g o C t v h
  have h2 := heap_setCells g t vs (o + 1) _ _ h1 (by simp; omega)
  rw [h2]
  congr 2
  rw [Array.toList_setIfInBounds, splice_cons _ _ _ _ (by simp; omega)]
theorem size_setCells (g : Nat) (vs : List Value) (o : Nat) (w : World) : (w.setCells g o vs).heap.size = w.heap.size := by
 induction vs generalizing o w with
 | nil => rfl
 | cons v vs ih => simp only [World.setCells]; rw [ih]; simp [World.setCell]
theorem tape_setCells (g : Nat) (vs : List Value) (o : Nat) (w : World) : (w.setCells g o vs).tape = w.tape := by
 induction vs generalizing o w with
 | nil => rfl
 | cons v vs ih => simp only [World.setCells]; rw [ih]; rfl
theorem setCells_grown (w : World) (g o : Nat) (vs : List Value) : w.grownBy (w.setCells g o vs) (some g) :=
 ⟨World.os_setCells w g o vs, tape_setCells g vs o w, World.output_setCells w g o vs, by rw [size_setCells]; exact Nat.le_refl _, fun k hk hne => World.heap_setCells_other w g o vs hk (fun e => hne (by rw [e]))⟩

/-! ### a row of n elements of K cells each -/
section
variable {e K : Nat}

theorem ownsRow_there {w : World} {B g n cap : Nat} {xs : List Value} (h : w.ownsRow B e K (.slice (some ⟨g, 0, none⟩) n cap) n xs) {k : Nat} (hk : k < n) : w.there g (k * K) K := by
 rcases h.2 with ⟨q, _⟩ | ⟨g', cap', cur, q, _, hb, h1, _, h3, _⟩
 ·simp at q
 ·simp only [Value.slice.injEq, Option.some.injEq, Addr.mk.injEq] at q
  obtain ⟨⟨rfl, _⟩, _, rfl⟩ := q
  intro j hj
  have : k * K + j < cur.size := by
   have : (k + 1) * K ≤ cap * K := Nat.mul_le_mul_right _ (by omega)
   rw [Nat.succ_mul] at this
   omega
  refine ⟨?_, by simp [World.frozen?, hb]⟩
  rw [cell_of_row _ _ _ _ _ _ hb, Array.getElem?_eq_getElem this]
  rfl

theorem ownsRow_set {w : World} {B g n cap : Nat} {xs ms : List Value} (h : w.ownsRow B e K (.slice (some ⟨g, 0, none⟩) n cap) n xs) {k : Nat} (hk : k < n) (hm : ms.length = K) :
  (w.setCells g (k * K) ms).ownsRow B e K (.slice (some ⟨g, 0, none⟩) n cap) n (splice xs (k * K) ms) := by
 have hx := h.1
 have hkn : k * K + K ≤ n * K := by rw [← Nat.succ_mul]; exact Nat.mul_le_mul_right _ hk
 rcases h.2 with ⟨q, _⟩ | ⟨g', cap', cur, q, hB, hb, h1, h2, h3, h4⟩
 ·simp at q
 ·simp only [Value.slice.injEq, Option.some.injEq, Addr.mk.injEq] at q
  obtain ⟨⟨rfl, _⟩, _, rfl⟩ := q
  have hcn : n * K ≤ cap * K := Nat.mul_le_mul_right _ h1
  refine ⟨by rw [splice_length _ _ _ (by rw [hx, hm]; exact hkn)]; exact hx, .inr ⟨g, cap, _, rfl, hB, heap_setCells g e ms (k * K) w cur hb (by rw [hm]; omega), h1, h2, ?_, ?_⟩⟩
  ·rw [List.size_toArray, splice_length cur.toList (k * K) ms (by simp; omega), Array.length_toList]; exact h3
  ·rw [← h4]
   have hc : cur.toList.length = cap * K := by rw [Array.length_toList, h3]
   have h5 : (cur.toList.take (k * K)).length = k * K := by simp; omega
   show (splice cur.toList (k * K) ms).take (n * K) = splice (cur.toList.take (n * K)) (k * K) ms
   unfold splice
   rw [List.take_take, Nat.min_eq_left (by omega), List.take_append, List.length_append, h5, hm, List.take_of_length_le (by rw [List.length_append, h5, hm]; omega), List.drop_take]

theorem ownsRow_cell {w : World} {B g n cap : Nat} {xs : List Value} (h : w.ownsRow B e K (.slice (some ⟨g, 0, none⟩) n cap) n xs) {i : Nat} {u : Value} (hu : xs[i]? = some u) : w.cell? ⟨g, i, none⟩ = some u := by
 rcases h.2 with ⟨q, _⟩ | ⟨g', cap', cur, q, _, hb, h1, _, h3, h4⟩
 ·simp at q
 ·simp only [Value.slice.injEq, Option.some.injEq, Addr.mk.injEq] at q
  obtain ⟨⟨rfl, _⟩, _, rfl⟩ := q
  rw [cell_of_row _ _ _ _ _ _ hb, ← hu, ← h4]
  have hi : i < n * K := by rw [← h.1]; exact (List.getElem?_eq_some_iff.1 hu).1
  rw [List.getElem?_take_of_lt hi, Array.getElem?_toList]

theorem ownsRow_form {w : World} {B n : Nat} {v : Value} {xs : List Value} (h : w.ownsRow B e K v n xs) : ∃ p c, v = .slice p n c ∧ n ≤ c ∧ c ≤ maxLen ∧ (0 < n → ∃ g, p = some ⟨g, 0, none⟩ ∧ B ≤ g ∧ g < w.heap.size) := by
 rcases h.2 with ⟨rfl, rfl⟩ | ⟨g, cap, cur, rfl, hB, hb, h1, h2, _⟩
 ·exact ⟨none, 0, rfl, by omega, Nat.zero_le _, fun q => by omega⟩
 ·exact ⟨_, cap, rfl, h1, h2, fun _ => ⟨g, rfl, hB, (Array.getElem?_eq_some_iff.1 hb).1⟩⟩

theorem ownsRow_keep {w w' : World} {B n : Nat} {v : Value} {xs : List Value} (h : w.ownsRow B e K v n xs) (hk : ∀ j, v.ownBlock = some j → w'.heap[j]? = w.heap[j]?) : w'.ownsRow B e K v n xs := by
 refine ⟨h.1, ?_⟩
 rcases h.2 with hn | ⟨g, cap, cur, hv, hbg, hb, rest⟩
 ·exact .inl hn
 ·exact .inr ⟨g, cap, cur, hv, hbg, (hk g (by rw [hv]; rfl)).trans hb, rest⟩
theorem ownsRow_grown {w w' : World} {B n : Nat} {v : Value} {xs : List Value} {row : Option Nat} (h : w.ownsRow B e K v n xs) (hg : w.grownBy w' row) (hne : v.ownBlock = none ∨ v.ownBlock ≠ row) : w'.ownsRow B e K v n xs :=
 ownsRow_keep h (fun j hj => hg.block j (h.lt j hj).2 (fun q => by
  rcases hne with h1 | h1
  ·rw [h1] at hj; cases hj
  ·exact h1 (hj.trans q)))
theorem ownsRow_off {w : World} {B n : Nat} {v : Value} {xs : List Value} (h : w.ownsRow B e K v n xs) {b T : Nat} {cs : Array Value} {fr : Nat × Nat} (hv : w.heap[b]? = some (.cells cs T fr)) (hT : e ≠ T) : v.ownBlock ≠ some b := by
 intro q
 rcases h.2 with ⟨rfl, _⟩ | ⟨g, cap, cur, rfl, _, hb, _⟩
 ·cases q
 ·simp only [Value.ownBlock, Option.some.injEq] at q
  subst q
  rw [hb] at hv
  simp only [Option.some.injEq, Obj.cells.injEq] at hv
  exact hT hv.2.1
theorem ownsRow_apart {w : World} {B B' e' K' n n' : Nat} {u v : Value} {xs ys : List Value} (hu : w.ownsRow B e K u n xs) (hv : w.ownsRow B' e' K' v n' ys) (hT : e ≠ e') : u.ownBlock = none ∨ u.ownBlock ≠ v.ownBlock := by
 rcases hv.2 with ⟨rfl, _⟩ | ⟨g, cap, cur, rfl, _, hb, _⟩
 ·cases hub : u.ownBlock with
  | none => exact .inl rfl
  | some b => exact .inr (fun q => by cases q)
 ·exact .inr (ownsRow_off hu hb hT)

/-! ### marks -/
def mkRow (ms : List Value) : Nat → List Value
 | 0 => []
 | n + 1 => mkRow ms n ++ ms
theorem mkRow_length {ms : List Value} (hm : ms.length = K) : ∀ n, (mkRow ms n).length = n * K
 | 0 => by simp [mkRow]
 | n + 1 => by rw [mkRow, List.length_append, mkRow_length hm n, hm, Nat.succ_mul]
theorem mkRow_get {ms : List Value} (hm : ms.length = K) : ∀ (n k c : Nat), k < n → c < K → (mkRow ms n)[k * K + c]? = ms[c]?
 | 0, k, c, h, _ => by omega
 | n + 1, k, c, h, hc => by
  rw [mkRow]
  by_cases hk : k < n
  ·have : (k + 1) * K ≤ n * K := Nat.mul_le_mul_right _ hk
   rw [Nat.succ_mul] at this
   rw [List.getElem?_append_left (by rw [mkRow_length hm]; omega)]
   exact mkRow_get hm n k c hk hc
  ·obtain rfl : k = n := by omega
   rw [List.getElem?_append_right (by rw [mkRow_length hm]; omega), mkRow_length hm]
   congr 1
   omega
theorem mkRow_take {ms : List Value} (hm : ms.length = K) {m n : Nat} (h : m ≤ n) : (mkRow ms n).take (m * K) = mkRow ms m := by
 induction n with
 | zero => obtain rfl : m = 0 := by omega
           simp [mkRow]
 | succ n ih =>
  by_cases e : m = n + 1
  ·subst e
   rw [List.take_of_length_le (by rw [mkRow_length hm]; exact Nat.le_refl _)]
  ·have hmn : m ≤ n := by omega
   have := Nat.mul_le_mul_right K hmn
   rw [mkRow, List.take_append_of_le_length (by rw [mkRow_length hm]; exact this)]
   exact ih hmn

def KeptG (e K : Nat) (mk : Nat → List Value) (w : World) (B : Nat) (F : List (Value × Nat × Nat)) : Prop := ∀ u ∈ F, w.ownsRow B e K u.1 u.2.2 (mkRow (mk u.2.1) u.2.2)
def AptG (F : List (Value × Nat × Nat)) (v : Value) (i n : Nat) : Prop := ∀ u ∈ F, u.1.ownBlock = none ∨ u.1.ownBlock ≠ v.ownBlock ∨ (u.2.1 = i ∧ u.2.2 ≤ n)

variable {mk : Nat → List Value}
theorem KeptG.lt {w : World} {B : Nat} {F : List (Value × Nat × Nat)} (h : KeptG e K mk w B F) {u : Value × Nat × Nat} (hu : u ∈ F) {g : Nat} (hg : u.1.ownBlock = some g) : g < w.heap.size := ((h u hu).lt g hg).2

theorem KeptG.step {w w' : World} {B i n : Nat} {v v' : Value} {F : List (Value × Nat × Nat)} (hK : 0 < K) (hm : ∀ i, (mk i).length = K) (h : KeptG e K mk w B F) (ha : AptG F v i n) (ho : w.ownsRow B e K v n (mkRow (mk i) n)) (hA : App1 w w' B e K n v v' (mkRow (mk i) n ++ mk i)) :
  KeptG e K mk w' B F ∧ AptG F v' i (n + 1) := by
 have hg := hA.grown
 refine ⟨fun u hu => ?_, fun u hu => ?_⟩
 ·rcases ha u hu with h1 | h1 | ⟨h1, h2⟩
  ·exact ownsRow_grown (h u hu) hg (.inl h1)
  ·exact ownsRow_grown (h u hu) hg (.inr h1)
  ·by_cases hb : u.1.ownBlock = v.ownBlock
   ·rcases hA with ⟨g, cap, rfl, rfl, hc1, hc2, ho', hg'⟩ | ⟨cap, rfl, _, _, _, hg'⟩
    ·have hu' := h u hu
     refine ⟨hu'.1, ?_⟩
     rcases hu'.2 with hn | ⟨g2, cap2, cur2, hv2, hB2, hh2, a1, a2, a3, a4⟩
     ·exact .inl hn
     ·rw [hv2] at hb
      simp only [Value.ownBlock, Option.some.injEq] at hb
      subst hb
      rcases ho.2 with ⟨q, _⟩ | ⟨g3, cap3, cur3, q, _, hh3, b1, b2, b3, b4⟩
      ·simp at q
      simp only [Value.slice.injEq, Option.some.injEq, Addr.mk.injEq] at q
      obtain ⟨⟨rfl, _⟩, _, rfl⟩ := q
      rw [hh3] at hh2
      simp only [Option.some.injEq, Obj.cells.injEq, and_true] at hh2
      subst hh2
      obtain rfl : cap = cap2 := Nat.eq_of_mul_eq_mul_right hK (b3.symm.trans a3)
      rcases ho'.2 with ⟨q, _⟩ | ⟨g4, cap4, cur4, q, _, hh4, d1, d2, d3, d4⟩
      ·simp at q
      simp only [Value.slice.injEq, Option.some.injEq, Addr.mk.injEq] at q
      obtain ⟨⟨rfl, _⟩, _, rfl⟩ := q
      refine .inr ⟨g2, cap, cur4, hv2, hB2, hh4, a1, a2, d3, ?_⟩
      have hle : u.2.2 * K ≤ (n + 1) * K := Nat.mul_le_mul_right _ (by omega)
      have : (cur4.toList.take ((n + 1) * K)).take (u.2.2 * K) = (mkRow (mk i) (n + 1)).take (u.2.2 * K) := by rw [d4]; rfl
      rw [List.take_take, Nat.min_eq_left hle, mkRow_take (hm i) (by omega)] at this
      rw [this, h1]
    ·exact ownsRow_keep (h u hu) (fun j hj => hg'.block j ((h u hu).lt j hj).2 (by simp))
   ·exact ownsRow_grown (h u hu) hg (.inr hb)
 ·rcases hA with ⟨g, cap, rfl, rfl, _⟩ | ⟨cap, rfl, _⟩
  ·rcases ha u hu with h1 | h1 | ⟨h1, h2⟩
   ·exact .inl h1
   ·exact .inr (.inl h1)
   ·exact .inr (.inr ⟨h1, by omega⟩)
  ·refine .inr (.inl (fun he => ?_))
   have := h.lt hu (g := w.heap.size) (by rw [he]; rfl)
   omega
structure OnlyG (vs : List Value) (w w' : World) : Prop where
 os : w'.os = w.os
 tape : w'.tape = w.tape
 output : w'.output = w.output
 size : w.heap.size ≤ w'.heap.size
 block : ∀ k, k < w.heap.size → (∀ v ∈ vs, v.ownBlock ≠ some k) → w'.heap[k]? = w.heap[k]?

theorem OnlyG.refl (vs : List Value) (w : World) : OnlyG vs w w := ⟨rfl, rfl, rfl, Nat.le_refl _, fun _ _ _ => rfl⟩
theorem OnlyG.drewN {vs : List Value} {w w' : World} (h : OnlyG vs w w') (m : Nat) : OnlyG vs w (w'.drewN m) := ⟨h.os, h.tape, h.output, h.size, h.block⟩
theorem OnlyG.grown {vs : List Value} {w wr w' : World} {row : Option Nat} (h : OnlyG vs w wr) (hg : wr.grownBy w' row) (hr : ∀ k, row = some k → w.heap.size ≤ k ∨ ∃ v ∈ vs, v.ownBlock = some k) : OnlyG vs w w' := by
 refine ⟨hg.os.trans h.os, hg.tape.trans h.tape, hg.output.trans h.output, Nat.le_trans h.size hg.size, fun k hk hn => ?_⟩
 have hs := h.size
 rw [hg.block k (by omega) (fun he => ?_)]
 ·exact h.block k hk hn
 ·rcases hr k he.symm with h1 | ⟨v, hv, h1⟩
  ·omega
  ·exact hn v hv h1
theorem OnlyG.below {vs : List Value} {B : Nat} {w w' : World} (h : OnlyG vs w w') (hB : B ≤ w.heap.size) (hv : ∀ v ∈ vs, ∀ k, v.ownBlock = some k → B ≤ k) : Below B w w' := by
 refine ⟨h.os, h.tape, h.output, h.size, fun k hk => h.block k (by omega) (fun v hv' he => ?_)⟩
 have := hv v hv' k he
 omega
theorem OnlyG.then_ {vs : List Value} {w w1 w2 : World} (h : OnlyG vs w w1) (hb : Below w1.heap.size w1 w2) : OnlyG vs w w2 :=
 ⟨hb.os.trans h.os, hb.tape.trans h.tape, hb.output.trans h.output, Nat.le_trans h.size hb.size, fun k hk hn => (hb.block k (Nat.lt_of_lt_of_le hk h.size)).trans (h.block k hk hn)⟩
theorem OnlyG.trans {vs : List Value} {w w1 w2 : World} (h : OnlyG vs w w1) (k : OnlyG vs w1 w2) : OnlyG vs w w2 :=
 ⟨k.os.trans h.os, k.tape.trans h.tape, k.output.trans h.output, Nat.le_trans h.size k.size, fun j hj hn => (k.block j (Nat.lt_of_lt_of_le hj h.size) hn).trans (h.block j hj hn)⟩
theorem OnlyG.keep {vs : List Value} {w w' : World} (h : OnlyG vs w w') {B n e' K' : Nat} {u : Value} {xs : List Value} (hu : w.ownsRow B e' K' u n xs) (hne : ∀ v ∈ vs, v.ownBlock = none ∨ u.ownBlock ≠ v.ownBlock) : w'.ownsRow B e' K' u n xs :=
 ownsRow_keep hu (fun j hj => h.block j (hu.lt j hj).2 (fun v hv q => by
  rcases hne v hv with h1 | h1
  ·rw [h1] at q; cases q
  ·exact h1 (hj.trans q.symm)))

def DistG (vs : List Value) : Prop := ∀ i j, i < vs.length → j < vs.length → i ≠ j → (vs.getD i default).ownBlock = none ∨ (vs.getD i default).ownBlock ≠ (vs.getD j default).ownBlock

def FillG (e K : Nat) (mk : Nat → List Value) (w : World) (B : Nat) (vs : List Value) (nn : Nat → Nat) (i k : Nat) : Prop :=
 ∀ j, j < vs.length → ∃ l : List Value, w.ownsRow B e K (vs.getD j default) (nn j) l ∧ ∀ m c, m < nn j → c < K → (j < i ∨ (j = i ∧ m < k)) → l[m * K + c]? = (mk j)[c]?

theorem FillG.next {w : World} {B : Nat} {vs : List Value} {nn : Nat → Nat} {i : Nat} (h : FillG e K mk w B vs nn i (nn i)) : FillG e K mk w B vs nn (i + 1) 0 := fun j hj => by
 obtain ⟨l, h2, h3⟩ := h j hj
 refine ⟨l, h2, fun m c hm hc hq => h3 m c hm hc ?_⟩
 rcases hq with hq | ⟨_, hq⟩
 ·by_cases e : j = i
  ·exact .inr ⟨e, by rw [← e]; exact hm⟩
  ·exact .inl (by omega)
 ·omega
theorem FillG.done {w : World} {B : Nat} {vs : List Value} {nn : Nat → Nat} (hK : 0 < K) (hmk : ∀ i, (mk i).length = K) (h : FillG e K mk w B vs nn vs.length 0) (j : Nat) (hj : j < vs.length) : w.ownsRow B e K (vs.getD j default) (nn j) (mkRow (mk j) (nn j)) := by
 obtain ⟨l, h2, h3⟩ := h j hj
 have : l = mkRow (mk j) (nn j) := by
  apply List.ext_getElem?
  intro p
  by_cases hp : p < nn j * K
  ·have e : p = (p / K) * K + p % K := by rw [Nat.mul_comm]; exact (Nat.div_add_mod p K).symm
   have h4 : p / K < nn j := (Nat.div_lt_iff_lt_mul hK).2 hp
   rw [e, h3 _ _ h4 (Nat.mod_lt _ hK) (.inl hj), mkRow_get (hmk j) _ _ _ h4 (Nat.mod_lt _ hK)]
  ·rw [List.getElem?_eq_none (by rw [h2.1]; omega), List.getElem?_eq_none (by rw [mkRow_length (hmk j)]; omega)]
 rw [← this]; exact h2
theorem splice_get (l ms : List Value) (K k m c : Nat) (hl : k * K + K ≤ l.length) (hm : ms.length = K) (hc : c < K) : (splice l (k * K) ms)[m * K + c]? = if m = k then ms[c]? else l[m * K + c]? := by
 have h2 : (l.take (k * K)).length = k * K := by simp; omega
 unfold splice
 by_cases e : m = k
 ·subst e
  rw [if_pos rfl, List.append_assoc, List.getElem?_append_right (by omega), h2, List.getElem?_append_left (by omega)]
  congr 1
  omega
 ·rw [if_neg e]
  by_cases h : m < k
  ·have : (m + 1) * K ≤ k * K := Nat.mul_le_mul_right _ h
   rw [Nat.succ_mul] at this
   rw [List.append_assoc, List.getElem?_append_left (by omega), List.getElem?_take_of_lt (by omega)]
  ·have : (k + 1) * K ≤ m * K := Nat.mul_le_mul_right _ (by omega)
   rw [Nat.succ_mul] at this
   rw [List.getElem?_append_right (by rw [List.length_append]; omega), List.getElem?_drop, List.length_append, h2, hm]
   congr 1
   omega
theorem FillG.set {w : World} {B : Nat} {vs : List Value} {nn : Nat → Nat} {i k g cap : Nat} (hmk : ∀ i, (mk i).length = K) (h : FillG e K mk w B vs nn i k) (hd : DistG vs) (hi : i < vs.length) (hk : k < nn i) (hv : vs.getD i default = .slice (some ⟨g, 0, none⟩) (nn i) cap) :
  FillG e K mk (w.setCells g (k * K) (mk i)) B vs nn i (k + 1) := fun j hj => by
 obtain ⟨l, h2, h3⟩ := h j hj
 by_cases e : j = i
 ·subst e
  rw [hv] at h2
  have hl := h2.1
  have hkn : k * K + K ≤ l.length := by rw [hl, ← Nat.succ_mul]; exact Nat.mul_le_mul_right _ hk
  refine ⟨_, by rw [hv]; exact ownsRow_set h2 hk (hmk j), fun m c hm hc hq => ?_⟩
  rw [splice_get _ _ K k m c hkn (hmk j) hc]
  by_cases e : m = k
  ·rw [if_pos e]
  ·rw [if_neg e]
   exact h3 m c hm hc (by omega)
 ·refine ⟨l, ownsRow_grown h2 (setCells_grown w g _ _) ?_, fun m c hm hc hq => h3 m c hm hc (by omega)⟩
  have := hd j i hj hi e
  rw [hv] at this
  exact this

def rowsG (vs : List Value) (nn : Nat → Nat) : List (Value × Nat × Nat) := (List.range vs.length).map fun j => (vs.getD j default, j, nn j)
theorem mem_rowsG {vs : List Value} {nn : Nat → Nat} {u : Value × Nat × Nat} (h : u ∈ rowsG vs nn) : ∃ j, j < vs.length ∧ u = (vs.getD j default, j, nn j) := by
 simp only [rowsG, List.mem_map, List.mem_range] at h
 obtain ⟨j, hj, rfl⟩ := h
 exact ⟨j, hj, rfl⟩
theorem rowsG_mem {vs : List Value} {nn : Nat → Nat} {j : Nat} (hj : j < vs.length) : (vs.getD j default, j, nn j) ∈ rowsG vs nn := by
 simp only [rowsG, List.mem_map, List.mem_range]; exact ⟨j, hj, rfl⟩

def FromG (vs : List Value) (S : Nat) (v : Value) (i : Nat) : Prop := v.ownBlock = (vs.getD i default).ownBlock ∨ ∃ g, v.ownBlock = some g ∧ S ≤ g

structure GSG (e K st per : Nat) (mk : Nat → List Value) (w wr : World) (B : Nat) (vs : List Value) (nn : Nat → Nat) (gv : Value) (G : List (Value × Nat × Nat)) (i : Nat) : Prop where
 only : OnlyG vs w wr
 kept : KeptG e K mk wr B (rowsG vs nn ++ G)
 row : wr.ownsRow w.heap.size st 1 gv G.length (G.map (·.1))
 idx : ∀ t, t < G.length → (G.getD t default).2.1 = t / per
 from_ : ∀ u ∈ G, u.2.1 ≤ i ∧ FromG vs w.heap.size u.1 u.2.1

structure GKG (e K st per : Nat) (mk : Nat → List Value) (w wr : World) (B : Nat) (vs : List Value) (nn : Nat → Nat) (gv : Value) (G : List (Value × Nat × Nat)) (i n : Nat) (v : Value) : Prop extends GSG e K st per mk w wr B vs nn gv G i where
 own : wr.ownsRow B e K v n (mkRow (mk i) n)
 apt : AptG (rowsG vs nn ++ G) v i n
 vfrom : FromG vs w.heap.size v i

variable {st per : Nat}
theorem GSG.start {w wr : World} {B : Nat} {vs : List Value} {nn : Nat → Nat} (hK : 0 < K) (hmk : ∀ i, (mk i).length = K) (ho : OnlyG vs w wr) (hf : FillG e K mk wr B vs nn vs.length 0) : GSG e K st per mk w wr B vs nn (.slice none 0 0) [] 0 :=
 ⟨ho, fun u hu => by
  rw [List.append_nil] at hu
  obtain ⟨j, hj, rfl⟩ := mem_rowsG hu
  exact hf.done hK hmk j hj, World.ownsRow_nil _ _ _ _, fun t ht => absurd ht (Nat.not_lt_zero _), fun u hu => by simp at hu⟩

theorem GSG.begin {w wr : World} {B : Nat} {vs : List Value} {nn : Nat → Nat} {gv : Value} {G : List (Value × Nat × Nat)} {i : Nat} (h : GSG e K st per mk w wr B vs nn gv G i) (hG : ∀ u ∈ G, u.2.1 < i) (hi : i < vs.length) (hd : DistG vs)
  (hlt : ∀ j, j < vs.length → ∀ g, (vs.getD j default).ownBlock = some g → g < w.heap.size) : GKG e K st per mk w wr B vs nn gv G i (nn i) (vs.getD i default) := by
 refine { h with own := ?_, apt := fun u hu => ?_, vfrom := .inl rfl }
 ·exact h.kept (vs.getD i default, i, nn i) (List.mem_append_left _ (rowsG_mem hi))
 ·rcases List.mem_append.1 hu with hu | hu
  ·obtain ⟨j, hj, rfl⟩ := mem_rowsG hu
   by_cases e : j = i
   ·exact .inr (.inr ⟨e, by subst e; exact Nat.le_refl _⟩)
   ·rcases hd j i hj hi e with h1 | h1
    ·exact .inl h1
    ·exact .inr (.inl h1)
  ·have hj := hG u hu
   rcases (h.from_ u hu).2 with h1 | ⟨g, h1, h2⟩
   ·rcases hd u.2.1 i (by omega) hi (by omega) with h3 | h3
    ·exact .inl (h1.trans h3)
    ·exact .inr (.inl (by rw [h1]; exact h3))
   ·refine .inr (.inl (fun he => ?_))
    have := hlt i hi g (by rw [← he, h1])
    omega

theorem GSG.below {w wr w' : World} {B : Nat} {vs : List Value} {nn : Nat → Nat} {gv : Value} {G : List (Value × Nat × Nat)} {i : Nat} (h : GSG e K st per mk w wr B vs nn gv G i) (hb : Below wr.heap.size wr w') : GSG e K st per mk w w' B vs nn gv G i :=
 ⟨h.only.then_ hb, fun u hu => ownsRow_keep (h.kept u hu) (fun j hj => hb.block j ((h.kept u hu).lt j hj).2), ownsRow_keep h.row (fun j hj => hb.block j (h.row.lt j hj).2), h.idx, h.from_⟩
theorem GKG.below {w wr w' : World} {B : Nat} {vs : List Value} {nn : Nat → Nat} {gv v : Value} {G : List (Value × Nat × Nat)} {i n : Nat} (h : GKG e K st per mk w wr B vs nn gv G i n v) (hb : Below wr.heap.size wr w') : GKG e K st per mk w w' B vs nn gv G i n v :=
 { h.toGSG.below hb with own := ownsRow_keep h.own (fun j hj => hb.block j (h.own.lt j hj).2), apt := h.apt, vfrom := h.vfrom }

theorem GKG.put {w wr w' : World} {B : Nat} {vs : List Value} {nn : Nat → Nat} {gv v v' : Value} {G : List (Value × Nat × Nat)} {i n : Nat} (hK : 0 < K) (hmk : ∀ i, (mk i).length = K) (hst : e ≠ st) (h : GKG e K st per mk w wr B vs nn gv G i n v) (hi : i < vs.length) (hB : B ≤ wr.heap.size)
  (hA : App1 wr w' B e K n v v' (mkRow (mk i) n ++ mk i)) : GKG e K st per mk w w' B vs nn gv G i (n + 1) v' := by
 obtain ⟨hk, ha⟩ := h.kept.step hK hmk h.apt h.own hA
 have hg := hA.grown
 have hvm : vs.getD i default ∈ vs := by
  rw [List.getD_eq_getElem?_getD, List.getElem?_eq_getElem hi]; exact List.getElem_mem hi
 refine { only := h.only.grown hg ?_, kept := hk, row := ?_, idx := h.idx, from_ := h.from_, own := hA.owns hB, apt := ha, vfrom := ?_ }
 ·intro k hk
  rcases h.vfrom with h1 | ⟨g, h1, h2⟩
  ·exact .inr ⟨_, hvm, by rw [← h1, hk]⟩
  ·rw [h1] at hk
   simp only [Option.some.injEq] at hk
   exact .inl (by omega)
 ·exact ownsRow_grown h.row hg (ownsRow_apart h.row h.own hst.symm)
 ·rcases hA with ⟨g, cap, rfl, rfl, _⟩ | ⟨cap, rfl, _⟩
  ·exact h.vfrom
  ·exact .inr ⟨_, rfl, h.only.size⟩

theorem GSG.note {w wr w' : World} {B : Nat} {vs : List Value} {nn : Nat → Nat} {gv gv' u : Value} {G : List (Value × Nat × Nat)} {i n : Nat} (hst : e ≠ st) (h : GSG e K st per mk w wr B vs nn gv G i) (hu : wr.ownsRow B e K u n (mkRow (mk i) n)) (huf : FromG vs w.heap.size u i) (hi : G.length / per = i)
  (hr : w'.ownsRow w.heap.size st 1 gv' (G.length + 1) (G.map (·.1) ++ [u])) (hg : wr.grownBy w' gv.ownBlock) : GSG e K st per mk w w' B vs nn gv' (G ++ [(u, i, n)]) i := by
 have hty : ∀ {u : Value} {m : Nat} {l : List Value}, wr.ownsRow B e K u m l → u.ownBlock = none ∨ u.ownBlock ≠ gv.ownBlock := fun hu => ownsRow_apart hu h.row hst
 have hk : ∀ x ∈ rowsG vs nn ++ (G ++ [(u, i, n)]), x ∈ rowsG vs nn ++ G ∨ x = (u, i, n) := fun x hx => by
  rw [← List.append_assoc] at hx
  rcases List.mem_append.1 hx with hx | hx
  ·exact .inl hx
  ·exact .inr (by simpa using hx)
 refine { only := h.only.grown hg ?_, kept := fun x hx => ?_, row := ?_, idx := fun t ht => ?_, from_ := fun x hx => ?_ }
 ·intro k hk
  exact .inl (h.row.lt k hk).1
 ·rcases hk x hx with hx | rfl
  ·exact ownsRow_grown (h.kept x hx) hg (hty (h.kept x hx))
  ·exact ownsRow_grown hu hg (hty hu)
 ·rw [List.length_append, List.length_singleton, List.map_append]; exact hr
 ·rw [List.length_append, List.length_singleton] at ht
  by_cases e : t < G.length
  ·rw [List.getD_eq_getElem?_getD, List.getElem?_append_left e, ← List.getD_eq_getElem?_getD]; exact h.idx t e
  ·have : t = G.length := by omega
   subst this
   simp [hi]
 ·rcases List.mem_append.1 hx with hx | hx
  ·exact h.from_ x hx
  ·obtain rfl : x = (u, i, n) := by simpa using hx
   exact ⟨Nat.le_refl _, huf⟩
theorem GKG.note {w wr w' : World} {B : Nat} {vs : List Value} {nn : Nat → Nat} {gv gv' v : Value} {G : List (Value × Nat × Nat)} {i n : Nat} (hst : e ≠ st) (h : GKG e K st per mk w wr B vs nn gv G i n v) (hi : G.length / per = i)
  (hr : w'.ownsRow w.heap.size st 1 gv' (G.length + 1) (G.map (·.1) ++ [v])) (hg : wr.grownBy w' gv.ownBlock) : GKG e K st per mk w w' B vs nn gv' (G ++ [(v, i, n)]) i n v := by
 refine { h.toGSG.note hst h.own h.vfrom hi hr hg with own := ownsRow_grown h.own hg (ownsRow_apart h.own h.row hst), apt := fun x hx => ?_, vfrom := h.vfrom }
 rw [← List.append_assoc] at hx
 rcases List.mem_append.1 hx with hx | hx
 ·exact h.apt x hx
 ·obtain rfl : x = (v, i, n) := by simpa using hx
  exact .inr (.inr ⟨rfl, Nat.le_refl _⟩)
theorem GSG.next {w wr : World} {B : Nat} {vs : List Value} {nn : Nat → Nat} {gv : Value} {G : List (Value × Nat × Nat)} {i : Nat} (h : GSG e K st per mk w wr B vs nn gv G i) : GSG e K st per mk w wr B vs nn gv G (i + 1) :=
 { h with from_ := fun u hu => ⟨Nat.le_succ_of_le (h.from_ u hu).1, (h.from_ u hu).2⟩ }
theorem GSG.list {w wr : World} {B : Nat} {vs : List Value} {nn : Nat → Nat} {gv : Value} {G : List (Value × Nat × Nat)} {i : Nat} (h : GSG e K st per mk w wr B vs nn gv G i) {j : Nat} (hj : j < vs.length) : wr.ownsRow B e K (vs.getD j default) (nn j) (mkRow (mk j) (nn j)) :=
 h.kept _ (List.mem_append_left _ (rowsG_mem hj))
theorem GSG.item {w wr : World} {B : Nat} {vs : List Value} {nn : Nat → Nat} {gv : Value} {G : List (Value × Nat × Nat)} {i : Nat} (h : GSG e K st per mk w wr B vs nn gv G i) {t : Nat} (ht : t < G.length) :
  ∃ g c u n, gv = .slice (some ⟨g, 0, none⟩) G.length c ∧ wr.cell? ⟨g, t, none⟩ = some u ∧ wr.ownsRow B e K u n (mkRow (mk (t / per)) n) := by
 obtain ⟨g, c, rfl, _, _⟩ := h.row.form (by omega)
 have hm : G.getD t default ∈ G := by
  rw [List.getD_eq_getElem?_getD, List.getElem?_eq_getElem ht]; exact List.getElem_mem ht
 have h2 := h.kept _ (List.mem_append_right _ hm)
 rw [h.idx t ht] at h2
 refine ⟨g, c, _, _, rfl, ?_, h2⟩
 rw [h.row.cellAt t (by omega), List.getElem?_map, List.getD_eq_getElem?_getD, List.getElem?_eq_getElem ht]
 rfl
end
end Go.Proofs.YtnnnfhobbnjmfaaGreatDoor
