/-
  Values as trees: their size, their weight, their order. Plain lemmas. It speaks of no program. No conditions.
-/
import Derived.Lib.Bytealg
import Derived.Lib.Hide
namespace Go.Proofs.Ytcbjfakkikjbkaa
set_option linter.all false

/-- a value -/
inductive V where
  | mk (kind num : Int) (text : ByteArray) (list : List V) (elem : Int)

def V.kind : V → Int | .mk k _ _ _ _ => k
def V.num : V → Int | .mk _ n _ _ _ => n
def V.text : V → ByteArray | .mk _ _ t _ _ => t
def V.list : V → List V | .mk _ _ _ l _ => l
def V.elem : V → Int | .mk _ _ _ _ e => e

mutual
def V.sz : V → Nat
  | .mk _ _ _ l _ => 1 + szs l
def szs : List V → Nat
  | [] => 0
  | v :: r => v.sz + szs r
end
mutual
/-- how much the statements follow -/
def V.wt : V → Nat
  | .mk _ _ t l _ => 1 + t.size / 64 + wts l
def wts : List V → Nat
  | [] => 0
  | v :: r => v.wt + wts r
end
theorem V.sz_eq (v : V) : v.sz = 1 + szs v.list := by cases v; simp [V.sz, V.list]
theorem V.wt_eq (v : V) : v.wt = 1 + v.text.size / 64 + wts v.list := by cases v; simp [V.wt, V.list, V.text]
theorem V.sz_pos (v : V) : 1 ≤ v.sz := by rw [V.sz_eq]; omega
theorem V.wt_pos (v : V) : 1 ≤ v.wt := by rw [V.wt_eq]; omega
theorem szs_mem {v : V} {l : List V} (h : v ∈ l) : v.sz ≤ szs l := by
  induction l with
  | nil => cases h
  | cons a r ih =>
    simp only [szs]
    rcases List.mem_cons.1 h with rfl | h
    · omega
    · have := ih h; omega
theorem wts_mem {v : V} {l : List V} (h : v ∈ l) : v.wt ≤ wts l := by
  induction l with
  | nil => cases h
  | cons a r ih =>
    simp only [wts]
    rcases List.mem_cons.1 h with rfl | h
    · omega
    · have := ih h; omega
theorem V.sz_lt {v x : V} (h : x ∈ v.list) : x.sz < v.sz := by rw [v.sz_eq]; have := szs_mem h; omega
theorem V.wt_lt {v x : V} (h : x ∈ v.list) : x.wt < v.wt := by rw [v.wt_eq]; have := wts_mem h; omega
/-- by the parts -/
theorem V.ind {P : V → Prop} (h : ∀ v, (∀ x ∈ v.list, P x) → P v) : ∀ v, P v := by
  intro v
  induction hn : v.sz using Nat.strongRecOn generalizing v with
  | ind n ih => exact h v (fun x hx => ih x.sz (by rw [← hn]; exact V.sz_lt hx) x rfl)
theorem V.ext {a b : V} (h1 : a.kind = b.kind) (h2 : a.num = b.num) (h3 : a.text = b.text) (h4 : a.list = b.list) (h5 : a.elem = b.elem) : a = b := by
  cases a; cases b; simp_all [V.kind, V.num, V.text, V.list, V.elem]
theorem len_le_szs (l : List V) : l.length ≤ szs l := by
  induction l with
  | nil => exact Nat.le_refl _
  | cons a r ih => have := a.sz_pos; simp only [szs, List.length_cons]; omega
theorem len_le_wts (l : List V) : l.length ≤ wts l := by
  induction l with
  | nil => exact Nat.le_refl _
  | cons a r ih => have := a.wt_pos; simp only [wts, List.length_cons]; omega
theorem V.len_lt (v : V) : v.list.length < v.wt := by rw [V.wt_eq]; have := len_le_wts v.list; omega
theorem wts_append (l r : List V) : wts (l ++ r) = wts l + wts r := by
  induction l with
  | nil => simp [wts]
  | cons a t ih => simp only [List.cons_append, wts, ih]; omega
theorem V.text_le (v : V) : v.text.size / 64 < v.wt := by rw [V.wt_eq]; omega

noncomputable instance : DecidableEq V := fun a b => Classical.propDecidable (a = b)
instance : Inhabited V := ⟨.mk 0 0 ByteArray.empty [] 0⟩

/-! ### the weight, as it is reckoned -/
mutual
def wgh : V → Int → Int
  | .mk _ _ t l _, n => wghs l (n + 1 + (t.size / 64 : Nat))
def wghs : List V → Int → Int
  | [], n => n
  | v :: r, n => if n ≤ 100000 then wghs r (wgh v n) else n
end
theorem wgh_eq (v : V) (n : Int) : wgh v n = wghs v.list (n + 1 + (v.text.size / 64 : Nat)) := by cases v; rw [wgh]; rfl
theorem wghs_big {n : Int} (h : 100000 < n) (l : List V) : wghs l n = n := by
  cases l with
  | nil => rw [wghs]
  | cons a r => rw [wghs, if_neg (by omega)]
theorem wgh_spec : ∀ v : V, ∀ n : Int, (n + v.wt ≤ 100000 → wgh v n = n + v.wt) ∧ (100000 < n + v.wt → 100000 < wgh v n) ∧ n < wgh v n := by
  refine V.ind (fun v ih n => ?_)
  have key : ∀ l : List V, (∀ x ∈ l, ∀ n : Int, (n + x.wt ≤ 100000 → wgh x n = n + x.wt) ∧ (100000 < n + x.wt → 100000 < wgh x n) ∧ n < wgh x n) → ∀ n : Int, (n + wts l ≤ 100000 → wghs l n = n + wts l) ∧ (100000 < n + wts l → 100000 < wghs l n) ∧ n ≤ wghs l n := by
    intro l
    induction l with
    | nil => intro _ n; simp [wghs, wts]
    | cons a r ihl =>
      intro h n
      obtain ⟨h1, h2, h3⟩ := h a (List.mem_cons_self ..) n
      have hr := ihl (fun x hx => h x (List.mem_cons_of_mem _ hx))
      obtain ⟨r1, r2, r3⟩ := hr (wgh a n)
      have hp := a.wt_pos
      rw [wghs, wts]
      by_cases hn : n ≤ 100000
      · rw [if_pos hn]
        refine ⟨fun q => ?_, fun q => ?_, by omega⟩
        · have e := h1 (by omega)
          rw [e] at r1 ⊢
          rw [r1 (by omega)]
          omega
        · by_cases hb : 100000 < n + a.wt
          · have e := h2 hb
            rw [wghs_big e]
            exact e
          · have e := h1 (by omega)
            rw [e] at r2 ⊢
            exact r2 (by omega)
      · rw [if_neg hn]
        exact ⟨fun q => by omega, fun q => by omega, Int.le_refl _⟩
  obtain ⟨k1, k2, k3⟩ := key v.list ih (n + 1 + (v.text.size / 64 : Nat))
  rw [wgh_eq, V.wt_eq]
  refine ⟨fun q => ?_, fun q => k2 (by omega), by omega⟩
  rw [k1 (by omega)]
  omega

/-! ### the order -/
def sgnZ (a b : Int) : Int := if a < b then -1 else if b < a then 1 else 0
def thenZ (a b : Int) : Int := if a ≠ 0 then a else b
def cmpT (a b : ByteArray) : Int := Lib.compareBytes a.data.toList b.data.toList
mutual
def ordV : V → V → Int
  | .mk k n t l e, .mk k' n' t' l' e' => thenZ (sgnZ k k') (thenZ (sgnZ n n') (thenZ (cmpT t t') (thenZ (ordL l l') (sgnZ e e'))))
def ordL : List V → List V → Int
  | [], [] => 0
  | [], _ :: _ => -1
  | _ :: _, [] => 1
  | a :: r, b :: s => thenZ (ordV a b) (ordL r s)
end
theorem ordV_eq (a b : V) : ordV a b = thenZ (sgnZ a.kind b.kind) (thenZ (sgnZ a.num b.num) (thenZ (cmpT a.text b.text) (thenZ (ordL a.list b.list) (sgnZ a.elem b.elem)))) := by cases a; cases b; rw [ordV]; rfl

/-- a sign -/
def Sgn (x : Int) : Prop := x = -1 ∨ x = 0 ∨ x = 1
theorem Sgn.then_ {a b : Int} (h : Sgn a) (k : Sgn b) : Sgn (thenZ a b) := by unfold thenZ; split <;> assumption
theorem sgnZ_sgn (a b : Int) : Sgn (sgnZ a b) := by unfold sgnZ Sgn; split; omega; split <;> omega
theorem cmpB_sgn : ∀ a b : List UInt8, Sgn (Lib.compareBytes a b)
  | [], [] => .inr (.inl rfl)
  | [], _ :: _ => .inl rfl
  | _ :: _, [] => .inr (.inr rfl)
  | a :: r, b :: s => by
    unfold Lib.compareBytes
    split
    · exact .inl rfl
    · split
      · exact .inr (.inr rfl)
      · exact cmpB_sgn r s
theorem ordV_sgn : ∀ a b : V, Sgn (ordV a b) := by
  refine V.ind (fun a ih b => ?_)
  have key : ∀ l : List V, (∀ x ∈ l, ∀ b, Sgn (ordV x b)) → ∀ s, Sgn (ordL l s) := by
    intro l
    induction l with
    | nil => intro _ s; cases s <;> simp [ordL, Sgn]
    | cons x r ihl =>
      intro h s
      cases s with
      | nil => simp [ordL, Sgn]
      | cons y s => rw [ordL]; exact (h x (List.mem_cons_self ..) y).then_ (ihl (fun z hz => h z (List.mem_cons_of_mem _ hz)) s)
  rw [ordV_eq]
  exact (sgnZ_sgn _ _).then_ ((sgnZ_sgn _ _).then_ ((cmpB_sgn _ _).then_ ((key a.list ih b.list).then_ (sgnZ_sgn _ _))))

theorem sgnZ_neg (a b : Int) : sgnZ b a = -sgnZ a b := by unfold sgnZ; by_cases h1 : a < b <;> by_cases h2 : b < a <;> simp [h1, h2] <;> omega
theorem thenZ_neg {a b a' b' : Int} (h : a' = -a) (k : b' = -b) : thenZ a' b' = -thenZ a b := by
  subst h k
  unfold thenZ
  by_cases h : a = 0 <;> simp [h]
theorem cmpB_neg : ∀ a b : List UInt8, Lib.compareBytes b a = -Lib.compareBytes a b
  | [], [] => rfl
  | [], _ :: _ => rfl
  | _ :: _, [] => rfl
  | a :: r, b :: s => by
    have ih := cmpB_neg r s
    unfold Lib.compareBytes
    by_cases h1 : a < b
    · have h2 : ¬ b < a := UInt8.lt_asymm h1
      rw [if_neg h2, if_pos h1, if_pos h1]; rfl
    · by_cases h2 : b < a
      · rw [if_pos h2, if_neg h1, if_pos h2]
      · rw [if_neg h1, if_neg h2, if_neg h2, if_neg h1]
        exact ih
theorem ordV_neg : ∀ a b : V, ordV b a = -ordV a b := by
  refine V.ind (fun a ih b => ?_)
  have key : ∀ l : List V, (∀ x ∈ l, ∀ b, ordV b x = -ordV x b) → ∀ s, ordL s l = -ordL l s := by
    intro l
    induction l with
    | nil => intro _ s; cases s <;> simp [ordL]
    | cons x r ihl =>
      intro h s
      cases s with
      | nil => simp [ordL]
      | cons y s => rw [ordL, ordL]; exact thenZ_neg (h x (List.mem_cons_self ..) y) (ihl (fun z hz => h z (List.mem_cons_of_mem _ hz)) s)
  rw [ordV_eq, ordV_eq a b]
  exact thenZ_neg (sgnZ_neg _ _) (thenZ_neg (sgnZ_neg _ _) (thenZ_neg (cmpB_neg _ _) (thenZ_neg (key a.list ih b.list) (sgnZ_neg _ _))))

theorem sgnZ_zero {a b : Int} : sgnZ a b = 0 ↔ a = b := by unfold sgnZ; split; omega; split <;> omega
theorem thenZ_zero {a b : Int} : thenZ a b = 0 ↔ a = 0 ∧ b = 0 := by unfold thenZ; split <;> omega
theorem cmpB_zero : ∀ {a b : List UInt8}, Lib.compareBytes a b = 0 ↔ a = b
  | [], [] => by simp [Lib.compareBytes]
  | [], _ :: _ => by simp [Lib.compareBytes]
  | _ :: _, [] => by simp [Lib.compareBytes]
  | a :: r, b :: s => by
    have ih := @cmpB_zero r s
    unfold Lib.compareBytes
    by_cases h1 : a < b
    · have h : a ≠ b := fun e => by subst e; exact UInt8.lt_irrefl _ h1
      rw [if_pos h1]; simp [h]
    · by_cases h2 : b < a
      · have h : a ≠ b := fun e => by subst e; exact UInt8.lt_irrefl _ h2
        rw [if_neg h1, if_pos h2]; simp [h]
      · have h : a = b := UInt8.le_antisymm (UInt8.not_lt.1 h2) (UInt8.not_lt.1 h1)
        rw [if_neg h1, if_neg h2, ih]; simp [h]
theorem cmpT_zero {a b : ByteArray} : cmpT a b = 0 ↔ a = b := by
  unfold cmpT
  rw [cmpB_zero]
  exact ⟨fun h => by cases a; cases b; congr 1; exact Array.toList_inj.1 h, fun h => by rw [h]⟩
theorem ordV_zero : ∀ {a b : V}, ordV a b = 0 ↔ a = b := by
  have : ∀ a : V, ∀ b, ordV a b = 0 ↔ a = b := by
    refine V.ind (fun a ih b => ?_)
    have key : ∀ l : List V, (∀ x ∈ l, ∀ b, ordV x b = 0 ↔ x = b) → ∀ s, ordL l s = 0 ↔ l = s := by
      intro l
      induction l with
      | nil => intro _ s; cases s <;> simp [ordL]
      | cons x r ihl =>
        intro h s
        cases s with
        | nil => simp [ordL]
        | cons y s => rw [ordL, thenZ_zero, h x (List.mem_cons_self ..) y, ihl (fun z hz => h z (List.mem_cons_of_mem _ hz)) s]; simp
    rw [ordV_eq, thenZ_zero, thenZ_zero, thenZ_zero, thenZ_zero, sgnZ_zero, sgnZ_zero, cmpT_zero, key a.list ih b.list, sgnZ_zero]
    exact ⟨fun ⟨h1, h2, h3, h4, h5⟩ => V.ext h1 h2 h3 h4 h5, fun h => by subst h; simp⟩
  intro a b
  exact this a b

/-- three signs of one order -/
def Tri (x y z : Int) : Prop := x ≤ 0 → y ≤ 0 → z ≤ 0 ∧ (z = 0 ↔ x = 0 ∧ y = 0)
theorem Tri.then_ {x y z x' y' z' : Int} (h : Tri x y z) (k : x = 0 → y = 0 → Tri x' y' z') : Tri (thenZ x x') (thenZ y y') (thenZ z z') := by
  unfold Tri thenZ at *
  intro h1 h2
  have hx : x ≤ 0 := by split at h1 <;> omega
  have hy : y ≤ 0 := by split at h2 <;> omega
  obtain ⟨h3, h4⟩ := h hx hy
  by_cases e : x = 0 ∧ y = 0
  · have hz := h4.2 e
    simp only [e.1, e.2, hz, ne_eq, not_true, if_false] at h1 h2 ⊢
    exact k e.1 e.2 h1 h2
  · have hz : z ≠ 0 := fun q => e (h4.1 q)
    rw [if_pos hz]
    refine ⟨h3, fun q => absurd q hz, fun q => ?_⟩
    exfalso
    apply e
    obtain ⟨q1, q2⟩ := q
    constructor
    · split at q1 <;> omega
    · split at q2 <;> omega
theorem sgnZ_tri (a b c : Int) : Tri (sgnZ a b) (sgnZ b c) (sgnZ a c) := by
  have h : ∀ x y : Int, (x < y ∧ sgnZ x y = -1) ∨ (x = y ∧ sgnZ x y = 0) ∨ (y < x ∧ sgnZ x y = 1) := fun x y => by
    unfold sgnZ
    by_cases h1 : x < y
    · simp [h1]
    · by_cases h2 : y < x
      · simp [h1, h2]
      · simp [h1, h2]; omega
  have h1 := h a b
  have h2 := h b c
  have h3 := h a c
  unfold Tri
  omega
theorem cmpB_tri : ∀ a b c : List UInt8, Tri (Lib.compareBytes a b) (Lib.compareBytes b c) (Lib.compareBytes a c)
  | [], [], [] => by simp [Tri, Lib.compareBytes]
  | [], [], _ :: _ => by simp [Tri, Lib.compareBytes]
  | [], _ :: _, [] => by simp [Tri, Lib.compareBytes]
  | [], _ :: _, _ :: _ => by simp [Tri, Lib.compareBytes]
  | _ :: _, [], _ => by simp [Tri, Lib.compareBytes]
  | _ :: _, _ :: _, [] => by simp [Tri, Lib.compareBytes]
  | a :: r, b :: s, c :: t => by
    have ih := cmpB_tri r s t
    have e : ∀ (x y : UInt8) (p q : List UInt8), Lib.compareBytes (x :: p) (y :: q) = thenZ (sgnZ x.toNat y.toNat) (Lib.compareBytes p q) := fun x y p q => by
      rw [Lib.compareBytes]
      unfold thenZ sgnZ
      by_cases h1 : x < y
      · have : (x.toNat : Int) < y.toNat := by have := UInt8.lt_iff_toNat_lt.1 h1; omega
        simp [h1, this]
      · by_cases h2 : y < x
        · have h3 : (y.toNat : Int) < x.toNat := by have := UInt8.lt_iff_toNat_lt.1 h2; omega
          have h4 : ¬ (x.toNat : Int) < y.toNat := by omega
          simp only [if_neg h1, if_pos h2, if_neg h4, if_pos h3]
          rfl
        · have h3 : ¬ (x.toNat : Int) < y.toNat := fun q => h1 (UInt8.lt_iff_toNat_lt.2 (by omega))
          have h4 : ¬ (y.toNat : Int) < x.toNat := fun q => h2 (UInt8.lt_iff_toNat_lt.2 (by omega))
          simp only [if_neg h1, if_neg h2, if_neg h3, if_neg h4]
          simp
    rw [e, e, e]
    exact (sgnZ_tri _ _ _).then_ (fun _ _ => ih)
theorem ordV_tri : ∀ a b c : V, Tri (ordV a b) (ordV b c) (ordV a c) := by
  refine V.ind (fun a ih b c => ?_)
  have key : ∀ l : List V, (∀ x ∈ l, ∀ b c, Tri (ordV x b) (ordV b c) (ordV x c)) → ∀ s t, Tri (ordL l s) (ordL s t) (ordL l t) := by
    intro l
    induction l with
    | nil => intro _ s t; cases s <;> cases t <;> simp [ordL, Tri]
    | cons x r ihl =>
      intro h s t
      cases s with
      | nil => simp [ordL, Tri]
      | cons y s =>
        cases t with
        | nil => simp [ordL, Tri]
        | cons z t =>
          rw [ordL, ordL, ordL]
          exact (h x (List.mem_cons_self ..) y z).then_ (fun _ _ => ihl (fun w hw => h w (List.mem_cons_of_mem _ hw)) s t)
  rw [ordV_eq a b, ordV_eq b c, ordV_eq a c]
  exact (sgnZ_tri _ _ _).then_ (fun _ _ => (sgnZ_tri _ _ _).then_ (fun _ _ => (cmpB_tri _ _ _).then_ (fun _ _ => (key a.list ih b.list c.list).then_ (fun _ _ => sgnZ_tri _ _ _))))
end Go.Proofs.Ytcbjfakkikjbkaa
