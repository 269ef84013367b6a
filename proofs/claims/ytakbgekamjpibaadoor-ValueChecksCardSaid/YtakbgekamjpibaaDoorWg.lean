/-
  What Check answers, as a law of values: each part stands alone, and none lies too deep. Plain lemmas. No conditions.
-/
import Derived.Test.YtakbgekamjpibaaDoorWf
import Derived.Test.YtakbgekamjpibaaDoorWe
import Derived.Test.YtakbgekamjpibaaDoorVs
namespace Go.Proofs.YtakbgekamjpibaaDoor
open Go.RowKit
set_option linter.unusedVariables false

theorem firstBad_zero (L : List (Int × V)) : firstBad L = 0 ↔ ∀ p ∈ L, aloneC p.2 p.1 = 0 := by
  induction L with
  | nil => simp [firstBad]
  | cons a r ih =>
    obtain ⟨d, x⟩ := a
    rw [firstBad]
    by_cases h : aloneC x d = 0
    · rw [if_pos h, ih]
      constructor
      · intro q p hp
        rcases List.mem_cons.1 hp with rfl | hp
        · exact h
        · exact q p hp
      · intro q p hp
        exact q p (List.mem_cons_of_mem _ hp)
    · rw [if_neg h]
      constructor
      · intro q; exact (h q).elim
      · intro q; exact (h (q _ (List.mem_cons_self ..))).elim
theorem aloneC_iff (x : V) (d : Int) (hd : 1 ≤ d) : aloneC x d = 0 ↔ aloneC x 1 = 0 ∧ d ≤ 32 := by
  by_cases h0 : x.kind < 0
  · simp [aloneC, h0]
  · by_cases h1 : 24 < x.kind
    · simp [aloneC, h0, h1]
    · by_cases h2 : 32 < d
      · simp only [aloneC, if_neg h0, if_neg h1, if_pos h2]
        constructor
        · intro q; omega
        · intro q; omega
      · simp only [aloneC, if_neg h0, if_neg h1, if_neg h2, if_neg (show ¬ (32 : Int) < 1 by omega)]
        exact ⟨fun q => ⟨q, by omega⟩, fun q => q.1⟩
/-- each part by itself -/
def AllOk (v : V) (d : Int) : Prop := ∀ p ∈ v.pre d, aloneC p.2 1 = 0
theorem mem_pres {l : List V} {d : Int} {p : Int × V} : p ∈ pres l d ↔ ∃ x ∈ l, p ∈ x.pre d := by
  induction l with
  | nil => simp [pres]
  | cons a r ih => simp [pres, ih]
theorem pre_depth : ∀ (v : V) (d : Int) (p : Int × V), p ∈ v.pre d → d ≤ p.1 ∧ p.1 ≤ d - 1 + v.dep := by
  refine V.ind (fun v ih d p hp => ?_)
  have hb := (dep_bd v).1
  rw [V.pre_eq] at hp
  rcases List.mem_cons.1 hp with rfl | hp
  · exact ⟨Int.le_refl _, by simp only; omega⟩
  · obtain ⟨x, hx, hp⟩ := mem_pres.1 hp
    have h1 := ih x hx _ _ hp
    have h2 : x.dep + 1 ≤ v.dep := by
      have key : ∀ (l : List V) (n : Int), 0 ≤ n → x ∈ l → x.dep ≤ deps l n := by
        intro l
        induction l with
        | nil => intro n _ h; cases h
        | cons a r ih2 =>
          intro n hn h
          rw [deps, deps_mono r _ (by have := (dep_bd a).1; omega)]
          rcases List.mem_cons.1 h with rfl | h
          · omega
          · have := ih2 0 (Int.le_refl _) h; omega
      have := key v.list 0 (Int.le_refl _) hx
      rw [v.dep_eq]
      omega
    omega
theorem allOk_iff (v : V) (d : Int) : AllOk v d ↔ aloneC v 1 = 0 ∧ ∀ x ∈ v.list, AllOk x (d + 1) := by
  unfold AllOk
  rw [V.pre_eq]
  constructor
  · intro h
    exact ⟨h (d, v) (List.mem_cons_self ..), fun x hx p hp => h p (List.mem_cons_of_mem _ (mem_pres.2 ⟨x, hx, hp⟩))⟩
  · rintro ⟨h1, h2⟩ p hp
    rcases List.mem_cons.1 hp with rfl | hp
    · exact h1
    · obtain ⟨x, hx, hp⟩ := mem_pres.1 hp
      exact h2 x hx p hp
theorem allOk_any : ∀ (v : V) (d e : Int), AllOk v d ↔ AllOk v e := by
  refine V.ind (fun v ih d e => ?_)
  rw [allOk_iff, allOk_iff]
  exact ⟨fun h => ⟨h.1, fun x hx => (ih x hx _ _).1 (h.2 x hx)⟩, fun h => ⟨h.1, fun x hx => (ih x hx _ _).1 (h.2 x hx)⟩⟩
theorem deps_max (l : List V) (n : Int) (h : ∀ x ∈ l, x.dep ≤ n) (hn : 0 ≤ n) : deps l 0 ≤ n := by
  induction l with
  | nil => rw [deps]; exact hn
  | cons a r ih =>
    rw [deps, deps_mono r _ (by have := (dep_bd a).1; omega)]
    have h1 := h a (List.mem_cons_self ..)
    have h2 := ih (fun x hx => h x (List.mem_cons_of_mem _ hx))
    omega
/-- there is a part at the greatest depth -/
theorem pre_deepest : ∀ (v : V) (d n : Int), (∀ p ∈ v.pre d, p.1 ≤ n) → d - 1 + v.dep ≤ n := by
  refine V.ind (fun v ih d n h => ?_)
  rw [V.pre_eq] at h
  have h0 := h (d, v) (List.mem_cons_self ..)
  have h1 := deps_max v.list (n - d) (fun x hx => by
    have := ih x hx (d + 1) n (fun p hp => h p (List.mem_cons_of_mem _ (mem_pres.2 ⟨x, hx, hp⟩)))
    omega) (by simp only at h0; omega)
  rw [v.dep_eq]
  omega
/-- Check as a law -/
theorem check_law (v : V) (d : Int) (hd : 1 ≤ d) : firstBad (v.pre d) = 0 ↔ AllOk v 1 ∧ d - 1 + v.dep ≤ 32 := by
  rw [firstBad_zero]
  constructor
  · intro h
    refine ⟨(allOk_any v 1 d).2 (fun p hp => ((aloneC_iff p.2 p.1 (by have := (pre_depth v d p hp).1; omega)).1 (h p hp)).1), pre_deepest v d 32 (fun p hp => ((aloneC_iff p.2 p.1 (by have := (pre_depth v d p hp).1; omega)).1 (h p hp)).2)⟩
  · rintro ⟨h1, h2⟩ p hp
    have h3 := pre_depth v d p hp
    exact (aloneC_iff p.2 p.1 (by omega)).2 ⟨(allOk_any v 1 d).1 h1 p hp, by omega⟩
/-- what is told of a right value is right, and no deeper -/
theorem pre_part : ∀ (v : V) (d : Int) (p : Int × V), p ∈ v.pre d → p.1 - 1 + p.2.dep ≤ d - 1 + v.dep ∧ (∀ e, AllOk v e → ∀ e', AllOk p.2 e') := by
  refine V.ind (fun v ih d p hp => ?_)
  rw [V.pre_eq] at hp
  rcases List.mem_cons.1 hp with rfl | hp
  · exact ⟨Int.le_refl _, fun e h e' => (allOk_any v e' e).2 h⟩
  · obtain ⟨x, hx, hp⟩ := mem_pres.1 hp
    obtain ⟨h1, h2⟩ := ih x hx _ _ hp
    have h3 := pre_deepest x (d + 1) (d - 1 + v.dep) (fun q hq => (pre_depth v d q (by rw [V.pre_eq]; exact List.mem_cons_of_mem _ (mem_pres.2 ⟨x, hx, hq⟩))).2)
    exact ⟨by omega, fun e h e' => h2 (e + 1) (((allOk_iff v e).1 h).2 x hx) e'⟩
theorem listed_law (v : V) : firstBad ((V.listed [v]).pre 1) = 0 ↔ firstBad (v.pre 1) = 0 ∧ v.dep < 32 := by
  have hd := (dep_bd v).1
  rw [check_law _ _ (by omega), check_law _ _ (by omega), allOk_iff]
  have h1 : aloneC (V.listed [v]) 1 = 0 := by
    simp [aloneC, V.listed, V.kind, V.num, V.text, V.list, V.elem, extraV, hasN, hasT, hasP, numOk, textOk]
  have h2 : (V.listed [v]).dep = v.dep + 1 := by
    rw [V.dep_eq]
    show deps [v] 0 + 1 = _
    rw [deps, deps]
    omega
  have h3 : (∀ x ∈ (V.listed [v]).list, AllOk x (1 + 1)) ↔ AllOk v 1 := by
    show (∀ x ∈ [v], AllOk x (1 + 1)) ↔ _
    simp only [List.mem_singleton, forall_eq]
    exact allOk_any v _ _
  rw [h1, h2, h3]
  constructor
  · rintro ⟨⟨_, q⟩, r⟩
    exact ⟨⟨q, by omega⟩, by omega⟩
  · rintro ⟨⟨q, _⟩, r⟩
    exact ⟨⟨rfl, q⟩, by omega⟩
theorem mapped_law (k v l : V) : firstBad ((V.mapped [k, v, l, k]).pre 1) = 0 ↔ (firstBad (v.pre 1) = 0 ∧ v.dep < 32) ∧ (firstBad (k.pre 1) = 0 ∧ k.dep < 32) ∧ (firstBad (l.pre 1) = 0 ∧ l.dep < 32) ∧ k ≠ l := by
  have hd1 := (dep_bd k).1
  have hd2 := (dep_bd v).1
  have hd3 := (dep_bd l).1
  rw [check_law _ _ (by omega), check_law _ _ (by omega), check_law _ _ (by omega), check_law _ _ (by omega), allOk_iff]
  have h1 : aloneC (V.mapped [k, v, l, k]) 1 = 0 ↔ k ≠ l := by
    have hm : mapOk [k, v, l, k] = decide (k ≠ l) := by
      unfold mapOk
      rw [decide_eq_decide]
      simp [evens]
    simp [aloneC, V.mapped, V.kind, V.num, V.text, V.list, V.elem, extraV, hasN, hasT, hasP, numOk, textOk, hm]
  have h2 : (V.mapped [k, v, l, k]).dep = max (max (max k.dep v.dep) l.dep) k.dep + 1 := by
    rw [V.dep_eq]
    show deps [k, v, l, k] 0 + 1 = _
    simp only [deps]
    omega
  have h3 : (∀ x ∈ (V.mapped [k, v, l, k]).list, AllOk x (1 + 1)) ↔ AllOk k 1 ∧ AllOk v 1 ∧ AllOk l 1 := by
    show (∀ x ∈ [k, v, l, k], AllOk x (1 + 1)) ↔ _
    simp only [List.mem_cons, List.not_mem_nil, or_false, forall_eq_or_imp, forall_eq]
    rw [allOk_any k (1 + 1) 1, allOk_any v (1 + 1) 1, allOk_any l (1 + 1) 1]
    constructor
    · rintro ⟨a, b, c, _⟩; exact ⟨a, b, c⟩
    · rintro ⟨a, b, c⟩; exact ⟨a, b, c, a⟩
  rw [h1, h2, h3]
  constructor
  · rintro ⟨⟨q, a, b, c⟩, r⟩
    exact ⟨⟨⟨b, by omega⟩, by omega⟩, ⟨⟨a, by omega⟩, by omega⟩, ⟨⟨c, by omega⟩, by omega⟩, q⟩
  · rintro ⟨⟨⟨b, _⟩, r1⟩, ⟨⟨a, _⟩, r2⟩, ⟨⟨c, _⟩, r3⟩, q⟩
    exact ⟨⟨q, a, b, c⟩, by omega⟩
theorem find_first (k v l : V) : findC (V.mapped [k, v, l, k]) k = some v := by
  show (if (22 : Int) = 22 then findL [k, v, l, k] k else none) = some v
  rw [if_pos rfl, findL, if_pos rfl]
theorem find_second (k v l : V) (h : k ≠ l) : findC (V.mapped [k, v, l, k]) l = some k := by
  show (if (22 : Int) = 22 then findL [k, v, l, k] l else none) = some k
  rw [if_pos rfl, findL, if_neg h, findL, if_pos rfl]
end Go.Proofs.YtakbgekamjpibaaDoor
