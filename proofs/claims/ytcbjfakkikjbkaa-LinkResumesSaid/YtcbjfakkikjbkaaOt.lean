/-
  A region that draws its order, where what holds may change with what has come up already (a place is read before it is written). It speaks of no program. No conditions.
-/
import Derived.Test.YtcbjfakkikjbkaaTk
import Derived.OrdersHeld
namespace Go.Proofs.Ytcbjfakkikjbkaa
open Go.RowKit
set_option linter.all false

section
variable {P : Program} {ops : Array Oper} {Q : Exit → Act → World → Prop} {md : Region.Mode} {S : Array Bool → World → Prop}

/-- whatever comes up next; behind it what holds is shown of what has come up then -/
def wpAnyT (P : Program) (md : Region.Mode) (ops : Array Oper) (Q : Exit → Act → World → Prop) (S : Array Bool → World → Prop) : Nat → Array Bool → Act → World → Prop
  | 0, l, a, w => Region.ready md ops l = [] ∧ Q .normal a w
  | f + 1, l, a, w => (Region.ready md ops l = [] → Q .normal a w) ∧ ∀ i ∈ Region.ready md ops l, wpOp P ops Q i (fun a' w' => S (l.setIfInBounds i true) w' ∧ wpAnyT P md ops Q S f (l.setIfInBounds i true) a' w') a w

theorem wpAny_of_T : ∀ (f : Nat) (l : Array Bool) (a : Act) (w : World), wpAnyT P md ops Q S f l a w → wpAny P md ops Q f l a w
  | 0, _, _, _, h => h
  | f + 1, _, _, _, h => ⟨h.1, fun i hi => wpOp_mono (fun a' w' h' => wpAny_of_T f _ a' w' h'.2) (h.2 i hi)⟩

/-- each of D waits for i, or for another one of D -/
def waitsD (md : Region.Mode) (ops : Array Oper) (i : Nat) (D : List Nat) : Bool :=
  D.all fun d => match ops[d]? with
    | some o => o.after.toList.any fun e => Region.binds md e && (e.on == i || D.contains e.on)
    | none => false
/-- those that have not come up -/
def offD (l : Array Bool) (D : List Nat) : Bool := D.all fun d => l.getD d true == false
theorem offD_get {l : Array Bool} {D : List Nat} (h : offD l D = true) {d : Nat} (hd : d ∈ D) : l.getD d true = false := by
  have := List.all_eq_true.1 h d hd
  simpa using this
theorem getD_off {l : Array Bool} {d : Nat} (h : l.getD d true = false) : l.getD d false = false := by
  rcases Nat.lt_or_ge d l.size with q | q
  · simpa [q] using h
  · simp [Array.getElem?_eq_none q] at h
theorem offD_set {l : Array Bool} {i j : Nat} {D : List Nat} (hw : waitsD md ops i D = true) (hi : i ∈ Region.ready md ops l) (hj : j ∈ Region.ready md ops l) (h : offD l D = true) : offD (l.setIfInBounds j true) D = true := by
  refine List.all_eq_true.2 (fun d hd => ?_)
  have h0 := offD_get h hd
  have hjd : j ≠ d := by
    rintro rfl
    have hj2 := List.all_eq_true.1 hw j hd
    obtain ⟨_, o, ho, hall⟩ := mem_ready.1 hj
    simp only [ho] at hj2
    obtain ⟨e, he, hb⟩ := List.any_eq_true.1 hj2
    simp only [Bool.and_eq_true, Bool.or_eq_true, beq_iff_eq, List.contains_iff_mem] at hb
    have h1 := hall e (by simpa using he) hb.1
    rcases hb.2 with q | q
    · have h2 := getD_off (mem_ready.1 hi).1
      rw [q, h2] at h1
      cases h1
    · have h2 := getD_off (offD_get h q)
      rw [h2] at h1
      cases h1
  rw [getD_set_ne true hjd, h0]
  rfl

theorem wpAnyT_first {i : Nat} {oi : Oper} {v : Value} {D : List Nat} (hi : ops[i]? = some oi) (hsel : ∀ (j : Nat) (o : Oper) cs b, ops[j]? = some o → o.op ≠ .select cs b)
    (hQ : ∀ c a w, Q (.panic c) (a.put oi.dst v) w → Q (.panic c) a w) (hw : waitsD md ops i D = true) (hS2 : ∀ m w, offD m D = true → m.getD i true = false → S (m.setIfInBounds i true) w → S m w) :
    ∀ (f : Nat) (l : Array Bool) (a : Act) (w : World), (∀ j oj, ops[j]? = some oj → j ≠ i → l.getD j true = false → (∀ e ∈ oj.after, Region.binds md e = true → e.on ≠ i) → oi.apart ops oj = true) →
      i ∈ Region.ready md ops l → offD l D = true → YieldsIf P ops (fun w => ∃ m, offD m D = true ∧ S (m.setIfInBounds i true) w) oi v a → S (l.setIfInBounds i true) w →
      wpAnyT P md ops Q S f (l.setIfInBounds i true) (a.put oi.dst v) w → wpAnyT P md ops Q S (f + 1) l a w := by
  intro f
  induction f with
  | zero =>
    intro l a w _ hr hD hy hS H
    refine ⟨fun h => (by rw [h] at hr; cases hr), fun j hj => ?_⟩
    by_cases hji : j = i
    · subst hji; exact hy.wpOp hi ⟨l, hD, hS⟩ ⟨hS, H⟩
    · have := ready_mono hj hji
      rw [H.1] at this
      cases this
  | succ f ih =>
    intro l a w hfree hr hD hy hS H
    refine ⟨fun h => (by rw [h] at hr; cases hr), fun j hj => ?_⟩
    by_cases hji : j = i
    · subst hji; exact hy.wpOp hi ⟨l, hD, hS⟩ ⟨hS, H⟩
    · have h1 := H.2 j (ready_mono hj hji)
      obtain ⟨hjun, oj, hoj, hall⟩ := mem_ready.1 hj
      have hnot : ∀ e ∈ oj.after, Region.binds md e = true → e.on ≠ i := fun e he hb heq => by
        have h1 := hall e he hb
        rw [heq, getD_off (mem_ready.1 hr).1] at h1
        cases h1
      have h2 := wpOp_putIf hoj (hfree j oj hoj hji hjun hnot) (fun cs b => hsel i oi cs b hi) (fun cs b => hsel j oj cs b hoj) hQ hy h1
      have hDj := offD_set hw hr hj hD
      have hfree' : ∀ k ok, ops[k]? = some ok → k ≠ i → (l.setIfInBounds j true).getD k true = false → (∀ e ∈ ok.after, Region.binds md e = true → e.on ≠ i) → oi.apart ops ok = true := fun k ok hk hki hun hno => by
        refine hfree k ok hk hki ?_ hno
        by_cases hjk : j = k
        · subst hjk; exact hjun
        · rw [getD_set_ne true hjk] at hun; exact hun
      have hri : i ∈ Region.ready md ops (l.setIfInBounds j true) := ready_mono hr (Ne.symm hji)
      refine wpOp_mono (fun a' w' h3 => ?_) h2
      have h4 := h3.2.1
      rw [Array.setIfInBounds_comm _ _ (Ne.symm hji)] at h4
      refine ⟨hS2 _ _ hDj (mem_ready.1 hri).1 h4, ih (l.setIfInBounds j true) a' w' hfree' hri hDj h3.1 h4 ?_⟩
      rw [Array.setIfInBounds_comm _ _ hji]
      exact h3.2.2

theorem wpAnyT_all {rs : List Nat} {f : Nat} {l : Array Bool} {a : Act} {w : World} (hr : Region.ready md ops l = rs) (hne : rs ≠ [])
    (h : ∀ i ∈ rs, wpOp P ops Q i (fun a' w' => S (l.setIfInBounds i true) w' ∧ wpAnyT P md ops Q S f (l.setIfInBounds i true) a' w') a w) : wpAnyT P md ops Q S (f + 1) l a w :=
  ⟨fun h0 => absurd (hr ▸ h0) hne, hr ▸ h⟩
theorem wpAnyT_done {l : Array Bool} {a : Act} {w : World} (hr : Region.ready md ops l = []) (h : Q .normal a w) : ∀ f, wpAnyT P md ops Q S f l a w
  | 0 => ⟨hr, h⟩
  | _ + 1 => ⟨fun _ => h, by rw [hr]; simp⟩
theorem wp_region_T {id : Nat} {a : Act} {w : World} (S : Array Bool → World → Prop) (f : Nat) (hf : ops.size = f) (hm : P.follows .mixedOrders = true)
    (h : wpAnyT P .any ops Q S f (Array.replicate f false) a w.drew) : (Code.region id ops true).wp P Q a w := by
  subst hf
  exact wp_region_any hm (wpAny_of_T _ _ _ _ h)
/-- taken first -/
theorem takeT {i : Nat} {oi : Oper} {v : Value} {f : Nat} {l : Array Bool} {a : Act} {w : World} (d : Option Tmp) (D : List Nat) (hi : ops[i]? = some oi) (hd : oi.dst = d)
    (hs : Region.noSelect ops = true) (hf : Region.free md ops l i = true) (hr : (Region.ready md ops l).contains i = true) (hw : waitsD md ops i D = true) (hD : offD l D = true)
    (hQ : ∀ c a w, Q (.panic c) (a.put oi.dst v) w → Q (.panic c) a w) (hS2 : ∀ m w, offD m D = true → m.getD i true = false → S (m.setIfInBounds i true) w → S m w)
    (hy : YieldsIf P ops (fun w => ∃ m, offD m D = true ∧ S (m.setIfInBounds i true) w) oi v a) (hS : S (l.setIfInBounds i true) w)
    (h : wpAnyT P md ops Q S f (l.setIfInBounds i true) (a.put d v) w) : wpAnyT P md ops Q S (f + 1) l a w := by
  subst hd
  exact wpAnyT_first hi (Region.noSelect_spec hs) hQ hw hS2 f l a w (Region.free_spec hi hf) (by simpa using hr) hD hy hS h
/-- one comes up -/
theorem stepT {f : Nat} {l : Array Bool} {a : Act} {w : World} {i : Nat} {o : Oper} (ho : ops[i]? = some o) (hw : Region.wanted o (yielded ops a.tmps) = true)
    (h : ∀ K' : Act → World → Prop, Shut (∀ a w, S (l.setIfInBounds i true) w → wpAnyT P md ops Q S f (l.setIfInBounds i true) a w → K' a w) → Oper.wp P o a w K' Q) : wpOp P ops Q i (fun a' w' => S (l.setIfInBounds i true) w' ∧ wpAnyT P md ops Q S f (l.setIfInBounds i true) a' w') a w := by
  unfold wpOp
  simp only [ho]
  rw [if_pos hw]
  exact .inl (h _ (fun a w h1 h2 => ⟨h1, h2⟩))
/-- what holds till f comes up -/
def till (f : Nat) (p : World → Prop) (l : Array Bool) (w : World) : Prop := l.getD f true = false → p w
theorem till.set {f i : Nat} {p : World → Prop} {m : Array Bool} {w : World} (hne : i ≠ f) (h : till f p (m.setIfInBounds i true) w) : till f p m w := by
  intro q
  exact h (by rw [getD_set_ne true hne]; exact q)
theorem till.get {f i : Nat} {p : World → Prop} {m : Array Bool} {w : World} {D : List Nat} (hne : i ≠ f) (hD : offD m D = true) (hf : f ∈ D) (h : till f p (m.setIfInBounds i true) w) : p w :=
  h.set hne (offD_get hD hf)
end
end Go.Proofs.Ytcbjfakkikjbkaa
