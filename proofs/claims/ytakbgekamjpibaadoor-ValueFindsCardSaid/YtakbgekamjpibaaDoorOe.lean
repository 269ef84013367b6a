/-
  What ValueFinds asks for, and what is found, as one's own. Plain lemmas over contracts. Conditions: the values lie in memory.
-/
import Derived.Test.YtakbgekamjpibaaDoorOd
import Derived.Test.YtakbgekamjpibaaDoorWf
namespace Go.Proofs.YtakbgekamjpibaaDoor
open Go.RowKit
set_option linter.unusedVariables false

noncomputable def findV (m key : V) : V := (findC m key).getD (.mk 0 0 ⟨#[]⟩ [] 0)
noncomputable def findB (m key : V) : Bool := (findC m key).isSome
/-- what Find leaves, in either case -/
def FindU (w : World) (m key : V) (e : Ending) (w' : World) : Prop :=
  ∃ t F, e = .returned (.tuple #[.agg #[.int .i64 (findV m key).kind, .int .u64 (findV m key).num, .string (findV m key).text, t, .int .i64 (findV m key).elem], .bool (findB m key)]) ∧ VO w' w.heap.size (findV m key) t F ∧ Below w.heap.size w w'
theorem FindPost.u {w w' : World} {m key : V} {e : Ending} (h : FindPost w (findC m key) e w') : FindU w m key e w' := by
  unfold FindU findV findB
  rcases h with ⟨h0, he, hb⟩ | ⟨b, t, F, h0, he, hvo, hb⟩
  · rw [h0]
    exact ⟨_, _, he, VO.nil w' _ (wf_bare 0 [] ⟨by omega, by omega⟩) rfl, hb⟩
  · rw [h0]
    exact ⟨t, F, he, hvo, hb⟩
/-- .. with what is found named -/
def FindX (w : World) (fv : V) (fb : Bool) (e : Ending) (w' : World) : Prop :=
  ∃ t F, e = .returned (.tuple #[.agg #[.int .i64 fv.kind, .int .u64 fv.num, .string fv.text, t, .int .i64 fv.elem], .bool fb]) ∧ VO w' w.heap.size fv t F ∧ Below w.heap.size w w'
theorem findx_any (m key fv : V) (fb : Bool) (h1 : findV m key = fv) (h2 : findB m key = fb) (w : World) (s t : Value) (hm : VIn w m s) (hk : VIn w key t) (hwt : m.wt ≤ 1000000) :
    Calls Tryd.prog 39 #[.agg #[.int .i64 m.kind, .int .u64 m.num, .string m.text, s, .int .i64 m.elem], .agg #[.int .i64 key.kind, .int .u64 key.num, .string key.text, t, .int .i64 key.elem]] w (FindX w fv fb) := by
  subst h1 h2
  exact (find_any m key w s t hm hk hwt).mono (fun e w' h => h.u)
theorem rfindx_any (m key fv : V) (fb : Bool) (h1 : findV m key = fv) (h2 : findB m key = fb) (w : World) (s t : Value) (hm : VIn w m s) (hk : VIn w key t) (hwt : m.wt ≤ 1000000) :
    Calls Tryd.prog 40 #[.agg #[.int .i64 m.kind, .int .u64 m.num, .string m.text, s, .int .i64 m.elem], .agg #[.int .i64 key.kind, .int .u64 key.num, .string key.text, t, .int .i64 key.elem]] w (FindX w fv fb) := by
  subst h1 h2
  exact (rfind_any m key w s t hm hk hwt).mono (fun e w' h => h.u)
theorem VO.own {w : World} {B : Nat} {v : V} {s : Value} {F : Nat → Prop} (h : VO w B v s F) {g : Nat} (hg : s.ownBlock = some g) : F g := by
  cases h with
  | mk _ _ _ ss Fs wf hrow hin hd hs hF => exact (hF g).2 (.inl hg)
theorem step_store_row {P : Program} {w : World} {ops : Array Oper} {o : Oper} {a : Act} {K : Act → World → Prop} {Q : Exit → Act → World → Prop} {E : Prop} (hgd : o.guard = none) (ty : TypeId) (x y : Operand) (ho : o.op = .store ty x y)
    (g : Nat) (cells : Array Value) (hx : a.eval x = .pointer (some ⟨g, 0, none⟩)) (hy : a.eval y = .agg cells)
    (t : TypeId) (old : Array Value) (hg : w.heap[g]? = some (.cells old t (0, 0))) (hi : (P.info? ty).map (·.size) = some cells.size)
    (hold : old.size = cells.size) (h1 : cells.all (·.oneCell') = true) (h : K (a.put o.dst undef) (w.setRow g cells)) :
    if Region.wanted o (yielded ops a.tmps) = true then Oper.wp P o a w K Q else E := by
  have hw : Region.wanted o (yielded ops a.tmps) = true := by simp [Region.wanted, hgd]
  rw [if_pos hw]
  exact wp_store_row ty x y ho g cells hx hy t old hg hi hold h1 h
theorem findL_mem : ∀ (l : List V) (key b : V), findL l key = some b → b ∈ l
  | [], _, _, h => by simp [findL] at h
  | [_], _, _, h => by simp [findL] at h
  | a :: c :: r, key, b, h => by
    rw [findL] at h
    by_cases e : a = key
    · rw [if_pos e] at h
      obtain rfl := Option.some.inj h
      exact List.mem_cons_of_mem _ (List.mem_cons_self ..)
    · rw [if_neg e] at h
      exact List.mem_cons_of_mem _ (List.mem_cons_of_mem _ (findL_mem r key b h))
theorem findV_wt (m key : V) : (findV m key).wt ≤ m.wt := by
  unfold findV findC
  by_cases hk : m.kind = 22
  · rw [if_pos hk]
    cases h : findL m.list key with
    | none =>
      have h1 := m.wt_pos
      have e : (V.mk 0 0 ⟨#[]⟩ [] 0).wt = 1 := by
        have h0 : (V.mk 0 0 ⟨#[]⟩ [] 0).text.size = 0 := rfl
        have h2 : (V.mk 0 0 ⟨#[]⟩ [] 0).list = [] := rfl
        rw [V.wt_eq, h0, h2, wts]
      show (V.mk 0 0 ⟨#[]⟩ [] 0).wt ≤ _
      omega
    | some b => exact Nat.le_of_lt (V.wt_lt (findL_mem _ _ _ h))
  · rw [if_neg hk]
    have h1 := m.wt_pos
    have e : (V.mk 0 0 ⟨#[]⟩ [] 0).wt = 1 := by
      have h0 : (V.mk 0 0 ⟨#[]⟩ [] 0).text.size = 0 := rfl
      have h2 : (V.mk 0 0 ⟨#[]⟩ [] 0).list = [] := rfl
      rw [V.wt_eq, h0, h2, wts]
    show (V.mk 0 0 ⟨#[]⟩ [] 0).wt ≤ _
    omega
theorem keepF_row {w w' : World} {v : Value} (hg : w.grownBy w' v.ownBlock) : KeepF (fun g => v.ownBlock = some g) w w' :=
  ⟨hg.os, hg.tape, hg.output, hg.size, fun j hj hn => hg.block j hj (fun e => hn e.symm)⟩
/-- a row of values that came in elsewhere -/
def KeysIn (w : World) (a key : V) (Ks : List V) (ss : Nat → Value) : Prop := ∀ i (h : i < Ks.length), VIn w Ks[i] (ss i) ∧ (Ks[i] = key ∨ Ks[i] ∈ a.list)
theorem KeysIn.snoc3 {w : World} {a key : V} {Ks : List V} {ss : Nat → Value} (h : KeysIn w a key Ks ss) {x : V} {t u : Value} (hx : VIn w x t) (hxa : x ∈ a.list) (hk : VIn w key u) :
    KeysIn w a key (Ks ++ [x, key, x]) (fun i => if i < Ks.length then ss i else if i = Ks.length + 1 then u else t) := by
  intro i hi
  by_cases e : i < Ks.length
  · simp only [if_pos e, List.getElem_append_left e]
    exact h i e
  · simp only [if_neg e]
    have h3 : i - Ks.length < 3 := by simp at hi; omega
    rw [List.getElem_append_right (by omega)]
    by_cases e2 : i = Ks.length + 1
    · have : i - Ks.length = 1 := by omega
      simp only [if_pos e2, this, List.getElem_cons_succ, List.getElem_cons_zero]
      exact ⟨hk, by simp⟩
    · rw [if_neg e2]
      by_cases e3 : i = Ks.length
      · have : i - Ks.length = 0 := by omega
        simp only [this, List.getElem_cons_zero]
        exact ⟨hx, .inr hxa⟩
      · have : i - Ks.length = 2 := by omega
        simp only [this, List.getElem_cons_succ, List.getElem_cons_zero]
        exact ⟨hx, .inr hxa⟩
theorem vrow_snoc3 (Ks : List V) (ss : Nat → Value) (x key : V) (t u : Value) : vrow (Ks ++ [x, key, x]) (fun i => if i < Ks.length then ss i else if i = Ks.length + 1 then u else t) = vrow Ks ss ++ (vcells x t ++ (vcells key u ++ vcells x t)) := by
  have e : Ks ++ [x, key, x] = ((Ks ++ [x]) ++ [key]) ++ [x] := by simp
  rw [e, vrow_snoc, vrow_snoc, vrow_snoc]
  rw [vrow_congr Ks _ ss (fun i hi => if_pos hi)]
  simp [show ¬ (Ks.length + 1 + 1 < Ks.length) by omega, show ¬ (Ks.length + 1 < Ks.length) by omega]
/-- a key's cells, in the row of keys -/
theorem keys_cell {w : World} {B g n c : Nat} {Ks : List V} {ss : Nat → Value} (h : w.ownsRow B 25 5 (.slice (some ⟨g, 0, none⟩) n c) n (vrow Ks ss)) {k j : Nat} {u : Value} (hk : k < Ks.length) (hu : (vcells Ks[k] (ss k))[j]? = some u) : w.cell? ⟨g, k * 5 + j, none⟩ = some u := by
  have hj : j < 5 := (List.getElem?_eq_some_iff.1 hu).1
  exact ownsRow_cell h (by rw [vrow_get Ks ss k j hk hj]; exact hu)

end Go.Proofs.YtakbgekamjpibaaDoor
