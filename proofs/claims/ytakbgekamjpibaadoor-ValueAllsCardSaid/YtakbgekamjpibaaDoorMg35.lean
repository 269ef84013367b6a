/-
  What Check answers, as a law of values: each part stands alone, and none lies too deep. Plain lemmas. No conditions.
  ValueSound: what holds while it runs, and how it ends. Plain lemmas over the function's frame.
  ValueSound's round: each part is right. Conditions: the values lie in memory; the tables stand.
-/
import Derived.Test.YtakbgekamjpibaaDoorWf
import Derived.Test.YtakbgekamjpibaaDoorMg24
import Derived.Test.YtakbgekamjpibaaDoorMg20
import Derived.Test.YtakbgekamjpibaaDoorNa
namespace Go.Proofs.YtakbgekamjpibaaDoor
open Go.RowKit
set_option linter.unusedVariables false

theorem firstBad_zero (L : List (Int × V)) : firstBad L = 0 ↔ ∀ p ∈ L, aloneC p.2 p.1 = 0 := by
  induction L with
  | nil => simp [firstBad]
  | cons a r ih =>
    obtain ⟨d, x⟩ := a
    rw [firstBad]
    by_cases h : aloneC x d = 0
    · rw [if_pos h, ih]
      constructor
      · intro q p hp
        rcases List.mem_cons.1 hp with rfl | hp
        · exact h
        · exact q p hp
      · intro q p hp
        exact q p (List.mem_cons_of_mem _ hp)
    · rw [if_neg h]
      constructor
      · intro q; exact (h q).elim
      · intro q; exact (h (q _ (List.mem_cons_self ..))).elim
theorem aloneC_iff (x : V) (d : Int) (hd : 1 ≤ d) : aloneC x d = 0 ↔ aloneC x 1 = 0 ∧ d ≤ 32 := by
  by_cases h0 : x.kind < 0
  · simp [aloneC, h0]
  · by_cases h1 : 24 < x.kind
    · simp [aloneC, h0, h1]
    · by_cases h2 : 32 < d
      · simp only [aloneC, if_neg h0, if_neg h1, if_pos h2]
        constructor
        · intro q; omega
        · intro q; omega
      · simp only [aloneC, if_neg h0, if_neg h1, if_neg h2, if_neg (show ¬ (32 : Int) < 1 by omega)]
        exact ⟨fun q => ⟨q, by omega⟩, fun q => q.1⟩
/-- each part by itself -/
def AllOk (v : V) (d : Int) : Prop := ∀ p ∈ v.pre d, aloneC p.2 1 = 0
theorem mem_pres {l : List V} {d : Int} {p : Int × V} : p ∈ pres l d ↔ ∃ x ∈ l, p ∈ x.pre d := by
  induction l with
  | nil => simp [pres]
  | cons a r ih => simp [pres, ih]
theorem pre_depth : ∀ (v : V) (d : Int) (p : Int × V), p ∈ v.pre d → d ≤ p.1 ∧ p.1 ≤ d - 1 + v.dep := by
  refine V.ind (fun v ih d p hp => ?_)
  have hb := (dep_bd v).1
  rw [V.pre_eq] at hp
  rcases List.mem_cons.1 hp with rfl | hp
  · exact ⟨Int.le_refl _, by simp only; omega⟩
  · obtain ⟨x, hx, hp⟩ := mem_pres.1 hp
    have h1 := ih x hx _ _ hp
    have h2 : x.dep + 1 ≤ v.dep := by
      have key : ∀ (l : List V) (n : Int), 0 ≤ n → x ∈ l → x.dep ≤ deps l n := by
        intro l
        induction l with
        | nil => intro n _ h; cases h
        | cons a r ih2 =>
          intro n hn h
          rw [deps, deps_mono r _ (by have := (dep_bd a).1; omega)]
          rcases List.mem_cons.1 h with rfl | h
          · omega
          · have := ih2 0 (Int.le_refl _) h; omega
      have := key v.list 0 (Int.le_refl _) hx
      rw [v.dep_eq]
      omega
    omega
theorem allOk_iff (v : V) (d : Int) : AllOk v d ↔ aloneC v 1 = 0 ∧ ∀ x ∈ v.list, AllOk x (d + 1) := by
  unfold AllOk
  rw [V.pre_eq]
  constructor
  · intro h
    exact ⟨h (d, v) (List.mem_cons_self ..), fun x hx p hp => h p (List.mem_cons_of_mem _ (mem_pres.2 ⟨x, hx, hp⟩))⟩
  · rintro ⟨h1, h2⟩ p hp
    rcases List.mem_cons.1 hp with rfl | hp
    · exact h1
    · obtain ⟨x, hx, hp⟩ := mem_pres.1 hp
      exact h2 x hx p hp
theorem allOk_any : ∀ (v : V) (d e : Int), AllOk v d ↔ AllOk v e := by
  refine V.ind (fun v ih d e => ?_)
  rw [allOk_iff, allOk_iff]
  exact ⟨fun h => ⟨h.1, fun x hx => (ih x hx _ _).1 (h.2 x hx)⟩, fun h => ⟨h.1, fun x hx => (ih x hx _ _).1 (h.2 x hx)⟩⟩
theorem deps_max (l : List V) (n : Int) (h : ∀ x ∈ l, x.dep ≤ n) (hn : 0 ≤ n) : deps l 0 ≤ n := by
  induction l with
  | nil => rw [deps]; exact hn
  | cons a r ih =>
    rw [deps, deps_mono r _ (by have := (dep_bd a).1; omega)]
    have h1 := h a (List.mem_cons_self ..)
    have h2 := ih (fun x hx => h x (List.mem_cons_of_mem _ hx))
    omega
/-- there is a part at the greatest depth -/
theorem pre_deepest : ∀ (v : V) (d n : Int), (∀ p ∈ v.pre d, p.1 ≤ n) → d - 1 + v.dep ≤ n := by
  refine V.ind (fun v ih d n h => ?_)
  rw [V.pre_eq] at h
  have h0 := h (d, v) (List.mem_cons_self ..)
  have h1 := deps_max v.list (n - d) (fun x hx => by
    have := ih x hx (d + 1) n (fun p hp => h p (List.mem_cons_of_mem _ (mem_pres.2 ⟨x, hx, hp⟩)))
    omega) (by simp only at h0; omega)
  rw [v.dep_eq]
  omega
/-- Check as a law -/
theorem check_law (v : V) (d : Int) (hd : 1 ≤ d) : firstBad (v.pre d) = 0 ↔ AllOk v 1 ∧ d - 1 + v.dep ≤ 32 := by
  rw [firstBad_zero]
  constructor
  · intro h
    refine ⟨(allOk_any v 1 d).2 (fun p hp => ((aloneC_iff p.2 p.1 (by have := (pre_depth v d p hp).1; omega)).1 (h p hp)).1), pre_deepest v d 32 (fun p hp => ((aloneC_iff p.2 p.1 (by have := (pre_depth v d p hp).1; omega)).1 (h p hp)).2)⟩
  · rintro ⟨h1, h2⟩ p hp
    have h3 := pre_depth v d p hp
    exact (aloneC_iff p.2 p.1 (by omega)).2 ⟨(allOk_any v 1 d).1 h1 p hp, by omega⟩
/-- what is told of a right value is right, and no deeper -/
theorem pre_part : ∀ (v : V) (d : Int) (p : Int × V), p ∈ v.pre d → p.1 - 1 + p.2.dep ≤ d - 1 + v.dep ∧ (∀ e, AllOk v e → ∀ e', AllOk p.2 e') := by
  refine V.ind (fun v ih d p hp => ?_)
  rw [V.pre_eq] at hp
  rcases List.mem_cons.1 hp with rfl | hp
  · exact ⟨Int.le_refl _, fun e h e' => (allOk_any v e' e).2 h⟩
  · obtain ⟨x, hx, hp⟩ := mem_pres.1 hp
    obtain ⟨h1, h2⟩ := ih x hx _ _ hp
    have h3 := pre_deepest x (d + 1) (d - 1 + v.dep) (fun q hq => (pre_depth v d q (by rw [V.pre_eq]; exact List.mem_cons_of_mem _ (mem_pres.2 ⟨x, hx, hq⟩))).2)
    exact ⟨by omega, fun e h e' => h2 (e + 1) (((allOk_iff v e).1 h).2 x hx) e'⟩
theorem listed_law (v : V) : firstBad ((V.listed [v]).pre 1) = 0 ↔ firstBad (v.pre 1) = 0 ∧ v.dep < 32 := by
  have hd := (dep_bd v).1
  rw [check_law _ _ (by omega), check_law _ _ (by omega), allOk_iff]
  have h1 : aloneC (V.listed [v]) 1 = 0 := by
    simp [aloneC, V.listed, V.kind, V.num, V.text, V.list, V.elem, extraV, hasN, hasT, hasP, numOk, textOk]
  have h2 : (V.listed [v]).dep = v.dep + 1 := by
    rw [V.dep_eq]
    show deps [v] 0 + 1 = _
    rw [deps, deps]
    omega
  have h3 : (∀ x ∈ (V.listed [v]).list, AllOk x (1 + 1)) ↔ AllOk v 1 := by
    show (∀ x ∈ [v], AllOk x (1 + 1)) ↔ _
    simp only [List.mem_singleton, forall_eq]
    exact allOk_any v _ _
  rw [h1, h2, h3]
  constructor
  · rintro ⟨⟨_, q⟩, r⟩
    exact ⟨⟨q, by omega⟩, by omega⟩
  · rintro ⟨⟨q, _⟩, r⟩
    exact ⟨⟨rfl, q⟩, by omega⟩
theorem mapped_law (k v l : V) : firstBad ((V.mapped [k, v, l, k]).pre 1) = 0 ↔ (firstBad (v.pre 1) = 0 ∧ v.dep < 32) ∧ (firstBad (k.pre 1) = 0 ∧ k.dep < 32) ∧ (firstBad (l.pre 1) = 0 ∧ l.dep < 32) ∧ k ≠ l := by
  have hd1 := (dep_bd k).1
  have hd2 := (dep_bd v).1
  have hd3 := (dep_bd l).1
  rw [check_law _ _ (by omega), check_law _ _ (by omega), check_law _ _ (by omega), check_law _ _ (by omega), allOk_iff]
  have h1 : aloneC (V.mapped [k, v, l, k]) 1 = 0 ↔ k ≠ l := by
    have hm : mapOk [k, v, l, k] = decide (k ≠ l) := by
      unfold mapOk
      rw [decide_eq_decide]
      simp [evens]
    simp [aloneC, V.mapped, V.kind, V.num, V.text, V.list, V.elem, extraV, hasN, hasT, hasP, numOk, textOk, hm]
  have h2 : (V.mapped [k, v, l, k]).dep = max (max (max k.dep v.dep) l.dep) k.dep + 1 := by
    rw [V.dep_eq]
    show deps [k, v, l, k] 0 + 1 = _
    simp only [deps]
    omega
  have h3 : (∀ x ∈ (V.mapped [k, v, l, k]).list, AllOk x (1 + 1)) ↔ AllOk k 1 ∧ AllOk v 1 ∧ AllOk l 1 := by
    show (∀ x ∈ [k, v, l, k], AllOk x (1 + 1)) ↔ _
    simp only [List.mem_cons, List.not_mem_nil, or_false, forall_eq_or_imp, forall_eq]
    rw [allOk_any k (1 + 1) 1, allOk_any v (1 + 1) 1, allOk_any l (1 + 1) 1]
    constructor
    · rintro ⟨a, b, c, _⟩; exact ⟨a, b, c⟩
    · rintro ⟨a, b, c⟩; exact ⟨a, b, c, a⟩
  rw [h1, h2, h3]
  constructor
  · rintro ⟨⟨q, a, b, c⟩, r⟩
    exact ⟨⟨⟨b, by omega⟩, by omega⟩, ⟨⟨a, by omega⟩, by omega⟩, ⟨⟨c, by omega⟩, by omega⟩, q⟩
  · rintro ⟨⟨⟨b, _⟩, r1⟩, ⟨⟨a, _⟩, r2⟩, ⟨⟨c, _⟩, r3⟩, q⟩
    exact ⟨⟨q, a, b, c⟩, by omega⟩
theorem find_first (k v l : V) : findC (V.mapped [k, v, l, k]) k = some v := by
  show (if (22 : Int) = 22 then findL [k, v, l, k] k else none) = some v
  rw [if_pos rfl, findL, if_pos rfl]
theorem find_second (k v l : V) (h : k ≠ l) : findC (V.mapped [k, v, l, k]) l = some k := by
  show (if (22 : Int) = 22 then findL [k, v, l, k] l else none) = some k
  rw [if_pos rfl, findL, if_neg h, findL, if_pos rfl]
end Go.Proofs.YtakbgekamjpibaaDoor

namespace Go.Proofs.YtakbgekamjpibaaDoor
open Go.RowKit
set_option linter.unusedVariables false

theorem setCell_grown (w : World) (b j : Nat) (v : Value) : w.grownBy (w.setCell ⟨b, j, none⟩ v) (some b) :=
  ⟨rfl, rfl, rfl, by simp [World.setCell], fun k hk hne => by
    have : b ≠ k := fun h => hne (by rw [h])
    simp [World.setCell, Array.getElem?_modify, this]⟩
theorem leaves_all {P : Program} {fn : Func} {tm : Array Value} {R : Ending → World → Prop} : ∀ (Ds : List Nat) (W : World), Ds.Nodup → (∀ D ∈ Ds, W.heap[D]? = some (.deferred (some []))) →
    (∀ W', W'.heap.size = W.heap.size → (∀ j, j ∉ Ds → W'.heap[j]? = W.heap[j]?) → W'.os = W.os → W'.tape = W.tape → W'.output = W.output → LeavesInM Fence.wide 5 P fn tm R [] .returning W') →
    LeavesInM Fence.wide 5 P fn tm R (Ds.map fun D => { target := .collected D, args := #[] }) .returning W
  | [], W, _, _, h => h W rfl (fun _ _ => rfl) rfl rfl rfl
  | D :: Ds, W, hn, hd, h => by
    have hD := hd D (by simp)
    have gp := grownBy_putObj' W D (.deferred none)
    have hsz : (W.putObj D (.deferred none)).heap.size = W.heap.size := by simp [World.putObj]
    have hoth : ∀ j, j ≠ D → (W.putObj D (.deferred none)).heap[j]? = W.heap[j]? := fun j hj => World.putObj_heap_other hj
    obtain ⟨hn1, hn2⟩ := List.nodup_cons.1 hn
    refine ⟨by simp, .inl ⟨D, _, rfl, run_takeDeferred hD, leaves_all Ds _ hn2 (fun D' hD' => (hoth D' (fun e => hn1 (e ▸ hD'))).trans (hd D' (List.mem_cons_of_mem _ hD'))) ?_⟩⟩
    intro W' h1 h2 h3 h4 h5
    exact h W' (h1.trans hsz) (fun j hj => (h2 j (fun hm => hj (List.mem_cons_of_mem _ hm))).trans (hoth j (fun e => hj (e ▸ List.mem_cons_self)))) (h3.trans gp.os) (h4.trans gp.tape) (h5.trans gp.output)

/-- the rest of a code behind so many parts -/
def tailAt : Nat → Code → Option Code
  | 0, c => some c
  | n + 1, .seq _ b => tailAt n b
  | _ + 1, _ => none

/-- three boxes and a result's cell, and the ranges' marks -/
structure SdA (w : World) (x y z r : Nat) (A B C : Array Value) (Ds : List Nat) (W : World) : Prop where
  bel : Below w.heap.size w W
  ge : w.heap.size ≤ r
  ox : W.heap[x]? = some (.cells A 25 (0, 0))
  oy : W.heap[y]? = some (.cells B 25 (0, 0))
  oz : W.heap[z]? = some (.cells C 25 (0, 0))
  or : W.heap[r]? = some (.cells #[.bool false] 4 (0, 0))
  ds : ∀ D ∈ Ds, W.heap[D]? = some (.deferred (some [])) ∧ w.heap.size ≤ D
theorem SdA.below {w : World} {x y z r : Nat} {A B C : Array Value} {Ds : List Nat} {W W' : World} (h : SdA w x y z r A B C Ds W) (hb : Below W.heap.size W W') : SdA w x y z r A B C Ds W' :=
  ⟨h.bel.trans (hb.mono h.bel.size), h.ge, (hb.block _ (Array.getElem?_eq_some_iff.1 h.ox).1).trans h.ox, (hb.block _ (Array.getElem?_eq_some_iff.1 h.oy).1).trans h.oy, (hb.block _ (Array.getElem?_eq_some_iff.1 h.oz).1).trans h.oz, (hb.block _ (Array.getElem?_eq_some_iff.1 h.or).1).trans h.or,
    fun D hD => ⟨(hb.block _ (Array.getElem?_eq_some_iff.1 (h.ds D hD).1).1).trans (h.ds D hD).1, (h.ds D hD).2⟩⟩
/-- the function ends with its result's cell written -/
theorem SdA.leaves {w : World} {x y z r : Nat} {A B C : Array Value} {Ds : List Nat} {W : World} {fn : Func} (h : SdA w x y z r A B C Ds W) (hn : Ds.Nodup) (k : Nat) (tm : Array Value) (ht : tm.getD k undef = .pointer (some ⟨r, 0, none⟩)) (hfn : fn.results = #[ResultVar.cell k 4]) :
    LeavesInM Fence.wide 5 Tryd.prog fn tm (fun e w' => e = .returned (.bool true) ∧ Below w.heap.size w w') (Ds.map fun D => { target := .collected D, args := #[] }) .returning (W.setCell ⟨r, 0, none⟩ (.bool true)) := by
  have g := setCell_grown W r 0 (.bool true)
  have s2 := heap_setCell_same W r 0 _ _ (.bool true) h.or
  refine leaves_all Ds _ hn (fun D hD => ?_) ?_
  · obtain ⟨h1, h2⟩ := h.ds D hD
    exact (g.block D (Array.getElem?_eq_some_iff.1 h1).1 (fun e => by have e2 := Option.some.inj e; have h3 := h.or; rw [e2] at h1; rw [h1] at h3; simp at h3)).trans h1
  · intro W' q1 q2 q3 q4 q5
    have hnin : ∀ j, j < w.heap.size ∨ j = r → j ∉ Ds := fun j hj hm => by
      obtain ⟨h1, h2⟩ := h.ds j hm
      rcases hj with hj | rfl
      · omega
      · have h3 := h.or; rw [h1] at h3; simp at h3
    have s3 := (q2 r (hnin _ (.inr rfl))).trans s2
    have c3 : W'.cell? ⟨r, 0, none⟩ = some (.bool true) := (cell_of_row _ _ 0 _ _ _ s3).trans rfl
    have ht' : tm[k]?.getD undef = .pointer (some ⟨r, 0, none⟩) := by simpa using ht
    refine ⟨.bool true, by simp [results, hfn, go_sem, c3, ht'], rfl, ?_⟩
    have hb := h.bel
    have hge := h.ge
    exact ⟨q3.trans (g.os.trans hb.os), q4.trans (g.tape.trans hb.tape), q5.trans (g.output.trans hb.output), Nat.le_trans hb.size (by rw [q1]; exact g.size), fun k hk => (q2 k (hnin k (.inl hk))).trans ((g.block k (by have := hb.size; omega) (fun e => by have := Option.some.inj e; omega)).trans (hb.block k hk))⟩


end Go.Proofs.YtakbgekamjpibaaDoor

namespace Go.Proofs.YtakbgekamjpibaaDoor
open Go.RowKit
set_option linter.unusedVariables false

attribute [local go_sem] Oper.semAt_some

set_option maxRecDepth 20000 in
set_option maxHeartbeats 4000000 in
theorem round_sound {D lp : Nat} (K : LoopBook D lp) (wE wB W : World) (q r : Nat) (dep : Int) (L : List (Int × V)) (k : Nat) (d : Int) (x : V) (t : Value) (F : Nat → Prop) (v0 v1 v2 v3 v4 v5 v6 v7 v8 v9 v11 v13 v29 v30 v31 v32 v33 v34 v35 v36 v37 v38 v39 v40 v41 v42 v43 v44 v45 v46 v47 v48 v49 v50 v51 v52 v53 v54 v55 v56 v57 v58 v59 v60 : Value) (asg bdy : Code) (hrf : (Tryd.f11.body.bind rfOf) = some (asg, bdy))
    (hrd : K.rdy W) (hI : CellI wE r (fun m _ => m + 1) (fun m => 0 ≤ m ∧ m < 300) L k (fun j => j = r) W) (hq : W.heap[q]? = some (.cells #[.int .i64 dep] 3 (0, 0))) (hqE : q < wE.heap.size) (hL : L[k]? = some (d, x)) (hx : VIn W x t) (hT : Tabs W) (hwt : x.wt ≤ 1000000)
    (hok : firstBad (x.pre 1) = 0) (hd1 : 1 ≤ d) (hd2 : d ≤ 1000000) (hxd : foldD max 0 (x.pre 1) = x.dep) (hx0 : 1 ≤ x.dep) (hx2 : x.dep ≤ 1000000) (hdd : d - 1 + x.dep ≤ dep) (hDz : D + 2 ≤ W.heap.size) (hlp : lp = D + 1) (hrD : r < D) (hkf : KeepF (fun j => j = r) wB W) (hlB : wB.heap.size ≤ lp) :
    RoundOf Tryd.prog K #[v0, v1, v2, v3, v4, v5, v6, v7, v8, v9, .pointer (some ⟨q, 0, none⟩), v11, .pointer (some ⟨r, 0, none⟩), v13, undef, undef, undef, undef, undef, undef, undef, undef, undef, undef, undef, undef, undef, undef, undef, v29, v30, v31, v32, v33, v34, v35, v36, v37, v38, v39, v40, v41, v42, v43, v44, v45, v46, v47, v48, v49, v50, v51, v52, v53, v54, v55, v56, v57, v58, v59, v60, undef, undef, undef, undef, undef, undef, undef, undef, undef, undef, undef, undef, undef, undef, undef, undef, undef, undef, undef, undef, undef, undef, undef, undef, undef, undef, undef, undef, undef, undef, undef, undef, undef, undef, undef, undef, undef, undef, undef, undef, undef, undef, undef, undef, undef, undef, undef, undef, undef, undef, undef, undef, undef, undef, undef, undef, undef, undef, undef, undef, undef, undef, undef, undef, undef, undef, undef, undef, undef, undef, undef, undef, undef, undef, undef, undef, undef, undef, undef, undef, undef, undef, undef, undef, undef, undef, undef, undef, undef, undef, undef] #[61, 62] asg bdy #[.int .i64 d, .agg #[.int .i64 x.kind, .int .u64 x.num, .string x.text, t, .int .i64 x.elem]] W
      (fun W3 => ∃ O2, (CellI wE r (fun m _ => m + 1) (fun m => 0 ≤ m ∧ m < 300) L (k + 1) O2 W3 ∧ KeepF (fun j => j = r) wB W3) ∧ KeepR lp (fun j => j = r ∨ F j) W O2 W3) (fun c W3 => ∃ O2, (c = .exit 0 ∧ (O2 = fun j => j = r) ∧ Below wE.heap.size wE W3 ∧ KeepF (fun j => j = r) wB W3) ∧ KeepR lp (fun j => j = r ∨ F j) W O2 W3) := by
  simp only [Tryd.f11, Option.bind_some, rfOf, Option.some.injEq, Prod.mk.injEq] at hrf
  obtain ⟨rfl, rfl⟩ := hrf
  unfold RoundOf
  obtain ⟨p, c, hs, _⟩ := hx.slice
  subst hs
  obtain ⟨N, hN⟩ : ∃ N, x.list.length = N := ⟨_, rfl⟩
  rw [hN] at hx ⊢
  have HI := Lib.hid hI
  have HX := Lib.hid hx
  have HP := Lib.hid (And.intro hok hxd)
  have HKF := Lib.hid (And.intro hkf hlB)
  clear hI hx hN hok hxd hkf hlB
  refine wpIn_mono (Q := MidC #[v0, v1, v2, v3, v4, v5, v6, v7, v8, v9, .pointer (some ⟨q, 0, none⟩), v11, .pointer (some ⟨r, 0, none⟩), v13, .int .i64 d, .pointer (some ⟨W.heap.size, 0, none⟩), undef, undef, undef, undef, undef, undef, undef, undef, undef, undef, undef, undef, undef, v29, v30, v31, v32, v33, v34, v35, v36, v37, v38, v39, v40, v41, v42, v43, v44, v45, v46, v47, v48, v49, v50, v51, v52, v53, v54, v55, v56, v57, v58, v59, v60, .int .i64 d, .agg #[.int .i64 x.kind, .int .u64 x.num, .string x.text, (.slice p N c), .int .i64 x.elem], undef, undef, undef, undef, undef, undef, undef, undef, undef, undef, undef, undef, undef, undef, undef, undef, undef, undef, undef, undef, undef, undef, undef, undef, undef, undef, undef, undef, undef, undef, undef, undef, undef, undef, undef, undef, undef, undef, undef, undef, undef, undef, undef, undef, undef, undef, undef, undef, undef, undef, undef, undef, undef, undef, undef, undef, undef, undef, undef, undef, undef, undef, undef, undef, undef, undef, undef, undef, undef, undef, undef, undef, undef, undef, undef, undef, undef, undef, undef, undef, undef, undef, undef, undef, undef, undef, undef, undef, undef] W x (.slice p N c)) ?_ ?_
  · gi_wp2
    exact ⟨rfl, rfl, (Below.refl _ _).alloc (Nat.le_refl _) _, _root_.Go.heap_alloc_new _ _⟩
  · rintro e a' Wa ⟨rfl, rfl, hg, hi⟩
    obtain ⟨⟨oD, hD, hDc⟩, ⟨ol, hl, hlc⟩⟩ := K.rdyN W hrd
    have hDlt := (Array.getElem?_eq_some_iff.1 hD).1
    have hllt := (Array.getElem?_eq_some_iff.1 hl).1
    refine ⟨K.keepR W Wa hrd (hg.block D hDlt) (hg.block lp hllt), ?_⟩
    intro Wb ht hb
    have hib : Wb.heap[W.heap.size]? = some (.cells #[.int .i64 x.kind, .int .u64 x.num, .string x.text, (.slice p N c), .int .i64 x.elem] 25 (0, 0)) :=
      (ht.1.block W.heap.size (Array.getElem?_eq_some_iff.1 hi).1 (fun h => by have := Option.some.inj h; omega)).trans hi
    have hib2 := inBody_of hg ht
    have hrdW := hib2.rd ⟨ol, hl, hlc⟩
    obtain ⟨_, hB, hrE, m, ⟨hm0, hm1⟩, hr0, hf⟩ := HI.out
    have hrW := (Array.getElem?_eq_some_iff.1 hr0).1
    have hrl : r ≠ lp := by omega
    have hrb := (hib2.rest r hrW hrl).trans hr0
    have hqb := (hib2.rest q (Array.getElem?_eq_some_iff.1 hq).1 (by omega)).trans hq
    have HL := Lib.hid (And.intro hL hf)
    have HBE := Lib.hid (hib2.below hB (by omega))
    have HIB := Lib.hid hib2
    have hc := check_any x Wb _ (HX.out.rd hrdW) (hT.rd hrdW) hwt
    rw [HP.out.1] at hc
    have hdp := fun W1 (h1 : Below Wb.heap.size Wb W1) => depth_any x W1 _ ((HX.out.rd hrdW).blw h1) hwt
    rw [HP.out.2] at hdp
    obtain ⟨n, hn⟩ : ∃ n, x.dep = n := ⟨_, rfl⟩
    rw [hn] at hdp hx0 hx2 hdd
    have HDP := Lib.hid hdp
    have HKB := Lib.hid hb
    have HDL := Lib.hid (And.intro (Nat.lt_of_lt_of_le hDlt hib2.size) (Nat.lt_of_lt_of_le hllt hib2.size))
    have HRB := Lib.hid (And.intro hrb (And.intro hrE (And.intro hrD hqb)))
    have HIBX := Lib.hid hib
    have HN := Lib.hid (And.intro hlp hqE)
    have y0 : Wb.cell? ⟨W.heap.size, 0, none⟩ = some (.int .i64 x.kind) := (cell_of_row _ _ 0 _ _ _ hib).trans rfl
    have y1 : Wb.cell? ⟨W.heap.size, 1, none⟩ = some (.int .u64 x.num) := (cell_of_row _ _ 1 _ _ _ hib).trans rfl
    have y2 : Wb.cell? ⟨W.heap.size, 2, none⟩ = some (.string x.text) := (cell_of_row _ _ 2 _ _ _ hib).trans rfl
    have y3 : Wb.cell? ⟨W.heap.size, 3, none⟩ = some (.slice p N c) := (cell_of_row _ _ 3 _ _ _ hib).trans rfl
    have y4 : Wb.cell? ⟨W.heap.size, 4, none⟩ = some (.int .i64 x.elem) := (cell_of_row _ _ 4 _ _ _ hib).trans rfl
    obtain ⟨y, hy⟩ : ∃ y, W.heap.size = y := ⟨_, rfl⟩
    rw [hy] at y0 y1 y2 y3 y4 ⊢
    have HY := Lib.hid hy
    clear hdp hL hB hf hrdW hb hD hl hDc hlc hDlt hllt hrb hqb hrE hrW hrl hib hi hg ht hr0 hrd hT hwt hDz hrD hy hib2 hq hlp hqE hn
    gi_wp2
    refine ⟨trivial, (CallsIn.inRound lp (callsIn_wide.2 hc)).mono ?_⟩
    clear hc y0 y1 y2 y3 y4
    rintro e w1 ⟨rfl, hb1⟩
    have hc := HDP.out w1 hb1
    have hibx : Wb.heap[y]? = some (.cells #[.int .i64 x.kind, .int .u64 x.num, .string x.text, (.slice p N c), .int .i64 x.elem] 25 (0, 0)) := HY.out ▸ HIBX.out
    have hib1 := (hb1.block y (Array.getElem?_eq_some_iff.1 hibx).1).trans hibx
    have HB1 := Lib.hid hb1
    have y0 : w1.cell? ⟨y, 0, none⟩ = some (.int .i64 x.kind) := (cell_of_row _ _ 0 _ _ _ hib1).trans rfl
    have y1 : w1.cell? ⟨y, 1, none⟩ = some (.int .u64 x.num) := (cell_of_row _ _ 1 _ _ _ hib1).trans rfl
    have y2 : w1.cell? ⟨y, 2, none⟩ = some (.string x.text) := (cell_of_row _ _ 2 _ _ _ hib1).trans rfl
    have y3 : w1.cell? ⟨y, 3, none⟩ = some (.slice p N c) := (cell_of_row _ _ 3 _ _ _ hib1).trans rfl
    have y4 : w1.cell? ⟨y, 4, none⟩ = some (.int .i64 x.elem) := (cell_of_row _ _ 4 _ _ _ hib1).trans rfl
    clear hb1 hib1 hibx
    gi_wp2
    refine ⟨trivial, (CallsIn.inRound lp (callsIn_wide.2 hc)).mono ?_⟩
    clear hc y0 y1 y2 y3 y4
    rintro e w2 ⟨rfl, hb2⟩
    have hbb := HB1.out.trans (hb2.mono HB1.out.size)
    have hr2 := (hbb.block r (Array.getElem?_eq_some_iff.1 HRB.out.1).1).trans HRB.out.1
    have hq2 := (hbb.block q (Array.getElem?_eq_some_iff.1 HRB.out.2.2.2).1).trans HRB.out.2.2.2
    have HF := Lib.hid (And.intro (K.keepB Wb w2 HKB.out (hbb.block D HDL.out.1) (hbb.block lp HDL.out.2)) (And.intro (HIB.out.keepR hbb (fun j => j = r)) (And.intro (HBE.out.trans (hbb.mono HBE.out.size)) hr2)))
    have c1 : w2.cell? ⟨r, 0, none⟩ = some (.int .i64 m) := (cell_of_row _ _ 0 _ _ _ hr2).trans rfl
    have c2 : w2.cell? ⟨q, 0, none⟩ = some (.int .i64 dep) := (cell_of_row _ _ 0 _ _ _ hq2).trans rfl
    have f1 : w2.frozen? ⟨r, 0, none⟩ = false := by simp [World.frozen?, hr2]
    have hm2 : m ≤ 1000000 := by omega
    have hle : decide (dep < d + n - 1) = false := decide_eq_false (by omega)
    have s4 : (w2.setCell ⟨r, 0, none⟩ (.int .i64 (m + 1))).heap[r]? = some (.cells #[.int .i64 (m + 1)] 3 (0, 0)) := heap_setCell_same w2 r 0 _ _ (.int .i64 (m + 1)) hr2
    have c4 : (w2.setCell ⟨r, 0, none⟩ (.int .i64 (m + 1))).cell? ⟨r, 0, none⟩ = some (.int .i64 (m + 1)) := (cell_of_row _ _ 0 _ _ _ s4).trans rfl
    clear hb2 hbb hr2 hq2 s4
    by_cases hlast : m + 1 = 300
    · have hlb : (m + 1 == 300) = true := by simp [hlast]
      have HM := Lib.hid (And.intro hm0 hlast)
      clear hlast
      gi_wp2
      all_goals
        obtain ⟨f1, f2, f3, f4⟩ := HF.out
        obtain ⟨_, hrE, hrD, _⟩ := HRB.out
        obtain ⟨hlp, hqE⟩ := HN.out
        have hfar : ∀ j, j ≠ r → (w2.setCell ⟨r, 0, none⟩ (.int .i64 (m + 1))).heap[j]? = w2.heap[j]? := fun j hj => set_farV hj
        have hsz : (w2.setCell ⟨r, 0, none⟩ (.int .i64 (m + 1))).heap.size = w2.heap.size := by simp
        have hkF : KeepF (fun j => j = r) wB (w2.setCell ⟨r, 0, none⟩ (.int .i64 (m + 1))) := ⟨f2.os.trans HKF.out.1.os, f2.tape.trans HKF.out.1.tape, f2.output.trans HKF.out.1.output, by rw [hsz]; exact Nat.le_trans HKF.out.1.size f2.size, fun j hj ho => (hfar j ho).trans ((f2.block j (Nat.lt_of_lt_of_le hj HKF.out.1.size) ho (by have := HKF.out.2; omega)).trans (HKF.out.1.block j hj ho))⟩
        exact ⟨K.keepB _ _ f1 (hfar D (by omega)) (hfar lp (by omega)), _, ⟨rfl, rfl, f3.setCell (p := ⟨r, 0, none⟩) hrE _, hkF⟩, f2.os, f2.tape, f2.output, by rw [hsz]; exact f2.size, fun j h1 h2 h3 => (hfar j (fun e => h2 (.inl e))).trans (f2.block j h1 (fun e => h2 (.inl e)) h3), fun j hj => .inl (.inl hj)⟩
    · have hlb : (m + 1 == 300) = false := by simp [hlast]
      have HM := Lib.hid (And.intro hm0 (And.intro hm1 hlast))
      clear hlast
      gi_wp2
      all_goals
        obtain ⟨f1, f2, f3, f4⟩ := HF.out
        obtain ⟨_, hrE, hrD, _⟩ := HRB.out
        obtain ⟨hlp, hqE⟩ := HN.out
        obtain ⟨hL, hf⟩ := HL.out
        have hfar : ∀ j, j ≠ r → (w2.setCell ⟨r, 0, none⟩ (.int .i64 (m + 1))).heap[j]? = w2.heap[j]? := fun j hj => set_farV hj
        have hsz : (w2.setCell ⟨r, 0, none⟩ (.int .i64 (m + 1))).heap.size = w2.heap.size := by simp
        have hkF : KeepF (fun j => j = r) wB (w2.setCell ⟨r, 0, none⟩ (.int .i64 (m + 1))) := ⟨f2.os.trans HKF.out.1.os, f2.tape.trans HKF.out.1.tape, f2.output.trans HKF.out.1.output, by rw [hsz]; exact Nat.le_trans HKF.out.1.size f2.size, fun j hj ho => (hfar j ho).trans ((f2.block j (Nat.lt_of_lt_of_le hj HKF.out.1.size) ho (by have := HKF.out.2; omega)).trans (HKF.out.1.block j hj ho))⟩
        exact ⟨K.keepB _ _ f1 (hfar D (by omega)) (hfar lp (by omega)), _, ⟨CellI.next (P := fun m => 0 ≤ m ∧ m < 300) f3 hrE f4 hf hL (show 0 ≤ m + 1 ∧ m + 1 < 300 by have := HM.out; omega), hkF⟩, f2.os, f2.tape, f2.output, by rw [hsz]; exact f2.size, fun j h1 h2 h3 => (hfar j (fun e => h2 (.inl e))).trans (f2.block j h1 (fun e => h2 (.inl e)) h3), fun j hj => .inl (.inl hj)⟩


end Go.Proofs.YtakbgekamjpibaaDoor
