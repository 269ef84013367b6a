/-
  ValueAlls, the range within the range: a round. Conditions: the list of what must be told lies in memory.
-/
import Derived.Test.YtakbgekamjpibaaDoorPe
import Derived.Test.YtakbgekamjpibaaDoorPg
import Derived.Deep.QuietTactic
import Derived.BigQuiet
namespace Go.Proofs.YtakbgekamjpibaaDoor
open Go.RowKit
set_option linter.unusedVariables false

attribute [local go_sem] Oper.semAt_some

/-- a drawing region that only reads, within a round -/
theorem wpIn_region_quiet_lit {P : Program} {id l' n' : Nat} {Q : Exit → Act → World → Prop} {a : Act} {w : World} {l : List Oper} (hm : P.follows .mixedOrders = true) (hnd : noDeferB l.toArray = true) (hL : ¬ LetsOut Q) (hB : Region.lexB .any l.toArray = true)
    (h : wpQuiet P l.toArray (fun w' => ∃ n, w' = w.drewN n) (fun a' => ∀ w', (∃ n, w' = w.drewN n) → Q .normal a' w') l a) : (Code.region id l.toArray true).wpIn (Fence.wide.inRound l') n' P Q a w := by
  simp only [Region.lexB, Bool.and_eq_true] at hB
  refine wpIn_region_of_any hm hnd hL (wpAny_of_quiet (C := fun w' => ∃ n, w' = w.drewN n) (Q := fun a' => ∀ w', (∃ n, w' = w.drewN n) → Q .normal a' w') (fun _ w' hw' h => h w' hw') _ _ _ _ ⟨1, rfl⟩ ?_)
  have := wpAnyQ_lex (C := fun w' => ∃ n, w' = w.drewN n) (md := .any) hB.1 l.toArray.toList 0 (Array.replicate l.toArray.size false) a (by simp) (by simpa using hB.2) (by simpa using h)
  simpa using this
theorem World.below_drewN (w : World) (n : Nat) : Below w.heap.size w (w.drewN n) := ⟨rfl, rfl, rfl, Nat.le_refl _, fun _ _ => rfl⟩
/-- how it stands ahead of a round of the inner range -/
structure KI (wK : World) (rk n k : Nat) (O : Nat → Prop) (W : World) : Prop where
  hO : O = fun j => j = rk
  blw : Below wK.heap.size wK W
  ge : wK.heap.size ≤ rk
  cell : W.heap[rk]? = some (.cells #[.int .i64 k] 3 (0, 0))
  le : k ≤ n + 1
theorem KI.lt {wK W : World} {rk n k : Nat} {O : Nat → Prop} (h : KI wK rk n k O W) : ∀ j, O j → j < W.heap.size := by
  intro j hj
  rw [h.hO] at hj
  subst hj
  exact (Array.getElem?_eq_some_iff.1 h.cell).1
theorem KI.turn {wK W W' : World} {rk n k d : Nat} {O : Nat → Prop} (h : KI wK rk n k O W) (hg : W.grownBy W' (some d)) (hd : wK.heap.size ≤ d) (hO : ¬ O d) : KI wK rk n k O W' := by
  have h1 := h.hO
  refine ⟨h.hO, h.blw.grown hg h.blw.size (fun j hj => by have := Option.some.inj hj; omega), h.ge, (hg.block rk (Array.getElem?_eq_some_iff.1 h.cell).1 (fun e => hO ?_)).trans h.cell, h.le⟩
  have := Option.some.inj e
  rw [h1]
  exact this.symm

set_option maxRecDepth 20000 in
set_option maxHeartbeats 4000000 in
theorem round_inner {lp : Nat} (K : LoopBook lp lp) (w0 wK W : World) (qt qn rk bt nL ct n : Nat) (L : List (Int × V)) (k : Nat) (d : Int) (z : V) (s : Value) (zB : Nat) (O F : Nat → Prop) (v0 v1 v2 v3 v4 v5 v6 v8 v9 v10 v11 v12 v13 v14 v16 v17 v18 v20 v21 v22 v23 v24 v25 v26 v27 v28 v29 v30 v31 v32 v33 v34 v35 v36 v37 v38 v39 v40 v41 v42 v43 v44 v45 v46 v47 v48 v49 v50 v51 v52 v53 v54 v55 v56 v57 v58 v59 v60 v61 v62 v63 v64 v65 v66 v67 v68 v69 v70 v71 v72 v73 v74 v75 v76 v77 v78 v79 v80 v81 v82 v83 v84 v85 v86 v87 v88 v89 v90 v91 v92 v93 v94 v95 v96 v97 v98 v99 v100 v101 v102 v103 v104 v105 v106 v107 v108 v109 v110 v111 v112 v113 v114 v115 v116 v117 v118 v119 v120 v121 v122 v123 v124 v125 v126 v127 v128 v129 v130 v131 v132 v133 v134 v135 v136 v137 v138 v139 v140 v141 v142 v143 v144 v145 v146 v147 v148 v149 v150 v151 v152 v153 v154 v155 v156 v157 v158 v159 v160 v161 v162 v163 v164 v165 v166 v167 v168 v169 v170 v171 v172 v173 v174 v175 v176 v177 v178 v179 v180 : Value) (asg bdy : Code) (hrf : ((Tryd.f6.body.bind rfOf).bind fun q => rfOf q.2) = some (asg, bdy))
    (hrd : K.rdy W) (hI : KI wK rk n k O W) (hL : L[k]? = some (d, z)) (hz : VO W zB z s F) (hnb : (n : Int) ≤ 1000000) (hnL : L.length = nL) (hLb : (nL : Int) ≤ 40000000)
    (hto : ToldIn w0 wK (.slice (some ⟨bt, 0, none⟩) nL ct) L) (hqt : wK.heap[qt]? = some (.cells #[.slice (some ⟨bt, 0, none⟩) nL ct] 37 (0, 0))) (hqn : wK.heap[qn]? = some (.cells #[.int .i64 n] 3 (0, 0)))
    (hzB : lp + 1 ≤ zB) (hlp : wK.heap.size ≤ lp) (hOl : ¬ O lp) :
    RoundOf Tryd.prog K #[v0, v1, v2, v3, v4, v5, v6, .pointer (some ⟨qt, 0, none⟩), v8, v9, v10, v11, v12, v13, v14, .pointer (some ⟨qn, 0, none⟩), v16, v17, v18, .pointer (some ⟨rk, 0, none⟩), v20, v21, v22, v23, v24, v25, v26, v27, v28, v29, v30, v31, v32, v33, v34, v35, v36, v37, v38, v39, v40, v41, v42, v43, v44, v45, v46, v47, v48, v49, v50, v51, v52, v53, v54, v55, v56, v57, v58, v59, v60, v61, v62, v63, v64, v65, v66, v67, v68, v69, v70, v71, v72, v73, v74, v75, v76, v77, v78, v79, v80, v81, v82, v83, v84, v85, v86, v87, v88, v89, v90, v91, v92, v93, v94, v95, v96, v97, v98, v99, v100, v101, v102, v103, v104, v105, v106, v107, v108, v109, v110, v111, v112, v113, v114, v115, v116, v117, v118, v119, v120, v121, v122, v123, v124, v125, v126, v127, v128, v129, v130, v131, v132, v133, v134, v135, v136, v137, v138, v139, v140, v141, v142, v143, v144, v145, v146, v147, v148, v149, v150, v151, v152, v153, v154, v155, v156, v157, v158, v159, v160, v161, v162, v163, v164, v165, v166, v167, v168, v169, v170, v171, v172, v173, v174, v175, v176, v177, v178, v179, v180] #[105, 106] asg bdy #[.int .i64 d, .agg #[.int .i64 z.kind, .int .u64 z.num, .string z.text, s, .int .i64 z.elem]] W
      (fun W3 => ∃ O2, KI wK rk n (k + 1) O2 W3 ∧ KeepR lp (fun j => O j ∨ F j) W O2 W3) (fun c W3 => ∃ O2, (c = .exit 2 ∧ n + 1 ≤ L.length ∧ KI wK rk n (n + 1) O2 W3) ∧ KeepR lp (fun j => O j ∨ F j) W O2 W3) := by
  simp only [Tryd.f6, Option.bind_some, rfOf, Option.some.injEq, Prod.mk.injEq] at hrf
  obtain ⟨rfl, rfl⟩ := hrf
  unfold RoundOf
  obtain ⟨p, c, hs, hj0⟩ := hz.slice
  clear hj0
  subst hs
  obtain ⟨N, hN⟩ : ∃ N, z.list.length = N := ⟨_, rfl⟩
  rw [hN] at hz ⊢
  refine wpIn_mono (Q := MidC #[v0, v1, v2, v3, v4, v5, v6, .pointer (some ⟨qt, 0, none⟩), v8, v9, v10, v11, v12, v13, v14, .pointer (some ⟨qn, 0, none⟩), v16, v17, v18, .pointer (some ⟨rk, 0, none⟩), .int .i64 d, .pointer (some ⟨W.heap.size, 0, none⟩), v22, v23, v24, v25, v26, v27, v28, v29, v30, v31, v32, v33, v34, v35, v36, v37, v38, v39, v40, v41, v42, v43, v44, v45, v46, v47, v48, v49, v50, v51, v52, v53, v54, v55, v56, v57, v58, v59, v60, v61, v62, v63, v64, v65, v66, v67, v68, v69, v70, v71, v72, v73, v74, v75, v76, v77, v78, v79, v80, v81, v82, v83, v84, v85, v86, v87, v88, v89, v90, v91, v92, v93, v94, v95, v96, v97, v98, v99, v100, v101, v102, v103, v104, .int .i64 d, .agg #[.int .i64 z.kind, .int .u64 z.num, .string z.text, (.slice p N c), .int .i64 z.elem], v107, v108, v109, v110, v111, v112, v113, v114, v115, v116, v117, v118, v119, v120, v121, v122, v123, v124, v125, v126, v127, v128, v129, v130, v131, v132, v133, v134, v135, v136, v137, v138, v139, v140, v141, v142, v143, v144, v145, v146, v147, v148, v149, v150, v151, v152, v153, v154, v155, v156, v157, v158, v159, v160, v161, v162, v163, v164, v165, v166, v167, v168, v169, v170, v171, v172, v173, v174, v175, v176, v177, v178, v179, v180] W z (.slice p N c)) ?_ ?_
  · gi_wp2
    exact ⟨rfl, rfl, (Below.refl _ _).alloc (Nat.le_refl _) _, _root_.Go.heap_alloc_new _ _⟩
  · rintro e a' Wa ⟨rfl, rfl, hg, hi⟩
    obtain ⟨⟨oD, hD, hDc⟩, ⟨ol, hl, hlc⟩⟩ := K.rdyN W hrd
    have hllt := (Array.getElem?_eq_some_iff.1 hl).1
    refine ⟨K.keepR W Wa hrd (hg.block lp hllt) (hg.block lp hllt), ?_⟩
    intro Wb ht hb
    have hib : Wb.heap[W.heap.size]? = some (.cells #[.int .i64 z.kind, .int .u64 z.num, .string z.text, (.slice p N c), .int .i64 z.elem] 25 (0, 0)) :=
      (ht.1.block W.heap.size (Array.getElem?_eq_some_iff.1 hi).1 (fun h => by have := Option.some.inj h; omega)).trans hi
    have hib2 := inBody_of hg ht
    have hbl := hib2.below hI.blw hlp
    have hO := hI.hO
    have hrl : rk ≠ lp := fun e => hOl (by rw [hO]; exact e.symm)
    have hcb := (hib2.rest rk (Array.getElem?_eq_some_iff.1 hI.cell).1 hrl).trans hI.cell
    have hkl : k < L.length := (List.getElem?_eq_some_iff.1 hL).1
    obtain ⟨s2, hv2, hrow⟩ := (hto.blw hbl).row rfl hL
    obtain ⟨p2, c2, hs2, hj1⟩ := hv2.slice
    clear hj1
    rw [hN] at hs2
    subst hs2
    have r0 : Wb.cell? ⟨rk, 0, none⟩ = some (.int .i64 k) := (cell_of_row _ _ 0 _ _ _ hcb).trans rfl
    have t0 : Wb.cell? ⟨qt, 0, none⟩ = some (.slice (some ⟨bt, 0, none⟩) nL ct) := (cell_of_row _ _ 0 _ _ _ ((hbl.block qt (Array.getElem?_eq_some_iff.1 hqt).1).trans hqt)).trans rfl
    have n0 : Wb.cell? ⟨qn, 0, none⟩ = some (.int .i64 n) := (cell_of_row _ _ 0 _ _ _ ((hbl.block qn (Array.getElem?_eq_some_iff.1 hqn).1).trans hqn)).trans rfl
    have k0 : Wb.cell? ⟨bt, k * 6, none⟩ = some (.int .i64 d) := hrow 0 _ rfl
    have k1 : Wb.cell? ⟨bt, k * 6 + 1, none⟩ = some (.int .i64 z.kind) := hrow 1 _ rfl
    have k2 : Wb.cell? ⟨bt, k * 6 + 1 + 1, none⟩ = some (.int .u64 z.num) := hrow 2 _ rfl
    have k4 : Wb.cell? ⟨bt, k * 6 + 1 + 3, none⟩ = some (.slice p2 N c2) := hrow 4 _ rfl
    have f1 : Wb.frozen? ⟨rk, 0, none⟩ = false := by simp [World.frozen?, hcb]
    have hkL : (k : Int) < nL := by omega
    have hkb : (k : Int) ≤ 40000000 := by omega
    have y0 : Wb.cell? ⟨W.heap.size, 0, none⟩ = some (.int .i64 z.kind) := (cell_of_row _ _ 0 _ _ _ hib).trans rfl
    have y1 : Wb.cell? ⟨W.heap.size, 1, none⟩ = some (.int .u64 z.num) := (cell_of_row _ _ 1 _ _ _ hib).trans rfl
    have y3 : Wb.cell? ⟨W.heap.size, 3, none⟩ = some (.slice p N c) := (cell_of_row _ _ 3 _ _ _ hib).trans rfl
    have H := Lib.hid (And.intro hib2 (And.intro hbl (And.intro hcb (And.intro hb (And.intro hI (And.intro hrl hkl))))))
    have hnk := hI.le
    have HW := Lib.hid (And.intro hnL hO)
    obtain ⟨y, hy⟩ : ∃ y, W.heap.size = y := ⟨_, rfl⟩
    rw [hy] at y0 y1 y3 ⊢
    clear hib2 hbl hcb hb hI hrl hL hz hto hqt hqn hzB hlp hOl hrow hv2 hib hi hg ht hD hl hlc hDc hllt hrd hN hkl hO hnL hy
    have hdb : (decide (n < k) = true ∧ k = n + 1) ∨ (decide (n < k) = false ∧ k ≤ n) := by
      by_cases h : n < k
      · exact .inl ⟨decide_eq_true h, by omega⟩
      · exact .inr ⟨decide_eq_false h, by omega⟩
    rcases hdb with ⟨hkn4, hkn5⟩ | ⟨hkn4, hkn5⟩
    · have hkn2 := Lib.hid hkn5
      clear hkn5 hnk
      gi_upto_region 29 with fail
      refine wpIn_region_quiet_lit (by kernel_rfl) (by kernel_rfl) (by rintro ⟨_, _, h⟩; exact h) (by kernel_rfl) ?_
      try dsimp only
      repeat (go_big_quiet_step (fail))
      refine wpQuiet_nil ?_
      intro _ hw'
      obtain ⟨nq, hw''⟩ := hw'
      subst hw''
      gi_wp2
      all_goals
        obtain ⟨hib2, hbl, hcb, hb, hI, hrl, hkl⟩ := H.out
        have hkeep := hib2.keepR (World.below_drewN Wb nq) (fun j => j = rk)
        exact ⟨K.keepB _ _ hb rfl rfl, _, ⟨rfl, by have := hkn2.out; omega, ⟨rfl, ⟨hbl.os, hbl.tape, hbl.output, hbl.size, hbl.block⟩, hI.ge, (show _ from by have h := hcb; rw [hkn2.out] at h; exact h), Nat.le_refl _⟩⟩, hkeep.os, hkeep.tape, hkeep.output, hkeep.size, fun j h1 h2 h3 => hkeep.block j h1 (fun e => h2 (.inl (by rw [HW.out.2]; exact e))) h3, fun j hj => .inl (.inl (by rw [HW.out.2]; exact hj))⟩
    · gi_upto_region 29 with fail
      refine wpIn_region_quiet_lit (by kernel_rfl) (by kernel_rfl) (by rintro ⟨_, _, h⟩; exact h) (by kernel_rfl) ?_
      try dsimp only
      repeat (go_big_quiet_step (fail))
      refine wpQuiet_nil ?_
      intro _ hw'
      obtain ⟨nq, hw''⟩ := hw'
      subst hw''
      gi_wp2
      all_goals
        obtain ⟨hib2, hbl, hcb, hb, hI, hrl, hkl⟩ := H.out
        have hkeep := hib2.keepR (World.below_drewN Wb nq) (fun j => j = rk)
        have hfar : ∀ j, j ≠ rk → ((Wb.drewN nq).setCell ⟨rk, 0, none⟩ (.int .i64 ((k : Int) + 1))).heap[j]? = (Wb.drewN nq).heap[j]? := fun j hj => set_farV hj
        have hsz : ((Wb.drewN nq).setCell ⟨rk, 0, none⟩ (.int .i64 ((k : Int) + 1))).heap.size = Wb.heap.size := by simp
        have hE : KI wK rk n (k + 1) (fun j => j = rk) ((Wb.drewN nq).setCell ⟨rk, 0, none⟩ (.int .i64 ((k : Int) + 1))) := ⟨rfl, Below.setCell (p := ⟨rk, 0, none⟩) (show Below wK.heap.size wK (Wb.drewN nq) from ⟨hbl.os, hbl.tape, hbl.output, hbl.size, hbl.block⟩) hI.ge _, hI.ge, heap_setCell_same (Wb.drewN nq) rk 0 _ _ (.int .i64 ((k : Int) + 1)) hcb, by omega⟩
        exact ⟨K.keepB _ _ hb (hfar lp (Ne.symm hrl)) (hfar lp (Ne.symm hrl)), _, hE, hkeep.os, hkeep.tape, hkeep.output, by rw [hsz]; exact hib2.size, fun j h1 h2 h3 => (hfar j (fun e => h2 (.inl (by rw [HW.out.2]; exact e)))).trans (hkeep.block j h1 (fun e => h2 (.inl (by rw [HW.out.2]; exact e))) h3), fun j hj => .inl (.inl (by rw [HW.out.2]; exact hj))⟩
end Go.Proofs.YtakbgekamjpibaaDoor
