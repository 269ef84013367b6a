/-
  ValueAlls, the outer range: a round. Conditions: the list of what must be told lies in memory.
-/
import Derived.Test.YtakbgekamjpibaaDoorPh
namespace Go.Proofs.YtakbgekamjpibaaDoor
open Go.RowKit
set_option linter.unusedVariables false

attribute [local go_sem] Oper.semAt_some

theorem BkFr.suf {bp : Nat} {vl vl' : Value} {w w1 w' : World} (h : BkFr bp vl w vl' w1) (hb : Below w1.heap.size w1 w') : BkFr bp vl w vl' w' :=
  ⟨Nat.le_trans h.size hb.size, fun g hg h1 h2 => (hb.block g (Nat.lt_of_lt_of_le hg h.size)).trans (h.blk g hg h1 h2), h.own⟩
theorem KI.blw' {wK W W' : World} {rk n k : Nat} {O : Nat → Prop} (h : KI wK rk n k O W) (hb : Below W.heap.size W W') : KI wK rk n k O W' :=
  ⟨h.hO, h.blw.trans (hb.mono h.blw.size), h.ge, (hb.block rk (Array.getElem?_eq_some_iff.1 h.cell).1).trans h.cell, h.le⟩
/-- the fortieth round is the last one -/
def OuX (w0 wE : World) (bp r m0 : Nat) (Q0 : Nat → Prop) (L : List (Int × V)) (O : Nat → Prop) (W : World) : Prop := ∃ (vl : Value) (vs : List Value), 40 ≤ L.length ∧ GoI w0 wE bp r m0 Q0 L 40 O W vl vs

set_option maxRecDepth 20000 in
set_option maxHeartbeats 4000000 in
theorem round_outer {D lp : Nat} (K : LoopBook D lp) (hKl : ∀ W, K.busy W → ∃ q, W.heap[lp]? = some (.loop q)) (w0 wE W : World) (bp r qt qb qa xa m0 bt nL ct BA : Nat) (a : V) (u : Value) (FA : Nat → Prop) (k : Nat) (d : Int) (z : V) (s : Value) (zB : Nat) (O F Q0 : Nat → Prop) (vl : Value) (vs : List Value) (v0 v1 v2 v3 v4 v5 v6 v8 v10 v11 v12 v14 v16 v17 v18 v19 v20 v21 v22 v23 v24 v25 v26 v27 v28 v29 v30 v31 v32 v33 v34 v35 v36 v37 v38 v39 v40 v41 v42 v43 v44 v45 v46 v47 v48 v49 v50 v51 v52 v53 v54 v55 v56 v57 v58 v59 v60 v61 v62 v63 v64 v65 v66 v67 v68 v69 v70 v71 v72 v73 v74 v75 v76 v77 v78 v79 v80 v81 v82 v83 v84 v85 v86 v87 v88 v89 v90 v91 v92 v93 v94 v95 v96 v97 v98 v99 v100 v101 v102 v103 v104 v105 v106 v107 v108 v109 v110 v111 v112 v113 v114 v115 v116 v117 v118 v119 v120 v121 v122 v123 v124 v125 v126 v127 v128 v129 v130 v131 v132 v133 v134 v135 v136 v137 v138 v139 v140 v141 v142 v143 v144 v145 v146 v147 v148 v149 v150 v151 v152 v153 v154 v155 v156 v157 v158 v159 v160 v161 v162 v163 v164 v165 v166 v167 v168 v169 v170 v171 v172 v173 v174 v175 v176 v177 v178 v179 v180 : Value) (asg bdy : Code) (hrf : (Tryd.f6.body.bind rfOf) = some (asg, bdy))
    (hrd : K.rdy W) (hI : GoI w0 wE bp r m0 Q0 (a.pre 1) k O W vl vs) (hk40 : k < 40) (hL : (a.pre 1)[k]? = some (d, z)) (hz : VO W zB z s F) (hF : ∀ g, F g → wE.heap.size ≤ g ∧ ¬ O g) (hwt : z.wt ≤ 1000000) (hm : m0 + cost (a.pre 1) ≤ 40000000)
    (hw0 : Below w0.heap.size w0 wE) (hto : ToldIn w0 wE (.slice (some ⟨bt, 0, none⟩) nL ct) (a.pre 1)) (hnL : (a.pre 1).length = nL) (hqt : wE.heap[qt]? = some (.cells #[.slice (some ⟨bt, 0, none⟩) nL ct] 37 (0, 0))) (hqb : wE.heap[qb]? = some (.cells #[.pointer (some ⟨bp, 0, none⟩)] 39 (0, 0))) (hqa : wE.heap[qa]? = some (.cells #[.func (.func 53) #[] #[.pointer (some ⟨xa, 0, none⟩)]] 45 (0, 0)))
    (hxa : wE.heap[xa]? = some (.cells #[.int .i64 a.kind, .int .u64 a.num, .string a.text, u, .int .i64 a.elem] 25 (0, 0))) (hvoa : VO wE BA a u FA) (hxr : xa ≠ r) (hwta : a.wt ≤ 1000000) (hFr : ¬ FA r) (hrE : wE.heap[r]? = some (.cells #[.int .i64 0] 3 (0, 0)))
    (hzB : D + 2 ≤ zB) (hDz : D + 2 ≤ W.heap.size) (hlp : lp = D + 1) (hDE : D = wE.heap.size) (hOD : ¬ O D) (hOl : ¬ O lp) :
    RoundOf Tryd.prog K #[v0, v1, v2, v3, v4, v5, v6, .pointer (some ⟨qt, 0, none⟩), v8, .pointer (some ⟨qb, 0, none⟩), v10, v11, v12, .pointer (some ⟨qa, 0, none⟩), v14, .pointer (some ⟨r, 0, none⟩), v16, v17, v18, v19, v20, v21, v22, v23, v24, v25, v26, v27, v28, v29, v30, v31, v32, v33, v34, v35, v36, v37, v38, v39, v40, v41, v42, v43, v44, v45, v46, v47, v48, v49, v50, v51, v52, v53, v54, v55, v56, v57, v58, v59, v60, v61, v62, v63, v64, v65, v66, v67, v68, v69, v70, v71, v72, v73, v74, v75, v76, v77, v78, v79, v80, v81, v82, v83, v84, v85, v86, v87, v88, v89, v90, v91, v92, v93, v94, v95, v96, v97, v98, v99, v100, v101, v102, v103, v104, v105, v106, v107, v108, v109, v110, v111, v112, v113, v114, v115, v116, v117, v118, v119, v120, v121, v122, v123, v124, v125, v126, v127, v128, v129, v130, v131, v132, v133, v134, v135, v136, v137, v138, v139, v140, v141, v142, v143, v144, v145, v146, v147, v148, v149, v150, v151, v152, v153, v154, v155, v156, v157, v158, v159, v160, v161, v162, v163, v164, v165, v166, v167, v168, v169, v170, v171, v172, v173, v174, v175, v176, v177, v178, v179, v180] #[75, 76] asg bdy #[.int .i64 d, .agg #[.int .i64 z.kind, .int .u64 z.num, .string z.text, s, .int .i64 z.elem]] W
      (fun W3 => ∃ O2, ((∃ vl vs, GoI w0 wE bp r m0 Q0 (a.pre 1) (k + 1) O2 W3 vl vs) ∧ k + 1 < 40) ∧ KeepR lp (fun j => O j ∨ F j) W O2 W3) (fun c W3 => ∃ O2, (c = .exit 0 ∧ OuX w0 wE bp r m0 Q0 (a.pre 1) O2 W3) ∧ KeepR lp (fun j => O j ∨ F j) W O2 W3) := by
  simp only [Tryd.f6, Option.bind_some, rfOf, Option.some.injEq, Prod.mk.injEq] at hrf
  obtain ⟨rfl, rfl⟩ := hrf
  unfold RoundOf
  obtain ⟨p, c, hs, hj0⟩ := hz.slice
  clear hj0
  subst hs
  obtain ⟨N, hN⟩ : ∃ N, z.list.length = N := ⟨_, rfl⟩
  rw [hN] at hz ⊢
  refine wpIn_mono (Q := MidC #[v0, v1, v2, v3, v4, v5, v6, .pointer (some ⟨qt, 0, none⟩), v8, .pointer (some ⟨qb, 0, none⟩), v10, v11, v12, .pointer (some ⟨qa, 0, none⟩), v14, .pointer (some ⟨r, 0, none⟩), .int .i64 d, .pointer (some ⟨W.heap.size, 0, none⟩), v18, v19, v20, v21, v22, v23, v24, v25, v26, v27, v28, v29, v30, v31, v32, v33, v34, v35, v36, v37, v38, v39, v40, v41, v42, v43, v44, v45, v46, v47, v48, v49, v50, v51, v52, v53, v54, v55, v56, v57, v58, v59, v60, v61, v62, v63, v64, v65, v66, v67, v68, v69, v70, v71, v72, v73, v74, .int .i64 d, .agg #[.int .i64 z.kind, .int .u64 z.num, .string z.text, (.slice p N c), .int .i64 z.elem], v77, v78, v79, v80, v81, v82, v83, v84, v85, v86, v87, v88, v89, v90, v91, v92, v93, v94, v95, v96, v97, v98, v99, v100, v101, v102, v103, v104, v105, v106, v107, v108, v109, v110, v111, v112, v113, v114, v115, v116, v117, v118, v119, v120, v121, v122, v123, v124, v125, v126, v127, v128, v129, v130, v131, v132, v133, v134, v135, v136, v137, v138, v139, v140, v141, v142, v143, v144, v145, v146, v147, v148, v149, v150, v151, v152, v153, v154, v155, v156, v157, v158, v159, v160, v161, v162, v163, v164, v165, v166, v167, v168, v169, v170, v171, v172, v173, v174, v175, v176, v177, v178, v179, v180] W z (.slice p N c)) ?_ ?_
  · gi_wp2
    exact ⟨rfl, rfl, (Below.refl _ _).alloc (Nat.le_refl _) _, _root_.Go.heap_alloc_new _ _⟩
  · rintro e a' Wa ⟨rfl, rfl, hg, hi⟩
    obtain ⟨⟨oD, hD, hDc⟩, ⟨ol, hl, hlc⟩⟩ := K.rdyN W hrd
    have hDlt := (Array.getElem?_eq_some_iff.1 hD).1
    have hllt := (Array.getElem?_eq_some_iff.1 hl).1
    refine ⟨K.keepR W Wa hrd (hg.block D hDlt) (hg.block lp hllt), ?_⟩
    intro Wb ht hb
    have hib : Wb.heap[W.heap.size]? = some (.cells #[.int .i64 z.kind, .int .u64 z.num, .string z.text, (.slice p N c), .int .i64 z.elem] 25 (0, 0)) :=
      (ht.1.block W.heap.size (Array.getElem?_eq_some_iff.1 hi).1 (fun h => by have := Option.some.inj h; omega)).trans hi
    have hib2 := inBody_of hg ht
    have hGb := hI.inb hib2 hOl (by omega)
    have hzb := hz.keep (w' := Wb) (fun g q => hib2.rest g (hz.lt g q).2 (fun e => by have := (hz.lt g q).1; omega))
    have hw0b : Below w0.heap.size w0 Wb := hw0.trans hGb.blw
    have hkl : k < (a.pre 1).length := (List.getElem?_eq_some_iff.1 hL).1
    have kept : ∀ {V : World} {O' : Nat → Prop} {k' : Nat} {vl' : Value} {vs' : List Value} {j T : Nat} {cs : Array Value} {fr : Nat × Nat}, BkMvR r wE V → wE.heap[j]? = some (.cells cs T fr) → T ≠ 42 → T ≠ 23 → j ≠ r → V.heap[j]? = some (.cells cs T fr) := by
      intro V O' k' vl' vs' j T cs fr hG hj h1 h2 h3
      refine (hG.oth j (Array.getElem?_eq_some_iff.1 hj).1 ?_ h3).trans hj
      rintro (⟨x, y, q⟩ | ⟨x, y, q⟩)
      · rw [hj] at q; simp at q; exact h1 q.2.1
      · rw [hj] at q; simp at q; exact h2 q.2.1
    have keptc : ∀ {V : World}, BkMvR r wE V → V.heap[qt]? = some (.cells #[.slice (some ⟨bt, 0, none⟩) nL ct] 37 (0, 0)) ∧ V.heap[qb]? = some (.cells #[.pointer (some ⟨bp, 0, none⟩)] 39 (0, 0)) ∧ V.heap[qa]? = some (.cells #[.func (.func 53) #[] #[.pointer (some ⟨xa, 0, none⟩)]] 45 (0, 0)) ∧ V.heap[xa]? = some (.cells #[.int .i64 a.kind, .int .u64 a.num, .string a.text, u, .int .i64 a.elem] 25 (0, 0)) ∧ VO V BA a u FA ∧ ToldIn w0 V (.slice (some ⟨bt, 0, none⟩) nL ct) (a.pre 1) := by
      intro V hV
      refine ⟨kept (O' := O) (k' := 0) (vl' := vl) (vs' := vs) hV hqt (by decide) (by decide) ?_, kept (O' := O) (k' := 0) (vl' := vl) (vs' := vs) hV hqb (by decide) (by decide) ?_, kept (O' := O) (k' := 0) (vl' := vl) (vs' := vs) hV hqa (by decide) (by decide) ?_, kept (O' := O) (k' := 0) (vl' := vl) (vs' := vs) hV hxa (by decide) (by decide) hxr, hvoa.keep (fun g q => hV.oth g (hvoa.lt g q).2 (hvoa.isVal g q).notBk (fun e => hFr (by rw [← e]; exact q))), hto.mvr hV ⟨_, _, hrE⟩⟩
      · rintro rfl; rw [hqt] at hrE; simp at hrE
      · rintro rfl; rw [hqb] at hrE; simp at hrE
      · rintro rfl; rw [hqa] at hrE; simp at hrE
    obtain ⟨tb, bb, ab, xb, vb, htb⟩ := keptc hGb.mv
    obtain ⟨s2, hv2, hrow⟩ := htb.row rfl hL
    obtain ⟨p2, c2, hs2, hj1⟩ := hv2.slice
    clear hj1
    rw [hN] at hs2
    subst hs2
    have r0 : Wb.cell? ⟨r, 0, none⟩ = some (.int .i64 k) := (cell_of_row _ _ 0 _ _ _ hGb.cell).trans rfl
    have t0 : Wb.cell? ⟨qt, 0, none⟩ = some (.slice (some ⟨bt, 0, none⟩) nL ct) := (cell_of_row _ _ 0 _ _ _ tb).trans rfl
    have b0 : Wb.cell? ⟨qb, 0, none⟩ = some (.pointer (some ⟨bp, 0, none⟩)) := (cell_of_row _ _ 0 _ _ _ bb).trans rfl
    have k0 : Wb.cell? ⟨bt, k * 6, none⟩ = some (.int .i64 d) := hrow 0 _ rfl
    have k1 : Wb.cell? ⟨bt, k * 6 + 1, none⟩ = some (.int .i64 z.kind) := hrow 1 _ rfl
    have k2 : Wb.cell? ⟨bt, k * 6 + 2, none⟩ = some (.int .u64 z.num) := hrow 2 _ rfl
    have k3 : Wb.cell? ⟨bt, k * 6 + 3, none⟩ = some (.string z.text) := hrow 3 _ rfl
    have k4 : Wb.cell? ⟨bt, k * 6 + 4, none⟩ = some (.slice p2 N c2) := hrow 4 _ rfl
    have k5 : Wb.cell? ⟨bt, k * 6 + 5, none⟩ = some (.int .i64 z.elem) := hrow 5 _ rfl
    have hkL : (k : Int) < nL := by omega
    have hnLb : (nL : Int) ≤ 40000000 := by have := cost_len (a.pre 1); omega
    have HE := Lib.hid (fun (V : World) (hV : Below Wb.heap.size Wb V) => requal_any z V _ z _ (hzb.vin.blw hV) ((hv2.blw hw0b).blw hV))
    have y0 : Wb.cell? ⟨W.heap.size, 0, none⟩ = some (.int .i64 z.kind) := (cell_of_row _ _ 0 _ _ _ hib).trans rfl
    have y1 : Wb.cell? ⟨W.heap.size, 1, none⟩ = some (.int .u64 z.num) := (cell_of_row _ _ 1 _ _ _ hib).trans rfl
    have y2 : Wb.cell? ⟨W.heap.size, 2, none⟩ = some (.string z.text) := (cell_of_row _ _ 2 _ _ _ hib).trans rfl
    have y3 : Wb.cell? ⟨W.heap.size, 3, none⟩ = some (.slice p N c) := (cell_of_row _ _ 3 _ _ _ hib).trans rfl
    have y4 : Wb.cell? ⟨W.heap.size, 4, none⟩ = some (.int .i64 z.elem) := (cell_of_row _ _ 4 _ _ _ hib).trans rfl
    have HZ := Lib.hid (And.intro hzb (And.intro hib2 (And.intro hGb hib)))
    have HK := Lib.hid (And.intro (@keptc) (And.intro hrE (And.intro hvoa.lt (And.intro hwta hnL))))
    have HP := Lib.hid (And.intro hL (And.intro hF (And.intro hlp (And.intro hDE (And.intro hOD (And.intro hOl (And.intro hzB hm)))))))
    have HT := Lib.hid (And.intro (hz.lt) (And.intro hI hrow))
    have HW := Lib.hid (And.intro hb (And.intro hDlt (And.intro hllt (And.intro hkl hk40))))
    have HQ := Lib.hid (And.intro hwt hw0)
    obtain ⟨y, hy⟩ : ∃ y, W.heap.size = y := ⟨_, rfl⟩
    rw [hy] at y0 y1 y2 y3 y4 ⊢
    have HY := Lib.hid hy
    clear hzb hib2 hGb hib keptc kept hqt hqb hqa hxa hvoa hxr hFr hrE hL hF hlp hDE hOD hOl hzB hm hI hrow hb hDlt hllt hy hz hg hi hD hDc hl hlc hrd ht hw0b htb hv2 hto hw0 hDz hN hnL hkl hk40 tb bb ab xb vb hwta hwt
    gi_upto_region 21 with fail
    dsimp only
    gi_cut [18] from 77 (fun s18 wx => s18 = .bool true ∧ Below Wb.heap.size Wb wx)
    case first =>
      rename_i JJ hJJ KK hKK
      refine wpIn_region_still_tail 11 (by kernel_rfl) (by kernel_rfl) (by rintro ⟨_, _, h⟩; exact h) (by kernel_rfl) ?_
      simp only [List.take_succ_cons, List.take_zero, List.drop_succ_cons, List.drop_zero]
      repeat still_step
      try refine wpStill_nil ?_
      change wpList _ _ _ _ _ Wb.drew
      have hdr : Below Wb.heap.size Wb Wb.drew := ⟨rfl, rfl, rfl, Nat.le_refl _, fun _ _ => rfl⟩
      have hc := HE.out _ hdr
      rw [decide_eq_true (rfl : z = z)] at hc
      have HC := Lib.hid hc
      have HDR := Lib.hid hdr
      clear hc hdr
      go_wp2_with fail
      refine HC.out.mono ?_
      rintro e w1 ⟨rfl, hb1⟩
      have HB1 := Lib.hid (HDR.out.trans hb1)
      clear hb1
      go_wp2_with fail
      refine Met.intro (KK _ _ ?_)
      (repeat apply Exists.intro)
      refine ⟨?_, rfl⟩
      exact ⟨rfl, HB1.out⟩
    case rest =>
      obtain ⟨rfl, hbc⟩ := hcut
      replace r0 := bs_cellV hbc r0
      replace t0 := bs_cellV hbc t0
      replace b0 := bs_cellV hbc b0
      replace k0 := bs_cellV hbc k0
      replace y0 := bs_cellV hbc y0
      replace y1 := bs_cellV hbc y1
      replace y2 := bs_cellV hbc y2
      replace y3 := bs_cellV hbc y3
      replace y4 := bs_cellV hbc y4
      clear k1 k2 k3 k4 k5
      have hGc := HZ.out.2.2.1.blw' hbc
      have hzc := HZ.out.1.blw hbc
      have hO := HZ.out.2.2.1.hO
      have hFQ : ∀ g, F g → ¬ BkQ vs g := fun g q q2 => (HP.out.2.1 g q).2 (by rw [hO]; exact .inr (.inr (.inr q2)))
      have hzs := cost_take1 HP.out.1
      have hzt := cost_take (a.pre 1) (k + 1)
      have hge := HZ.out.2.2.1.ge
      have hlen : vs.length + z.sz ≤ 40000000 := by have h1 := HZ.out.2.2.1.len; have h2 := HP.out; simp only at hzs; omega
      have hc := take2_on z wc w0.heap.size bp vl vs (BkQ vs) _ F hGc.bk (hzc.mono (by have := HP.out; omega)) hFQ hlen HQ.out.1
      have HC := Lib.hid hc
      have HB := Lib.hid (And.intro hbc hGc)
      clear hbc hGc hzc hO hFQ hzs hzt hge hlen hc
      gi_wp2
      refine ⟨trivial, (CallsIn.inRound lp (callsIn_wide.2 HC.out)).mono ?_⟩
      clear r0 t0 b0 k0 y0 y1 y2 y3 y4
      rintro e w2 ⟨rfl, ⟨vl2, vs2, hb2, hl2, hf2⟩, hm2, hb3⟩
      have hrE := (Array.getElem?_eq_some_iff.1 HK.out.2.1).1
      have hzz := HZ.out.2.1.size
      have hzw := HB.out.1.size
      have hmv2 : BkMvR r wE w2 := HB.out.2.mv.trans (BkMvR.of hm2)
      have hr2 : w2.heap[r]? = some (.cells #[.int .i64 k] 3 (0, 0)) := (hf2.blk r (Array.getElem?_eq_some_iff.1 HB.out.2.cell).1 HB.out.2.off.1 HB.out.2.off.2.1).trans HB.out.2.cell
      obtain ⟨tb, bb, ab, xb, vb, htb⟩ := HK.out.1 hmv2
      have hlt2 : ∀ j, FA j → j < w2.heap.size := fun j q => Nat.lt_of_lt_of_le (HK.out.2.2.1 j q).2 hmv2.size
      have hD2 : D < w2.heap.size ∧ lp < w2.heap.size := by have := HW.out; have := hf2.size; exact ⟨by omega, by omega⟩
      have hgD : ∀ j, (j = D ∨ j = lp) → w2.heap[j]? = Wb.heap[j]? := fun j hj => by
        have hjW : j < W.heap.size := by rcases hj with rfl | rfl; exact HW.out.2.1; exact HW.out.2.2.1
        have hOj : ¬ O j := by rcases hj with rfl | rfl; exact HP.out.2.2.2.2.1; exact HP.out.2.2.2.2.2.1
        have hO := HZ.out.2.2.1.hO
        rw [hO] at hOj
        exact (hf2.blk j (by omega) (fun e => hOj (.inr (.inl e))) (fun e => hOj (.inr (.inr (.inl e))))).trans (HB.out.1.block j (by omega))
      have hbz2 : K.busy w2 := K.keepB Wb _ HW.out.1 (hgD D (.inl rfl)) (hgD lp (.inr rfl))
      have H2 := Lib.hid (And.intro hb2 (And.intro hl2 (And.intro hf2 (And.intro hm2 (And.intro hb3 (And.intro hmv2 (And.intro hr2 (And.intro tb (And.intro htb (And.intro hbz2 (And.intro vb (And.intro hlt2 (And.intro xb (And.intro hrE (And.intro hzz (And.intro hzw hD2))))))))))))))))
      have a2 : w2.cell? ⟨qa, 0, none⟩ = some (.func (.func 53) #[] #[.pointer (some ⟨xa, 0, none⟩)]) := (cell_of_row _ _ 0 _ _ _ ab).trans rfl
      clear hb2 hl2 hf2 hm2 hb3 hmv2 hr2 tb bb htb hbz2 vb hlt2 xb hrE hzz hzw hD2 hgD ab
      gi_upto_region 26 with fail
      have hb4 : Below w2.heap.size w2 (w2.alloc (.cells #[.int .i64 0] 3)) := (Below.refl _ _).alloc (Nat.le_refl _) _
      have or4 : (w2.alloc (.cells #[.int .i64 0] 3)).heap[w2.heap.size]? = some (.cells #[.int .i64 0] 3 (0, 0)) := _root_.Go.heap_alloc_new _ _
      have hz4 : (w2.alloc (.cells #[.int .i64 0] 3)).heap.size = w2.heap.size + 1 := by simp
      have a4 := bs_cellV hb4 a2
      generalize (w2.alloc (.cells #[.int .i64 0] 3)) = w4 at *
      obtain ⟨rk, hrk⟩ : ∃ rk, w2.heap.size = rk := ⟨_, rfl⟩
      rw [hrk] at or4 ⊢
      have H4 := Lib.hid (And.intro hb4 (And.intro or4 (And.intro hz4 hrk)))
      clear hb4 or4 hz4 hrk a2
      gi_wp2
      obtain ⟨hb4, or4, hz4, hrk⟩ := H4.out
      obtain ⟨hb2, hl2, hf2, hm2, hb3, hmv2, hr2, tb, htb, hbz2, vb, hlt2, xb, hrE, hzz, hzw, hD2⟩ := H2.out
      obtain ⟨q4, hl4⟩ := hKl w4 (K.keepB w2 w4 hbz2 (hb4.block D hD2.1) (hb4.block lp hD2.2))
      refine wpIn_range_allN (x := xa) (v := a) (s := u) (F0 := FA) hl4 rfl rfl ((hb4.block xa (Array.getElem?_eq_some_iff.1 xb).1).trans xb) (vb.blw hb4) HK.out.2.2.2.1 (fun j O W => KI w2 rk k j O W) (fun c O W => c = .exit 2 ∧ k + 1 ≤ (a.pre 1).length ∧ KI w2 rk k (k + 1) O W) (fun j => j = rk) ?_ ?_ ?_ ?_ ?_ ?_ ?_ ?_
      · rintro j O5 V h i hi
        exact (h.blw.block i (hlt2 i hi)).trans (hb4.block i (hlt2 i hi)).symm
      · rintro j O5 V h
        exact h.lt
      · rintro j O5 V V' dd h hg hd hO
        exact h.turn hg (by omega) hO
      · rintro cc O5 V V' dd ⟨rfl, h1, h2⟩ hg hd hO
        exact ⟨rfl, h1, h2.turn hg (by omega) hO⟩
      · exact ⟨rfl, hb4, by omega, or4, Nat.zero_le _⟩
      · rintro K2 j O5 d2 z2 t2 F2 V V' hrd2 hKI n1 n2 hz2 hL2 hbw hzo
        exact round_inner K2 w0 w2 V' qt r rk bt nL ct k (a.pre 1) j d2 z2 _ V.heap.size O5 F2 _ _ _ _ _ _ _ _ _ _ _ _ _ _ _ _ _ _ _ _ _ _ _ _ _ _ _ _ _ _ _ _ _ _ _ _ _ _ _ _ _ _ _ _ _ _ _ _ _ _ _ _ _ _ _ _ _ _ _ _ _ _ _ _ _ _ _ _ _ _ _ _ _ _ _ _ _ _ _ _ _ _ _ _ _ _ _ _ _ _ _ _ _ _ _ _ _ _ _ _ _ _ _ _ _ _ _ _ _ _ _ _ _ _ _ _ _ _ _ _ _ _ _ _ _ _ _ _ _ _ _ _ _ _ _ _ _ _ _ _ _ _ _ _ _ _ _ _ _ _ _ _ _ _ _ _ _ _ _ _ _ _ _ _ _ _ _ _ _ _ _ _ _ _ _ _ _ _ _ _ (by kernel_rfl) hrd2 (hKI.blw' hbw) hL2 hzo (by have := HW.out.2.2.2.2; omega) HK.out.2.2.2.2 hnLb htb tb hr2 hz2 (by omega) n1
      · rintro O5 W5 hKI
        have hkl := HW.out.2.2.2.1
        have hle := hKI.le
        have hlen : (a.pre 1).length = k + 1 := by omega
        rw [hlen] at hKI
        have hE2 : k + 1 ≤ nL := by have := HK.out.2.2.2.2; omega
        clear hkl hle hlen
        (try simp only [Exit.inBlock, Exit.then, ↓reduceIte])
        have hb5 := hKI.blw
        have hle := hE2
        have e : ((k + 1 : Nat) : Int) = (k : Int) + 1 := by omega
        have n5 : W5.cell? ⟨r, 0, none⟩ = some (.int .i64 k) := (cell_of_row _ _ 0 _ _ _ ((hb5.block r (Array.getElem?_eq_some_iff.1 hr2).1).trans hr2)).trans rfl
        have k5 : W5.cell? ⟨rk, 0, none⟩ = some (.int .i64 ((k : Int) + 1)) := by rw [← e]; exact (cell_of_row _ _ 0 _ _ _ hKI.cell).trans rfl
        have t5 : W5.cell? ⟨qt, 0, none⟩ = some (.slice (some ⟨bt, 0, none⟩) nL ct) := (cell_of_row _ _ 0 _ _ _ ((hb5.block qt (Array.getElem?_eq_some_iff.1 tb).1).trans tb)).trans rfl
        have hr5 : W5.heap[r]? = some (.cells #[.int .i64 k] 3 (0, 0)) := (hb5.block r (Array.getElem?_eq_some_iff.1 hr2).1).trans hr2
        have f5 : W5.frozen? ⟨r, 0, none⟩ = false := by simp [World.frozen?, hr5]
        have c6 : (W5.setCell ⟨r, 0, none⟩ (.int .i64 ((k : Int) + 1))).cell? ⟨r, 0, none⟩ = some (.int .i64 ((k : Int) + 1)) := (cell_of_row _ _ 0 _ _ _ (heap_setCell_same W5 r 0 _ _ (.int .i64 ((k : Int) + 1)) hr5)).trans rfl
        have hz5 := hb5.size
        obtain ⟨g1, g2, g3, g4⟩ := HB.out.2.take HP.out.1 (hb2.below hb5) hl2 (hf2.suf hb5) (hm2.trans (BkMv.of_below hb5)) (hb3.trans (hb5.mono (by have h1 := HB.out.2.ge; have h2 := hmv2.size; omega))) (fun g q => ⟨(HP.out.2.1 g q).1, by have := (HT.out.1 g q).2; omega, (HP.out.2.1 g q).2⟩) hrE
        rw [e] at g1 g2 g4
        have hrest : ∀ j, j < W.heap.size → j ≠ lp → ¬ O j → (W5.setCell ⟨r, 0, none⟩ (.int .i64 ((k : Int) + 1))).heap[j]? = W.heap[j]? := fun j h1 h2 h3 =>
          (g2 j (by omega) h3).trans ((HB.out.1.block j (by omega)).trans (HZ.out.2.1.rest j h1 h2))
        have hkr : KeepR lp (fun j => O j ∨ F j) W (fun j => j = r ∨ j = bp ∨ vl2.ownBlock = some j ∨ BkQ vs2 j) (W5.setCell ⟨r, 0, none⟩ (.int .i64 ((k : Int) + 1))) := by
          refine ⟨g1.mv.os.trans HT.out.2.1.mv.os.symm, g1.mv.tape.trans HT.out.2.1.mv.tape.symm, g1.mv.output.trans HT.out.2.1.mv.output.symm, by omega, fun j h1 h2 h3 => hrest j h1 h3 (fun q => h2 (.inl q)), fun j hj => ?_⟩
          rcases g3 j hj with q | q
          · exact .inl q
          · exact .inr (by omega)
        have hbz : K.busy (W5.setCell ⟨r, 0, none⟩ (.int .i64 ((k : Int) + 1))) := K.keepB Wb _ HW.out.1 ((g2 D (by have := HW.out.2.1; omega) HP.out.2.2.2.2.1).trans (HB.out.1.block D (by have := HW.out.2.1; omega))) ((g2 lp (by have := HW.out.2.2.1; omega) HP.out.2.2.2.2.2.1).trans (HB.out.1.block lp (by have := HW.out.2.2.1; omega)))
        have HF := Lib.hid (And.intro g1 (And.intro hkr (And.intro hbz hE2)))
        have hkb : (k : Int) ≤ 39 := by have := HW.out.2.2.2.2; omega
        have hle : (k : Int) + 1 ≤ nL := by omega
        clear hb4 or4 hz4 hrk hb2 hl2 hf2 hm2 hb3 hmv2 hr2 tb htb hbz2 vb hlt2 xb hrE hzz hzw hD2 hl4 g1 g2 g3 g4 hrest hkr hbz hr5 hb5 hKI hE2 e hz5
        have hmin : min ((k : Int) + 1) nL = (k : Int) + 1 := by omega
        have HMIN := Lib.hid hmin
        clear hmin
        by_cases h40 : (k : Int) = 39
        · have HK39 := Lib.hid (show k = 39 by omega)
          have h20 : decide ((k : Int) < 20) = false := by simp; omega
          have h41 : ((k : Int) + 1 == 40) = true := by simp; omega
          clear h40
          go_at_K
          gi_wp2
          all_goals
            have h50 : 40 ≤ (a.pre 1).length := by have h1 := HF.out.2.2.2; have h2 := HK39.out; have h3 := HK.out.2.2.2.2; rw [h3]; omega
            have h51 := HF.out.1
            rw [show k + 1 = 40 by have h2 := HK39.out; omega] at h51
            exact ⟨HF.out.2.2.1, _, ⟨rfl, _, _, h50, h51⟩, HF.out.2.1⟩
        · have h41 : ((k : Int) + 1 == 40) = false := by simp; omega
          have HK40 := Lib.hid (show k + 1 < 40 by omega)
          clear h40
          by_cases h20 : (k : Int) < 20
          all_goals
            go_at_K
            gi_wp2
            all_goals exact ⟨HF.out.2.2.1, _, ⟨⟨_, _, HF.out.1⟩, HK40.out⟩, HF.out.2.1⟩
      · rintro cc O5 W5 ⟨rfl, hE3, hKI⟩
        have hE2 : k + 1 ≤ nL := by have := HK.out.2.2.2.2; omega
        clear hE3
        refine wpIn_exit ?_
        (try simp only [Exit.inBlock, Exit.then, ↓reduceIte])
        have hb5 := hKI.blw
        have hle := hE2
        have e : ((k + 1 : Nat) : Int) = (k : Int) + 1 := by omega
        have n5 : W5.cell? ⟨r, 0, none⟩ = some (.int .i64 k) := (cell_of_row _ _ 0 _ _ _ ((hb5.block r (Array.getElem?_eq_some_iff.1 hr2).1).trans hr2)).trans rfl
        have k5 : W5.cell? ⟨rk, 0, none⟩ = some (.int .i64 ((k : Int) + 1)) := by rw [← e]; exact (cell_of_row _ _ 0 _ _ _ hKI.cell).trans rfl
        have t5 : W5.cell? ⟨qt, 0, none⟩ = some (.slice (some ⟨bt, 0, none⟩) nL ct) := (cell_of_row _ _ 0 _ _ _ ((hb5.block qt (Array.getElem?_eq_some_iff.1 tb).1).trans tb)).trans rfl
        have hr5 : W5.heap[r]? = some (.cells #[.int .i64 k] 3 (0, 0)) := (hb5.block r (Array.getElem?_eq_some_iff.1 hr2).1).trans hr2
        have f5 : W5.frozen? ⟨r, 0, none⟩ = false := by simp [World.frozen?, hr5]
        have c6 : (W5.setCell ⟨r, 0, none⟩ (.int .i64 ((k : Int) + 1))).cell? ⟨r, 0, none⟩ = some (.int .i64 ((k : Int) + 1)) := (cell_of_row _ _ 0 _ _ _ (heap_setCell_same W5 r 0 _ _ (.int .i64 ((k : Int) + 1)) hr5)).trans rfl
        have hz5 := hb5.size
        obtain ⟨g1, g2, g3, g4⟩ := HB.out.2.take HP.out.1 (hb2.below hb5) hl2 (hf2.suf hb5) (hm2.trans (BkMv.of_below hb5)) (hb3.trans (hb5.mono (by have h1 := HB.out.2.ge; have h2 := hmv2.size; omega))) (fun g q => ⟨(HP.out.2.1 g q).1, by have := (HT.out.1 g q).2; omega, (HP.out.2.1 g q).2⟩) hrE
        rw [e] at g1 g2 g4
        have hrest : ∀ j, j < W.heap.size → j ≠ lp → ¬ O j → (W5.setCell ⟨r, 0, none⟩ (.int .i64 ((k : Int) + 1))).heap[j]? = W.heap[j]? := fun j h1 h2 h3 =>
          (g2 j (by omega) h3).trans ((HB.out.1.block j (by omega)).trans (HZ.out.2.1.rest j h1 h2))
        have hkr : KeepR lp (fun j => O j ∨ F j) W (fun j => j = r ∨ j = bp ∨ vl2.ownBlock = some j ∨ BkQ vs2 j) (W5.setCell ⟨r, 0, none⟩ (.int .i64 ((k : Int) + 1))) := by
          refine ⟨g1.mv.os.trans HT.out.2.1.mv.os.symm, g1.mv.tape.trans HT.out.2.1.mv.tape.symm, g1.mv.output.trans HT.out.2.1.mv.output.symm, by omega, fun j h1 h2 h3 => hrest j h1 h3 (fun q => h2 (.inl q)), fun j hj => ?_⟩
          rcases g3 j hj with q | q
          · exact .inl q
          · exact .inr (by omega)
        have hbz : K.busy (W5.setCell ⟨r, 0, none⟩ (.int .i64 ((k : Int) + 1))) := K.keepB Wb _ HW.out.1 ((g2 D (by have := HW.out.2.1; omega) HP.out.2.2.2.2.1).trans (HB.out.1.block D (by have := HW.out.2.1; omega))) ((g2 lp (by have := HW.out.2.2.1; omega) HP.out.2.2.2.2.2.1).trans (HB.out.1.block lp (by have := HW.out.2.2.1; omega)))
        have HF := Lib.hid (And.intro g1 (And.intro hkr (And.intro hbz hE2)))
        have hkb : (k : Int) ≤ 39 := by have := HW.out.2.2.2.2; omega
        have hle : (k : Int) + 1 ≤ nL := by omega
        clear hb4 or4 hz4 hrk hb2 hl2 hf2 hm2 hb3 hmv2 hr2 tb htb hbz2 vb hlt2 xb hrE hzz hzw hD2 hl4 g1 g2 g3 g4 hrest hkr hbz hr5 hb5 hKI hE2 e hz5
        have hmin : min ((k : Int) + 1) nL = (k : Int) + 1 := by omega
        have HMIN := Lib.hid hmin
        clear hmin
        by_cases h40 : (k : Int) = 39
        · have HK39 := Lib.hid (show k = 39 by omega)
          have h20 : decide ((k : Int) < 20) = false := by simp; omega
          have h41 : ((k : Int) + 1 == 40) = true := by simp; omega
          clear h40
          go_at_K
          gi_wp2
          all_goals
            have h50 : 40 ≤ (a.pre 1).length := by have h1 := HF.out.2.2.2; have h2 := HK39.out; have h3 := HK.out.2.2.2.2; rw [h3]; omega
            have h51 := HF.out.1
            rw [show k + 1 = 40 by have h2 := HK39.out; omega] at h51
            exact ⟨HF.out.2.2.1, _, ⟨rfl, _, _, h50, h51⟩, HF.out.2.1⟩
        · have h41 : ((k : Int) + 1 == 40) = false := by simp; omega
          have HK40 := Lib.hid (show k + 1 < 40 by omega)
          clear h40
          by_cases h20 : (k : Int) < 20
          all_goals
            go_at_K
            gi_wp2
            all_goals exact ⟨HF.out.2.2.1, _, ⟨⟨_, _, HF.out.1⟩, HK40.out⟩, HF.out.2.1⟩
end Go.Proofs.YtakbgekamjpibaaDoor
