/-
  goes, one round: a part is told as it must be, and put into the book. Conditions: the list of what must be told lies in memory.
-/
import Derived.Test.YtakbgekamjpibaaDoorPd
import Derived.Test.YtakbgekamjpibaaDoorMg35
namespace Go.Proofs.YtakbgekamjpibaaDoor
open Go.RowKit
set_option linter.unusedVariables false

attribute [local go_sem] Oper.semAt_some

theorem ToldIn.mvr {w0 wE W : World} {t : Value} {L : List (Int × V)} {r : Nat} (h : ToldIn w0 wE t L) (hk : BkMvR r wE W) (hr : ∃ cs fr, wE.heap[r]? = some (.cells cs 3 fr)) : ToldIn w0 W t L := by
  refine h.keep (fun j hj => ?_)
  obtain ⟨M, _, h2, _⟩ := h
  obtain ⟨c, fz, hc⟩ : ∃ c fz, wE.heap[j]? = some (.cells c 48 fz) := by
    rcases h2.2 with ⟨rfl, _⟩ | ⟨g', cap, cur, rfl, _, hb, _⟩
    · cases hj
    · simp only [Value.ownBlock, Option.some.injEq] at hj
      subst hj
      exact ⟨_, _, hb⟩
  obtain ⟨cs, fr, hr⟩ := hr
  refine hk.oth j (h2.lt j hj).2 ?_ ?_
  · rintro (⟨a, b, q⟩ | ⟨a, b, q⟩)
    · rw [hc] at q; simp at q
    · rw [hc] at q; simp at q
  · rintro rfl
    rw [hc] at hr; simp at hr

/-- the round that is the last one asked for -/
def GoX (w0 wE : World) (bp r m0 : Nat) (Q0 : Nat → Prop) (L : List (Int × V)) (st : Int) (O : Nat → Prop) (W : World) : Prop := ∃ (k : Nat) (vl : Value) (vs : List Value), (k : Int) = st ∧ GoI w0 wE bp r m0 Q0 L k O W vl vs

set_option maxRecDepth 20000 in
set_option maxHeartbeats 4000000 in
theorem round_goes {D lp : Nat} (K : LoopBook D lp) (w0 wE W : World) (bp r qt qs qb m0 : Nat) (t : Value) (st : Int) (L : List (Int × V)) (k : Nat) (d : Int) (z : V) (s : Value) (zB : Nat) (O F Q0 : Nat → Prop) (vl : Value) (vs : List Value) (v0 v1 v2 v3 v4 v8 v9 v14 v15 v16 v17 v18 : Value) (asg bdy : Code) (hrf : (Tryd.f28.body.bind rfOf) = some (asg, bdy))
    (hrd : K.rdy W) (hI : GoI w0 wE bp r m0 Q0 L k O W vl vs) (hL : L[k]? = some (d, z)) (hz : VO W zB z s F) (hF : ∀ g, F g → wE.heap.size ≤ g ∧ ¬ O g) (hwt : z.wt ≤ 1000000) (hm : m0 + cost L ≤ 40000000)
    (hw0 : Below w0.heap.size w0 wE) (hto : ToldIn w0 wE t L) (hqt : wE.heap[qt]? = some (.cells #[t] 37 (0, 0))) (hqs : wE.heap[qs]? = some (.cells #[.int .i64 st] 3 (0, 0))) (hqb : wE.heap[qb]? = some (.cells #[.pointer (some ⟨bp, 0, none⟩)] 39 (0, 0))) (hqr : qs ≠ r) (hrE : wE.heap[r]? = some (.cells #[.int .i64 0] 3 (0, 0)))
    (hzB : D + 2 ≤ zB) (hDz : D + 2 ≤ W.heap.size) (hlp : lp = D + 1) (hDE : D = wE.heap.size) (hOD : ¬ O D) (hOl : ¬ O lp) :
    RoundOf Tryd.prog K #[v0, v1, v2, v3, v4, .pointer (some ⟨qt, 0, none⟩), .pointer (some ⟨qs, 0, none⟩), .pointer (some ⟨qb, 0, none⟩), v8, v9, .pointer (some ⟨r, 0, none⟩), undef, undef, undef, v14, v15, v16, v17, v18, undef, undef, undef, undef, undef, undef, undef, undef, undef, undef, undef, undef, undef, undef, undef, undef, undef, undef, undef, undef, undef, undef, undef, undef, undef, undef, undef, undef, undef, undef, undef, undef, undef, undef, undef, undef, undef, undef, undef, undef, undef] #[19, 20] asg bdy #[.int .i64 d, .agg #[.int .i64 z.kind, .int .u64 z.num, .string z.text, s, .int .i64 z.elem]] W
      (fun W3 => ∃ O2, (∃ vl vs, GoI w0 wE bp r m0 Q0 L (k + 1) O2 W3 vl vs) ∧ KeepR lp (fun j => O j ∨ F j) W O2 W3) (fun c W3 => ∃ O2, (c = .exit 0 ∧ GoX w0 wE bp r m0 Q0 L st O2 W3) ∧ KeepR lp (fun j => O j ∨ F j) W O2 W3) := by
  simp only [Tryd.f28, Option.bind_some, rfOf, Option.some.injEq, Prod.mk.injEq] at hrf
  obtain ⟨rfl, rfl⟩ := hrf
  unfold RoundOf
  obtain ⟨p, c, hs, _⟩ := hz.slice
  subst hs
  obtain ⟨N, hN⟩ : ∃ N, z.list.length = N := ⟨_, rfl⟩
  rw [hN] at hz ⊢
  refine wpIn_mono (Q := MidC #[v0, v1, v2, v3, v4, .pointer (some ⟨qt, 0, none⟩), .pointer (some ⟨qs, 0, none⟩), .pointer (some ⟨qb, 0, none⟩), v8, v9, .pointer (some ⟨r, 0, none⟩), .int .i64 d, .pointer (some ⟨W.heap.size, 0, none⟩), undef, v14, v15, v16, v17, v18, .int .i64 d, .agg #[.int .i64 z.kind, .int .u64 z.num, .string z.text, (.slice p N c), .int .i64 z.elem], undef, undef, undef, undef, undef, undef, undef, undef, undef, undef, undef, undef, undef, undef, undef, undef, undef, undef, undef, undef, undef, undef, undef, undef, undef, undef, undef, undef, undef, undef, undef, undef, undef, undef, undef, undef, undef, undef, undef] W z (.slice p N c)) ?_ ?_
  · gi_wp2
    exact ⟨rfl, rfl, (Below.refl _ _).alloc (Nat.le_refl _) _, _root_.Go.heap_alloc_new _ _⟩
  · rintro e a' Wa ⟨rfl, rfl, hg, hi⟩
    obtain ⟨⟨oD, hD, hDc⟩, ⟨ol, hl, hlc⟩⟩ := K.rdyN W hrd
    have hDlt := (Array.getElem?_eq_some_iff.1 hD).1
    have hllt := (Array.getElem?_eq_some_iff.1 hl).1
    refine ⟨K.keepR W Wa hrd (hg.block D hDlt) (hg.block lp hllt), ?_⟩
    intro Wb ht hb
    have hib : Wb.heap[W.heap.size]? = some (.cells #[.int .i64 z.kind, .int .u64 z.num, .string z.text, (.slice p N c), .int .i64 z.elem] 25 (0, 0)) :=
      (ht.1.block W.heap.size (Array.getElem?_eq_some_iff.1 hi).1 (fun h => by have := Option.some.inj h; omega)).trans hi
    have hib2 := inBody_of hg ht
    have hrdW := hib2.rd ⟨ol, hl, hlc⟩
    have hGb := hI.inb hib2 hOl (by omega)
    have hzb := hz.keep (w' := Wb) (fun g q => hib2.rest g (hz.lt g q).2 (fun e => by have := (hz.lt g q).1; omega))
    have hw0b : Below w0.heap.size w0 Wb := hw0.trans hGb.blw
    have htb := hto.mvr hGb.mv ⟨_, _, hrE⟩
    obtain ⟨pt, ct, hst, hj1, hj2, hj3⟩ := hto.slice
    clear hj1 hj2
    have hkl : k < L.length := (List.getElem?_eq_some_iff.1 hL).1
    obtain ⟨bt, rfl⟩ := hj3 (by omega)
    obtain ⟨nL, hnL⟩ : ∃ nL, L.length = nL := ⟨_, rfl⟩
    rw [hnL] at hst hkl
    subst hst
    obtain ⟨s2, hv2, hrow⟩ := htb.row rfl hL
    obtain ⟨p2, c2, hs2, hj1⟩ := hv2.slice
    clear hj1
    rw [hN] at hs2
    subst hs2
    have hkept : ∀ g, g < wE.heap.size → g ≠ r → ¬ IsBk wE g → Wb.heap[g]? = wE.heap[g]? := fun g h1 h2 h3 => hGb.mv.oth g h1 h3 h2
    have r0 : Wb.cell? ⟨r, 0, none⟩ = some (.int .i64 k) := (cell_of_row _ _ 0 _ _ _ hGb.cell).trans rfl
    have t0 : Wb.cell? ⟨qt, 0, none⟩ = some (.slice (some ⟨bt, 0, none⟩) nL ct) := (cell_of_row _ _ 0 _ _ _ ((hkept qt (Array.getElem?_eq_some_iff.1 hqt).1 (by rintro rfl; rw [hqt] at hrE; simp at hrE) (by rintro (⟨a, b, q⟩ | ⟨a, b, q⟩) <;> (rw [hqt] at q; simp at q))).trans hqt)).trans rfl
    have b0 : Wb.cell? ⟨qb, 0, none⟩ = some (.pointer (some ⟨bp, 0, none⟩)) := (cell_of_row _ _ 0 _ _ _ ((hkept qb (Array.getElem?_eq_some_iff.1 hqb).1 (by rintro rfl; rw [hqb] at hrE; simp at hrE) (by rintro (⟨a, b, q⟩ | ⟨a, b, q⟩) <;> (rw [hqb] at q; simp at q))).trans hqb)).trans rfl
    have s0 : Wb.cell? ⟨qs, 0, none⟩ = some (.int .i64 st) := (cell_of_row _ _ 0 _ _ _ ((hkept qs (Array.getElem?_eq_some_iff.1 hqs).1 hqr (by rintro (⟨a, b, q⟩ | ⟨a, b, q⟩) <;> (rw [hqs] at q; simp at q))).trans hqs)).trans rfl
    have k0 : Wb.cell? ⟨bt, k * 6, none⟩ = some (.int .i64 d) := hrow 0 _ rfl
    have k1 : Wb.cell? ⟨bt, k * 6 + 1, none⟩ = some (.int .i64 z.kind) := hrow 1 _ rfl
    have k2 : Wb.cell? ⟨bt, k * 6 + 2, none⟩ = some (.int .u64 z.num) := hrow 2 _ rfl
    have k3 : Wb.cell? ⟨bt, k * 6 + 3, none⟩ = some (.string z.text) := hrow 3 _ rfl
    have k4 : Wb.cell? ⟨bt, k * 6 + 4, none⟩ = some (.slice p2 N c2) := hrow 4 _ rfl
    have k5 : Wb.cell? ⟨bt, k * 6 + 5, none⟩ = some (.int .i64 z.elem) := hrow 5 _ rfl
    have hkL : (k : Int) < nL := by omega
    have hnLb : (nL : Int) ≤ 40000000 := by have := cost_len L; omega
    have HE := Lib.hid (fun (V : World) (hV : Below Wb.heap.size Wb V) => requal_any z V _ z _ (hzb.vin.blw hV) ((hv2.blw hw0b).blw hV))
    have y0 : Wb.cell? ⟨W.heap.size, 0, none⟩ = some (.int .i64 z.kind) := (cell_of_row _ _ 0 _ _ _ hib).trans rfl
    have y1 : Wb.cell? ⟨W.heap.size, 1, none⟩ = some (.int .u64 z.num) := (cell_of_row _ _ 1 _ _ _ hib).trans rfl
    have y2 : Wb.cell? ⟨W.heap.size, 2, none⟩ = some (.string z.text) := (cell_of_row _ _ 2 _ _ _ hib).trans rfl
    have y3 : Wb.cell? ⟨W.heap.size, 3, none⟩ = some (.slice p N c) := (cell_of_row _ _ 3 _ _ _ hib).trans rfl
    have y4 : Wb.cell? ⟨W.heap.size, 4, none⟩ = some (.int .i64 z.elem) := (cell_of_row _ _ 4 _ _ _ hib).trans rfl
    have HZ := Lib.hid (And.intro hzb (And.intro hib2 (And.intro hGb hib)))
    have HK := Lib.hid (And.intro hkept (And.intro hqt (And.intro hqs (And.intro hqb (And.intro hqr hrE)))))
    have HP := Lib.hid (And.intro hL (And.intro hF (And.intro hlp (And.intro hDE (And.intro hOD (And.intro hOl (And.intro hzB hm)))))))
    have HT := Lib.hid (And.intro (hz.lt) (And.intro hI hrow))
    have HW := Lib.hid (And.intro hb (And.intro hDlt hllt))
    obtain ⟨y, hy⟩ : ∃ y, W.heap.size = y := ⟨_, rfl⟩
    rw [hy] at y0 y1 y2 y3 y4 ⊢
    have HY := Lib.hid hy
    clear hzb hib2 hGb hib hkept hqt hqs hqb hqr hrE hL hF hlp hDE hOD hOl hzB hm hI hrow hb hDlt hllt hy hz hg hi hD hDc hl hlc hrd ht hrdW hw0b htb hv2 hto hw0 hDz hN hnL hkl
    gi_upto_region 10 with fail
    gi_cut [13] from 24 (fun s13 wx => s13 = .bool true ∧ Below Wb.heap.size Wb wx)
    case first =>
      rename_i JJ hJJ KK hKK
      refine wpIn_region_still_tail 6 (by kernel_rfl) (by kernel_rfl) (by rintro ⟨_, _, h⟩; exact h) (by kernel_rfl) ?_
      simp only [List.take_succ_cons, List.take_zero, List.drop_succ_cons, List.drop_zero]
      repeat still_step
      try refine wpStill_nil ?_
      change wpList _ _ _ _ _ Wb.drew
      have hdr : Below Wb.heap.size Wb Wb.drew := ⟨rfl, rfl, rfl, Nat.le_refl _, fun _ _ => rfl⟩
      have hc := HE.out _ hdr
      rw [decide_eq_true (rfl : z = z)] at hc
      have HC := Lib.hid hc
      have HDR := Lib.hid hdr
      clear hc hdr
      go_wp2_with fail
      refine HC.out.mono ?_
      rintro e w1 ⟨rfl, hb1⟩
      have HB1 := Lib.hid (HDR.out.trans hb1)
      clear hb1
      go_wp2_with fail
      refine Met.intro (KK _ _ ?_)
      (repeat apply Exists.intro)
      refine ⟨?_, rfl⟩
      exact ⟨rfl, HB1.out⟩
    case rest =>
      obtain ⟨rfl, hbc⟩ := hcut
      replace r0 := bs_cellV hbc r0
      replace t0 := bs_cellV hbc t0
      replace b0 := bs_cellV hbc b0
      replace k0 := bs_cellV hbc k0
      replace y0 := bs_cellV hbc y0
      replace y1 := bs_cellV hbc y1
      replace y2 := bs_cellV hbc y2
      replace y3 := bs_cellV hbc y3
      replace y4 := bs_cellV hbc y4
      replace s0 := bs_cellV hbc s0
      clear k1 k2 k3 k4 k5
      have hGc := HZ.out.2.2.1.blw' hbc
      have hzc := HZ.out.1.blw hbc
      have hO := HZ.out.2.2.1.hO
      have hFQ : ∀ g, F g → ¬ BkQ vs g := fun g q q2 => (HP.out.2.1 g q).2 (by rw [hO]; exact .inr (.inr (.inr q2)))
      have hzs := cost_take1 HP.out.1
      have hzt := cost_take L (k + 1)
      have hge := HZ.out.2.2.1.ge
      have hlen : vs.length + z.sz ≤ 40000000 := by have h1 := HZ.out.2.2.1.len; have h2 := HP.out; simp only at hzs; omega
      have hc := take2_on z wc w0.heap.size bp vl vs (BkQ vs) _ F hGc.bk (hzc.mono (by have := HP.out; omega)) hFQ hlen hwt
      have HC := Lib.hid hc
      have HB := Lib.hid (And.intro hbc hGc)
      clear hbc hGc hzc hO hFQ hzs hzt hge hlen hc hwt
      gi_wp2
      refine ⟨trivial, (CallsIn.inRound lp (callsIn_wide.2 HC.out)).mono ?_⟩
      clear r0 t0 b0 k0 y0 y1 y2 y3 y4
      rintro e w2 ⟨rfl, ⟨vl2, vs2, hb2, hl2, hf2⟩, hm2, hb3⟩
      have hrE := (Array.getElem?_eq_some_iff.1 HK.out.2.2.2.2.2).1
      have hqE := (Array.getElem?_eq_some_iff.1 HK.out.2.2.1).1
      have hzz := HZ.out.2.1.size
      have hzw := HB.out.1.size
      obtain ⟨g1, g2, g3, g4⟩ := HB.out.2.take HP.out.1 hb2 hl2 hf2 hm2 hb3 (fun g q => ⟨(HP.out.2.1 g q).1, by have := (HT.out.1 g q).2; omega, (HP.out.2.1 g q).2⟩) hrE
      have hr2 : w2.heap[r]? = some (.cells #[.int .i64 k] 3 (0, 0)) := (hf2.blk r (Array.getElem?_eq_some_iff.1 HB.out.2.cell).1 HB.out.2.off.1 HB.out.2.off.2.1).trans HB.out.2.cell
      have c1 : w2.cell? ⟨r, 0, none⟩ = some (.int .i64 k) := (cell_of_row _ _ 0 _ _ _ hr2).trans rfl
      have f1 : w2.frozen? ⟨r, 0, none⟩ = false := by simp [World.frozen?, hr2]
      have e : ((k + 1 : Nat) : Int) = (k : Int) + 1 := by omega
      rw [e] at g1 g2 g4
      have c2 : (w2.setCell ⟨r, 0, none⟩ (.int .i64 ((k : Int) + 1))).cell? ⟨r, 0, none⟩ = some (.int .i64 ((k : Int) + 1)) := (cell_of_row _ _ 0 _ _ _ (heap_setCell_same w2 r 0 _ _ (.int .i64 ((k : Int) + 1)) hr2)).trans rfl
      have hqs2 : (w2.setCell ⟨r, 0, none⟩ (.int .i64 ((k : Int) + 1))).heap[qs]? = some (.cells #[.int .i64 st] 3 (0, 0)) := (g1.mv.oth qs hqE (by
        have hq := HK.out.2.2.1
        rintro (⟨a, b, q⟩ | ⟨a, b, q⟩) <;> (rw [hq] at q; simp at q)) HK.out.2.2.2.2.1).trans HK.out.2.2.1
      have c3 : (w2.setCell ⟨r, 0, none⟩ (.int .i64 ((k : Int) + 1))).cell? ⟨qs, 0, none⟩ = some (.int .i64 st) := (cell_of_row _ _ 0 _ _ _ hqs2).trans rfl
      have hrest : ∀ j, j < W.heap.size → j ≠ lp → ¬ O j → (w2.setCell ⟨r, 0, none⟩ (.int .i64 ((k : Int) + 1))).heap[j]? = W.heap[j]? := fun j h1 h2 h3 =>
        (g2 j (by omega) h3).trans ((HB.out.1.block j (by omega)).trans (HZ.out.2.1.rest j h1 h2))
      have hkr : KeepR lp (fun j => O j ∨ F j) W (fun j => j = r ∨ j = bp ∨ vl2.ownBlock = some j ∨ BkQ vs2 j) (w2.setCell ⟨r, 0, none⟩ (.int .i64 ((k : Int) + 1))) := by
        refine ⟨g1.mv.os.trans HT.out.2.1.mv.os.symm, g1.mv.tape.trans HT.out.2.1.mv.tape.symm, g1.mv.output.trans HT.out.2.1.mv.output.symm, by omega, fun j h1 h2 h3 => hrest j h1 h3 (fun q => h2 (.inl q)), fun j hj => ?_⟩
        rcases g3 j hj with q | q
        · exact .inl q
        · exact .inr (by omega)
      have hbz : K.busy (w2.setCell ⟨r, 0, none⟩ (.int .i64 ((k : Int) + 1))) := K.keepB Wb _ HW.out.1 ((g2 D (by have := HW.out.2.1; omega) HP.out.2.2.2.2.1).trans (HB.out.1.block D (by have := HW.out.2.1; omega))) ((g2 lp (by have := HW.out.2.2; omega) HP.out.2.2.2.2.2.1).trans (HB.out.1.block lp (by have := HW.out.2.2; omega)))
      have HF := Lib.hid (And.intro g1 (And.intro hkr hbz))
      have hkb : (k : Int) ≤ 40000000 := by omega
      clear hb2 hl2 hf2 hm2 hb3 hrE hqE hzz hzw g1 g2 g3 g4 hr2 hqs2 hrest hkr hbz s0 e
      by_cases hst : (k : Int) + 1 = st
      · subst hst
        gi_wp2
        all_goals first | exact ⟨HF.out.2.2, _, ⟨rfl, k + 1, _, _, by omega, HF.out.1⟩, HF.out.2.1⟩ | exact ⟨HF.out.2.2, _, ⟨k + 1, _, _, by omega, HF.out.1⟩, HF.out.2.1⟩
      · have hsb : ((k : Int) + 1 == st) = false := by simp [hst]
        gi_wp2
        all_goals exact ⟨HF.out.2.2, _, ⟨_, _, HF.out.1⟩, HF.out.2.1⟩
end Go.Proofs.YtakbgekamjpibaaDoor
