/-
  A stream beside the document's: inner's range, as an invariant for All's iterator. Conditions: the bytes lie elsewhere.
-/
import Derived.Test.YtofdpccjpodbhaaPr8
namespace Go.Proofs.Ytofdpccjpodbhaa
open Go.RowKit
set_option linter.unusedVariables false

/-- between two bytes: q is how the document's stands, m how many bytes both have -/
def StI (K : PK) (N0 n gp gk gl lp D : Nat) (ch : List UInt8) (k : Nat) (s : SM) (hv : Value) (O : Nat → Prop) (W : World) : Prop :=
  ∃ q m fr rv vc vd L M Op pt nt ct, Pair K fr s q hv rv vc vd L M Op W ∧ L.map Prod.fst = M.map Prod.fst ∧ L.length ≤ N0 + m ∧ m ≤ k ∧ k ≤ n ∧ TakeAt q (ch.drop m) (k - m) s ∧ W.heap[gl]? = some (.cells #[.slice pt nt ct] 22 (0, 0)) ∧ nt = n - m ∧
    BytesIn W pt nt ct (ch.drop m) ∧ (LowA K.B pt ct) ∧ (∀ j, Op j → O j ∧ j ≠ gp ∧ j ≠ gk ∧ j ≠ gl ∧ j ≠ lp ∧ j ≠ D)

structure JI {D lp : Nat} (Kb : LoopBook D lp) (K : PK) (N0 n gp gk gl : Nat) (hv0 : Value) (O0 : Nat → Prop) (W1 : World) (ch : List UInt8) (k : Nat) (s : SM) (hv : Value) (O : Nat → Prop) (W : World) : Prop where
  rdy : Kb.rdy W
  keep : KeepO W1.heap.size O0 K.b hv0 W1 O hv W
  st : StI K N0 n gp gk gl lp D ch k s hv O W
  ck : W.heap[gk]? = some (.cells #[.bool true] 4 (0, 0))
  cp : W.heap[gp]? = some (.cells #[.pointer (some ⟨K.pb, 0, none⟩)] 55 (0, 0))
  own : ∀ j, O j → j < W.heap.size ∧ j ≠ K.b ∧ hv.ownBlock ≠ some j
  inO : O lp ∧ O gp ∧ O gk ∧ O gl

theorem drop_getD {ch : List UInt8} {m k : Nat} (h : m ≤ k) : (ch.drop m).getD (k - m) 0 = ch.getD k 0 := by
  simp only [List.getD_eq_getElem?_getD, List.getElem?_drop]
  rw [show m + (k - m) = k by omega]

theorem cells_not {W : World} {j l : Nat} {cs : Array Value} {t : Nat} {fr : Nat × Nat} (h1 : W.heap[j]? = some (.cells cs t fr)) (h : ∃ o, W.heap[l]? = some o ∧ o.isCells = false) : j ≠ l := by
  rintro rfl
  obtain ⟨o, h2, h3⟩ := h
  rw [h1] at h2
  cases h2
  simp [Obj.isCells] at h3

set_option maxHeartbeats 2000000 in
theorem rides_I {D lp : Nat} {K : PK} {N0 gp gk gl n c : Nat} {hv0 : Value} {pa : Option Addr} {ch : List UInt8} {O0 : Nat → Prop} {W1 : World} (Kb : LoopBook D lp) (asg bdy : Code) (a0 a1 a3 a4 a5 a6 a9 a16 a17 a18 a19 a20 a21 a22 a23 a24 a25 a26 a27 a28 a29 a30 a31 a32 a33 a34 a35 a36 a37 a38 a39 a40 a41 a42 a43 a44 a45 a46 a47 a48 a49 a50 a51 a52 a53 a54 a55 a56 a57 a58 a59 a60 a61 : Value) (hrf : (Try.f68.body.bind rfOf) = some (asg, bdy))
    (hD : D < W1.heap.size) (hD0 : ¬ O0 D ∧ D ≠ K.b ∧ hv0.ownBlock ≠ some D) (hB : K.B ≤ W1.heap.size ∧ K.B ≤ lp ∧ K.B ≤ gp ∧ K.B ≤ gk ∧ K.B ≤ gl) (hO0B : ∀ j, O0 j → K.B ≤ j) (hnum : N0 + n ≤ 549755813888)
    (hch : BytesIn W1 pa n c ch) (hco : ∀ a, pa = some a → ¬ O0 a.block ∧ a.block ≠ K.b ∧ hv0.ownBlock ≠ some a.block)
    (hyield : ∀ (xs : Array Value) (W : World) (I : World → Prop) (Ix : Code → World → Prop), xs.size = 1 → Kb.rdy W →
      RoundOf Try.prog Kb (tmI gp gk gl a0 a1 a3 a4 a5 a6 a9 a16 a17 a18 a19 a20 a21 a22 a23 a24 a25 a26 a27 a28 a29 a30 a31 a32 a33 a34 a35 a36 a37 a38 a39 a40 a41 a42 a43 a44 a45 a46 a47 a48 a49 a50 a51 a52 a53 a54 a55 a56 a57 a58 a59 a60 a61) #[62] asg bdy xs W I Ix → YieldAt Fence.wide 3 Try.prog lp xs W (YieldOf Kb I Ix)) :
    RidesA W1.heap.size lp K.b K.Bs pa n c ch (JI Kb K N0 n gp gk gl hv0 O0 W1 ch) (fun _ _ _ _ => False) := by
  have hlen := hch.len
  refine ⟨?_, ?_, ?_, ?_, ?_, ?_⟩
  · intro k s hv O W h j hj
    exact (h.own j hj).1
  · intro k s hv O W h
    exact hch.keepO h.keep hco
  · intro k s hv O W W' d h hd hO hb hh hg
    obtain ⟨⟨oD, hoD, _⟩, ⟨ol, hol, _⟩⟩ := Kb.rdyN W h.rdy
    have hDW := (Array.getElem?_eq_some_iff.1 hoD).1
    have hlW := (Array.getElem?_eq_some_iff.1 hol).1
    have ne : ∀ {j}, O j → some j ≠ some d := fun hj e => hO (Option.some.inj e ▸ hj)
    obtain ⟨q, m, fr, rv, vc, vd, L, M, Op, pt, nt, ct, h1, h2, h3, h4, h5, h6, h7, h8, h9, h10, h11⟩ := h.st
    exact ⟨Kb.keepR W W' h.rdy (hg.block D hDW (fun e => by have := Option.some.inj e; omega)) (hg.block lp hlW (ne h.inO.1)), h.keep.turn hg hd,
      ⟨q, m, fr, rv, vc, vd, L, M, Op, pt, nt, ct, h1.grown hg (fun ho => hO (h11 d ho).1) hb hh, h2, h3, h4, h5, h6, (hg.block gl (Array.getElem?_eq_some_iff.1 h7).1 (ne h.inO.2.2.2)).trans h7, h8, h9.low (B := K.B) (fun j hj => hg.block j (by have := h1.bb.2.2; omega) (fun e => by have := Option.some.inj e; omega)) hg.size h10, h10, h11⟩,
      (hg.block gk (Array.getElem?_eq_some_iff.1 h.ck).1 (ne h.inO.2.2.1)).trans h.ck, (hg.block gp (Array.getElem?_eq_some_iff.1 h.cp).1 (ne h.inO.2.1)).trans h.cp, fun j hj => ⟨Nat.lt_of_lt_of_le (h.own j hj).1 hg.size, (h.own j hj).2⟩, h.inO⟩
  · intro s hv O W W' d h
    exact h.elim
  · intro k s hv O W hv' W' hk h hS he hno hm hS'
    obtain ⟨q, m, fr, rv, vc, vd, L, M, Op, pt, nt, ct, h1, h2, h3, h4, h5, h6, h7, h8, h9, h10, h11⟩ := h.st
    have hfr : ∀ j, O j → W'.heap[j]? = W.heap[j]? := fun j hj => hm.block j (h.own j hj).1 (h.own j hj).2.1 (h.own j hj).2.2
    have hDW := Nat.lt_of_lt_of_le hD h.keep.size
    have hDh : hv.ownBlock ≠ some D := fun hq => by
      rcases h.keep.held D hq with h4 | h4
      · exact hD0.2.2 h4
      · omega
    have hl := Low.of_mv h1.bb.2.2 h1.bb.1 h1.bb.2.1 hm
    refine ⟨Kb.keepR W W' h.rdy (hm.block D hDW hD0.2.1 hDh) (hfr lp h.inO.1), h.keep.trans (hm.keepO O (Nat.le_refl _)) (Nat.le_refl _) h.keep.size,
      ⟨q, m, fr, rv, vc, vd, L, M, Op, pt, nt, ct, h1.moveS hm hS', h2, h3, by omega, hk, ?_, (hfr gl h.inO.2.2.2).trans h7, h8, h9.low hl.1 hl.2 h10, h10, h11⟩, (hfr gk h.inO.2.2.1).trans h.ck, (hfr gp h.inO.2.1).trans h.cp, fun j hj => ?_, h.inO⟩
    · have := h6.quiet (by rw [List.length_drop]; omega) he (by rw [drop_getD h4, hno]; rfl)
      rw [drop_getD h4] at this
      rwa [show k + 1 - m = k - m + 1 by omega]
    · obtain ⟨o1, o2, o3⟩ := h.own j hj
      refine ⟨Nat.lt_of_lt_of_le o1 hm.size, o2, fun hq => ?_⟩
      rcases hm.hv with h3 | h3 | ⟨g, h3, h4⟩
      · rw [h3] at hq; simp at hq
      · exact o3 (h3 ▸ hq)
      · rw [h3] at hq
        have : g = j := Option.some.inj hq
        omega
  · intro k s hv O W hv' W' ve vb hk h hS he hne hm hS' hit ha1 ha2
    obtain ⟨q, m, fr, rv, vc, vd, L, M, Op, pt, nt, ct, h1, h2, h3, h4, h5, h6, h7, h8, h9, h10, h11⟩ := h.st
    have hfr : ∀ j, O j → W'.heap[j]? = W.heap[j]? := fun j hj => hm.block j (h.own j hj).1 (h.own j hj).2.1 (h.own j hj).2.2
    have hDW := Nat.lt_of_lt_of_le hD h.keep.size
    have hhv : ∀ j, j < W.heap.size → hv.ownBlock ≠ some j → hv'.ownBlock ≠ some j := by
      intro j h1 h2 hq
      rcases hm.hv with h3 | h3 | ⟨g, h3, h4⟩
      · rw [h3] at hq; simp at hq
      · exact h2 (h3 ▸ hq)
      · rw [h3] at hq
        have : g = j := Option.some.inj hq
        omega
    have hDh : hv.ownBlock ≠ some D := fun hq => by
      rcases h.keep.held D hq with h4 | h4
      · exact hD0.2.2 h4
      · omega
    have hrd' := Kb.keepR W W' h.rdy (hm.block D hDW hD0.2.1 hDh) (hfr lp h.inO.1)
    obtain ⟨hnD, hnl⟩ := Kb.rdyN W' hrd'
    have hl := Low.of_mv h1.bb.2.2 h1.bb.1 h1.bb.2.1 hm
    have hp' := h1.moveS hm hS'
    have hkeep1 := h.keep.trans (hm.keepO O (Nat.le_refl _)) (Nat.le_refl _) h.keep.size
    have hfd := h6.found (by rw [List.length_drop]; omega) he (by rw [drop_getD h4]; exact hne)
    rw [drop_getD h4] at hfd
    have cp' := (hfr gp h.inO.2.1).trans h.cp
    have ck' := (hfr gk h.inO.2.2.1).trans h.ck
    have cl' := (hfr gl h.inO.2.2.2).trans h7
    have hown := h.own
    have hinO := h.inO
    have hOD : ¬ O D := fun ho => by
      rcases h.keep.own D ho with h4 | h4
      · exact hD0.1 h4
      · omega
    have hWz : W.heap.size ≤ W'.heap.size := hm.size
    have hsz := step_sz hS.ok he (ch.getD k 0)
    obtain ⟨st, hst⟩ : ∃ st, step s (ch.getD k 0) = st := ⟨_, rfl⟩
    rw [hst] at hfd hp' hne hS' hit hsz ⊢
    obtain ⟨s', it⟩ := st
    simp only at hfd hp' hne hS' hit hsz ⊢
    have ne' : New K Op hv' W' ve it.ext := .of_fresh hp' hit.ext (fun j hj => (h1.ow j hj).2.1) (h1.blt _ (.inr (.inl rfl))) h1.bb.2.2 ha1 hsz.1
    have nb' : New K Op hv' W' vb it.body := .of_fresh hp' hit.body (fun j hj => (h1.ow j hj).2.1) (h1.blt _ (.inr (.inl rfl))) h1.bb.2.2 ha2 hsz.2
    have hve : ∀ j, ve.ownBlock = some j → W.heap.size ≤ j := fun j hj => (hit.ext.row.lt j hj).1
    have hvb : ∀ j, vb.ownBlock = some j → W.heap.size ≤ j := fun j hj => (hit.body.row.lt j hj).1
    have hap := far_of_apart hit.apart
    obtain ⟨pe, ce, rfl, _⟩ := hit.ext.bytes
    obtain ⟨pb, cb, rfl, _⟩ := hit.body.bytes
    have hlpn := (hown lp hinO.1)
    have hat : AtI K W.heap.size gp gk gl fr s' q hv' rv vc vd L M Op it (.slice pe it.ext.length ce) (.slice pb it.body.length cb) (ch.drop m) pt nt ct (k - m + 1) W' := by
      refine ⟨hp', ne', nb', hap, cp', ck', cl', h9.low hl.1 hl.2 h10, h10, hfd, by omega, ?_, ⟨hve, hvb⟩, hWz⟩
      rintro j (rfl | rfl | rfl)
      · exact ⟨fun ho => (h11 _ ho).2.1 rfl, (hown _ hinO.2.1).2.1, hhv _ (hown _ hinO.2.1).1 (hown _ hinO.2.1).2.2, hB.2.2.1⟩
      · exact ⟨fun ho => (h11 _ ho).2.2.1 rfl, (hown _ hinO.2.2.1).2.1, hhv _ (hown _ hinO.2.2.1).1 (hown _ hinO.2.2.1).2.2, hB.2.2.2.1⟩
      · exact ⟨fun ho => (h11 _ ho).2.2.2.1 rfl, (hown _ hinO.2.2.2).2.1, hhv _ (hown _ hinO.2.2.2).1 (hown _ hinO.2.2.2).2.2, hB.2.2.2.2⟩
    have hround := round_I Kb K W' gp gk gl a0 a1 a3 a4 a5 a6 a9 a16 a17 a18 a19 a20 a21 a22 a23 a24 a25 a26 a27 a28 a29 a30 a31 a32 a33 a34 a35 a36 a37 a38 a39 a40 a41 a42 a43 a44 a45 a46 a47 a48 a49 a50 a51 a52 a53 a54 a55 a56 a57 a58 a59 a60 a61 fr s' q hv' rv vc vd L M Op it pe ce pb cb (ch.drop m) pt nt ct (k - m + 1)
      (fun W3 => EndI K W.heap.size D lp gp gk gl s' hv' L.length Op pt nt ct (k - m + 1) W' W3 ∧ Kb.busy W3) (fun _ _ => False) asg bdy hrf hrd' W.heap.size hat
      ⟨fun ho => (h11 _ ho).2.2.2.2.1 rfl, hlpn.2.1, hhv _ hlpn.1 hlpn.2.2, fun e => cells_not cp' hnl e.symm, fun e => cells_not ck' hnl e.symm, fun e => cells_not cl' hnl e.symm, fun e => by have := hve _ e; omega, fun e => by have := hvb _ e; omega, hB.2.1⟩
      ⟨fun ho => by
        rcases ho with ho | ho | ho
        · exact (h11 _ ho).2.2.2.2.2 rfl
        · exact cells_not ck' hnD ho.symm
        · exact cells_not cl' hnD ho.symm, hD0.2.1, hhv _ hDW hDh⟩
      (fun ho => (h11 _ ho).2.2.1 rfl) (hown _ hinO.2.2.1).1 (fun W3 hW3 hb3 => ⟨hW3, hb3⟩) h2 (by omega)
    refine (hyield _ W' _ _ rfl hrd' hround).mono ?_
    rintro e W2 (⟨rfl, hr2, W3, ⟨hE, hb3⟩, ht3⟩ | ⟨rfl, c', hf2, W3, hF, _⟩)
    rotate_left
    · exact hF.elim
    obtain ⟨fr3, rv3, vc3, vd3, L3, M3, O3, e1, e2, e3, e4, e5, e6, e7, e8, e9⟩ := hE
    have hnl3 := (Kb.busyN W3 hb3).2
    have hnD3 := (Kb.busyN W3 hb3).1
    have hz3 := ht3.2
    have hsz3 := e8.2.2.2
    have h3lp : ¬ O3 lp := fun ho => by
      rcases e9 lp ho with h | h
      · exact (h11 _ h).2.2.2.2.1 rfl
      · omega
    have hlt3 : ∀ j, O3 j → j ≠ gp ∧ j ≠ gk ∧ j ≠ gl ∧ j ≠ lp ∧ j ≠ D := by
      intro j ho
      rcases e9 j ho with h | h
      · exact (h11 _ h).2
      · have g1 := (hown _ hinO.2.1).1
        have g2 := (hown _ hinO.2.2.1).1
        have g3 := (hown _ hinO.2.2.2).1
        have g4 := hlpn.1
        exact ⟨by omega, by omega, by omega, by omega, by omega⟩
    have hstay : ∀ j, j < W'.heap.size → ¬ O j → j ≠ K.b → hv'.ownBlock ≠ some j → W2.heap[j]? = W'.heap[j]? := fun j q1 q2 q3 q4 => by
      have q5 : j ≠ lp := fun e => q2 (e ▸ hinO.1)
      rw [ht3.1.block j (Nat.lt_of_lt_of_le q1 hsz3) (fun e => q5 (Option.some.inj e))]
      refine e7 j q1 (fun ho => ?_) q3 q4 q5
      rcases ho with ho | ho | ho
      · exact q2 (h11 _ ho).1
      · exact q2 (ho ▸ hinO.2.2.1)
      · exact q2 (ho ▸ hinO.2.2.2)
    have hk2 : KeepO W.heap.size O K.b hv' W' (fun j => O j ∨ O3 j) hv' W2 := ⟨ht3.1.os.trans e8.1, ht3.1.tape.trans e8.2.1, ht3.1.output.trans e8.2.2.1, Nat.le_trans hsz3 ht3.1.size, hstay, fun j hj => by
      rcases hj with hj | hj
      · exact .inl hj
      · rcases e9 j hj with h | h
        · exact .inl (h11 _ h).1
        · exact .inr h, fun j hj => .inl hj⟩
    have hp2 := e1.grown ht3.1 h3lp hlpn.2.1 (hhv _ hlpn.1 hlpn.2.2)
    have cl2 := (ht3.1.block gl (Array.getElem?_eq_some_iff.1 e6).1 (fun e => cells_not e6 hnl3 (Option.some.inj e))).trans e6
    have hlow2 : Low K W W2 := hl.trans ⟨fun j hj => hstay j (Nat.lt_of_lt_of_le hj hp'.bb.2.2) (fun ho => by
      rcases h.keep.own j ho with h | h
      · exact absurd hj (by have := hB.1; have := hO0B j h; omega)
      · have := hB.1; omega) (by have := hp'.bb.1; omega) (fun e => by have := hp'.bb.2.1 j e; omega), Nat.le_trans hsz3 ht3.1.size⟩
    have hby2 := (h9.low hlow2.1 hlow2.2 h10).tail (k - m + 1) (by omega)
    rw [List.drop_drop, show m + (k - m + 1) = k + 1 by omega] at hby2
    refine .inl ⟨rfl, s', hv', fun j => O j ∨ O3 j, hp2.st, ⟨hr2, hkeep1.trans hk2 (Nat.le_refl _) h.keep.size, ⟨s', k + 1, fr3, rv3, vc3, vd3, L3, M3, O3, _, _, _, hp2, e2, by omega, Nat.le_refl _, hk, ?_, cl2, by omega, hby2, cut_low h10, fun j hj => ⟨.inr hj, hlt3 j hj⟩⟩, ?_, ?_, ?_, ⟨.inl hinO.1, .inl hinO.2.1, .inl hinO.2.2.1, .inl hinO.2.2.2⟩⟩, hk2⟩
    · rw [Nat.sub_self]
      exact TakeAt.start _ _
    · exact (ht3.1.block gk (Array.getElem?_eq_some_iff.1 e5).1 (fun e => cells_not e5 hnl3 (Option.some.inj e))).trans e5
    · exact (ht3.1.block gp (Array.getElem?_eq_some_iff.1 e4).1 (fun e => cells_not e4 hnl3 (Option.some.inj e))).trans e4
    · intro j hj
      rcases hj with hj | hj
      · exact ⟨Nat.lt_of_lt_of_le (hown j hj).1 (Nat.le_trans hWz (Nat.le_trans hsz3 ht3.1.size)), (hown j hj).2.1, hhv _ (hown j hj).1 (hown j hj).2.2⟩
      · exact ⟨(hp2.ow j hj).2.1, (hp2.ow j hj).2.2⟩
end Go.Proofs.Ytofdpccjpodbhaa
