/-
  A stream beside the document's: the range of ranges, as an invariant for All's iterator. Conditions: the bytes lie elsewhere.
-/
import Derived.Test.YtofdpccjpodbhaaPrR
namespace Go.Proofs.Ytofdpccjpodbhaa
open Go.RowKit
set_option linter.unusedVariables false

/-- between two bytes: q is how the document's stands, m how many bytes both have -/
def StV (K : PK) (N0 n mn gp gk gl go gn gv lp D : Nat) (ch : List UInt8) (k : Nat) (s : SM) (hv : Value) (O : Nat → Prop) (W : World) : Prop :=
  ∃ q m fr rv vc vd L M Op pt nt ct, Pair K fr s q hv rv vc vd L M Op W ∧ L.map Prod.fst = M.map Prod.fst ∧ L.length ≤ N0 + m * (1 + mn) ∧ m ≤ k ∧ k ≤ n ∧ TakeAt q (ch.drop m) (k - m) s ∧ W.heap[gl]? = some (.cells #[.slice pt nt ct] 22 (0, 0)) ∧ nt = n - m ∧
    BytesIn W pt nt ct (ch.drop m) ∧ (LowA K.B pt ct) ∧ (∀ j, Op j → O j ∧ j ≠ gp ∧ j ≠ gk ∧ j ≠ gl ∧ j ≠ go ∧ j ≠ gn ∧ j ≠ gv ∧ j ≠ lp ∧ j ≠ D)

structure JV {D lp : Nat} (Kb : LoopBook D lp) (K : PK) (N0 n mn gp gk gl go gn gv : Nat) (ro : Array Value) (hv0 : Value) (O0 : Nat → Prop) (W1 : World) (ch : List UInt8) (k : Nat) (s : SM) (hv : Value) (O : Nat → Prop) (W : World) : Prop where
  rdy : Kb.rdy W
  keep : KeepO W1.heap.size O0 K.b hv0 W1 O hv W
  st : StV K N0 n mn gp gk gl go gn gv lp D ch k s hv O W
  ck : W.heap[gk]? = some (.cells #[.bool true] 4 (0, 0))
  cp : W.heap[gp]? = some (.cells #[.pointer (some ⟨K.pb, 0, none⟩)] 55 (0, 0))
  co : W.heap[go]? = some (.cells ro 64 (0, 0))
  cn : ∃ c, W.heap[gn]? = some (.cells #[.int .i64 c] 3 (0, 0))
  cv : W.heap[gv]? = some (.cells #[.bool true] 4 (0, 0))
  own : ∀ j, O j → j < W.heap.size ∧ j ≠ K.b ∧ hv.ownBlock ≠ some j
  inO : O lp ∧ O gp ∧ O gk ∧ O gl ∧ O go ∧ O gn ∧ O gv

/-- where a break has left the range -/
structure JVX {D lp : Nat} (Kb : LoopBook D lp) (K : PK) (N2 gp gk gl go gn gv : Nat) (ro : Array Value) (hv0 : Value) (O0 : Nat → Prop) (W1 : World) (s : SM) (hv : Value) (O : Nat → Prop) (W : World) : Prop where
  fin2 : Kb.fin (.exit 2) W
  keep : KeepO W1.heap.size O0 K.b hv0 W1 O hv W
  st : ∃ fr rv vc vd L M Op, Pair K fr s s hv rv vc vd L M Op W ∧ L.map Prod.fst = M.map Prod.fst ∧ L.length ≤ N2 ∧ (∀ j, Op j → O j ∧ j ≠ gp ∧ j ≠ gk ∧ j ≠ gl ∧ j ≠ go ∧ j ≠ gn ∧ j ≠ gv ∧ j ≠ lp ∧ j ≠ D)
  ck : W.heap[gk]? = some (.cells #[.bool true] 4 (0, 0))
  cp : W.heap[gp]? = some (.cells #[.pointer (some ⟨K.pb, 0, none⟩)] 55 (0, 0))
  co : W.heap[go]? = some (.cells ro 64 (0, 0))
  cv : W.heap[gv]? = some (.cells #[.bool false] 4 (0, 0))
  inO : O lp ∧ O gp ∧ O gk ∧ O gl ∧ O go ∧ O gn ∧ O gv

set_option maxHeartbeats 4000000 in
theorem rides_V {D lp : Nat} {K : PK} {N0 gp gk gl go gn gv n c : Nat} {kd nn mm : Int} {da : Option Addr} {dn dc : Nat} {ma : Option Addr} {mn mc : Nat} {more : List UInt8} {hv0 : Value} {pa : Option Addr} {ch : List UInt8} {O0 : Nat → Prop} {W1 : World} (Kb : LoopBook D lp) (asg bdy : Code) (a0 a1 a2 a5 a6 a7 a8 a9 a11 a15 a16 a17 a18 a19 a20 a21 a22 a23 a24 a25 a26 a27 a28 a29 a30 a31 a32 a33 a34 a35 a36 a37 a38 a39 a40 a41 a42 a43 a44 a45 a46 a47 a48 a49 a50 a51 a52 a53 a54 a55 a56 a57 a58 a59 a60 a61 a62 a63 a64 a65 a66 a67 a68 a69 a70 a71 a72 a73 a74 a75 a76 a77 a78 a79 a80 a81 a82 a83 a84 a85 a86 a87 a88 a89 a90 a91 a92 a93 a94 a95 a96 a97 a98 a99 a100 a101 a102 a103 a104 a105 a106 a107 a108 a109 a110 a111 a112 a113 a114 a115 a116 a117 a118 a119 a120 a121 a122 a123 a124 a125 a126 a127 a128 a129 a130 a131 a132 a133 a134 a135 a136 : Value) (hrf : (Try.f54.body.bind rfOf) = some (asg, bdy))
    (hD : D < W1.heap.size) (hD0 : ¬ O0 D ∧ D ≠ K.b ∧ hv0.ownBlock ≠ some D) (hB : K.B ≤ W1.heap.size ∧ K.B ≤ lp ∧ K.B ≤ gp ∧ K.B ≤ gk ∧ K.B ≤ gl ∧ K.B ≤ go ∧ K.B ≤ gn ∧ K.B ≤ gv) (hkv : gk ≠ gv) (hO0B : ∀ j, O0 j → K.B ≤ j) (hnum : N0 + n * (1 + mn) ≤ 549755813888)
    (hch : BytesIn W1 pa n c ch) (hco : ∀ a, pa = some a → ¬ O0 a.block ∧ a.block ≠ K.b ∧ hv0.ownBlock ≠ some a.block) (hby : BytesIn W1 ma mn mc more) (hmz : mn ≤ 1048576) (hmlow : LowA K.B ma mc) (hb0 : K.B ≤ K.b ∧ ∀ j, hv0.ownBlock = some j → K.B ≤ j)
    (hyield : ∀ (xs : Array Value) (W : World) (I : World → Prop) (Ix : Code → World → Prop), xs.size = 1 → Kb.rdy W →
      RoundOf Try.prog Kb (tmV gp gk gl go gn gv a0 a1 a2 a5 a6 a7 a8 a9 a11 a15 a16 a17 a18 a19 a20 a21 a22 a23 a24 a25 a26 a27 a28 a29 a30 a31 a32 a33 a34 a35 a36 a37 a38 a39 a40 a41 a42 a43 a44 a45 a46 a47 a48 a49 a50 a51 a52 a53 a54 a55 a56 a57 a58 a59 a60 a61 a62 a63 a64 a65 a66 a67 a68 a69 a70 a71 a72 a73 a74 a75 a76 a77 a78 a79 a80 a81 a82 a83 a84 a85 a86 a87 a88 a89 a90 a91 a92 a93 a94 a95 a96 a97 a98 a99 a100 a101 a102 a103 a104 a105 a106 a107 a108 a109 a110 a111 a112 a113 a114 a115 a116 a117 a118 a119 a120 a121 a122 a123 a124 a125 a126 a127 a128 a129 a130 a131 a132 a133 a134 a135 a136) #[47] asg bdy xs W I Ix → YieldAt Fence.wide 3 Try.prog lp xs W (YieldOf Kb I Ix)) :
    RidesB W1.heap.size lp K.b K.Bs pa n c ch (JV Kb K N0 n mn gp gk gl go gn gv #[.int .i64 kd, .int .i64 nn, .int .i64 mm, .slice da dn dc, .slice ma mn mc] hv0 O0 W1 ch) (JVX Kb K (N0 + n * (1 + mn)) gp gk gl go gn gv #[.int .i64 kd, .int .i64 nn, .int .i64 mm, .slice da dn dc, .slice ma mn mc] hv0 O0 W1) := by
  have hlen := hch.len
  refine ⟨?_, ?_, ?_, ?_, ?_, ?_⟩
  · intro k s hv O W h j hj
    exact (h.own j hj).1
  · intro k s hv O W h
    exact hch.keepO h.keep hco
  · intro k s hv O W W' d h hd hO hb hh hg
    obtain ⟨⟨oD, hoD, _⟩, ⟨ol, hol, _⟩⟩ := Kb.rdyN W h.rdy
    have hDW := (Array.getElem?_eq_some_iff.1 hoD).1
    have hlW := (Array.getElem?_eq_some_iff.1 hol).1
    have ne : ∀ {j}, O j → some j ≠ some d := fun hj e => hO (Option.some.inj e ▸ hj)
    have at_ : ∀ {j : Nat} {o : Obj}, W.heap[j]? = some o → O j → W'.heap[j]? = some o := fun hj ho => (hg.block _ (Array.getElem?_eq_some_iff.1 hj).1 (ne ho)).trans hj
    obtain ⟨q, m, fr, rv, vc, vd, L, M, Op, pt, nt, ct, h1, h2, h3, h4, h5, h6, h7, h8, h9, h10, h11⟩ := h.st
    obtain ⟨cc, hcc⟩ := h.cn
    exact ⟨Kb.keepR W W' h.rdy (hg.block D hDW (fun e => by have := Option.some.inj e; omega)) (hg.block lp hlW (ne h.inO.1)), h.keep.turn hg hd,
      ⟨q, m, fr, rv, vc, vd, L, M, Op, pt, nt, ct, h1.grown hg (fun ho => hO (h11 d ho).1) hb hh, h2, h3, h4, h5, h6, at_ h7 h.inO.2.2.2.1, h8, h9.low (B := K.B) (fun j hj => hg.block j (by have := h1.bb.2.2; omega) (fun e => by have := Option.some.inj e; omega)) hg.size h10, h10, h11⟩,
      at_ h.ck h.inO.2.2.1, at_ h.cp h.inO.2.1, at_ h.co h.inO.2.2.2.2.1, ⟨cc, at_ hcc h.inO.2.2.2.2.2.1⟩, at_ h.cv h.inO.2.2.2.2.2.2, fun j hj => ⟨Nat.lt_of_lt_of_le (h.own j hj).1 hg.size, (h.own j hj).2⟩, h.inO⟩
  · intro s hv O W W' d h hd hO hb hh hg
    obtain ⟨⟨oD, hoD, _⟩, ⟨ol, hol, _⟩⟩ := Kb.finN _ W h.fin2
    have hDW := (Array.getElem?_eq_some_iff.1 hoD).1
    have hlW := (Array.getElem?_eq_some_iff.1 hol).1
    have ne : ∀ {j}, O j → some j ≠ some d := fun hj e => hO (Option.some.inj e ▸ hj)
    have at_ : ∀ {j : Nat} {o : Obj}, W.heap[j]? = some o → O j → W'.heap[j]? = some o := fun hj ho => (hg.block _ (Array.getElem?_eq_some_iff.1 hj).1 (ne ho)).trans hj
    obtain ⟨fr, rv, vc, vd, L, M, Op, h1, h2, h3, h4⟩ := h.st
    have hf := Kb.keepF _ W W' h.fin2 (hg.block D hDW (fun e => by have := Option.some.inj e; omega)) (hg.block lp hlW (ne h.inO.1))
    exact ⟨hf, h.keep.turn hg hd, ⟨fr, rv, vc, vd, L, M, Op, h1.grown hg (fun ho => hO (h4 d ho).1) hb hh, h2, h3, h4⟩, at_ h.ck h.inO.2.2.1, at_ h.cp h.inO.2.1, at_ h.co h.inO.2.2.2.2.1, at_ h.cv h.inO.2.2.2.2.2.2, h.inO⟩
  · intro k s hv O W hv' W' hk h hS he hno hm hS'
    obtain ⟨q, m, fr, rv, vc, vd, L, M, Op, pt, nt, ct, h1, h2, h3, h4, h5, h6, h7, h8, h9, h10, h11⟩ := h.st
    have hfr : ∀ j, O j → W'.heap[j]? = W.heap[j]? := fun j hj => hm.block j (h.own j hj).1 (h.own j hj).2.1 (h.own j hj).2.2
    have hDW := Nat.lt_of_lt_of_le hD h.keep.size
    have hDh : hv.ownBlock ≠ some D := fun hq => by
      rcases h.keep.held D hq with h4 | h4
      · exact hD0.2.2 h4
      · omega
    have hl := Low.of_mv h1.bb.2.2 h1.bb.1 h1.bb.2.1 hm
    obtain ⟨cc, hcc⟩ := h.cn
    refine ⟨Kb.keepR W W' h.rdy (hm.block D hDW hD0.2.1 hDh) (hfr lp h.inO.1), h.keep.trans (hm.keepO O (Nat.le_refl _)) (Nat.le_refl _) h.keep.size,
      ⟨q, m, fr, rv, vc, vd, L, M, Op, pt, nt, ct, h1.moveS hm hS', h2, h3, by omega, hk, ?_, (hfr gl h.inO.2.2.2.1).trans h7, h8, h9.low hl.1 hl.2 h10, h10, h11⟩, (hfr gk h.inO.2.2.1).trans h.ck, (hfr gp h.inO.2.1).trans h.cp, (hfr go h.inO.2.2.2.2.1).trans h.co, ⟨cc, (hfr gn h.inO.2.2.2.2.2.1).trans hcc⟩, (hfr gv h.inO.2.2.2.2.2.2).trans h.cv, fun j hj => ?_, h.inO⟩
    · have := h6.quiet (by rw [List.length_drop]; omega) he (by rw [drop_getD h4, hno]; rfl)
      rw [drop_getD h4] at this
      rwa [show k + 1 - m = k - m + 1 by omega]
    · obtain ⟨o1, o2, o3⟩ := h.own j hj
      refine ⟨Nat.lt_of_lt_of_le o1 hm.size, o2, fun hq => ?_⟩
      rcases hm.hv with h3 | h3 | ⟨g, h3, h4⟩
      · rw [h3] at hq; simp at hq
      · exact o3 (h3 ▸ hq)
      · rw [h3] at hq
        have : g = j := Option.some.inj hq
        omega
  · intro k s hv O W hv' W' ve vb hk h hS he hne hm hS' hit ha1 ha2
    obtain ⟨q, m, fr, rv, vc, vd, L, M, Op, pt, nt, ct, h1, h2, h3, h4, h5, h6, h7, h8, h9, h10, h11⟩ := h.st
    have hfr : ∀ j, O j → W'.heap[j]? = W.heap[j]? := fun j hj => hm.block j (h.own j hj).1 (h.own j hj).2.1 (h.own j hj).2.2
    have hDW := Nat.lt_of_lt_of_le hD h.keep.size
    have hhv : ∀ j, j < W.heap.size → hv.ownBlock ≠ some j → hv'.ownBlock ≠ some j := by
      intro j h1 h2 hq
      rcases hm.hv with h3 | h3 | ⟨g, h3, h4⟩
      · rw [h3] at hq; simp at hq
      · exact h2 (h3 ▸ hq)
      · rw [h3] at hq
        have : g = j := Option.some.inj hq
        omega
    have hDh : hv.ownBlock ≠ some D := fun hq => by
      rcases h.keep.held D hq with h4 | h4
      · exact hD0.2.2 h4
      · omega
    have hrd' := Kb.keepR W W' h.rdy (hm.block D hDW hD0.2.1 hDh) (hfr lp h.inO.1)
    obtain ⟨hnD, hnl⟩ := Kb.rdyN W' hrd'
    have hl := Low.of_mv h1.bb.2.2 h1.bb.1 h1.bb.2.1 hm
    have hp' := h1.moveS hm hS'
    have hkeep1 := h.keep.trans (hm.keepO O (Nat.le_refl _)) (Nat.le_refl _) h.keep.size
    have hfd := h6.found (by rw [List.length_drop]; omega) he (by rw [drop_getD h4]; exact hne)
    rw [drop_getD h4] at hfd
    have cp' := (hfr gp h.inO.2.1).trans h.cp
    have ck' := (hfr gk h.inO.2.2.1).trans h.ck
    have cl' := (hfr gl h.inO.2.2.2.1).trans h7
    have co' := (hfr go h.inO.2.2.2.2.1).trans h.co
    obtain ⟨cc, hcc⟩ := h.cn
    have cn' := (hfr gn h.inO.2.2.2.2.2.1).trans hcc
    have cv' := (hfr gv h.inO.2.2.2.2.2.2).trans h.cv
    have hown := h.own
    have hinO := h.inO
    have hOD : ¬ O D := fun ho => by
      rcases h.keep.own D ho with h4 | h4
      · exact hD0.1 h4
      · omega
    have hWz : W.heap.size ≤ W'.heap.size := hm.size
    have hmul : (m + 1) * (1 + mn) ≤ n * (1 + mn) := Nat.mul_le_mul_right _ (by omega)
    have hmul2 : (m + 1) * (1 + mn) ≤ (k + 1) * (1 + mn) := Nat.mul_le_mul_right _ (by omega)
    have hmul3 : (k + 1) * (1 + mn) ≤ n * (1 + mn) := Nat.mul_le_mul_right _ (by omega)
    rw [Nat.add_mul, Nat.one_mul] at hmul
    rw [Nat.add_mul m 1, Nat.one_mul] at hmul2
    have hlowW : Low K W1 W := ⟨fun j hj => h.keep.block j (by have := hB.1; omega) (fun ho => by have := hO0B j ho; omega) (by have := hb0.1; omega) (fun e => by have := hb0.2 j e; omega), h.keep.size⟩
    have hby' := (hby.low hlowW.1 hlowW.2 hmlow).low hl.1 hl.2 hmlow
    have hsz := step_sz hS.ok he (ch.getD k 0)
    obtain ⟨st, hst⟩ : ∃ st, step s (ch.getD k 0) = st := ⟨_, rfl⟩
    rw [hst] at hfd hp' hne hS' hit hsz ⊢
    obtain ⟨s', it⟩ := st
    simp only at hfd hp' hne hS' hit hsz ⊢
    have ne' : New K Op hv' W' ve it.ext := .of_fresh hp' hit.ext (fun j hj => (h1.ow j hj).2.1) (h1.blt _ (.inr (.inl rfl))) h1.bb.2.2 ha1 hsz.1
    have nb' : New K Op hv' W' vb it.body := .of_fresh hp' hit.body (fun j hj => (h1.ow j hj).2.1) (h1.blt _ (.inr (.inl rfl))) h1.bb.2.2 ha2 hsz.2
    have hve : ∀ j, ve.ownBlock = some j → W.heap.size ≤ j := fun j hj => (hit.ext.row.lt j hj).1
    have hvb : ∀ j, vb.ownBlock = some j → W.heap.size ≤ j := fun j hj => (hit.body.row.lt j hj).1
    have hap := far_of_apart hit.apart
    obtain ⟨pe, ce, rfl, _⟩ := hit.ext.bytes
    obtain ⟨pb, cb, rfl, _⟩ := hit.body.bytes
    have hlpn := (hown lp hinO.1)
    have hoff : OffR K W.heap.size lp gp gk gl go gn gv hv' Op := by
      refine ⟨?_, hkv⟩
      rintro j (rfl | rfl | rfl | rfl | rfl | rfl)
      · exact ⟨fun ho => (h11 _ ho).2.1 rfl, (hown _ hinO.2.1).2.1, hhv _ (hown _ hinO.2.1).1 (hown _ hinO.2.1).2.2, hB.2.2.1, (hown _ hinO.2.1).1, cells_not cp' hnl⟩
      · exact ⟨fun ho => (h11 _ ho).2.2.1 rfl, (hown _ hinO.2.2.1).2.1, hhv _ (hown _ hinO.2.2.1).1 (hown _ hinO.2.2.1).2.2, hB.2.2.2.1, (hown _ hinO.2.2.1).1, cells_not ck' hnl⟩
      · exact ⟨fun ho => (h11 _ ho).2.2.2.1 rfl, (hown _ hinO.2.2.2.1).2.1, hhv _ (hown _ hinO.2.2.2.1).1 (hown _ hinO.2.2.2.1).2.2, hB.2.2.2.2.1, (hown _ hinO.2.2.2.1).1, cells_not cl' hnl⟩
      · exact ⟨fun ho => (h11 _ ho).2.2.2.2.1 rfl, (hown _ hinO.2.2.2.2.1).2.1, hhv _ (hown _ hinO.2.2.2.2.1).1 (hown _ hinO.2.2.2.2.1).2.2, hB.2.2.2.2.2.1, (hown _ hinO.2.2.2.2.1).1, cells_not co' hnl⟩
      · exact ⟨fun ho => (h11 _ ho).2.2.2.2.2.1 rfl, (hown _ hinO.2.2.2.2.2.1).2.1, hhv _ (hown _ hinO.2.2.2.2.2.1).1 (hown _ hinO.2.2.2.2.2.1).2.2, hB.2.2.2.2.2.2.1, (hown _ hinO.2.2.2.2.2.1).1, cells_not cn' hnl⟩
      · exact ⟨fun ho => (h11 _ ho).2.2.2.2.2.2.1 rfl, (hown _ hinO.2.2.2.2.2.2).2.1, hhv _ (hown _ hinO.2.2.2.2.2.2).1 (hown _ hinO.2.2.2.2.2.2).2.2, hB.2.2.2.2.2.2.2, (hown _ hinO.2.2.2.2.2.2).1, cells_not cv' hnl⟩
    have hat : AtI K W.heap.size gp gk gl fr s' q hv' rv vc vd L M Op it (.slice pe it.ext.length ce) (.slice pb it.body.length cb) (ch.drop m) pt nt ct (k - m + 1) W' := by
      refine ⟨hp', ne', nb', hap, cp', ck', cl', h9.low hl.1 hl.2 h10, h10, hfd, by omega, ?_, ⟨hve, hvb⟩, hWz⟩
      rintro j (rfl | rfl | rfl)
      · have o := hoff.off j (.inl rfl); exact ⟨o.1, o.2.1, o.2.2.1, o.2.2.2.1⟩
      · have o := hoff.off j (.inr (.inl rfl)); exact ⟨o.1, o.2.1, o.2.2.1, o.2.2.2.1⟩
      · have o := hoff.off j (.inr (.inr (.inl rfl))); exact ⟨o.1, o.2.1, o.2.2.1, o.2.2.2.1⟩
    have hround := round_V Kb K W' gp gk gl go gn gv a0 a1 a2 a5 a6 a7 a8 a9 a11 a15 a16 a17 a18 a19 a20 a21 a22 a23 a24 a25 a26 a27 a28 a29 a30 a31 a32 a33 a34 a35 a36 a37 a38 a39 a40 a41 a42 a43 a44 a45 a46 a47 a48 a49 a50 a51 a52 a53 a54 a55 a56 a57 a58 a59 a60 a61 a62 a63 a64 a65 a66 a67 a68 a69 a70 a71 a72 a73 a74 a75 a76 a77 a78 a79 a80 a81 a82 a83 a84 a85 a86 a87 a88 a89 a90 a91 a92 a93 a94 a95 a96 a97 a98 a99 a100 a101 a102 a103 a104 a105 a106 a107 a108 a109 a110 a111 a112 a113 a114 a115 a116 a117 a118 a119 a120 a121 a122 a123 a124 a125 a126 a127 a128 a129 a130 a131 a132 a133 a134 a135 a136 fr s' q hv' rv vc vd L M Op it pe ce pb cb (ch.drop m) pt nt ct (k - m + 1)
      (fun W3 => ∃ Wb c' s2, W'.grownBy Wb (some lp) ∧ EndR K W.heap.size gp gk gl go gn gv hv' Op #[.int .i64 kd, .int .i64 nn, .int .i64 mm, .slice da dn dc, .slice ma mn mc] (.slice (if ct = k - m + 1 then pt else Option.map (fun x => x.add (k - m + 1 : Nat)) pt) (nt - (k - m + 1)) (ct - (k - m + 1))) (L.length + 1 + mn) Wb c' true s2 W3 ∧ Kb.busy W3)
      (fun cd W3 => cd = .exit 2 ∧ ∃ Wb c' s2, W'.grownBy Wb (some lp) ∧ EndR K W.heap.size gp gk gl go gn gv hv' Op #[.int .i64 kd, .int .i64 nn, .int .i64 mm, .slice da dn dc, .slice ma mn mc] (.slice (if ct = k - m + 1 then pt else Option.map (fun x => x.add (k - m + 1 : Nat)) pt) (nt - (k - m + 1)) (ct - (k - m + 1))) (L.length + 1 + mn) Wb c' false s2 W3 ∧ Kb.busy W3) asg bdy hrf kd nn mm da dn dc ma mn mc more cc hby' hmz hmlow hrd' W.heap.size hat
      ⟨fun ho => (h11 _ ho).2.2.2.2.2.2.2.1 rfl, hlpn.2.1, hhv _ hlpn.1 hlpn.2.2, fun e => cells_not cp' hnl e.symm, fun e => cells_not ck' hnl e.symm, fun e => cells_not cl' hnl e.symm, fun e => by have := hve _ e; omega, fun e => by have := hvb _ e; omega, hB.2.1⟩
      ⟨fun e => cells_not cn' hnl e.symm, fun e => cells_not cv' hnl e.symm, hlpn.1⟩
      ⟨fun ho => (h11 _ ho).2.2.2.2.2.2.2.2 rfl, fun e => cells_not ck' hnD e.symm, fun e => cells_not cl' hnD e.symm, fun e => cells_not cn' hnD e.symm, fun e => cells_not cv' hnD e.symm, hD0.2.1, hhv _ hDW hDh, hDW⟩
      hoff co' cn' cv' (fun Wb W3 c' s2 hW hE hb3 => ⟨Wb, c', s2, hW, hE, hb3⟩) (fun Wb W3 c' s2 hW hE hb3 => ⟨rfl, Wb, c', s2, hW, hE, hb3⟩) h2 (by omega)
    have hend : ∀ {Wb W3 W2 : World} {c' : Int} {s2 : SM} {bb : Bool}, W'.grownBy Wb (some lp) → EndR K W.heap.size gp gk gl go gn gv hv' Op #[.int .i64 kd, .int .i64 nn, .int .i64 mm, .slice da dn dc, .slice ma mn mc] (.slice (if ct = k - m + 1 then pt else Option.map (fun x => x.add (k - m + 1 : Nat)) pt) (nt - (k - m + 1)) (ct - (k - m + 1))) (L.length + 1 + mn) Wb c' bb s2 W3 → Kb.busy W3 → Turn lp W3 W2 →
        ∃ hv2 fr3 rv3 vc3 vd3 L3 M3 O3, Pair K fr3 s2 s2 hv2 rv3 vc3 vd3 L3 M3 O3 W2 ∧ L3.map Prod.fst = M3.map Prod.fst ∧ L3.length ≤ L.length + 1 + mn ∧ CellsR K gp gk gl go gn gv #[.int .i64 kd, .int .i64 nn, .int .i64 mm, .slice da dn dc, .slice ma mn mc] c' bb (.slice (if ct = k - m + 1 then pt else Option.map (fun x => x.add (k - m + 1 : Nat)) pt) (nt - (k - m + 1)) (ct - (k - m + 1))) W2 ∧
          KeepL W.heap.size O K.b hv' W' (fun j => O j ∨ O3 j) hv2 W2 ∧ (∀ j, O3 j → O j ∧ j ≠ gp ∧ j ≠ gk ∧ j ≠ gl ∧ j ≠ go ∧ j ≠ gn ∧ j ≠ gv ∧ j ≠ lp ∧ j ≠ D ∨ W.heap.size ≤ j) ∧ (∀ j, O j ∨ O3 j → j < W2.heap.size ∧ j ≠ K.b ∧ hv2.ownBlock ≠ some j) ∧ Low K W W2 := by
      intro Wb W3 W2 c' s2 bb hW hE hb3 ht3
      obtain ⟨hv2, fr3, rv3, vc3, vd3, L3, M3, O3, e1, e2, e3, e4, e5⟩ := hE.st
      have hnl3 := (Kb.busyN W3 hb3).2
      have hsz3 := hE.os.2.2.2
      have hszb := hW.size
      have h3lp : ¬ O3 lp := fun ho => by
        rcases e4 lp ho with h | h
        · exact (h11 _ h).2.2.2.2.2.2.2.1 rfl
        · omega
      have hlp2 : hv2.ownBlock ≠ some lp := fun e => by
        rcases e5 lp e with h | h
        · exact hhv _ hlpn.1 hlpn.2.2 h
        · omega
      have hstay : ∀ j, j < W.heap.size → ¬ O j → j ≠ K.b → hv'.ownBlock ≠ some j → W2.heap[j]? = W'.heap[j]? := fun j q1 q2 q3 q4 => by
        have q5 : j ≠ lp := fun e => q2 (e ▸ hinO.1)
        rw [ht3.1.block j (by omega) (fun e => q5 (Option.some.inj e)), hE.frame j q1 (fun ho => q2 (h11 _ ho).1) (fun e => q2 (e ▸ hinO.2.2.1)) (fun e => q2 (e ▸ hinO.2.2.2.1)) (fun e => q2 (e ▸ hinO.2.2.2.2.2.1)) (fun e => q2 (e ▸ hinO.2.2.2.2.2.2)) q3 q4, hW.block j (by omega) (fun e => q5 (Option.some.inj e))]
      have hp2 := e1.grown ht3.1 h3lp hlpn.2.1 hlp2
      have hat3 : ∀ {j : Nat} {cs : Array Value} {T : Nat} {f : Nat × Nat}, W3.heap[j]? = some (.cells cs T f) → W2.heap[j]? = some (.cells cs T f) := fun hj => (ht3.1.block _ (Array.getElem?_eq_some_iff.1 hj).1 (fun e => cells_not hj hnl3 (Option.some.inj e))).trans hj
      have hc := hE.cells
      refine ⟨hv2, fr3, rv3, vc3, vd3, L3, M3, O3, hp2, e2, e3, ⟨hat3 hc.cp, hat3 hc.ck, hat3 hc.cel, hat3 hc.co, hat3 hc.cn, hat3 hc.cv⟩,
        ⟨ht3.1.os.trans (hE.os.1.trans hW.os), ht3.1.tape.trans (hE.os.2.1.trans hW.tape), ht3.1.output.trans (hE.os.2.2.1.trans hW.output), Nat.le_trans hszb (Nat.le_trans hsz3 ht3.1.size), hstay, fun j hj => ?_, e5⟩, fun j hj => ?_, fun j hj => ?_, hl.trans ⟨fun j hj => hstay j (Nat.lt_of_lt_of_le hj h1.bb.2.2) (fun ho => ?_) (by have := hp'.bb.1; omega) (fun e => by have := hp'.bb.2.1 j e; omega), Nat.le_trans hszb (Nat.le_trans hsz3 ht3.1.size)⟩⟩
      · rcases hj with hj | hj
        · exact .inl hj
        · rcases e4 j hj with h | h
          · exact .inl (h11 _ h).1
          · exact .inr h
      · rcases e4 j hj with h | h
        · exact .inl (h11 _ h)
        · exact .inr h
      · rcases hj with hj | hj
        · refine ⟨Nat.lt_of_lt_of_le (hown j hj).1 (by have := ht3.1.size; omega), (hown j hj).2.1, fun e => ?_⟩
          rcases e5 j e with h | h
          · exact hhv _ (hown j hj).1 (hown j hj).2.2 h
          · have := (hown j hj).1; omega
        · exact ⟨(hp2.ow j hj).2.1, (hp2.ow j hj).2.2⟩
      · rcases h.keep.own j ho with h | h
        · exact absurd hj (by have := hB.1; have := hO0B j h; omega)
        · have := hB.1; omega
    have hfar : ∀ {O3 : Nat → Prop}, (∀ j, O3 j → O j ∧ j ≠ gp ∧ j ≠ gk ∧ j ≠ gl ∧ j ≠ go ∧ j ≠ gn ∧ j ≠ gv ∧ j ≠ lp ∧ j ≠ D ∨ W.heap.size ≤ j) → ∀ j, O3 j → (O j ∨ O3 j) ∧ j ≠ gp ∧ j ≠ gk ∧ j ≠ gl ∧ j ≠ go ∧ j ≠ gn ∧ j ≠ gv ∧ j ≠ lp ∧ j ≠ D := by
      intro O3 h3 j hj
      rcases h3 j hj with h | h
      · exact ⟨.inl h.1, h.2⟩
      · have g1 := (hown _ hinO.2.1).1
        have g2 := (hown _ hinO.2.2.1).1
        have g3 := (hown _ hinO.2.2.2.1).1
        have g4 := (hown _ hinO.2.2.2.2.1).1
        have g5 := (hown _ hinO.2.2.2.2.2.1).1
        have g6 := (hown _ hinO.2.2.2.2.2.2).1
        have g7 := hlpn.1
        exact ⟨.inr hj, by omega, by omega, by omega, by omega, by omega, by omega, by omega, by omega⟩
    refine (hyield _ W' _ _ rfl hrd' hround).mono ?_
    rintro e W2 (⟨rfl, hr2, W3, ⟨Wb, c', s2, hW, hE, hb3⟩, ht3⟩ | ⟨rfl, cd, hf2, W3, ⟨rfl, Wb, c', s2, hW, hE, hb3⟩, ht3⟩)
    · obtain ⟨hv2, fr3, rv3, vc3, vd3, L3, M3, O3, hp2, e2, e3, hc, hk2, e4, e5, hlow2⟩ := hend hW hE hb3 ht3
      have hby2 := (h9.low hlow2.1 hlow2.2 h10).tail (k - m + 1) (by omega)
      rw [List.drop_drop, show m + (k - m + 1) = k + 1 by omega] at hby2
      refine .inl ⟨rfl, s2, hv2, fun j => O j ∨ O3 j, hp2.st, ⟨hr2, hkeep1.transL hk2 (Nat.le_refl _) h.keep.size, ⟨s2, k + 1, fr3, rv3, vc3, vd3, L3, M3, O3, _, _, _, hp2, e2, by omega, Nat.le_refl _, hk, ?_, hc.cel, by omega, hby2, cut_low h10, hfar e4⟩, hc.ck, hc.cp, hc.co, ⟨_, hc.cn⟩, hc.cv, e5, ⟨.inl hinO.1, .inl hinO.2.1, .inl hinO.2.2.1, .inl hinO.2.2.2.1, .inl hinO.2.2.2.2.1, .inl hinO.2.2.2.2.2.1, .inl hinO.2.2.2.2.2.2⟩⟩, hk2⟩
      rw [Nat.sub_self]
      exact TakeAt.start _ _
    · obtain ⟨hv2, fr3, rv3, vc3, vd3, L3, M3, O3, hp2, e2, e3, hc, hk2, e4, e5, hlow2⟩ := hend hW hE hb3 ht3
      exact .inr ⟨rfl, s2, hv2, fun j => O j ∨ O3 j, hp2.st, ⟨hf2, hkeep1.transL hk2 (Nat.le_refl _) h.keep.size, ⟨fr3, rv3, vc3, vd3, L3, M3, O3, hp2, e2, by omega, hfar e4⟩, hc.ck, hc.cp, hc.co, hc.cv, ⟨.inl hinO.1, .inl hinO.2.1, .inl hinO.2.2.1, .inl hinO.2.2.2.1, .inl hinO.2.2.2.2.1, .inl hinO.2.2.2.2.2.1, .inl hinO.2.2.2.2.2.2⟩⟩, hk2⟩
end Go.Proofs.Ytofdpccjpodbhaa
