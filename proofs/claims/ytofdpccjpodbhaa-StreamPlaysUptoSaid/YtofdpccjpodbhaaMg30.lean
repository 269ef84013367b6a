/-
  A stream beside the document's: what an operation leaves. It speaks of no code. No conditions.
  run: the items of bytes in chunks: a range's body. Conditions: rows that can be in memory.
-/
import Derived.Test.YtofdpccjpodbhaaMg29
import Derived.Test.YtofdpccjpodbhaaMg28
namespace Go.Proofs.Ytofdpccjpodbhaa
open Go.RowKit
set_option linter.unusedVariables false

theorem Pair.keepR {K : PK} {fr N : Nat} {s q : SM} {hv rv rv' vc vd : Value} {L M : List (Itm × Value × Value)} {O : Nat → Prop} {W W' : World} (h : Pair K fr s q hv rv vc vd L M O W) (hm : Mv K.r rv W rv' W') (hN : N ≤ W.heap.size) : KeepO N O K.b hv W (fun j => O j ∨ rv'.ownBlock = some j) hv W' := by
  refine ⟨hm.os, hm.tape, hm.output, hm.size, fun j h1 h2 h3 h4 => hm.block j h1 (fun e => h2 (e ▸ h.oo.2.1)) (fun e => h2 (h.oo.2.2 j e)), fun j hj => ?_, fun j hj => .inl hj⟩
  rcases hj with hj | hj
  · exact .inl hj
  · rcases hm.hv with h1 | h1 | ⟨g, h1, h2⟩
    · rw [h1] at hj; simp at hj
    · exact .inl (h.oo.2.2 j (h1 ▸ hj))
    · rw [h1] at hj
      have := Option.some.inj hj
      exact .inr (by omega)

theorem Put.keepO {K : PK} {i N n : Nat} {v v' ve vb hv : Value} {xs ys : List Value} {W W' : World} {cs : Array Value} {O : Nat → Prop} (h : Put K i v v' n xs ys W W') (hr : W.ownsRow K.B 71 6 v n xs) (hc : W.heap[K.pb]? = some (.cells cs 61 (0, 0))) (hp : O K.pb) (hvo : ∀ j, v.ownBlock = some j → O j)
    (hN : N ≤ W.heap.size) (he : ∀ j, ve.ownBlock = some j → N ≤ j) (hb : ∀ j, vb.ownBlock = some j → N ≤ j) : KeepO N O K.b hv W (fun j => O j ∨ v'.ownBlock = some j ∨ ve.ownBlock = some j ∨ vb.ownBlock = some j) hv W' := by
  obtain ⟨f1, f2, f3, f4, f5, f6⟩ := h.facts hr hc
  refine ⟨f5.1, f5.2.1, f5.2.2, f4, fun j h1 h2 h3 h4 => f3 j h1 (fun e => h2 (e ▸ hp)) (fun e => h2 (hvo j e)), fun j hj => ?_, fun j hj => .inl hj⟩
  rcases hj with hj | hj | hj | hj
  · exact .inl hj
  · rcases (f6 j hj).1 with h1 | h1
    · exact .inl (hvo j h1)
    · exact .inr (by omega)
  · exact .inr (he j hj)
  · exact .inr (hb j hj)

theorem New.keep {K : PK} {O O' : Nat → Prop} {hv hv' : Value} {W W' : World} {u : Value} {l : List UInt8} (h : New K O hv W u l) (e : ∀ j, u.ownBlock = some j → W'.heap[j]? = W.heap[j]?) (hO : ∀ j, u.ownBlock = some j → O' j → O j) (hh : hv' = hv) : New K O' hv' W' u l := by
  subst hh
  exact ⟨h.own.same' e, fun j hj => ⟨fun ho => (h.far j hj).1 (hO j hj ho), (h.far j hj).2⟩, h.sz⟩

theorem New.below {K : PK} {O : Nat → Prop} {hv : Value} {W W' : World} {u : Value} {l : List UInt8} (h : New K O hv W u l) (hb : Below W.heap.size W W') : New K O hv W' u l :=
  h.keep (fun j hj => hb.block j (h.own.row.lt j hj).2) (fun _ _ h => h) rfl

theorem New.moveR {K : PK} {fr : Nat} {s q : SM} {hv rv rv' vc vd : Value} {L M : List (Itm × Value × Value)} {O : Nat → Prop} {W W' : World} {u : Value} {l : List UInt8} (h : New K O hv W u l) (hp : Pair K fr s q hv rv vc vd L M O W) (hm : Mv K.r rv W rv' W') : New K (fun j => O j ∨ rv'.ownBlock = some j) hv W' u l := by
  refine h.keep (fun j hj => hm.block j (h.own.row.lt j hj).2 (fun e => (h.far j hj).1 (e ▸ hp.oo.2.1)) (fun e => (h.far j hj).1 (hp.oo.2.2 j e))) (fun j hj ho => ?_) rfl
  rcases ho with ho | ho
  · exact ho
  · rcases hm.hv with h1 | h1 | ⟨g, h1, h2⟩
    · rw [h1] at ho; simp at ho
    · exact hp.oo.2.2 j (h1 ▸ ho)
    · rw [h1] at ho
      have := Option.some.inj ho
      have := (h.own.row.lt j hj).2
      omega

/-- a fresh item, in sight of the stream's own bytes -/
theorem New.of_fresh {K : PK} {fr : Nat} {s q : SM} {hv rv vc vd : Value} {L M : List (Itm × Value × Value)} {O : Nat → Prop} {W : World} {n : Nat} {u : Value} {l : List UInt8} (hp : Pair K fr s q hv rv vc vd L M O W) (h : OwnBytes W n 5 u l) (hn : ∀ j, O j → j < n) (hb : K.b < n) (hB : K.B ≤ n) (ha : Apart u hv) (hsz : l.length ≤ 1048577) : New K O hv W u l := by
  refine ⟨⟨row_mono5 h.row hB⟩, fun j hj => ?_, hsz⟩
  have hlt := (h.row.lt j hj).1
  refine ⟨fun ho => by have := hn j ho; omega, by omega, fun e => ?_⟩
  rcases ha with h1 | h1 | h1
  · rw [h1] at hj; simp at hj
  · rw [h1] at e; simp at e
  · exact h1 (hj.trans e.symm)

theorem far_of_apart {u v : Value} (h : Apart u v) : Far u v := by
  unfold Far
  rcases h with h | h | h
  · exact .inl h
  · by_cases hu : u.ownBlock = none
    · exact .inl hu
    · exact .inr (fun e => hu (e.trans h))
  · exact .inr h

/-- both stand alike -/
def Sync (K : PK) (N : Nat) (s : SM) (O : Nat → Prop) (hv : Value) (W : World) : Prop :=
  ∃ fr rv vc vd L M, Pair K fr s s hv rv vc vd L M O W ∧ L.map Prod.fst = M.map Prod.fst ∧ L.length ≤ N

theorem Sync.keep {K : PK} {N : Nat} {s : SM} {O : Nat → Prop} {hv : Value} {W W' : World} (h : Sync K N s O hv W) (hz : W.heap.size ≤ W'.heap.size) (e : ∀ j, O j ∨ j = K.b ∨ hv.ownBlock = some j → W'.heap[j]? = W.heap[j]?) : Sync K N s O hv W' := by
  obtain ⟨fr, rv, vc, vd, L, M, hp, h2, h3⟩ := h
  exact ⟨fr, rv, vc, vd, L, M, hp.keep hz e, h2, h3⟩
theorem Sync.blt {K : PK} {N : Nat} {s : SM} {O : Nat → Prop} {hv : Value} {W : World} (h : Sync K N s O hv W) : ∀ j, O j ∨ j = K.b ∨ hv.ownBlock = some j → j < W.heap.size := by
  obtain ⟨fr, rv, vc, vd, L, M, hp, h2, h3⟩ := h
  exact hp.blt
theorem Sync.below {K : PK} {N : Nat} {s : SM} {O : Nat → Prop} {hv : Value} {W W' : World} (h : Sync K N s O hv W) (hb : Below W.heap.size W W') : Sync K N s O hv W' :=
  h.keep hb.size (fun j hj => hb.block j (h.blt j hj))
theorem Sync.mono {K : PK} {N N' : Nat} {s : SM} {O : Nat → Prop} {hv : Value} {W : World} (h : Sync K N s O hv W) (hn : N ≤ N') : Sync K N' s O hv W := by
  obtain ⟨fr, rv, vc, vd, L, M, hp, h2, h3⟩ := h
  exact ⟨fr, rv, vc, vd, L, M, hp, h2, Nat.le_trans h3 hn⟩

theorem KeepO.of_below {N : Nat} {O : Nat → Prop} {b : Nat} {hv : Value} {W W' : World} (h : Below W.heap.size W W') : KeepO N O b hv W O hv W' :=
  ⟨h.os, h.tape, h.output, h.size, fun j hj _ _ _ => h.block j hj, fun _ h => .inl h, fun _ h => .inl h⟩

/-- what an operation leaves -/
def SPost (K : PK) (N : Nat) (s : SM) (v : Value) (O : Nat → Prop) (hv : Value) (W : World) (e : Ending) (W' : World) : Prop :=
  e = .returned v ∧ ∃ O' hv', Sync K N s O' hv' W' ∧ KeepO W.heap.size O K.b hv W O' hv' W'
/-- where a slice of some room lies -/
def LowA (B : Nat) (pa : Option Addr) (c : Nat) : Prop := 0 < c → ∀ a, pa = some a → a.block < B
theorem BytesIn.low {w w' : World} {pa : Option Addr} {n c B : Nat} {l : List UInt8} (h : BytesIn w pa n c l) (e : ∀ j, j < B → w'.heap[j]? = w.heap[j]?) (hz : w.heap.size ≤ w'.heap.size) (hlow : LowA B pa c) : BytesIn w' pa n c l := by
  refine ⟨h.len, h.le, h.cap, fun hc => ?_⟩
  obtain ⟨g, o, e1, hlt, hcell⟩ := h.at_ hc
  refine ⟨g, o, e1, Nat.lt_of_lt_of_le hlt hz, fun i hi => ?_⟩
  rw [World.cell?_of_block (e g (hlow hc _ e1))]
  exact hcell i hi

/-- what lies below the call's own is as it was -/
def Low (K : PK) (W W' : World) : Prop := (∀ j, j < K.B → W'.heap[j]? = W.heap[j]?) ∧ W.heap.size ≤ W'.heap.size
theorem Low.refl (K : PK) (W : World) : Low K W W := ⟨fun _ _ => rfl, Nat.le_refl _⟩
theorem Low.trans {K : PK} {W W1 W2 : World} (h : Low K W W1) (g : Low K W1 W2) : Low K W W2 := ⟨fun j hj => (g.1 j hj).trans (h.1 j hj), Nat.le_trans h.2 g.2⟩
theorem Low.of_below {K : PK} {W W' : World} (hB : K.B ≤ W.heap.size) (h : Below W.heap.size W W') : Low K W W' := ⟨fun j hj => h.block j (Nat.lt_of_lt_of_le hj hB), h.size⟩
theorem Low.of_grown {K : PK} {W W' : World} {d : Nat} (hB : K.B ≤ W.heap.size) (hd : K.B ≤ d) (h : W.grownBy W' (some d)) : Low K W W' := ⟨fun j hj => h.block j (Nat.lt_of_lt_of_le hj hB) (fun e => by have := Option.some.inj e; omega), h.size⟩
theorem Low.of_mv {K : PK} {b : Nat} {hv hv' : Value} {W W' : World} (hB : K.B ≤ W.heap.size) (hb : K.B ≤ b) (hh : ∀ j, hv.ownBlock = some j → K.B ≤ j) (h : Mv b hv W hv' W') : Low K W W' := ⟨fun j hj => h.block j (Nat.lt_of_lt_of_le hj hB) (by omega) (fun e => by have := hh j e; omega), h.size⟩

theorem RowsP.slice {B : Nat} {v : Value} {L : List (Itm × Value × Value)} {O : Nat → Prop} {W : World} (h : RowsP B v L O W) : ∃ p c, v = .slice p L.length c := by
  rcases h.row.2 with ⟨rfl, h0⟩ | ⟨g, cap, cur, rfl, _⟩
  · exact ⟨none, 0, by rw [h0]⟩
  · exact ⟨_, _, rfl⟩
end Go.Proofs.Ytofdpccjpodbhaa

namespace Go.Proofs.Ytofdpccjpodbhaa
open Go.RowKit
set_option linter.unusedVariables false

attribute [local go_sem] Oper.semAt_some

/-- the temporaries at run's range -/
def tmR (gO : Nat) (a0 a1 a2 a3 a4 a5 a6 a7 a8 a10 a11 a12 a13 a14 a16 a17 a18 a19 a20 a21 a22 a23 a24 a25 a26 a27 a28 a29 a30 a31 a32 a33 a34 a35 a36 a37 a38 a39 a40 a41 a42 a43 a44 a45 a46 a47 a48 a49 a50 a51 a52 a53 a54 a55 a56 a57 a58 a59 a60 a61 a62 a63 a64 : Value) : Array Value := #[a0, a1, a2, a3, a4, a5, a6, a7, a8, .pointer (some ⟨gO, 0, none⟩), a10, a11, a12, a13, a14, undef, a16, a17, a18, a19, a20, a21, a22, a23, a24, a25, a26, a27, a28, a29, a30, a31, a32, a33, a34, a35, a36, a37, a38, a39, a40, a41, a42, a43, a44, a45, a46, a47, a48, a49, a50, a51, a52, a53, a54, a55, a56, a57, a58, a59, a60, a61, a62, a63, a64, undef, undef, undef, undef, undef, undef, undef, undef]

/-- how run's loop body stands behind its assign code -/
def MidR (tm : Array Value) (W : World) (x0 x1 x2 x3 : Int) (pe : Option Addr) (ne ce : Nat) (pb : Option Addr) (nb cb : Nat) (e : Exit) (a : Act) (Wa : World) : Prop :=
  e = .normal ∧ a = { tmps := tm, defers := [] } ∧ W.grownBy Wa none ∧ Wa.heap[W.heap.size]? = some (.cells #[.int .i64 x0, .int .i64 x1, .int .i64 x2, .int .i64 x3, .slice pe ne ce, .slice pb nb cb] 71 (0, 0))

theorem info_item : (Try.prog.info? 71).map (fun i => (i.zero, i.size, i.bytes)) = some (some (.agg #[.int .i64 0, .int .i64 0, .int .i64 0, .int .i64 0, .slice none 0 0, .slice none 0 0]), 6, 80) := by kernel_rfl

set_option maxRecDepth 20000 in
set_option maxHeartbeats 2000000 in
theorem round_R {D lp : Nat} (K : LoopBook D lp) (W : World) (B gO : Nat) (a0 a1 a2 a3 a4 a5 a6 a7 a8 a10 a11 a12 a13 a14 a16 a17 a18 a19 a20 a21 a22 a23 a24 a25 a26 a27 a28 a29 a30 a31 a32 a33 a34 a35 a36 a37 a38 a39 a40 a41 a42 a43 a44 a45 a46 a47 a48 a49 a50 a51 a52 a53 a54 a55 a56 a57 a58 a59 a60 a61 a62 a63 a64 : Value) (x0 x1 x2 x3 : Int) (pe : Option Addr) (ne ce : Nat) (pb : Option Addr) (nb cb : Nat) (pl : Option Addr) (nl cl : Nat) (xs : List Value) (I : World → Prop) (Ix : Code → World → Prop) (asg bdy : Code) (hrf : (Try.f26.body.bind rfOf) = some (asg, bdy))
    (hrd : K.rdy W) (hc : W.heap[gO]? = some (.cells #[.slice pl nl cl] 47 (0, 0))) (hgl : gO ≠ lp) (hrow : W.ownsRow B 71 6 (.slice pl nl cl) nl xs) (hB : B ≤ W.heap.size) (hnl : nl + 1 ≤ 1073741824)
    (hI : ∀ Wa Wb v' W8, W.grownBy Wa none → Turn lp Wa Wb → K.busy Wb → W8.ownsRow B 71 6 v' (nl + 1) (xs ++ [.int .i64 x0, .int .i64 x1, .int .i64 x2, .int .i64 x3, .slice pe ne ce, .slice pb nb cb]) → Wb.grownBy W8 (Value.slice pl nl cl).ownBlock → Grew Wb W8 (.slice pl nl cl) v' →
      K.busy (W8.setCell ⟨gO, 0, none⟩ v') ∧ I (W8.setCell ⟨gO, 0, none⟩ v')) :
    RoundOf Try.prog K (tmR gO a0 a1 a2 a3 a4 a5 a6 a7 a8 a10 a11 a12 a13 a14 a16 a17 a18 a19 a20 a21 a22 a23 a24 a25 a26 a27 a28 a29 a30 a31 a32 a33 a34 a35 a36 a37 a38 a39 a40 a41 a42 a43 a44 a45 a46 a47 a48 a49 a50 a51 a52 a53 a54 a55 a56 a57 a58 a59 a60 a61 a62 a63 a64) #[65] asg bdy #[.agg #[.int .i64 x0, .int .i64 x1, .int .i64 x2, .int .i64 x3, .slice pe ne ce, .slice pb nb cb]] W I Ix := by
  simp only [Try.f26, Option.bind_some, rfOf, Option.some.injEq, Prod.mk.injEq] at hrf
  obtain ⟨rfl, rfl⟩ := hrf
  unfold RoundOf tmR
  have HI := Lib.hid hI
  have hlr := hrow.lt
  have HROW := Lib.hid hrow
  clear hI hrow
  refine wpIn_mono (Q := MidR (#[a0, a1, a2, a3, a4, a5, a6, a7, a8, .pointer (some ⟨gO, 0, none⟩), a10, a11, a12, a13, a14, .pointer (some ⟨W.heap.size, 0, none⟩), a16, a17, a18, a19, a20, a21, a22, a23, a24, a25, a26, a27, a28, a29, a30, a31, a32, a33, a34, a35, a36, a37, a38, a39, a40, a41, a42, a43, a44, a45, a46, a47, a48, a49, a50, a51, a52, a53, a54, a55, a56, a57, a58, a59, a60, a61, a62, a63, a64, .agg #[.int .i64 x0, .int .i64 x1, .int .i64 x2, .int .i64 x3, .slice pe ne ce, .slice pb nb cb], undef, undef, undef, undef, undef, undef, undef]) W x0 x1 x2 x3 pe ne ce pb nb cb) ?_ ?_
  · gi_wp2
    exact ⟨rfl, rfl, grown_alloc _ _ _, heap_alloc_new _ _⟩
  · rintro e a' Wa ⟨rfl, rfl, hg, hi⟩
    obtain ⟨⟨oD, hD, hDc⟩, ⟨ol, hl, hlc⟩⟩ := K.rdyN W hrd
    have hDlt := (Array.getElem?_eq_some_iff.1 hD).1
    have hllt := (Array.getElem?_eq_some_iff.1 hl).1
    refine ⟨K.keepR W Wa hrd (hg.block D hDlt (by simp)) (hg.block lp hllt (by simp)), ?_⟩
    intro Wb ht hb
    have hib : Wb.heap[W.heap.size]? = some (.cells #[.int .i64 x0, .int .i64 x1, .int .i64 x2, .int .i64 x3, .slice pe ne ce, .slice pb nb cb] 71 (0, 0)) :=
      (ht.1.block W.heap.size (Array.getElem?_eq_some_iff.1 hi).1 (fun h => by have := Option.some.inj h; omega)).trans hi
    have hgOlt := (Array.getElem?_eq_some_iff.1 hc).1
    have hcb := (ht.1.block gO (Nat.lt_of_lt_of_le hgOlt hg.size) (fun e => hgl (Option.some.inj e))).trans ((hg.block gO hgOlt (by simp)).trans hc)
    have hnlp : (Value.slice pl nl cl).ownBlock ≠ some lp := fun hq => by
      rcases HROW.out.2 with ⟨hz, _⟩ | ⟨g', cap, cur, hz, hgb, hh, _⟩
      · rw [hz] at hq; simp [Value.ownBlock] at hq
      · rw [hz] at hq
        simp only [Value.ownBlock, Option.some.injEq] at hq
        subst hq
        rw [hh] at hl
        cases hl
        simp [Obj.isCells] at hlc
    have hrowb : Wb.ownsRow B 71 6 (.slice pl nl cl) nl xs := ownsRow_same HROW.out (fun j hj => by
      have h1 := (hlr j hj).2
      rw [ht.1.block j (Nat.lt_of_lt_of_le h1 hg.size) (fun e => hnlp (by rw [hj]; exact e.symm ▸ rfl)), hg.block j h1 (by simp)])
    have HB := Lib.hid (HI.out Wa Wb)
    have HRB := Lib.hid hrowb
    have HG := Lib.hid hg
    have HT := Lib.hid ht
    have HK := Lib.hid hb
    have c9 : Wb.cell? ⟨gO, 0, none⟩ = some (.slice pl nl cl) := (cell_of_row _ _ 0 _ _ _ hcb).trans rfl
    have HCB := Lib.hid hcb
    have hzb : B ≤ Wb.heap.size := Nat.le_trans hB (Nat.le_trans hg.size ht.1.size)
    obtain ⟨x, hx⟩ : ∃ x, W.heap.size = x := ⟨_, rfl⟩
    rw [hx] at hib ⊢
    have v0 : Wb.cell? ⟨x, 0, none⟩ = some (.int .i64 x0) := (cell_of_row _ _ 0 _ _ _ hib).trans rfl
    have v1 : Wb.cell? ⟨x, 1, none⟩ = some (.int .i64 x1) := (cell_of_row _ _ 1 _ _ _ hib).trans rfl
    have v2 : Wb.cell? ⟨x, 2, none⟩ = some (.int .i64 x2) := (cell_of_row _ _ 2 _ _ _ hib).trans rfl
    have v3 : Wb.cell? ⟨x, 3, none⟩ = some (.int .i64 x3) := (cell_of_row _ _ 3 _ _ _ hib).trans rfl
    have v4 : Wb.cell? ⟨x, 4, none⟩ = some (.slice pe ne ce) := (cell_of_row _ _ 4 _ _ _ hib).trans rfl
    have v5 : Wb.cell? ⟨x, 5, none⟩ = some (.slice pb nb cb) := (cell_of_row _ _ 5 _ _ _ hib).trans rfl
    clear hib hi hx hD hl hDc hlc HI hrowb hcb hg ht hb hc hrd HROW hlr
    gi_wp2_with (gi_at_builtin; refine wpListIn_append_struct (wr := Wb) rfl (.tmp 66) (.tmp 68) 47 rfl B 71 _ 6 80 Try.underlying47 info_item rfl (by decide) (.slice pl nl cl) nl xs [.int .i64 x0, .int .i64 x1, .int .i64 x2, .int .i64 x3, .slice pe ne ce, .slice pb nb cb] rfl (by intro u hu; simp only [List.mem_cons, List.not_mem_nil, or_false] at hu; rcases hu with rfl | rfl | rfl | rfl | rfl | rfl <;> rfl) rfl rfl HRB.out (by unfold maxLen; omega) (by omega) hzb ?_)
    intro v' W8 h1 h2 h3
    have hgb : (Value.slice pl nl cl).ownBlock ≠ some gO := fun hq => by
      rcases HRB.out.2 with ⟨hz, _⟩ | ⟨g', cap, cur, hz, hgb, hh, _⟩
      · rw [hz] at hq; simp [Value.ownBlock] at hq
      · rw [hz] at hq
        simp only [Value.ownBlock, Option.some.injEq] at hq
        subst hq
        rw [HCB.out] at hh
        cases hh
    have hc8 := (h2.block gO (Array.getElem?_eq_some_iff.1 HCB.out).1 (fun e => hgb e.symm)).trans HCB.out
    have c8 : W8.cell? ⟨gO, 0, none⟩ = some (.slice pl nl cl) := (cell_of_row _ _ 0 _ _ _ hc8).trans rfl
    have f8 : W8.frozen? ⟨gO, 0, none⟩ = false := by simp [World.frozen?, hc8]
    have HF := Lib.hid (HB.out v' W8 HG.out HT.out HK.out h1 h2 h3)
    have hv' : ∃ p n c, v' = .slice p n c := by
      rcases h1.2 with ⟨rfl, _⟩ | ⟨g, cap, cur, rfl, _⟩
      · exact ⟨_, _, _, rfl⟩
      · exact ⟨_, _, _, rfl⟩
    obtain ⟨p', n', c', rfl⟩ := hv'
    clear v0 v1 v2 v3 v4 v5 c9 hc8 h1 h2 h3 HB HRB HG HT HK HCB hgb
    gi_wp2
    exact HF.out

/-- run's invariant for a range -/
structure JR {D lp : Nat} (K : LoopBook D lp) (B gO b : Nat) (hv0 : Value) (O0 : Nat → Prop) (W1 : World) (s0 : SM) (ch : List UInt8) (its0 : List Itm) (k : Nat) (s : SM) (hv : Value) (O : Nat → Prop) (W : World) : Prop where
  rdy : K.rdy W
  keep : KeepO W1.heap.size O0 b hv0 W1 O hv W
  feed : ∃ its, FeedAt s0 ch k s its ∧ ∃ L, OutL B gO L O W ∧ L.map Prod.fst = its0 ++ its
  own : ∀ j, O j → j < W.heap.size ∧ j ≠ b ∧ hv.ownBlock ≠ some j
  lp : O lp

set_option maxHeartbeats 1000000 in
theorem rides_R {D lp B gO b Bs n c : Nat} {hv0 : Value} {pa : Option Addr} {ch : List UInt8} {O0 : Nat → Prop} {W1 : World} {s0 : SM} {its0 : List Itm} (K : LoopBook D lp) (asg bdy : Code) (a0 a1 a2 a3 a4 a5 a6 a7 a8 a10 a11 a12 a13 a14 a16 a17 a18 a19 a20 a21 a22 a23 a24 a25 a26 a27 a28 a29 a30 a31 a32 a33 a34 a35 a36 a37 a38 a39 a40 a41 a42 a43 a44 a45 a46 a47 a48 a49 a50 a51 a52 a53 a54 a55 a56 a57 a58 a59 a60 a61 a62 a63 a64 : Value) (hrf : (Try.f26.body.bind rfOf) = some (asg, bdy))
    (hD : D < W1.heap.size) (hD0 : ¬ O0 D ∧ D ≠ b ∧ hv0.ownBlock ≠ some D) (hB : B ≤ W1.heap.size) (hnum : its0.length + n ≤ 1073741823)
    (hch : BytesIn W1 pa n c ch) (hco : ∀ a, pa = some a → ¬ O0 a.block ∧ a.block ≠ b ∧ hv0.ownBlock ≠ some a.block)
    (hyield : ∀ (xs : Array Value) (W : World) (I : World → Prop) (Ix : Code → World → Prop), xs.size = 1 → K.rdy W →
      RoundOf Try.prog K (tmR gO a0 a1 a2 a3 a4 a5 a6 a7 a8 a10 a11 a12 a13 a14 a16 a17 a18 a19 a20 a21 a22 a23 a24 a25 a26 a27 a28 a29 a30 a31 a32 a33 a34 a35 a36 a37 a38 a39 a40 a41 a42 a43 a44 a45 a46 a47 a48 a49 a50 a51 a52 a53 a54 a55 a56 a57 a58 a59 a60 a61 a62 a63 a64) #[65] asg bdy xs W I Ix → YieldAt Fence.wide 3 Try.prog lp xs W (YieldOf K I Ix)) :
    RidesA W1.heap.size lp b Bs pa n c ch (JR K B gO b hv0 O0 W1 s0 ch its0) (fun _ _ _ _ => False) := by
  have hlen := hch.len
  have cellsNe : ∀ {W : World} {j l : Nat} {cs : Array Value} {t : Nat} {fr : Nat × Nat}, W.heap[j]? = some (.cells cs t fr) → (∃ o, W.heap[l]? = some o ∧ o.isCells = false) → j ≠ l := by
    rintro W j l cs t fr h1 ⟨o, h2, h3⟩ rfl
    rw [h1] at h2
    cases h2
    simp [Obj.isCells] at h3
  refine ⟨?_, ?_, ?_, ?_, ?_, ?_⟩
  · intro k s hv O W h j hj
    exact (h.own j hj).1
  · intro k s hv O W h
    exact hch.keepO h.keep hco
  · intro k s hv O W W' d h hd hO hb hh hg
    obtain ⟨⟨oD, hoD, _⟩, ⟨ol, hol, _⟩⟩ := K.rdyN W h.rdy
    have hDW := (Array.getElem?_eq_some_iff.1 hoD).1
    have hlW := (Array.getElem?_eq_some_iff.1 hol).1
    have hl : lp ≠ d := fun e => hO (e ▸ h.lp)
    obtain ⟨its, hf, L, hL, hLm⟩ := h.feed
    exact ⟨K.keepR W W' h.rdy (hg.block D hDW (fun e => by have := Option.some.inj e; omega)) (hg.block lp hlW (fun e => hl (Option.some.inj e))), h.keep.turn hg hd,
      ⟨its, hf, L, hL.keep (fun j cs t fr hj hh => hg.block j (Array.getElem?_eq_some_iff.1 hh).1 (fun e => hO (Option.some.inj e ▸ hj))), hLm⟩, fun j hj => ⟨Nat.lt_of_lt_of_le (h.own j hj).1 hg.size, (h.own j hj).2⟩, h.lp⟩
  · intro s hv O W W' d h
    exact h.elim
  · intro k s hv O W hv' W' hk h hS he hno hm hS'
    obtain ⟨its, hf, L, hL, hLm⟩ := h.feed
    have hfr : ∀ j, O j → W'.heap[j]? = W.heap[j]? := fun j hj => hm.block j (h.own j hj).1 (h.own j hj).2.1 (h.own j hj).2.2
    have hDW := Nat.lt_of_lt_of_le hD h.keep.size
    have hDh : hv.ownBlock ≠ some D := fun hq => by
      rcases h.keep.held D hq with h4 | h4
      · exact hD0.2.2 h4
      · omega
    refine ⟨K.keepR W W' h.rdy (hm.block D hDW hD0.2.1 hDh) (hfr lp h.lp), h.keep.trans (hm.keepO O (Nat.le_refl _)) (Nat.le_refl _) h.keep.size, ⟨its, ?_, L, hL.keep (fun j cs t fr hj _ => hfr j hj), hLm⟩, fun j hj => ?_, h.lp⟩
    · have := hf.next (by omega) he
      rw [if_pos (by rw [hno]; rfl)] at this
      exact this
    · obtain ⟨o1, o2, o3⟩ := h.own j hj
      refine ⟨Nat.lt_of_lt_of_le o1 hm.size, o2, fun hq => ?_⟩
      rcases hm.hv with h3 | h3 | ⟨g, h3, h4⟩
      · rw [h3] at hq; simp at hq
      · exact o3 (h3 ▸ hq)
      · rw [h3] at hq
        have : g = j := Option.some.inj hq
        omega
  · intro k s hv O W hv' W' ve vb hk h hS he hne hm hS' hit ha1 ha2
    obtain ⟨its, hf, L, hL, hLm⟩ := h.feed
    have hfn := hf.next (by omega) he
    rw [if_neg hne] at hfn
    have hfr : ∀ j, O j → W'.heap[j]? = W.heap[j]? := fun j hj => hm.block j (h.own j hj).1 (h.own j hj).2.1 (h.own j hj).2.2
    have hDW := Nat.lt_of_lt_of_le hD h.keep.size
    have hDh : hv.ownBlock ≠ some D := fun hq => by
      rcases h.keep.held D hq with h4 | h4
      · exact hD0.2.2 h4
      · omega
    have hrd' := K.keepR W W' h.rdy (hm.block D hDW hD0.2.1 hDh) (hfr lp h.lp)
    have hL' : OutL B gO L O W' := hL.keep (fun j cs t fr hj _ => hfr j hj)
    have hOv : ∀ j, O j → j ≠ b ∧ hv'.ownBlock ≠ some j := by
      intro j hj
      obtain ⟨o1, o2, o3⟩ := h.own j hj
      refine ⟨o2, fun hq => ?_⟩
      rcases hm.hv with h3 | h3 | ⟨g, h3, h4⟩
      · rw [h3] at hq; simp at hq
      · exact o3 (h3 ▸ hq)
      · rw [h3] at hq
        have : g = j := Option.some.inj hq
        omega
    have hOD : ¬ O D := fun ho => by
      rcases h.keep.own D ho with h4 | h4
      · exact hD0.1 h4
      · omega
    have hLlen : L.length + 1 ≤ 1073741824 := by
      have h1 := congrArg List.length hLm
      rw [List.length_map, List.length_append] at h1
      have h2 := feed_len (ch.take k) s0
      rw [show feed s0 (ch.take k) = (s, its) from hf] at h2
      simp only [List.length_take] at h2
      omega
    have hkeepW := h.keep.size
    have hownW := h.own
    have hlpO := h.lp
    have hkeep1 := h.keep.trans (hm.keepO O (Nat.le_refl _)) (Nat.le_refl _) h.keep.size
    have hbW : b < W.heap.size := (Array.getElem?_eq_some_iff.1 hS.ins.row).1
    have hhW' := hS'.held_lt
    obtain ⟨st, hst⟩ : ∃ st, step s (ch.getD k 0) = st := ⟨_, rfl⟩
    rw [hst] at hfn hne hS' hit ⊢
    obtain ⟨s', it⟩ := st
    simp only at hfn hne hS' hit ⊢
    obtain ⟨pe, ce, rfl, _⟩ := hit.ext.bytes
    obtain ⟨pb, cb, rfl, _⟩ := hit.body.bytes
    obtain ⟨vl, hvc, hvr, hvo⟩ := hL'.cell
    have hvs : ∃ pl cl, vl = .slice pl L.length cl := by
      rcases hvr.2 with ⟨rfl, h0⟩ | ⟨g, cap, cur, rfl, _⟩
      · exact ⟨none, 0, by rw [h0]⟩
      · exact ⟨_, _, rfl⟩
    obtain ⟨pl, cl, rfl⟩ := hvs
    obtain ⟨hnD, hnl⟩ := K.rdyN W' hrd'
    have hgl : gO ≠ lp := cellsNe hvc hnl
    have hvl : (Value.slice pl L.length cl).ownBlock ≠ some lp := fun hq => by
      rcases hvr.2 with ⟨hz, _⟩ | ⟨g, cap, cur, hz, _, hh, _⟩
      · rw [hz] at hq; simp [Value.ownBlock] at hq
      · rw [hz] at hq
        simp only [Value.ownBlock, Option.some.injEq] at hq
        subst hq
        exact cellsNe hh hnl rfl
    have hround := round_R K W' B gO a0 a1 a2 a3 a4 a5 a6 a7 a8 a10 a11 a12 a13 a14 a16 a17 a18 a19 a20 a21 a22 a23 a24 a25 a26 a27 a28 a29 a30 a31 a32 a33 a34 a35 a36 a37 a38 a39 a40 a41 a42 a43 a44 a45 a46 a47 a48 a49 a50 a51 a52 a53 a54 a55 a56 a57 a58 a59 a60 a61 a62 a63 a64 it.kind it.proto it.T it.ch pe it.ext.length ce pb it.body.length cb pl L.length cl (itRow L)
      (fun W3 => ∃ O2, OutL B gO (L ++ [(it, .slice pe it.ext.length ce, .slice pb it.body.length cb)]) O2 W3 ∧ KeepO W.heap.size O b hv' W' O2 hv' W3 ∧ StS W3 b Bs s' hv' ∧ (∀ j, O2 j → j < W3.heap.size ∧ j ≠ b ∧ hv'.ownBlock ≠ some j) ∧ O2 lp ∧ K.busy W3) (fun _ _ => False) asg bdy hrf hrd' hvc hgl hvr (Nat.le_trans hB (Nat.le_trans hkeepW hm.size)) hLlen (by
        intro Wa Wb v' W8 hg ht hb h1 h2 h3
        have hz1 := hg.size
        have hz2 := ht.1.size
        have hz3 := h2.size
        have hzm := hm.size
        have g9 := setCell_grown W8 gO 0 v'
        have hz4 : (W8.setCell ⟨gO, 0, none⟩ v').heap.size = W8.heap.size := by simp
        -- what is cells at W', is neither lp, nor the list's row, nor its variable, lies on
        have stay : ∀ j, j < W'.heap.size → j ≠ lp → (Value.slice pl L.length cl).ownBlock ≠ some j → W8.heap[j]? = W'.heap[j]? := by
          intro j q1 q2 q3
          rw [h2.block j (by omega) (fun e => q3 e.symm), ht.1.block j (by omega) (fun e => q2 (Option.some.inj e)), hg.block j q1 (by simp)]
        have hgOlt := (Array.getElem?_eq_some_iff.1 hvc).1
        have hgv : (Value.slice pl L.length cl).ownBlock ≠ some gO := fun hq => by
          rcases hvr.2 with ⟨hz, _⟩ | ⟨g, cap, cur, hz, _, hh, _⟩
          · rw [hz] at hq; simp [Value.ownBlock] at hq
          · rw [hz] at hq
            simp only [Value.ownBlock, Option.some.injEq] at hq
            subst hq
            rw [hvc] at hh
            cases hh
        have hc8 := (stay gO hgOlt hgl hgv).trans hvc
        have s9 := heap_setCell_same W8 gO 0 _ _ v' hc8
        -- bytes lie on
        have bytes9 : ∀ {B0 : Nat} {v : Value} {l : List UInt8}, OwnBytes W' B0 5 v l → OwnBytes (W8.setCell ⟨gO, 0, none⟩ v') B0 5 v l := by
          intro B0 v l ho
          refine ho.cells (fun j cs fr hj hh => ?_)
          have hjlt := (Array.getElem?_eq_some_iff.1 hh).1
          have q1 : j ≠ lp := cellsNe hh hnl
          have q2 : j ≠ gO := fun e => by
            subst e
            rw [hvc] at hh
            cases hh
          have q3 : (Value.slice pl L.length cl).ownBlock ≠ some j := fun hq => by
            rcases hvr.2 with ⟨hz, _⟩ | ⟨g, cap, cur, hz, _, hh2, _⟩
            · rw [hz] at hq; simp [Value.ownBlock] at hq
            · rw [hz] at hq
              simp only [Value.ownBlock, Option.some.injEq] at hq
              subst hq
              rw [hh2] at hh
              cases hh
          rw [g9.block j (by omega) (fun e => q2 (Option.some.inj e)), stay j hjlt q1 q3]
        have hv9 : ∀ j, v'.ownBlock = some j → (Value.slice pl L.length cl).ownBlock = some j ∨ Wb.heap.size ≤ j := by
          intro j hj
          rcases h3 with ⟨g, n', cap', e1, e2⟩ | ⟨g, e1, e2, _⟩
          · rw [e2] at hj
            rw [e1]
            exact .inl hj
          · rw [e1] at hj
            have : g = j := Option.some.inj hj
            exact .inr (by omega)
        have hv9g : v'.ownBlock ≠ some gO := fun hq => by
          rcases hv9 gO hq with h4 | h4
          · exact hgv h4
          · omega
        have hDne : D ≠ gO ∧ D ≠ lp ∧ (Value.slice pl L.length cl).ownBlock ≠ some D := ⟨fun e => hOD (e ▸ hL.og), fun e => hOD (e ▸ hlpO), fun e => hOD (hvo D e)⟩
        obtain ⟨⟨oD, hoD, _⟩, ⟨ol, hol, _⟩⟩ := K.busyN Wb hb
        have hDb := (Array.getElem?_eq_some_iff.1 hoD).1
        have hlb := (Array.getElem?_eq_some_iff.1 hol).1
        have hK9 : K.busy (W8.setCell ⟨gO, 0, none⟩ v') := K.keepB Wb _ hb
          ((g9.block D (by omega) (fun e => hDne.1 (Option.some.inj e))).trans (h2.block D hDb (fun e => hDne.2.2 e.symm)))
          ((g9.block lp (by omega) (fun e => hgl (Option.some.inj e).symm)).trans (h2.block lp hlb (fun e => hvl e.symm)))
        have hve : ∀ j, (Value.slice pe it.ext.length ce).ownBlock = some j → W.heap.size ≤ j ∧ j < W'.heap.size := fun j hj => hit.ext.row.lt j hj
        have hvb : ∀ j, (Value.slice pb it.body.length cb).ownBlock = some j → W.heap.size ≤ j ∧ j < W'.heap.size := fun j hj => hit.body.row.lt j hj
        have hv8 := h1.lt
        have hBW : B ≤ W.heap.size := Nat.le_trans hB hkeepW
        refine ⟨hK9, fun j => O j ∨ v'.ownBlock = some j ∨ (Value.slice pe it.ext.length ce).ownBlock = some j ∨ (Value.slice pb it.body.length cb).ownBlock = some j, ?_, ?_, ?_, ?_, .inl hlpO, hK9⟩
        · refine ⟨⟨v', s9, ?_, fun j hj => .inr (.inl hj)⟩, fun p hp => ?_, .inl hL.og⟩
          · have hrow9 : (W8.setCell ⟨gO, 0, none⟩ v').ownsRow B 71 6 v' (L.length + 1) (itRow L ++ [.int .i64 it.kind, .int .i64 it.proto, .int .i64 it.T, .int .i64 it.ch, .slice pe it.ext.length ce, .slice pb it.body.length cb]) :=
              ownsRow_same h1 (fun j hj => g9.block j (hv8 j hj).2 (fun e => hv9g (by rw [hj, e])))
            simpa [itRow, itCells] using hrow9
          · rcases List.mem_append.1 hp with hp | hp
            · obtain ⟨q1, q2, q3, q4⟩ := hL'.its p hp
              exact ⟨bytes9 q1, bytes9 q2, fun j hj => .inl (q3 j hj), fun j hj => .inl (q4 j hj)⟩
            · simp only [List.mem_singleton] at hp
              subst hp
              exact ⟨⟨row_mono5 (bytes9 hit.ext).row hBW⟩, ⟨row_mono5 (bytes9 hit.body).row hBW⟩, fun j hj => .inr (.inr (.inl hj)), fun j hj => .inr (.inr (.inr hj))⟩
        · refine ⟨g9.os.trans (h2.os.trans (ht.1.os.trans hg.os)), g9.tape.trans (h2.tape.trans (ht.1.tape.trans hg.tape)), g9.output.trans (h2.output.trans (ht.1.output.trans hg.output)), by omega, fun j q1 q2 q3 q4 => ?_, fun j hj => ?_, fun j hj => .inl hj⟩
          · rw [g9.block j (by omega) (fun e => q2 (Option.some.inj e ▸ hL.og)), stay j q1 (fun e => q2 (e ▸ hlpO)) (fun e => q2 (hvo j e))]
          · rcases hj with hj | hj | hj | hj
            · exact .inl hj
            · rcases hv9 j hj with h4 | h4
              · exact .inl (hvo j h4)
              · exact .inr (by omega)
            · exact .inr (hve j hj).1
            · exact .inr (hvb j hj).1
        · have q1 := (hS'.grown (grownBy_none hg lp) (hOv lp hlpO).1 (hOv lp hlpO).2).grown ht.1 (hOv lp hlpO).1 (hOv lp hlpO).2
          have q2 : StS W8 b Bs s' hv' := by
            cases hvb2 : (Value.slice pl L.length cl).ownBlock with
            | none =>
              rw [hvb2] at h2
              exact q1.grown (grownBy_none h2 lp) (hOv lp hlpO).1 (hOv lp hlpO).2
            | some g =>
              rw [hvb2] at h2
              exact q1.grown h2 (hOv g (hvo g hvb2)).1 (hOv g (hvo g hvb2)).2
          exact q2.grown g9 (hOv gO hL.og).1 (hOv gO hL.og).2
        · intro j hj
          rw [hz4]
          rcases hj with hj | hj | hj | hj
          · exact ⟨by have := (hownW j hj).1; omega, (hOv j hj).1, (hOv j hj).2⟩
          · refine ⟨(hv8 j hj).2, ?_, fun hq => ?_⟩
            · rcases hv9 j hj with h4 | h4
              · exact (hOv j (hvo j h4)).1
              · omega
            · rcases hv9 j hj with h4 | h4
              · exact (hOv j (hvo j h4)).2 hq
              · have := hhW' j hq
                omega
          · have h4 := hve j hj
            refine ⟨by omega, by omega, fun hq => ?_⟩
            rcases ha1 with h5 | h5 | h5
            · rw [h5] at hj; simp at hj
            · rw [h5] at hq; simp at hq
            · exact h5 (hj.trans hq.symm)
          · have h4 := hvb j hj
            refine ⟨by omega, by omega, fun hq => ?_⟩
            rcases ha2 with h5 | h5 | h5
            · rw [h5] at hj; simp at hj
            · rw [h5] at hq; simp at hq
            · exact h5 (hj.trans hq.symm))
    refine (hyield _ W' _ _ rfl hrd' hround).mono ?_
    rintro e W2 (⟨rfl, hr2, W3, ⟨O2, hL3, hk3, hS3, ho3, hlp3, hb3⟩, ht3⟩ | ⟨rfl, c', hf2, W3, hF, _⟩)
    rotate_left
    · exact hF.elim
    have hnl2 := (K.busyN W3 hb3).2
    have hk2 : KeepO W.heap.size O b hv' W' O2 hv' W2 := ⟨ht3.1.os.trans hk3.os, ht3.1.tape.trans hk3.tape, ht3.1.output.trans hk3.output, Nat.le_trans hk3.size ht3.1.size, fun j q1 q2 q3 q4 => (ht3.1.block j (Nat.lt_of_lt_of_le q1 hk3.size) (fun e => q2 (Option.some.inj e ▸ hlpO))).trans (hk3.block j q1 q2 q3 q4), hk3.own, hk3.held⟩
    have hz3 := ht3.2
    refine .inl ⟨rfl, s', hv', O2, hS3.grown ht3.1 (hOv lp hlpO).1 (hOv lp hlpO).2, ⟨hr2, hkeep1.trans hk2 (Nat.le_refl _) hkeepW, ⟨_, hfn, _, hL3.keep (fun j cs t fr hj hh => ht3.1.block j (Array.getElem?_eq_some_iff.1 hh).1 (fun e => ?_)), ?_⟩, fun j hj => ⟨by rw [hz3]; exact (ho3 j hj).1, (ho3 j hj).2⟩, hlp3⟩, hk2⟩
    · exact cellsNe hh hnl2 (Option.some.inj e)
    · rw [List.map_append, hLm, List.append_assoc]
      rfl
end Go.Proofs.Ytofdpccjpodbhaa
