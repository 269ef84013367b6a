/-
  run: all items of some bytes in chunks. Conditions: rows that can be in memory, the bytes fewer than 2 to the 30th.
-/
import Derived.Test.YtofdpccjpodbhaaMg30
namespace Go.Proofs.Ytofdpccjpodbhaa
open Go.RowKit
set_option linter.unusedVariables false

attribute [local go_sem] Oper.semAt_some

/-- what a body must leave that never panics -/
def bodyPostN (P : Program) (fn : Func) (R : Ending → World → Prop) : Exit → Act → World → Prop
  | .normal, a, w | .ret, a, w => LeavesInM Fence.wide 5 P fn a.tmps R a.defers .returning w
  | _, _, _ => False

theorem calls_of_wp_marksN {P : Program} {f : FuncId} {fn : Func} {c : Code} {args : Array Value} {w : World} {R : Ending → World → Prop}
    (hf : P.funcs[f]? = some fn) (hb : fn.body = some c)
    (h : c.wp P (bodyPostN P fn R) { tmps := args ++ Array.replicate (fn.ntmps - args.size) undef, defers := [] } w) : Calls P f args w R :=
  calls_of_wp_marks hf hb (Code.wp_mono (fun e a w q => by cases e <;> first | exact q | exact q.elim) h)

/-- between two chunks -/
structure RunS (w : World) (b : Nat) (s : SM) (hv : Value) (O : Nat → Prop) (L : List (Itm × Value × Value)) (Ds : List Nat) (W : World) : Prop where
  st : StS W b (b + 1) s hv
  bel : Below w.heap.size w W
  wb : b = w.heap.size + 2
  r7 : W.heap[w.heap.size]? = some (.cells #[.int .i64 0, .int .i64 0, .bool false, .int .i64 0, .int .i64 0] 49 (0, 0))
  out : OutL w.heap.size (w.heap.size + 1) L O W
  own : ∀ j, O j → j < W.heap.size ∧ j ≠ b ∧ hv.ownBlock ≠ some j ∧ w.heap.size < j
  h7 : hv.ownBlock ≠ some w.heap.size
  ds : ∀ D ∈ Ds, W.heap[D]? = some (.deferred (some [])) ∧ b < D ∧ hv.ownBlock ≠ some D ∧ ¬ O D
  nd : Ds.Nodup

theorem RunS.below {w : World} {b : Nat} {s : SM} {hv : Value} {O : Nat → Prop} {L : List (Itm × Value × Value)} {Ds : List Nat} {W W' : World} (h : RunS w b s hv O L Ds W) (hb : Below W.heap.size W W') : RunS w b s hv O L Ds W' :=
  ⟨h.st.below hb, h.bel.trans (hb.mono h.bel.size), h.wb, (hb.block _ (Array.getElem?_eq_some_iff.1 h.r7).1).trans h.r7, h.out.keep (fun j cs t fr hj hh => hb.block j (Array.getElem?_eq_some_iff.1 hh).1), fun j hj => ⟨Nat.lt_of_lt_of_le (h.own j hj).1 hb.size, (h.own j hj).2⟩, h.h7,
   fun D hD => ⟨(hb.block D (Array.getElem?_eq_some_iff.1 (h.ds D hD).1).1).trans (h.ds D hD).1, (h.ds D hD).2⟩, h.nd⟩

theorem RunS.loop {w : World} {b : Nat} {s1 s2 : SM} {hv1 hv2 : Value} {Ds : List Nat} {O O2 : Nat → Prop} {L L2 : List (Itm × Value × Value)} {W6 W1 W2 W3 : World} (h : RunS w b s1 hv1 O L Ds W6) (hg1 : W6.grownBy W1 none) (hz1 : W1.heap.size = W6.heap.size + 2)
    (hk : KeepO W1.heap.size (fun j => O j ∨ j = W6.heap.size + 1) b hv1 W1 O2 hv2 W2) (ht : Turn (W6.heap.size + 1) W2 W3) (hs2 : StS W2 b (b + 1) s2 hv2) (hD : W3.heap[W6.heap.size]? = some (.deferred (some []))) (hL2 : OutL w.heap.size (w.heap.size + 1) L2 O2 W2)
    (ho2 : ∀ j, O2 j → j < W2.heap.size ∧ j ≠ b ∧ hv2.ownBlock ≠ some j) (hlp : ∃ o, W2.heap[W6.heap.size + 1]? = some o ∧ o.isCells = false) : RunS w b s2 hv2 O2 L2 (W6.heap.size :: Ds) W3 := by
  have hwb := h.wb
  have hb6 := (Array.getElem?_eq_some_iff.1 h.st.ins.row).1
  have h66 := (Array.getElem?_eq_some_iff.1 h.r7).1
  have hz := h.bel.size
  have hkz := hk.size
  have hlt := h.st.held_lt
  have hO6 : ∀ j, O j → j < W6.heap.size := fun j hj => (h.own j hj).1
  have hold : ∀ j, j < W6.heap.size → ¬ O j → j ≠ b → hv1.ownBlock ≠ some j → W3.heap[j]? = W6.heap[j]? := by
    intro j h1 h0 h2 h3
    rw [ht.1.block j (by omega) (fun e => by have := Option.some.inj e; omega), hk.block j (by omega) (by rintro (ho | ho); exact h0 ho; omega) h2 h3, hg1.block j (by omega) (by simp)]
  have hfr : ∀ j, j < W6.heap.size + 2 → hv1.ownBlock ≠ some j → hv2.ownBlock ≠ some j := by
    intro j h1 h2 hq
    rcases hk.held j hq with h3 | h3
    · exact h2 h3
    · omega
  have hlow : ∀ j, j < w.heap.size → hv1.ownBlock ≠ some j := by
    intro j hj hq
    rcases h.st.ins.held.row.2 with ⟨hz, _⟩ | ⟨g', cap, cur, hz, hgb, hh, _⟩
    · rw [hz] at hq; simp [Value.ownBlock] at hq
    · rw [hz] at hq
      simp only [Value.ownBlock, Option.some.injEq] at hq
      omega
  have hO7 : ¬ O w.heap.size := fun ho => by have := (h.own _ ho).2.2.2; omega
  have hO2 : ∀ j, O2 j → (O j ∨ j = W6.heap.size + 1) ∨ W1.heap.size ≤ j := hk.own
  have hcn : ∀ {j : Nat} {cs : Array Value} {t : Nat} {fr : Nat × Nat}, W2.heap[j]? = some (.cells cs t fr) → j ≠ W6.heap.size + 1 := by
    rintro j cs t fr h1 rfl
    obtain ⟨o, h2, h3⟩ := hlp
    rw [h1] at h2
    cases h2
    simp [Obj.isCells] at h3
  refine ⟨hs2.grown ht.1 (by omega) (hfr _ (by omega) (fun hq => by have := hlt _ hq; omega)), ⟨ht.1.os.trans (hk.os.trans (hg1.os.trans h.bel.os)), ht.1.tape.trans (hk.tape.trans (hg1.tape.trans h.bel.tape)), ht.1.output.trans (hk.output.trans (hg1.output.trans h.bel.output)),
    Nat.le_trans hz (Nat.le_trans hg1.size (Nat.le_trans hkz ht.1.size)), fun j hj => (hold j (by omega) (fun ho => by have := (h.own j ho).2.2.2; omega) (by omega) (hlow j hj)).trans (h.bel.block j hj)⟩, hwb, (hold _ h66 hO7 (by omega) h.h7).trans h.r7,
    hL2.keep (fun j cs t fr hj hh => ht.1.block j (Array.getElem?_eq_some_iff.1 hh).1 (fun e => hcn hh (Option.some.inj e))), fun j hj => ⟨Nat.lt_of_lt_of_le (ho2 j hj).1 ht.1.size, (ho2 j hj).2.1, (ho2 j hj).2.2, ?_⟩, hfr _ (by omega) h.h7, fun D hDm => ?_, ?_⟩
  · rcases hO2 j hj with (h1 | h1) | h1
    · exact (h.own j h1).2.2.2
    · omega
    · omega
  · rcases List.mem_cons.1 hDm with rfl | hDm
    · refine ⟨hD, hb6, hfr _ (by omega) (fun hq => by have := hlt _ hq; omega), fun ho => ?_⟩
      rcases hO2 _ ho with (h1 | h1) | h1
      · have := hO6 _ h1; omega
      · omega
      · omega
    · obtain ⟨h1, h2, h3, h4⟩ := h.ds D hDm
      have hDlt := (Array.getElem?_eq_some_iff.1 h1).1
      refine ⟨(hold D hDlt h4 (by omega) h3).trans h1, h2, hfr _ (by omega) h3, fun ho => ?_⟩
      rcases hO2 _ ho with (h5 | h5) | h5
      · exact h4 h5
      · omega
      · omega
  · refine List.nodup_cons.2 ⟨fun hm => ?_, h.nd⟩
    have := (Array.getElem?_eq_some_iff.1 (h.ds _ hm).1).1
    omega

/-- the temporaries of run between two chunks -/
def tmQ (mo : Nat) (n0 : Nat) (vr vk : Value) (i : Nat) (x12 x13 x14 x21 x22 x23 x24 x25 x26 x27 x28 x29 x30 x31 x32 x33 x34 x35 x36 x37 x38 x39 x40 x41 x42 x43 x44 x45 x46 x47 x48 x49 x50 x51 x52 x53 x54 x55 x56 x57 x58 x59 x60 x61 x62 x63 x64 : Value) : Array Value := #[.int .i64 mo, vr, vk, undef, undef, undef, .slice none 0 0, .pointer (some ⟨n0, 0, none⟩), .bool false, .pointer (some ⟨n0 + 1, 0, none⟩), .pointer (some ⟨n0 + 2, 0, none⟩), .int .i64 i, x12, x13, x14, undef, .int .i64 mo, .pointer (some ⟨n0 + 2, 0, none⟩), .pointer (some ⟨n0 + 2, 0, none⟩), .bool false, undef, x21, x22, x23, x24, x25, x26, x27, x28, x29, x30, x31, x32, x33, x34, x35, x36, x37, x38, x39, x40, x41, x42, x43, x44, x45, x46, x47, x48, x49, x50, x51, x52, x53, x54, x55, x56, x57, x58, x59, x60, x61, x62, x63, x64, undef, undef, undef, undef, undef, undef, undef, undef]

/-- the length of a row -/
def lenOf : Value → Nat
  | .slice _ n _ => n
  | _ => 0

theorem OutL.mono {B gO : Nat} {L : List (Itm × Value × Value)} {O O' : Nat → Prop} {W : World} (h : OutL B gO L O W) (e : ∀ j, O j → O' j) : OutL B gO L O' W := by
  obtain ⟨vl, h1, h2, h3⟩ := h.cell
  exact ⟨⟨vl, h1, h2, fun j hj => e j (h3 j hj)⟩, fun p hp => ⟨(h.its p hp).1, (h.its p hp).2.1, fun j hj => e j ((h.its p hp).2.2.1 j hj), fun j hj => e j ((h.its p hp).2.2.2 j hj)⟩, e _ h.og⟩

theorem BytesIn.head {w : World} {a : Option Addr} {n c : Nat} {l : List UInt8} (h : BytesIn w a n c l) (m : Nat) (hm : m ≤ n) : BytesIn w a m c (l.take m) := by
  have hl := h.len
  have hle := h.le
  refine ⟨by rw [List.length_take]; omega, by omega, h.cap, fun hc => ?_⟩
  obtain ⟨g, o, e, hlt, hcell⟩ := h.at_ hc
  refine ⟨g, o, e, hlt, fun i hi => ?_⟩
  rw [hcell i (by omega)]
  simp [List.getD_eq_getElem?_getD, hi]

/-- run's loop -/
def RunI (w : World) (mo : Nat) (l : List UInt8) (n nk : Nat) (vk : Value) (a : Act) (W : World) : Prop :=
  ∃ (k i N : Nat) (x12 x13 x14 x21 x22 x23 x24 x25 x26 x27 x28 x29 x30 x31 x32 x33 x34 x35 x36 x37 x38 x39 x40 x41 x42 x43 x44 x45 x46 x47 x48 x49 x50 x51 x52 x53 x54 x55 x56 x57 x58 x59 x60 x61 x62 x63 x64 : Value) (pr : Option Addr) (cr : Nat) (s : SM) (hv : Value) (O : Nat → Prop) (L : List (Itm × Value × Value)) (Ds : List Nat),
    a = { tmps := tmQ mo w.heap.size (.slice pr N cr) vk i x12 x13 x14 x21 x22 x23 x24 x25 x26 x27 x28 x29 x30 x31 x32 x33 x34 x35 x36 x37 x38 x39 x40 x41 x42 x43 x44 x45 x46 x47 x48 x49 x50 x51 x52 x53 x54 x55 x56 x57 x58 x59 x60 x61 x62 x63 x64, defers := Ds.map fun D => { target := .collected D, args := #[] } } ∧
    RunS w (w.heap.size + 2) s hv O L Ds W ∧ (n - k = N ∧ k ≤ n) ∧ BytesIn w pr N cr (l.drop k) ∧ feed (SM.new mo) (l.take k) = (s, L.map Prod.fst) ∧ (i ≤ nk ∨ (i ≤ nk + 1 ∧ n ≤ k))

/-- what run leaves -/
structure ItemsAt (B : Nat) (L : List (Itm × Value × Value)) (vl : Value) (W : World) : Prop where
  row : W.ownsRow B 71 6 vl L.length (itRow L)
  its : ∀ p ∈ L, OwnBytes W B 5 p.2.1 p.1.ext ∧ OwnBytes W B 5 p.2.2 p.1.body

def RunPost (w : World) (mo : Nat) (l : List UInt8) (e : Ending) (w' : World) : Prop :=
  ∃ vl L, e = .returned (.tuple #[vl, (feed (SM.new mo) l).1.state, .bool true]) ∧ Below w.heap.size w w' ∧ ItemsAt w.heap.size L vl w' ∧ L.map Prod.fst = (feed (SM.new mo) l).2

theorem endR {w : World} {b mo : Nat} {l : List UInt8} {s : SM} {hv : Value} {O : Nat → Prop} {L : List (Itm × Value × Value)} {Ds : List Nat} {W w' : World} (h : RunS w b s hv O L Ds W) (hfd : feed (SM.new mo) l = (s, L.map Prod.fst)) (pl : Option Addr) (nl cl : Nat)
    (hvr : W.ownsRow w.heap.size 71 6 (.slice pl nl cl) L.length (itRow L)) (hvo : ∀ j, (Value.slice pl nl cl).ownBlock = some j → O j) (hb' : Below W.heap.size W w') (tm : Array Value) (t6 : tm.getD 6 undef = .slice pl nl cl) (t7 : tm.getD 7 undef = .pointer (some ⟨w.heap.size, 0, none⟩)) (t8 : tm.getD 8 undef = .bool true) :
    LeavesInM Fence.wide 5 Try.prog Try.f26 tm (RunPost w mo l) (Ds.map fun D => { target := .collected D, args := #[] }) .returning (((((w'.setCell ⟨w.heap.size, 0, none⟩ (.int .i64 s.taken)).setCell ⟨w.heap.size, 1, none⟩ (.int .i64 s.held.length)).setCell ⟨w.heap.size, 2, none⟩ (.bool s.hdr)).setCell ⟨w.heap.size, 3, none⟩ (.int .i64 s.err)).setCell ⟨w.heap.size, 4, none⟩ (.int .i64 s.at_)) := by
  have r7 := (hb'.block _ (Array.getElem?_eq_some_iff.1 h.r7).1).trans h.r7
  have s0 := heap_setCell_same w' w.heap.size 0 _ _ (.int .i64 s.taken) r7
  have s1 := heap_setCell_same _ w.heap.size 1 _ _ (.int .i64 s.held.length) s0
  have s2 := heap_setCell_same _ w.heap.size 2 _ _ (.bool s.hdr) s1
  have s3 := heap_setCell_same _ w.heap.size 3 _ _ (.int .i64 s.err) s2
  have s4 := heap_setCell_same _ w.heap.size 4 _ _ (.int .i64 s.at_) s3
  have g := grown_trans (grown_trans (grown_trans (grown_trans (setCell_grown w' w.heap.size 0 (.int .i64 s.taken)) (setCell_grown _ w.heap.size 1 (.int .i64 s.held.length))) (setCell_grown _ w.heap.size 2 (.bool s.hdr))) (setCell_grown _ w.heap.size 3 (.int .i64 s.err))) (setCell_grown _ w.heap.size 4 (.int .i64 s.at_))
  generalize (((((w'.setCell ⟨w.heap.size, 0, none⟩ (.int .i64 s.taken)).setCell ⟨w.heap.size, 1, none⟩ (.int .i64 s.held.length)).setCell ⟨w.heap.size, 2, none⟩ (.bool s.hdr)).setCell ⟨w.heap.size, 3, none⟩ (.int .i64 s.err)).setCell ⟨w.heap.size, 4, none⟩ (.int .i64 s.at_)) = W5 at *
  have hz := h.bel.size
  have hzb := hb'.size
  have hwb := h.wb
  refine leaves_all Ds W5 h.nd (fun D hD => ?_) ?_
  · obtain ⟨h1, h2, _, _⟩ := h.ds D hD
    have hDlt := (Array.getElem?_eq_some_iff.1 h1).1
    exact (g.block D (by omega) (fun e => by have := Option.some.inj e; omega)).trans ((hb'.block D hDlt).trans h1)
  · intro W' q1 q2 q3 q4 q5
    have hnin : ∀ j, j ≤ w.heap.size → j ∉ Ds := fun j hj hm => by
      have := (h.ds j hm).2.1
      omega
    have r := (q2 w.heap.size (hnin _ (Nat.le_refl _))).trans s4
    have k0 : W'.cell? ⟨w.heap.size, 0, none⟩ = some (.int .i64 s.taken) := (cell_of_row _ _ 0 _ _ _ r).trans rfl
    have k1 : W'.cell? ⟨w.heap.size, 1, none⟩ = some (.int .i64 s.held.length) := (cell_of_row _ _ 1 _ _ _ r).trans rfl
    have k2 : W'.cell? ⟨w.heap.size, 2, none⟩ = some (.bool s.hdr) := (cell_of_row _ _ 2 _ _ _ r).trans rfl
    have k3 : W'.cell? ⟨w.heap.size, 3, none⟩ = some (.int .i64 s.err) := (cell_of_row _ _ 3 _ _ _ r).trans rfl
    have k4 : W'.cell? ⟨w.heap.size, 4, none⟩ = some (.int .i64 s.at_) := (cell_of_row _ _ 4 _ _ _ r).trans rfl
    have t6' : tm[6]?.getD undef = .slice pl nl cl := by simpa using t6
    have t7' : tm[7]?.getD undef = .pointer (some ⟨w.heap.size, 0, none⟩) := by simpa using t7
    have t8' : tm[8]?.getD undef = .bool true := by simpa using t8
    have hold : ∀ j, j < W.heap.size → j ∉ Ds → j ≠ w.heap.size → W'.heap[j]? = W.heap[j]? := fun j h1 h2 h3 => (q2 j h2).trans ((g.block j (by omega) (fun e => h3 (Option.some.inj e))).trans (hb'.block j h1))
    have hO : ∀ j, O j → W'.heap[j]? = W.heap[j]? := fun j hj => hold j (h.own j hj).1 (fun hm => (h.ds j hm).2.2.2 hj) (by have := (h.own j hj).2.2.2; omega)
    refine ⟨.tuple #[.slice pl nl cl, .agg #[.int .i64 s.taken, .int .i64 s.held.length, .bool s.hdr, .int .i64 s.err, .int .i64 s.at_], .bool true], ?_, .slice pl nl cl, L, ?_, ?_, ⟨ownsRow_same hvr (fun j hj => hO j (hvo j hj)), fun p hp => ?_⟩, by rw [hfd]⟩
    · simp [results, Try.f26, go_sem, k0, k1, k2, k3, k4, t6', t7', t8']
    · rw [hfd]
      rfl
    · exact ⟨q3.trans (g.os.trans (hb'.os.trans h.bel.os)), q4.trans (g.tape.trans (hb'.tape.trans h.bel.tape)), q5.trans (g.output.trans (hb'.output.trans h.bel.output)), by rw [q1]; exact Nat.le_trans hz (Nat.le_trans hzb g.size), fun j hj => (hold j (by omega) (hnin j (by omega)) (by omega)).trans (h.bel.block j hj)⟩
    · obtain ⟨p1, p2, p3, p4⟩ := h.out.its p hp
      exact ⟨p1.same' (fun j hj => hO j (p3 j hj)), p2.same' (fun j hj => hO j (p4 j hj))⟩

set_option maxHeartbeats 4000000 in
set_option maxRecDepth 20000 in
theorem run_ok (w : World) (mo : Nat) (hmo : 512 ≤ mo ∧ mo ≤ 1048576) (pb : Option Addr) (n c : Nat) (l : List UInt8) (pk : Option Addr) (nk ck : Nat) (cuts : List Int) (hb : BytesIn w pb n c l) (hk : IntsIn .i64 w pk nk ck cuts) (hn : n ≤ 1073741823) (hnk : nk ≤ 1073741823) :
    Calls Try.prog 26 #[.int .i64 mo, .slice pb n c, .slice pk nk ck] w (RunPost w mo l) := by
  have HB := Lib.hid hb
  have HK := Lib.hid hk
  have HMO := Lib.hid hmo
  clear hb hk hmo
  have hfn := func_nil
  refine calls_of_wp_marksN Try.func26 rfl ?_
  simp only [Try.ntmps26, List.size_toArray, List.length_cons, List.length_nil, Nat.reduceAdd, Nat.reduceSub, Array.replicate_succ, Array.replicate_zero, List.push_toArray, List.append_toArray, List.nil_append, List.cons_append]
  go_upto_region 2 with fail
  have y4 : ((w.alloc (.cells #[.int .i64 0, .int .i64 0, .bool false, .int .i64 0, .int .i64 0] 49)).alloc (.cells #[.slice none 0 0] 47)).heap[w.heap.size]? = some (.cells #[.int .i64 0, .int .i64 0, .bool false, .int .i64 0, .int .i64 0] 49 (0, 0)) := (heap_alloc_old _ _ (by simp)).trans (heap_alloc_new w _)
  have y5 : ((w.alloc (.cells #[.int .i64 0, .int .i64 0, .bool false, .int .i64 0, .int .i64 0] 49)).alloc (.cells #[.slice none 0 0] 47)).heap[w.heap.size + 1]? = some (.cells #[.slice none 0 0] 47 (0, 0)) := by
    have := heap_alloc_new (w.alloc (.cells #[.int .i64 0, .int .i64 0, .bool false, .int .i64 0, .int .i64 0] 49)) (.cells #[.slice none 0 0] 47)
    rwa [World.size_alloc] at this
  have d1 : Below w.heap.size w ((w.alloc (.cells #[.int .i64 0, .int .i64 0, .bool false, .int .i64 0, .int .i64 0] 49)).alloc (.cells #[.slice none 0 0] 47)) := ((Below.refl _ _).alloc (Nat.le_refl _) _).alloc (by simp) _
  have z1 : ((w.alloc (.cells #[.int .i64 0, .int .i64 0, .bool false, .int .i64 0, .int .i64 0] 49)).alloc (.cells #[.slice none 0 0] 47)).heap.size = w.heap.size + 2 := by simp
  generalize ((w.alloc (.cells #[.int .i64 0, .int .i64 0, .bool false, .int .i64 0, .int .i64 0] 49)).alloc (.cells #[.slice none 0 0] 47)) = w1 at *
  have hnw := new_ok w1 mo HMO.out
  go_wp2_with fail
  refine hnw.mono ?_
  clear hnw
  rintro e w2 ⟨rfl, hst, hg2⟩
  rw [z1] at hst ⊢
  have hb2 : Below w1.heap.size w1 w2 := ⟨hg2.os, hg2.tape, hg2.output, hg2.size, fun k hk => hg2.block k hk (by simp)⟩
  have hbz := (Array.getElem?_eq_some_iff.1 hst.ins.row).1
  have hS : RunS w (w.heap.size + 2) (SM.new mo) (.slice none 0 0) (fun j => j = w.heap.size + 1) [] [] w2 := by
    refine ⟨hst, d1.trans (hb2.mono d1.size), rfl, (hb2.block _ (by omega)).trans y4, ⟨⟨.slice none 0 0, (hb2.block _ (by omega)).trans y5, World.ownsRow_nil _ _ _ _, fun j hj => by simp [Value.ownBlock] at hj⟩, fun p hp => by simp at hp, rfl⟩, ?_, by simp [Value.ownBlock], fun D hD => by simp at hD, List.nodup_nil⟩
    rintro j rfl
    exact ⟨by omega, by omega, by simp [Value.ownBlock], by omega⟩
  have HS := Lib.hid hS
  clear y4 y5 d1 z1 hst hg2 hb2 hbz hS
  go_wp2_with fail
  refine wp_loop (RunI w mo l n nk (.slice pk nk ck)) (fun a _ => (nk - (intOf (a.tmps.getD 11 undef)).toNat) + lenOf (a.tmps.getD 1 undef)) ?_ ?_
  · exact ⟨0, 0, n, _, _, _, _, _, _, _, _, _, _, _, _, _, _, _, _, _, _, _, _, _, _, _, _, _, _, _, _, _, _, _, _, _, _, _, _, _, _, _, _, _, _, _, _, _, _, _, pb, c, SM.new mo, .slice none 0 0, _, [], [], rfl, HS.out, ⟨rfl, Nat.zero_le _⟩, HB.out, by simp [feed], by omega⟩
  · rintro a W ⟨k, i, N, x12, x13, x14, x21, x22, x23, x24, x25, x26, x27, x28, x29, x30, x31, x32, x33, x34, x35, x36, x37, x38, x39, x40, x41, x42, x43, x44, x45, x46, x47, x48, x49, x50, x51, x52, x53, x54, x55, x56, x57, x58, x59, x60, x61, x62, x63, x64, pr, cr, s, hv, O, L, Ds, rfl, hS, hkn, hby, hfd, hi⟩
    have HR := Lib.hid hS
    have HY := Lib.hid hby
    have HFD := Lib.hid hfd
    have HNK := Lib.hid hkn
    clear hS hby hfd hkn HS
    have hN2 : N ≤ 1073741823 := by have := HNK.out; omega
    unfold tmQ
    rcases (show 0 < N ∨ (N = 0 ∧ i < nk) ∨ (N = 0 ∧ nk ≤ i) by omega) with h1 | ⟨h1, h2⟩ | ⟨h1, h2⟩
    rotate_left 2
    · have h3 : ¬ (i : Int) < nk := by omega
      have h4 : ¬ (0 : Int) < N := by omega
      subst h1
      go_upto_region 22 with fail
      obtain ⟨vl, hvc, hvr, hvo⟩ := HR.out.out.cell
      have hvs : ∃ pl nl cl, vl = .slice pl nl cl := by
        rcases hvr.2 with ⟨rfl, _⟩ | ⟨g, cap, cur, rfl, _⟩
        · exact ⟨_, _, _, rfl⟩
        · exact ⟨_, _, _, rfl⟩
      obtain ⟨pl, nl, cl, rfl⟩ := hvs
      have c9 : W.cell? ⟨w.heap.size + 1, 0, none⟩ = some (.slice pl nl cl) := (cell_of_row _ _ 0 _ _ _ hvc).trans rfl
      have hst : ∀ W', StS W' (w.heap.size + 2) (w.heap.size + 2 + 1) s hv → Calls Try.prog 34 #[.pointer (some ⟨w.heap.size + 2, 0, none⟩)] W' fun e w' => e = .returned (.agg #[.int .i64 s.taken, .int .i64 s.held.length, .bool s.hdr, .int .i64 s.err, .int .i64 s.at_]) ∧ Below W'.heap.size W' w' := fun W' h => state_any W' _ _ s hv h
      have hdr1 : Below W.heap.size W W.drew := ⟨rfl, rfl, rfl, Nat.le_refl _, fun _ _ => rfl⟩
      have hst1 := hst W.drew (HR.out.st.below hdr1)
      have hR1 := HR.out.below hdr1
      have hvc1 : W.drew.heap[w.heap.size + 1]? = _ := hvc
      have hm : ∀ w', Below W.heap.size W.drew w' → (w'.cell? ⟨w.heap.size + 1, 0, none⟩ = some (.slice pl nl cl) ∧ w'.cell? ⟨w.heap.size, 0, none⟩ = some (.int .i64 0) ∧ w'.cell? ⟨w.heap.size, 1, none⟩ = some (.int .i64 0) ∧ w'.cell? ⟨w.heap.size, 2, none⟩ = some (.bool false) ∧ w'.cell? ⟨w.heap.size, 3, none⟩ = some (.int .i64 0) ∧ w'.cell? ⟨w.heap.size, 4, none⟩ = some (.int .i64 0) ∧ ∀ k, w'.frozen? ⟨w.heap.size, k, none⟩ = false) := by
        intro w' hb'
        have r := (hb'.block _ (Array.getElem?_eq_some_iff.1 HR.out.r7).1).trans HR.out.r7
        have r2 := (hb'.block _ (Array.getElem?_eq_some_iff.1 hvc).1).trans hvc
        exact ⟨(cell_of_row _ _ 0 _ _ _ r2).trans rfl, (cell_of_row _ _ 0 _ _ _ r).trans rfl, (cell_of_row _ _ 1 _ _ _ r).trans rfl, (cell_of_row _ _ 2 _ _ _ r).trans rfl, (cell_of_row _ _ 3 _ _ _ r).trans rfl, (cell_of_row _ _ 4 _ _ _ r).trans rfl, fun k => by simp [World.frozen?, r]⟩
      have HM := Lib.hid hm
      have HST := Lib.hid hst1
      have HVR := Lib.hid (And.intro hvr hvo)
      have HFN : Hid (feed (SM.new mo) l = (s, L.map Prod.fst)) := Lib.hid (by
        have h9 := HFD.out
        rwa [List.take_of_length_le (by have := HNK.out; have := HB.out.len; omega)] at h9)
      clear hm hst hst1 hR1 hvc1 hvc hvr hvo hdr1
      go_region_with (go_at_call 34; refine HST.out.mono ?_; rintro e w' ⟨rfl, hb'⟩; obtain ⟨k9, k0, k1, k2, k3, k4, kf⟩ := HM.out w' hb')
      all_goals
        simp only [Exit.then]
        go_at_K
        go_wp2_with fail
        exact endR HR.out HFN.out pl nl cl HVR.out.1 HVR.out.2 (Below.trans (⟨rfl, rfl, rfl, Nat.le_refl _, fun _ _ => rfl⟩ : Below W.heap.size W W.drew) hb') _ rfl rfl rfl
    · have h4 : (0 : Int) < N := by omega
      go_upto_region 8 with fail
      have H2 : Hid (0 < N ∨ i < nk) := Lib.hid (.inl h1)
      go_upto_if 37 with fail
      go_cut [12] from 37 to 51 (fun v12 wx => ∃ m, m ≤ N ∧ v12 = .int .i64 (m : Nat) ∧ (i < nk ∨ m = N) ∧ wx = W)
      case first =>
        by_cases hik : i < nk
        · have hik' : (i : Int) < nk := by omega
          have hik0 : ¬ (i : Int) < 0 := by omega
          obtain ⟨g, o, rfl, hgl, hcell⟩ := (HK.out.below HR.out.bel).at_ (by have := HK.out.le; omega)
          have hck := hcell i hik
          obtain ⟨v, hv⟩ : ∃ v, cuts.getD i 0 = v := ⟨_, rfl⟩
          rw [hv] at hck
          have hvb : -9223372036854775808 ≤ v ∧ v ≤ 9223372036854775807 := by
            have h9 := HK.out.wf v (by rw [← hv, List.getD_eq_getElem?_getD, List.getElem?_eq_getElem (by rw [HK.out.len]; exact hik)]; exact List.getElem_mem _)
            exact bd_i64 h9
          clear hv hcell
          by_cases hv0 : v < 0
          · go_wp2_with fail
            go_meet
            have h3 : -(v + 1).tmod ((N : Int) + 1) = (-(v + 1)) % ((N : Int) + 1) := by
              rw [← Int.neg_tmod, Int.tmod_eq_emod_of_nonneg (by omega)]
            rw [h3]
            have h1 := Int.emod_lt_of_pos (-(v + 1)) (show (0 : Int) < (N : Int) + 1 by omega)
            have h2 := Int.emod_nonneg (-(v + 1)) (show (N : Int) + 1 ≠ 0 by omega)
            exact ⟨((-(v + 1)) % ((N : Int) + 1)).toNat, by omega, by rw [Int.toNat_of_nonneg h2], .inl hik, rfl⟩
          · go_wp2_with fail
            go_meet
            have h1 := Int.emod_lt_of_pos v (show (0 : Int) < (N : Int) + 1 by omega)
            have h2 := Int.emod_nonneg v (show (N : Int) + 1 ≠ 0 by omega)
            exact ⟨(v % ((N : Int) + 1)).toNat, by omega, by rw [Int.toNat_of_nonneg h2], .inl hik, rfl⟩
        · have hik' : ¬ (i : Int) < nk := by omega
          go_wp2_with fail
          go_meet
          exact ⟨N, Nat.le_refl _, rfl, .inr rfl, rfl⟩
      case rest =>
        obtain ⟨m, hm, rfl, him, rfl⟩ := hcut
        have hcr := HY.out.le
        have hm1 : (m : Int) ≤ N := by omega
        have hm2 : (m : Int) ≤ cr := by omega
        have hm3 : (N : Int) ≤ cr := by omega
        have hm4 : (0 : Int) ≤ m := by omega
        have hcap := HY.out.cap
        unfold maxLen at hcap
        go_upto_region 16 with fail
        have hc1 := HY.out.head m hm
        have hc2 := HY.out.cut m (N - m) (cr - m) (by omega) (by omega) (by omega) (cr = m) (by omega)
        obtain ⟨pr2, hp2⟩ : ∃ p, (if cr = m then pr else Option.map (fun x => x.add m) pr) = p := ⟨_, rfl⟩
        rw [hp2] at hc2 ⊢
        have hdl : ((l.drop k).drop m).take (N - m) = l.drop (k + m) := by
          rw [List.drop_drop, List.take_of_length_le (by rw [List.length_drop, HB.out.len]; have := HNK.out; omega)]
        rw [hdl] at hc2
        have HC2 := Lib.hid hc2
        have hal := all_any wc (w.heap.size + 2) pr m cr ((l.drop k).take m) (hc1.below HR.out.bel) (by omega)
        clear hc2 hp2 hdl hc1
        go_wp2_with fail
        refine hal.mono ?_
        clear hal
        rintro e w6 ⟨gS, gC, v, rfl, hg6, hcS, hcC, hov, hzS, hzC, hvS, hvC⟩
        have hb6 : Below wc.heap.size wc w6 := ⟨hg6.os, hg6.tape, hg6.output, hg6.size, fun k hk => hg6.block k hk (by simp)⟩
        have HA6 := Lib.hid (HR.out.below hb6)
        clear hg6
        go_wp2_with fail
        have hgSlt : gS < w6.heap.size := cell_lt hcS
        have hgClt : gC < w6.heap.size := cell_lt hcC
        have hlov : ∀ j, v.ownBlock = some j → wc.heap.size ≤ j ∧ j < w6.heap.size := fun j hj => hov.row.lt j hj
        obtain ⟨pv, cv, rfl, hbv⟩ := hov.bytes
        have hlm : ((l.drop k).take m).length = m := by rw [List.length_take, List.length_drop, HB.out.len]; have := HNK.out; omega
        have hst6 := HA6.out.st
        have hb6lt := (Array.getElem?_eq_some_iff.1 hst6.ins.row).1
        have hlt6 := hst6.held_lt
        have hOwn := HA6.out.own
        have hOc := HR.out.own
        have hwz := HA6.out.bel.size
        refine wp_rangeFunc_any (gf := 60) (lb := #[.pointer (some ⟨gS, 0, none⟩), .pointer (some ⟨gC, 0, none⟩)]) rfl (enters_of Try.func60 (by kernel_rfl) rfl) ?_
        intro K W1 hg1 hz1 hrd hyield
        simp only [List.append_toArray, List.cons_append, List.nil_append]
        have hbd1 : Below w6.heap.size w6 W1 := ⟨hg1.os, hg1.tape, hg1.output, hg1.size, fun k hk => hg1.block k hk (by simp)⟩
        have hLk : L.length ≤ k := by
          have h9 := feed_len (l.take k) (SM.new mo)
          rw [HFD.out] at h9
          simp only [List.length_map, List.length_take] at h9
          omega
        have hR := rides_R (B := w.heap.size) (gO := w.heap.size + 1) (b := w.heap.size + 2) (Bs := w.heap.size + 2 + 1) (hv0 := hv) (O0 := fun j => O j ∨ j = w6.heap.size + 1) (W1 := W1) (s0 := s) (its0 := L.map Prod.fst) K _ _ _ _ _ _ _ _ _ _ _ _ _ _ _ _ _ _ _ _ _ _ _ _ _ _ _ _ _ _ _ _ _ _ _ _ _ _ _ _ _ _ _ _ _ _ _ _ _ _ _ _ _ _ _ _ _ _ _ _ _ _ _ _ _ (by kernel_rfl) (by omega)
          ⟨by rintro (ho | ho); exact absurd (hOwn _ ho).1 (by omega); omega, by omega, fun hq => by have := hlt6 _ hq; omega⟩ (by omega) (by rw [List.length_map]; have := HNK.out; omega) (hbv.below hbd1) (by
            intro a ha
            have h9 := hlov a.block (by rw [ha]; rfl)
            exact ⟨by rintro (ho | ho); exact absurd (hOc _ ho).1 (by omega); omega, by have := HR.out.st.ins.lt; have := (Array.getElem?_eq_some_iff.1 HR.out.st.ins.row).1; omega, fun hq => by have := HR.out.st.held_lt _ hq; omega⟩) hyield
        have hJ0 : JR K w.heap.size (w.heap.size + 1) (w.heap.size + 2) hv (fun j => O j ∨ j = w6.heap.size + 1) W1 s ((l.drop k).take m) (L.map Prod.fst) 0 s hv (fun j => O j ∨ j = w6.heap.size + 1) W1 :=
          ⟨hrd, KeepO.refl _ _ _ _ _, ⟨[], FeedAt.start _ _, L, (HA6.out.out.keep (fun j cs t fr hj hh => hbd1.block j (Array.getElem?_eq_some_iff.1 hh).1)).mono (fun j hj => .inl hj), by simp⟩, by
            rintro j (ho | ho)
            · have h9 := hOwn j ho
              exact ⟨by omega, h9.2.1, h9.2.2.1⟩
            · exact ⟨by omega, by omega, fun hq => by have := hlt6 _ hq; omega⟩, .inr rfl⟩
        refine (all1_in W1 (w6.heap.size + 1) (w.heap.size + 2) (w.heap.size + 2 + 1) gS gC pv ((l.drop k).take m).length cv ((l.drop k).take m) _ _ hR s hv _ hJ0 (hst6.below hbd1)
          ((World.cell?_of_block (hg1.block gS (by omega) (by simp))).trans hcS) ((World.cell?_of_block (hg1.block gC (by omega) (by simp))).trans hcC)).mono ?_
        rintro e W2 ⟨⟨v', rfl⟩, h⟩
        refine ⟨⟨_, rfl⟩, ?_⟩
        rcases h with ⟨k2, s2, hv2, O2, hk2, hor, hJ, hs2⟩ | ⟨_, _, _, hF, _⟩
        rotate_left
        · exact hF.elim
        refine .inl ⟨hJ.rdy, fun W3 ht hD => ?_⟩
        obtain ⟨its, hf, L2, hL2, hLm2⟩ := hJ.feed
        have hfd2 := hf.done hor
        have htot : feed (SM.new mo) (l.take (k + m)) = (s2, L2.map Prod.fst) := by
          rw [List.take_add, feed_append, HFD.out]
          simp only
          rw [hfd2, hLm2]
        have HA8 := Lib.hid (HA6.out.loop hg1 hz1 hJ.keep ht hs2 hD hL2 hJ.own (K.rdyN W2 hJ.rdy).2)
        have HT := Lib.hid htot
        have hkm : Hid (n - (k + m) = N - m ∧ k + m ≤ n) := Lib.hid (by have := HNK.out; omega)
        have him' : Hid (nk - (i + 1) + (N - m) < nk - i + N) := Lib.hid (by have h7 := H2.out; rcases him with h8 | h8 <;> omega)
        have hi' : Hid (i + 1 ≤ nk ∨ (i + 1 ≤ nk + 1 ∧ n ≤ k + m)) := Lib.hid (by have := HNK.out; have h7 := H2.out; rcases him with h8 | h8 <;> omega)
        clear hJ hf hL2 hLm2 hfd2 htot hs2 hor hk2 hJ0 hR hLk hbd1 hyield hrd hz1 hg1 hwz hOc hOwn hlt6 hb6lt hst6 hlm hbv hlov hgSlt hgClt hcS hcC hov hD ht HR HFD HNK HY him HA6 hb6
        simp only [Exit.inBlock, Exit.then]
        go_at_K
        go_wp2_with fail
        have e2 : ((i : Int) + 1) = ((i + 1 : Nat) : Int) := by omega
        rw [e2]
        refine ⟨⟨k + m, i + 1, N - m, _, _, _, _, _, _, _, _, _, _, _, _, _, _, _, _, _, _, _, _, _, _, _, _, _, _, _, _, _, _, _, _, _, _, _, _, _, _, _, _, _, _, _, _, _, _, _, pr2, cr - m, s2, hv2, O2, L2, w6.heap.size :: Ds, rfl, HA8.out, hkm.out, HC2.out, HT.out, hi'.out⟩, ?_⟩
        have h9 := him'.out
        simp only [intOf, lenOf, Array.getD_eq_getD_getElem?, List.getElem?_toArray, List.getElem?_cons_succ, List.getElem?_cons_zero, Option.getD_some]
        omega
    · subst h1
      have h5 : (i : Int) < nk := by omega
      go_upto_region 8 with fail
      have H2 : Hid (i < nk) := Lib.hid h2
      clear h5 h2
      go_upto_if 37 with fail
      go_cut [12] from 37 to 51 (fun v12 wx => v12 = .int .i64 0 ∧ wx = W)
      case first =>
        have hik := H2.out
        have hik' : (i : Int) < nk := by omega
        have hik0 : ¬ (i : Int) < 0 := by omega
        obtain ⟨g, o, rfl, hgl, hcell⟩ := (HK.out.below HR.out.bel).at_ (by have := HK.out.le; omega)
        have hck := hcell i hik
        obtain ⟨v, hv⟩ : ∃ v, cuts.getD i 0 = v := ⟨_, rfl⟩
        rw [hv] at hck
        have hvb : -9223372036854775808 ≤ v ∧ v ≤ 9223372036854775807 := by
          have h9 := HK.out.wf v (by rw [← hv, List.getD_eq_getElem?_getD, List.getElem?_eq_getElem (by rw [HK.out.len]; exact hik)]; exact List.getElem_mem _)
          exact bd_i64 h9
        clear hv hcell
        by_cases hv0 : v < 0
        · go_wp2_with fail
          go_meet
          exact ⟨rfl, rfl⟩
        · go_wp2_with fail
          go_meet
          exact ⟨rfl, rfl⟩
      case rest =>
        obtain ⟨rfl, rfl⟩ := hcut
        have hcr := HY.out.le
        have hm3 : (0 : Int) ≤ cr := by omega
        have hcap := HY.out.cap
        unfold maxLen at hcap
        go_upto_region 16 with fail
        have hc1 := HY.out.head 0 (Nat.le_refl _)
        have HC2 := HY
        have hal := all_any wc (w.heap.size + 2) pr 0 cr ((l.drop k).take 0) (hc1.below HR.out.bel) (by omega)
        clear hc1
        go_wp2_with fail
        refine hal.mono ?_
        clear hal
        rintro e w6 ⟨gS, gC, v, rfl, hg6, hcS, hcC, hov, hzS, hzC, hvS, hvC⟩
        have hb6 : Below wc.heap.size wc w6 := ⟨hg6.os, hg6.tape, hg6.output, hg6.size, fun k hk => hg6.block k hk (by simp)⟩
        have HA6 := Lib.hid (HR.out.below hb6)
        clear hg6
        go_wp2_with fail
        have hgSlt : gS < w6.heap.size := cell_lt hcS
        have hgClt : gC < w6.heap.size := cell_lt hcC
        have hlov : ∀ j, v.ownBlock = some j → wc.heap.size ≤ j ∧ j < w6.heap.size := fun j hj => hov.row.lt j hj
        obtain ⟨pv, cv, rfl, hbv⟩ := hov.bytes
        have hlm : ((l.drop k).take 0).length = 0 := by rw [List.length_take, List.length_drop, HB.out.len]; have := HNK.out; omega
        have hst6 := HA6.out.st
        have hb6lt := (Array.getElem?_eq_some_iff.1 hst6.ins.row).1
        have hlt6 := hst6.held_lt
        have hOwn := HA6.out.own
        have hOc := HR.out.own
        have hwz := HA6.out.bel.size
        refine wp_rangeFunc_any (gf := 60) (lb := #[.pointer (some ⟨gS, 0, none⟩), .pointer (some ⟨gC, 0, none⟩)]) rfl (enters_of Try.func60 (by kernel_rfl) rfl) ?_
        intro K W1 hg1 hz1 hrd hyield
        simp only [List.append_toArray, List.cons_append, List.nil_append]
        have hbd1 : Below w6.heap.size w6 W1 := ⟨hg1.os, hg1.tape, hg1.output, hg1.size, fun k hk => hg1.block k hk (by simp)⟩
        have hLk : L.length ≤ k := by
          have h9 := feed_len (l.take k) (SM.new mo)
          rw [HFD.out] at h9
          simp only [List.length_map, List.length_take] at h9
          omega
        have hR := rides_R (B := w.heap.size) (gO := w.heap.size + 1) (b := w.heap.size + 2) (Bs := w.heap.size + 2 + 1) (hv0 := hv) (O0 := fun j => O j ∨ j = w6.heap.size + 1) (W1 := W1) (s0 := s) (its0 := L.map Prod.fst) K _ _ _ _ _ _ _ _ _ _ _ _ _ _ _ _ _ _ _ _ _ _ _ _ _ _ _ _ _ _ _ _ _ _ _ _ _ _ _ _ _ _ _ _ _ _ _ _ _ _ _ _ _ _ _ _ _ _ _ _ _ _ _ _ _ (by kernel_rfl) (by omega)
          ⟨by rintro (ho | ho); exact absurd (hOwn _ ho).1 (by omega); omega, by omega, fun hq => by have := hlt6 _ hq; omega⟩ (by omega) (by rw [List.length_map]; have := HNK.out; omega) (hbv.below hbd1) (by
            intro a ha
            have h9 := hlov a.block (by rw [ha]; rfl)
            exact ⟨by rintro (ho | ho); exact absurd (hOc _ ho).1 (by omega); omega, by have := HR.out.st.ins.lt; have := (Array.getElem?_eq_some_iff.1 HR.out.st.ins.row).1; omega, fun hq => by have := HR.out.st.held_lt _ hq; omega⟩) hyield
        have hJ0 : JR K w.heap.size (w.heap.size + 1) (w.heap.size + 2) hv (fun j => O j ∨ j = w6.heap.size + 1) W1 s ((l.drop k).take 0) (L.map Prod.fst) 0 s hv (fun j => O j ∨ j = w6.heap.size + 1) W1 :=
          ⟨hrd, KeepO.refl _ _ _ _ _, ⟨[], FeedAt.start _ _, L, (HA6.out.out.keep (fun j cs t fr hj hh => hbd1.block j (Array.getElem?_eq_some_iff.1 hh).1)).mono (fun j hj => .inl hj), by simp⟩, by
            rintro j (ho | ho)
            · have h9 := hOwn j ho
              exact ⟨by omega, h9.2.1, h9.2.2.1⟩
            · exact ⟨by omega, by omega, fun hq => by have := hlt6 _ hq; omega⟩, .inr rfl⟩
        refine (all1_in W1 (w6.heap.size + 1) (w.heap.size + 2) (w.heap.size + 2 + 1) gS gC pv ((l.drop k).take 0).length cv ((l.drop k).take 0) _ _ hR s hv _ hJ0 (hst6.below hbd1)
          ((World.cell?_of_block (hg1.block gS (by omega) (by simp))).trans hcS) ((World.cell?_of_block (hg1.block gC (by omega) (by simp))).trans hcC)).mono ?_
        rintro e W2 ⟨⟨v', rfl⟩, h⟩
        refine ⟨⟨_, rfl⟩, ?_⟩
        rcases h with ⟨k2, s2, hv2, O2, hk2, hor, hJ, hs2⟩ | ⟨_, _, _, hF, _⟩
        rotate_left
        · exact hF.elim
        refine .inl ⟨hJ.rdy, fun W3 ht hD => ?_⟩
        obtain ⟨its, hf, L2, hL2, hLm2⟩ := hJ.feed
        have hfd2 := hf.done hor
        have htot : feed (SM.new mo) (l.take (k + 0)) = (s2, L2.map Prod.fst) := by
          rw [List.take_add, feed_append, HFD.out]
          simp only
          rw [hfd2, hLm2]
        have HA8 := Lib.hid (HA6.out.loop hg1 hz1 hJ.keep ht hs2 hD hL2 hJ.own (K.rdyN W2 hJ.rdy).2)
        have HT := Lib.hid htot
        have hkm : Hid (n - (k + 0) = 0 ∧ k + 0 ≤ n) := Lib.hid (by have := HNK.out; omega)
        have him' : Hid (nk - (i + 1) + 0 < nk - i + 0) := Lib.hid (by have h7 := H2.out; omega)
        have hi' : Hid (i + 1 ≤ nk ∨ (i + 1 ≤ nk + 1 ∧ n ≤ k + 0)) := Lib.hid (by have h7 := H2.out; omega)
        clear hJ hf hL2 hLm2 hfd2 htot hs2 hor hk2 hJ0 hR hLk hbd1 hyield hrd hz1 hg1 hwz hOc hOwn hlt6 hb6lt hst6 hlm hbv hlov hgSlt hgClt hcS hcC hov hD ht HR HFD HNK HY HA6 hb6
        simp only [Exit.inBlock, Exit.then]
        go_at_K
        go_wp2_with fail
        have e2 : ((i : Int) + 1) = ((i + 1 : Nat) : Int) := by omega
        rw [e2]
        refine ⟨⟨k + 0, i + 1, 0, _, _, _, _, _, _, _, _, _, _, _, _, _, _, _, _, _, _, _, _, _, _, _, _, _, _, _, _, _, _, _, _, _, _, _, _, _, _, _, _, _, _, _, _, _, _, _, pr, cr, s2, hv2, O2, L2, w6.heap.size :: Ds, rfl, HA8.out, hkm.out, HC2.out, HT.out, hi'.out⟩, ?_⟩
        have h9 := him'.out
        simp only [intOf, lenOf, Array.getD_eq_getD_getElem?, List.getElem?_toArray, List.getElem?_cons_succ, List.getElem?_cons_zero, Option.getD_some]
        omega
end Go.Proofs.Ytofdpccjpodbhaa
