/-
  A stream beside the document's: feed. Conditions: both stand alike; the bytes lie elsewhere.
  A region that draws its order, within a round of a range over a function: it is enough to walk it plainly. It speaks of no program. No conditions.
  A stream beside the document's: inner. Conditions: both stand alike; the bytes lie elsewhere.
-/
import Derived.Test.YtofdpccjpodbhaaPr4
import Derived.Test.YtofdpccjpodbhaaStrQ
import Derived.Test.YtofdpccjpodbhaaMg15
import Derived.Orders
import Derived.OrdersIn
import Derived.OrdersHeld
import Derived.Deep.RegionHeld
import Derived.RangeFuncCalls
import Derived.Laws.Rows
import Derived.Laws.Tables
import Derived.StillTailTactics
namespace Go.Proofs.Ytofdpccjpodbhaa
open Go.RowKit
set_option linter.unusedVariables false

theorem takeR_len : ∀ (ch : List UInt8) (s : SM), 0 < ch.length → 1 ≤ (takeR s ch).2.2 ∧ (takeR s ch).2.2 ≤ ch.length
  | [], s, h => by simp at h
  | c :: t, s, h => by
    unfold takeR
    split
    · split
      · by_cases ht : 0 < t.length
        · have := takeR_len t (step s c).1 ht
          simp only [List.length_cons]
          omega
        · have : t = [] := List.eq_nil_of_length_eq_zero (by omega)
          subst this
          simp [takeR]
      · simp
    · simp

theorem Sync.low {K : PK} {N N' : Nat} {s : SM} {O O' : Nat → Prop} {hv hv' : Value} {W W' : World} (h : Sync K N s O hv W) (hk : KeepO N' O K.b hv W O' hv' W') : Low K W W' := by
  obtain ⟨fr, rv, vc, vd, L, M, hp, h2, h3⟩ := h
  exact ⟨fun j hj => hk.block j (Nat.lt_of_lt_of_le hj hp.bb.2.2) (fun ho => by have := (hp.ow j ho).1; omega) (fun e => by have := hp.bb.1; omega) (fun e => by have := hp.bb.2.1 j e; omega), hk.size⟩

theorem cut_low {pa : Option Addr} {c m B : Nat} (h : LowA B pa c) : LowA B (if c = m then pa else Option.map (fun x => x.add m) pa) (c - m) := by
  intro hc a ha
  have hc := Nat.lt_of_lt_of_le hc (Nat.sub_le _ _)
  split at ha
  · exact h hc a ha
  · obtain ⟨b, hb, rfl⟩ := Option.map_eq_some_iff.1 ha
    have := h hc b hb
    unfold Addr.add
    split <;> exact this

theorem BytesIn.tail {w : World} {pa : Option Addr} {n c : Nat} {l : List UInt8} (h : BytesIn w pa n c l) (m : Nat) (hm : m ≤ n) : BytesIn w (if c = m then pa else Option.map (fun x => x.add m) pa) (n - m) (c - m) (l.drop m) := by
  have hle := h.le
  have := h.cut m (n - m) (c - m) (by omega) (by omega) (by omega) (c = m) (by omega)
  rwa [List.take_of_length_le (by rw [List.length_drop, h.len]; exact Nat.le_refl _)] at this

/-- some state -/
def EPost (K : PK) (N : Nat) (v : Value) (O : Nat → Prop) (hv : Value) (W : World) (e : Ending) (W' : World) : Prop := ∃ s, SPost K N s v O hv W e W'

set_option maxHeartbeats 2000000 in
theorem pfeed_any (w : World) (K : PK) (N : Nat) (s : SM) (O : Nat → Prop) (hv : Value) (pa : Option Addr) (n c : Nat) (ch : List UInt8) (h : Sync K N s O hv w) (hN : N + n ≤ 549755813888) (hby : BytesIn w pa n c ch) (hz : n ≤ 1048576) (hlow : LowA K.B pa c) :
    Calls Try.prog 53 #[.pointer (some ⟨K.pb, 0, none⟩), .slice pa n c] w (EPost K (N + n) (.bool true) O hv w) := by
  have HS := Lib.hid h
  have HBY := Lib.hid hby
  have HLOW := Lib.hid hlow
  clear h hby hlow
  go_enter Try.func53, Try.ntmps53
  go_wp2_with fail
  go_loopw [1] (fun b wr => ∃ (k n' : Nat) (pa' : Option Addr) (c' : Nat) (s' : SM) (O' : Nat → Prop) (hv' : Value), b = .slice pa' n' c' ∧ n' = n - k ∧ k ≤ n ∧ BytesIn w pa' n' c' (ch.drop k) ∧ (LowA K.B pa' c') ∧ Sync K (N + k) s' O' hv' wr ∧ KeepO w.heap.size O K.b hv w O' hv' wr) (fun b _ => lenOf b)
  case atStart => exact ⟨0, n, pa, c, s, O, hv, rfl, by omega, by omega, by simpa using HBY.out, HLOW.out, HS.out, KeepO.refl _ _ _ _ _⟩
  case round =>
    obtain ⟨k, n', pa', c', s', O', hv', rfl, hn', hkn, hby', hlow', hs', hk'⟩ := hrel
    by_cases h0 : 0 < n'
    · have h0' : (0 : Int) < (n' : Int) := by omega
      have hl := HS.out.low hk'
      have hcall := ptake_any wr K (N + k) s' O' hv' pa' n' c' (ch.drop k) hs' (by omega) (hby'.low hl.1 hl.2 hlow') (by omega) hlow'
      have htl := takeR_len (ch.drop k) s' (by rw [hby'.len]; exact h0)
      rw [hby'.len] at htl
      obtain ⟨s2, it, m, htk⟩ : ∃ s2 it m, takeR s' (ch.drop k) = (s2, it, m) := ⟨_, _, _, rfl⟩
      rw [htk] at hcall htl
      simp only at hcall htl
      have hcap := hby'.cap
      have hle := hby'.le
      unfold maxLen at hcap
      have HB := Lib.hid hby'
      have HL := Lib.hid hlow'
      have HK := Lib.hid hk'
      have HN' := Lib.hid hn'
      have HWZ := Lib.hid hl.2
      clear hby' hlow' hs' hk' htk hl hn'
      go_wp2_with fail
      refine hcall.mono ?_
      clear hcall
      rintro e w2 ⟨rfl, O2, hv2, hs2, hk2⟩
      have HS2 := Lib.hid hs2
      have HK2 := Lib.hid (HK.out.trans (N2 := wr.heap.size) hk2 (Nat.le_refl _) HWZ.out)
      have hm1 : (m : Int) ≤ n' := by omega
      have hm2 : (m : Int) ≤ c' := by omega
      have hm3 : (n' : Int) ≤ c' := by omega
      have hm4 : (0 : Int) ≤ m := by omega
      clear hs2 hk2
      go_wp2_with fail
      have hb2 := HB.out.tail m (by omega)
      rw [List.drop_drop] at hb2
      go_roundw
      case rel => exact ⟨k + m, _, _, _, s2, O2, hv2, rfl, by have := HN'.out; omega, by have := HN'.out; omega, hb2, cut_low HL.out, HS2.out.mono (by omega), HK2.out⟩
      case measure => simp only [lenOf]; omega
    · have h0' : ¬ (0 : Int) < (n' : Int) := by omega
      have hnk : k = n := by omega
      have HS2 := Lib.hid hs'
      have HK2 := Lib.hid hk'
      clear hby' hlow' hs' hk' hn'
      go_wp2_with fail
      go_ret
      exact ⟨s', rfl, O', hv', HS2.out.mono (by omega), HK2.out⟩
end Go.Proofs.Ytofdpccjpodbhaa

namespace Go.Proofs.Ytofdpccjpodbhaa
open Go.RowKit
set_option linter.unusedVariables false

/-- no operation defers -/
def noDeferB (ops : Array Oper) : Bool := ops.all fun o => match o.op with | .defer _ => false | _ => true

theorem noDefer_at {ops : Array Oper} (h : noDeferB ops = true) {i : Nat} {o : Oper} (hi : ops[i]? = some o) : ∀ c, o.op ≠ .defer c := by
  intro c hc
  have hm := Array.mem_of_getElem? hi
  have := Array.all_eq_true'.1 h o hm
  simp [hc] at this

theorem rowsIn_wide {n : Nat} {P : Program} {row : String} {args : Array Value} {w : World} {R : Value → World → Prop} (h : Rows P row args w R) : RowsIn Fence.wide n P row args w R :=
  fun c cs _ => let ⟨v, w', r, s⟩ := h c cs; ⟨v, w', r, stepsIn_wide.2 s⟩

theorem operIn_of {P : Program} {o : Oper} {K : Act → World → Prop} {Q : Exit → Act → World → Prop} {a : Act} {w : World} {l n : Nat} (hd : ∀ c, o.op ≠ .defer c) (h : Oper.wp P o a w K Q) : o.wpIn (Fence.wide.inRound l) n P a w K Q := by
  refine ⟨fun _ _ => trivial, ?_⟩
  rw [Oper.semAt_eq _ _ _ hd]
  unfold Oper.wp at h
  generalize (execOp a.eval o).run P w = r at h
  cases r with
  | ok x w' =>
    cases x <;> simp only [Oper.upon, Oper.uponIn] at h ⊢ <;>
      first
        | exact h
        | exact ⟨fun hd => by simp [Fence.wide] at hd, CallsIn.inRound l (callsIn_wide.2 h)⟩
        | exact ⟨fun hd => by simp [Fence.wide] at hd, rowsIn_wide h⟩
  | halt x w' => cases x <;> simp only [Oper.upon, Oper.uponIn] at h ⊢ <;> exact h

theorem wpAnyIn_of_any {P : Program} {ops : Array Oper} {Q : Exit → Act → World → Prop} {md : Region.Mode} {l n : Nat} (hnd : noDeferB ops = true) (hL : ¬ LetsOut Q) : ∀ (fuel : Nat) (listed : Array Bool) (a : Act) (w : World), wpAny P md ops Q fuel listed a w → wpAnyIn (Fence.wide.inRound l) n P md ops Q fuel listed a w
  | 0, _, _, _, h => h
  | fuel + 1, listed, a, w, h => ⟨h.1, fun i hi => by
      have h1 := wpOp_mono (fun a' w' h' => wpAnyIn_of_any (l := l) (n := n) hnd hL fuel _ a' w' h') (h.2 i hi)
      unfold wpOp at h1
      unfold wpOpIn
      cases ho : ops[i]? with
      | none => simp only [ho] at h1 ⊢; exact h1
      | some o =>
        simp only [ho] at h1 ⊢
        by_cases hw : Region.wanted o (yielded ops a.tmps) = true
        · rw [if_pos hw] at h1 ⊢
          rcases h1 with h1 | h1
          · exact operIn_of (noDefer_at hnd ho) h1
          · exact absurd h1.2 hL
        · rw [if_neg hw] at h1 ⊢
          exact ⟨fun _ _ => trivial, h1⟩⟩

theorem wpIn_region_of_any {P : Program} {ops : Array Oper} {Q : Exit → Act → World → Prop} {l n id : Nat} {a : Act} {w : World} (hm : P.follows .mixedOrders = true) (hnd : noDeferB ops = true) (hL : ¬ LetsOut Q)
    (h : wpAny P .any ops Q ops.size (Array.replicate ops.size false) a w.drew) : (Code.region id ops true).wpIn (Fence.wide.inRound l) n P Q a w :=
  wpIn_region_any hm (wpAnyIn_of_any hnd hL _ _ _ _ h)

/-- .. by what holds throughout -/
theorem wpIn_region_of_held {P : Program} {ops : Array Oper} {Q : Exit → Act → World → Prop} {l n id : Nat} {a : Act} {w : World} (S : World → Prop) (f : Nat) (hf : ops.size = f) (hm : P.follows .mixedOrders = true) (hnd : noDeferB ops = true) (hL : ¬ LetsOut Q)
    (h : wpAnyH P .any ops Q S f (Array.replicate f false) a w.drew) : (Code.region id ops true).wpIn (Fence.wide.inRound l) n P Q a w := by
  subst hf
  exact wpIn_region_of_any hm hnd hL (wpAny_of_held _ _ _ _ h)

theorem takeD {P : Program} {ops : Array Oper} {Q : Exit → Act → World → Prop} {md : Region.Mode} {S : World → Prop} {i : Nat} {oi : Oper} {v : Value} {fuel : Nat} {listed : Array Bool} {a : Act} {w : World} (d : Option Tmp) (hi : ops[i]? = some oi) (hd : oi.dst = d)
    (hs : Region.noSelect ops = true) (hf : Region.free md ops listed i = true) (hr : (Region.ready md ops listed).contains i = true)
    (hQ : ∀ c a w, Q (.panic c) (a.put oi.dst v) w → Q (.panic c) a w) (hy : YieldsIf P ops S oi v a) (hS : S w)
    (h : wpAnyH P md ops Q S fuel (listed.setIfInBounds i true) (a.put d v) w) : wpAnyH P md ops Q S (fuel + 1) listed a w := by
  subst hd
  exact wpAnyH_take hi hs hf hr hQ hy hS h

theorem yieldsIf_load_row {P : Program} {ops : Array Oper} {S : World → Prop} {o : Oper} {a : Act} (ty : TypeId) (x : Operand) (ho : o.op = .load ty x) (hw : Region.wanted o (yielded ops a.tmps) = true) (g : Nat) (hx : a.eval x = .pointer (some ⟨g, 0, none⟩)) (t : TypeId) (cs : Array Value) (fr : Nat × Nat) (d : TypeDesc) (hg : ∀ V, S V → V.heap[g]? = some (.cells cs t fr))
    (hu : P.underlying ty = some d) (hd : (match d with | .struct _ | .array _ _ => true | _ => false) = true) (hi : (P.info? ty).map (·.size) = some cs.size) : YieldsIf P ops S o (.agg cs) a := by
  refine .inl ⟨hw, fun V hV => ?_⟩
  unfold execOp
  simp only [ho, hx, Instr.loadAt, Instr.sureAddr, Sem.run_bind, Sem.run_pure, Result.andThen_ok, run_loadVar_row V g t ty cs fr d (hg V hV) hu hd hi]

/-- one operation comes up; what holds throughout is shown behind it -/
theorem stepD {P : Program} {ops : Array Oper} {Q : Exit → Act → World → Prop} {md : Region.Mode} {S : World → Prop} {fuel : Nat} {listed : Array Bool} {a : Act} {w : World} {i : Nat} {o : Oper} (ho : ops[i]? = some o) (hw : Region.wanted o (yielded ops a.tmps) = true)
    (h : ∀ K' : Act → World → Prop, Shut (∀ a w, S w → wpAnyH P md ops Q S fuel (listed.setIfInBounds i true) a w → K' a w) → Oper.wp P o a w K' Q) : wpOp P ops Q i (fun a' w' => S w' ∧ wpAnyH P md ops Q S fuel (listed.setIfInBounds i true) a' w') a w := by
  unfold wpOp
  simp only [ho]
  rw [if_pos hw]
  exact .inl (h _ (fun a w h1 h2 => ⟨h1, h2⟩))
end Go.Proofs.Ytofdpccjpodbhaa

namespace Go.Proofs.Ytofdpccjpodbhaa
open Go.RowKit
set_option linter.unusedVariables false

/-- both expect -/
theorem Pair.toS {K : PK} {fr : Nat} {s q s' : SM} {hv rv vc vd : Value} {L M : List (Itm × Value × Value)} {O : Nat → Prop} {W W' : World} (h : Pair K fr s q hv rv vc vd L M O W) (hg : W.grownBy W' (some K.b)) (hs : StS W' K.b K.Bs s' hv) : Pair K fr s' q hv rv vc vd L M O W' :=
  h.moveS (Mv.of_grown hg) hs

set_option maxRecDepth 20000 in
set_option maxHeartbeats 2000000 in
theorem pinner_low (w : World) (K : PK) (N : Nat) (s : SM) (O : Nat → Prop) (hv : Value) (kd nn mm : Int) (da : Option Addr) (dn dc : Nat) (ma : Option Addr) (mn mc : Nat) (h : Sync K N s O hv w) (hm : 0 ≤ mm) :
    Calls Try.prog 68 #[.pointer (some ⟨K.pb, 0, none⟩), .agg #[.int .i64 kd, .int .i64 nn, .int .i64 mm, .slice da dn dc, .slice ma mn mc]] w (EPost K N (.bool true) O hv w) := by
  obtain ⟨fr, rv, vc, vd, L, M, hp, hLM, hLN⟩ := h
  have HP := Lib.hid hp
  have HLM := Lib.hid hLM
  clear hp hLM
  go_enter Try.func68, Try.ntmps68
  go_upto_region 1 with fail
  have hb1 : Below w.heap.size w ((w.alloc (.cells #[.pointer (some ⟨K.pb, 0, none⟩)] 55)).alloc (.cells #[.int .i64 kd, .int .i64 nn, .int .i64 mm, .slice da dn dc, .slice ma mn mc] 64)) := ((Below.refl _ w).alloc (Nat.le_refl _) _).alloc (by simp) _
  have p1 : ((w.alloc (.cells #[.pointer (some ⟨K.pb, 0, none⟩)] 55)).alloc (.cells #[.int .i64 kd, .int .i64 nn, .int .i64 mm, .slice da dn dc, .slice ma mn mc] 64)).heap[w.heap.size]? = some (.cells #[.pointer (some ⟨K.pb, 0, none⟩)] 55 (0, 0)) := (heap_alloc_old _ _ (by simp)).trans (heap_alloc_new _ _)
  have o1 : ((w.alloc (.cells #[.pointer (some ⟨K.pb, 0, none⟩)] 55)).alloc (.cells #[.int .i64 kd, .int .i64 nn, .int .i64 mm, .slice da dn dc, .slice ma mn mc] 64)).heap[w.heap.size + 1]? = some (.cells #[.int .i64 kd, .int .i64 nn, .int .i64 mm, .slice da dn dc, .slice ma mn mc] 64 (0, 0)) := heap_alloc2_new _ _ _
  generalize ((w.alloc (.cells #[.pointer (some ⟨K.pb, 0, none⟩)] 55)).alloc (.cells #[.int .i64 kd, .int .i64 nn, .int .i64 mm, .slice da dn dc, .slice ma mn mc] 64)) = w1 at *
  have hp1 := HP.out.below hb1
  have HB1 := Lib.hid hb1
  have hnb : ∀ j, w.heap.size ≤ j → j ≠ K.b := fun j hj e => by have := HP.out.blt _ (.inr (.inl e)); omega
  have hnr : ∀ j, w.heap.size ≤ j → j ≠ K.r := fun j hj e => by have := HP.out.blt _ (.inl (e ▸ HP.out.oo.2.1)); omega
  obtain ⟨x, hx⟩ : ∃ x, w.heap.size = x := ⟨_, rfl⟩
  have hxb : K.b ≠ x ∧ K.b ≠ x + 1 ∧ K.r ≠ x ∧ K.r ≠ x + 1 := ⟨fun e => hnb x (by omega) e.symm, fun e => hnb (x + 1) (by omega) e.symm, fun e => hnr x (by omega) e.symm, fun e => hnr (x + 1) (by omega) e.symm⟩
  rw [hx] at p1 o1 ⊢
  have HX := Lib.hid hx
  have q0 : w1.cell? ⟨x, 0, none⟩ = some (.pointer (some ⟨K.pb, 0, none⟩)) := (cell_of_row _ _ 0 _ _ _ p1).trans rfl
  have q2 : w1.cell? ⟨x + 1, 2, none⟩ = some (.int .i64 mm) := (cell_of_row _ _ 2 _ _ _ o1).trans rfl
  have c0 : w1.cell? ⟨K.pb, 0, none⟩ = some (.pointer (some ⟨K.b, 0, none⟩)) := (cell_of_row _ _ 0 _ _ _ hp1.cell).trans rfl
  have HP1 := Lib.hid hp1
  have HXB := Lib.hid hxb
  clear hb1 p1 o1 hx hp1 hnb hnr hxb
  by_cases h0 : mm = 0
  · subst h0
    have hcall := expect_any w1 K.b K.Bs s hv HP1.out.st
    go_wp2_with fail
    refine hcall.mono ?_
    clear hcall
    rintro e w2 ⟨rfl, hst2, hg2⟩
    have hp2 := HP1.out.toS hg2 hst2
    have q0' : w2.cell? ⟨x, 0, none⟩ = some (.pointer (some ⟨K.pb, 0, none⟩)) := by
      rw [World.cell?_of_block (hg2.block x (cell_lt q0) (fun e => HXB.out.1 (Option.some.inj e).symm))]
      exact q0
    have c1 : w2.cell? ⟨K.pb, 1, none⟩ = some (.pointer (some ⟨K.r, 0, none⟩)) := (cell_of_row _ _ 1 _ _ _ hp2.cell).trans rfl
    have hcall := rexpect_any w2 K.r K.Br fr s rv hp2.re
    have HP2 := Lib.hid hp2
    have HK2 := Lib.hid ((KeepO.of_below (N := w.heap.size) (O := O) (b := K.b) (hv := hv) HB1.out).trans (KeepO.grown (N := w.heap.size) hg2 (.inr (.inr (.inl rfl)))) (Nat.le_refl _) (Nat.le_refl _))
    clear hst2 hg2 hp2 q0 q2 c0
    go_wp2_with fail
    refine hcall.mono ?_
    clear hcall
    rintro e w3 ⟨rfl, hin3, hg3, hz3⟩
    have hok3 : Ok (expectR s).1 := by have := HP2.out.st.ok; exact this
    have hp3 := HP2.out.moveR (Mv.of_grown hg3) hin3 HP2.out.rel.expect hok3
    have HP3 := Lib.hid hp3
    have HK3 := Lib.hid (HK2.out.trans (HP2.out.keepR (N := w.heap.size) (Mv.of_grown hg3) HK2.out.size) (Nat.le_refl _) (Nat.le_refl _))
    clear hin3 hg3 hz3 hp3 q0' c1 hok3
    go_wp2_with fail
    go_ret
    exact ⟨_, by simp, _, hv, ⟨fr, rv, vc, vd, L, M, HP3.out, HLM.out, hLN⟩, HK3.out⟩
  · have hm1 : 0 < mm := by omega
    have h0' : (mm == 0) = false := by simpa using h0
    have hpD := HP1.out.below (W' := w1.drew) ⟨rfl, rfl, rfl, Nat.le_refl _, fun _ _ => rfl⟩
    have hbD : Below w1.heap.size w1 w1.drew := ⟨rfl, rfl, rfl, Nat.le_refl _, fun _ _ => rfl⟩
    have hcall := most_any w1.drew K.b K.Bs s hv mm hpD.st
    have HPD := Lib.hid hpD
    have HBD := Lib.hid hbD
    clear h0 hpD hbD
    go_upto_region 5 with fail
    go_still_tail 6, (by kernel_rfl)
    change wpList _ _ _ _ _ w1.drew
    have q0D : w1.drew.cell? ⟨x, 0, none⟩ = some (.pointer (some ⟨K.pb, 0, none⟩)) := q0
    have q2D : w1.drew.cell? ⟨x + 1, 2, none⟩ = some (.int .i64 mm) := q2
    have HBD' := Lib.hid (HB1.out.trans (HBD.out.mono HB1.out.size))
    generalize w1.drew = wd at *
    go_wp2_with fail
    refine hcall.mono ?_
    clear hcall
    rintro e w2 ⟨rfl, hst2, hg2⟩
    have hp2 := HPD.out.toS hg2 hst2
    have q0' : w2.cell? ⟨x, 0, none⟩ = some (.pointer (some ⟨K.pb, 0, none⟩)) := by
      rw [World.cell?_of_block (hg2.block x (cell_lt q0D) (fun e => HXB.out.1 (Option.some.inj e).symm))]
      exact q0D
    have q2' : w2.cell? ⟨x + 1, 2, none⟩ = some (.int .i64 mm) := by
      rw [World.cell?_of_block (hg2.block (x + 1) (cell_lt q2D) (fun e => HXB.out.2.1 (Option.some.inj e).symm))]
      exact q2D
    have c1 : w2.cell? ⟨K.pb, 1, none⟩ = some (.pointer (some ⟨K.r, 0, none⟩)) := (cell_of_row _ _ 1 _ _ _ hp2.cell).trans rfl
    have HP2 := Lib.hid hp2
    have HK2 := Lib.hid ((KeepO.of_below (N := w.heap.size) (O := O) (b := K.b) (hv := hv) (⟨HBD'.out.os, HBD'.out.tape, HBD'.out.output, HBD'.out.size, HBD'.out.block⟩ : Below w.heap.size w wd)).trans (KeepO.grown (N := w.heap.size) hg2 (.inr (.inr (.inl rfl)))) (Nat.le_refl _) (Nat.le_refl _))
    clear hst2 hg2 hp2 q0 q2 q0D q2D c0
    go_upto_region 6 with fail
    have hb3 : Below w2.heap.size w2 w2.drew := ⟨rfl, rfl, rfl, Nat.le_refl _, fun _ _ => rfl⟩
    have HP3 := Lib.hid (HP2.out.below hb3)
    have HK3 := Lib.hid (HK2.out.trans (KeepO.of_below (N := w.heap.size) hb3) (Nat.le_refl _) (Nat.le_refl _))
    have hcall := rmost_any w2.drew K.r K.Br fr s rv mm HP3.out.re
    have HC := Lib.hid hcall
    clear hb3 hcall
    go_region_law (first
      | (go_simp
         go_at_call 56
         (with_reducible refine HC.out.mono ?_)
         rintro e w4 ⟨rfl, hin4, hg4, hz4⟩
         have hok4 : Ok (mostR s mm).1 := (by have := HP3.out.st.ok; exact this)
         have hp4 := HP3.out.moveR (Mv.of_grown hg4) hin4 (HP3.out.rel.setMost mm) hok4
         have HP4 := Lib.hid hp4
         have HK4 := Lib.hid (HK3.out.trans (HP3.out.keepR (N := w.heap.size) (Mv.of_grown hg4) HK3.out.size) (Nat.le_refl _) (Nat.le_refl _))
         clear hin4 hg4 hz4 hp4 hok4)
      | fail)
    all_goals
      go_wp2_with fail
      go_ret
      exact ⟨_, by simp [Act.put], _, hv, ⟨fr, rv, vc, vd, L, M, HP4.out, HLM.out, hLN⟩, HK4.out⟩
end Go.Proofs.Ytofdpccjpodbhaa
