/-
  A stream beside the document's: state, take. Conditions: both stand alike; the bytes lie elsewhere.
-/
import Derived.Test.YtofdpccjpodbhaaMg30
import Derived.Test.YtofdpccjpodbhaaStrE
import Derived.Deep.QuietTactic
import Derived.BigQuiet
import Derived.Deep.RegionLaw
namespace Go.Proofs.Ytofdpccjpodbhaa
open Go.RowKit
set_option linter.unusedVariables false

set_option maxHeartbeats 1000000 in
theorem pstate_any (w : World) (K : PK) (fr : Nat) (s : SM) (hv rv vc vd : Value) (L M : List (Itm × Value × Value)) (O : Nat → Prop) (h : Pair K fr s s hv rv vc vd L M O w) :
    Calls Try.prog 31 #[.pointer (some ⟨K.pb, 0, none⟩)] w fun e w' => e = .returned (.bool true) ∧ Below w.heap.size w w' := by
  have c0 : w.cell? ⟨K.pb, 0, none⟩ = some (.pointer (some ⟨K.b, 0, none⟩)) := (cell_of_row _ _ 0 _ _ _ h.cell).trans rfl
  have hcall := state_any w K.b K.Bs s hv h.st
  have H := Lib.hid h
  clear h
  have hse := state_eql
  go_enter Try.func31, Try.ntmps31
  go_wp2_with fail
  refine hcall.mono ?_
  clear hcall c0
  rintro e w1 ⟨rfl, hb1⟩
  unfold SM.state
  go_upto_region 2 with fail
  have hb2 : Below w1.heap.size w1 (w1.alloc (.cells #[.int .i64 s.taken, .int .i64 s.held.length, .bool s.hdr, .int .i64 s.err, .int .i64 s.at_] 49)) := (Below.refl _ w1).alloc (Nat.le_refl _) _
  have a2 : (w1.alloc (.cells #[.int .i64 s.taken, .int .i64 s.held.length, .bool s.hdr, .int .i64 s.err, .int .i64 s.at_] 49)).heap[w1.heap.size]? = some (.cells #[.int .i64 s.taken, .int .i64 s.held.length, .bool s.hdr, .int .i64 s.err, .int .i64 s.at_] 49 (0, 0)) := heap_alloc_new _ _
  generalize (w1.alloc (.cells #[.int .i64 s.taken, .int .i64 s.held.length, .bool s.hdr, .int .i64 s.err, .int .i64 s.at_] 49)) = w2 at *
  have hb12 := hb1.trans (hb2.mono hb1.size)
  have H2 := Lib.hid (H.out.below hb12)
  have c1 : w2.cell? ⟨K.pb, 1, none⟩ = some (.pointer (some ⟨K.r, 0, none⟩)) := (cell_of_row _ _ 1 _ _ _ H2.out.cell).trans rfl
  have hcall := rstate_any w2 K.r K.Br fr s rv H2.out.re
  obtain ⟨x, hx⟩ : ∃ x, w1.heap.size = x := ⟨_, rfl⟩
  rw [hx] at a2 ⊢
  have HB12 := Lib.hid hb12
  have HA2 := Lib.hid a2
  clear hb1 hb2 hb12 a2 hx H
  go_wp2_with fail
  refine hcall.mono ?_
  clear hcall c1
  rintro e w3 ⟨rfl, hb3⟩
  unfold SM.state
  go_upto_region 3 with fail
  have hb4 : Below w3.heap.size w3 (w3.alloc (.cells #[.int .i64 s.taken, .int .i64 s.held.length, .bool s.hdr, .int .i64 s.err, .int .i64 s.at_] 49)) := (Below.refl _ w3).alloc (Nat.le_refl _) _
  have a4 : (w3.alloc (.cells #[.int .i64 s.taken, .int .i64 s.held.length, .bool s.hdr, .int .i64 s.err, .int .i64 s.at_] 49)).heap[w3.heap.size]? = some (.cells #[.int .i64 s.taken, .int .i64 s.held.length, .bool s.hdr, .int .i64 s.err, .int .i64 s.at_] 49 (0, 0)) := heap_alloc_new _ _
  generalize (w3.alloc (.cells #[.int .i64 s.taken, .int .i64 s.held.length, .bool s.hdr, .int .i64 s.err, .int .i64 s.at_] 49)) = w4 at *
  have hx3 := (Array.getElem?_eq_some_iff.1 HA2.out).1
  have x4 := (hb4.block x (Nat.lt_of_lt_of_le hx3 hb3.size)).trans ((hb3.block x hx3).trans HA2.out)
  have HB4 := Lib.hid ((HB12.out.trans (hb3.mono HB12.out.size)).trans (hb4.mono (Nat.le_trans HB12.out.size hb3.size)))
  obtain ⟨y, hy⟩ : ∃ y, w3.heap.size = y := ⟨_, rfl⟩
  rw [hy] at a4 ⊢
  have k0 : w4.cell? ⟨x, 0, none⟩ = some (.int .i64 s.taken) := (cell_of_row _ _ 0 _ _ _ x4).trans rfl
  have k1 : w4.cell? ⟨x, 1, none⟩ = some (.int .i64 s.held.length) := (cell_of_row _ _ 1 _ _ _ x4).trans rfl
  have k2 : w4.cell? ⟨x, 2, none⟩ = some (.bool s.hdr) := (cell_of_row _ _ 2 _ _ _ x4).trans rfl
  have k3 : w4.cell? ⟨x, 3, none⟩ = some (.int .i64 s.err) := (cell_of_row _ _ 3 _ _ _ x4).trans rfl
  have k4 : w4.cell? ⟨x, 4, none⟩ = some (.int .i64 s.at_) := (cell_of_row _ _ 4 _ _ _ x4).trans rfl
  have j0 : w4.cell? ⟨y, 0, none⟩ = some (.int .i64 s.taken) := (cell_of_row _ _ 0 _ _ _ a4).trans rfl
  have j1 : w4.cell? ⟨y, 1, none⟩ = some (.int .i64 s.held.length) := (cell_of_row _ _ 1 _ _ _ a4).trans rfl
  have j2 : w4.cell? ⟨y, 2, none⟩ = some (.bool s.hdr) := (cell_of_row _ _ 2 _ _ _ a4).trans rfl
  have j3 : w4.cell? ⟨y, 3, none⟩ = some (.int .i64 s.err) := (cell_of_row _ _ 3 _ _ _ a4).trans rfl
  have j4 : w4.cell? ⟨y, 4, none⟩ = some (.int .i64 s.at_) := (cell_of_row _ _ 4 _ _ _ a4).trans rfl
  clear hb3 hb4 a4 hx3 x4 hy
  go_wp2_with fail
  go_ret
  exact ⟨by simp, HB4.out⟩

set_option maxRecDepth 20000 in
set_option maxHeartbeats 4000000 in
theorem ptake_any (w : World) (K : PK) (N : Nat) (s : SM) (O : Nat → Prop) (hv : Value) (pa : Option Addr) (n c : Nat) (ch : List UInt8) (h : Sync K N s O hv w) (hN : N ≤ 549755813888) (hby : BytesIn w pa n c ch) (hz : n ≤ 1048576) (hlow : LowA K.B pa c) :
    Calls Try.prog 52 #[.pointer (some ⟨K.pb, 0, none⟩), .slice pa n c] w (SPost K (N + 1) (takeR s ch).1 (.tuple #[.int .i64 (takeR s ch).2.2, .bool true]) O hv w) := by
  obtain ⟨fr, rv, vc, vd, L, M, hp, hLM, hLN⟩ := h
  obtain ⟨s', it, m, htk⟩ : ∃ s' it m, takeR s ch = (s', it, m) := ⟨_, _, _, rfl⟩
  have hcall := lentB_any w pa n c ch hby hz
  have hcl := hby.len
  have hlt := hp.blt
  have HP := Lib.hid hp
  have HBY := Lib.hid hby
  have HLOW := Lib.hid hlow
  have HLM := Lib.hid hLM
  have HTK := Lib.hid htk
  have HCL := Lib.hid hcl
  rw [htk]
  simp only
  unfold LbOut at hcall
  rw [hcl] at hcall
  clear hp hby hlow hLM htk hcl
  go_enter Try.func52, Try.ntmps52
  go_wp2_with fail
  refine hcall.mono ?_
  clear hcall
  rintro e w1 ⟨rfl, hb1, hz1, hl1⟩
  obtain ⟨n0, hn0⟩ : ∃ n0, w.heap.size = n0 := ⟨_, rfl⟩
  have hp1 := HP.out.below hb1
  have c0 : w1.cell? ⟨K.pb, 0, none⟩ = some (.pointer (some ⟨K.b, 0, none⟩)) := (cell_of_row _ _ 0 _ _ _ hp1.cell).trans rfl
  rw [hn0] at hl1 hz1 ⊢
  have hll : (ch ++ markB).length = n + 9 := by rw [List.length_append, HCL.out]; rfl
  have hbl := hl1.bytes 0 n (n + 9) (by omega) (by omega) (by unfold maxLen; omega)
  rw [List.drop_zero, List.take_left' HCL.out] at hbl
  have hnb : n0 ≠ K.b ∧ hv.ownBlock ≠ some n0 := ⟨fun e => by have := hlt _ (.inr (.inl e)); omega, fun e => by have := hlt _ (.inr (.inr e)); omega⟩
  have hcall := take_any w1 K.b K.Bs s hv (some ⟨n0, 0, none⟩) n (n + 9) ch hp1.st hbl (fun _ a ha => by cases ha; exact hnb)
  unfold TakePost at hcall
  rw [HTK.out] at hcall
  simp only at hcall
  have HB1 := Lib.hid hb1
  have HP1 := Lib.hid hp1
  have HL1 := Lib.hid hl1
  have HN0 := Lib.hid hn0
  have HZ1 := Lib.hid hz1
  have HNB := Lib.hid hnb
  have HLT := Lib.hid hlt
  clear hb1 hp1 hl1 hn0 hz1 hll hbl hnb hlt
  go_wp2_with fail
  refine hcall.mono ?_
  clear hcall c0
  rintro e w2 ⟨hv2, ve, vb, rfl, hst2, hm2, hit2, ha1, ha2⟩
  obtain ⟨pe, ce, rfl, _⟩ := hit2.ext.bytes
  obtain ⟨pb, cb, rfl, _⟩ := hit2.body.bytes
  have hp2 := HP1.out.moveS hm2 hst2
  have hO1 : ∀ j, O j → j < w1.heap.size := fun j hj => (HP1.out.ow j hj).2.1
  have hb1 : K.b < w1.heap.size := HP1.out.blt _ (.inr (.inl rfl))
  have hsz2 : it.ext.length ≤ 1048577 ∧ it.body.length ≤ 1048577 := by
    have h := takeR_sz ch s HP.out.st.ok
    rw [HTK.out] at h
    exact h
  have HSZ := Lib.hid hsz2
  have ne2 : New K O hv2 w2 (.slice pe it.ext.length ce) it.ext := .of_fresh hp2 hit2.ext hO1 hb1 HP1.out.bb.2.2 ha1 hsz2.1
  have nb2 : New K O hv2 w2 (.slice pb it.body.length cb) it.body := .of_fresh hp2 hit2.body hO1 hb1 HP1.out.bb.2.2 ha2 hsz2.2
  clear hsz2
  have hn2 : hv2.ownBlock ≠ some n0 := fun e => by
    have hz := HZ1.out
    rcases hm2.hv with h1 | h1 | ⟨g, h1, h2⟩
    · rw [h1] at e; simp at e
    · exact HNB.out.2 (h1 ▸ e)
    · rw [h1] at e
      have := Option.some.inj e
      omega
  have hl2 := HL1.out.of_block (hm2.block n0 (by have := HZ1.out; omega) HNB.out.1 HNB.out.2)
  have hw2 : Low K w w2 := (Low.of_below HP.out.bb.2.2 HB1.out).trans (Low.of_mv HP1.out.bb.2.2 HP1.out.bb.1 HP1.out.bb.2.1 hm2)
  have hk2 : KeepO w.heap.size O K.b hv w O hv2 w2 := (KeepO.of_below HB1.out).trans (hm2.keepO O (Nat.le_refl _)) (Nat.le_refl _) HB1.out.size
  have HP2 := Lib.hid hp2
  have HNE2 := Lib.hid (And.intro ne2 nb2)
  have HN2 := Lib.hid hn2
  have HL2 := Lib.hid hl2
  have HW2 := Lib.hid hw2
  have HK2 := Lib.hid hk2
  have HFA := Lib.hid (far_of_apart hit2.apart)
  have HE2 : Hid ((∀ j, (Value.slice pe it.ext.length ce).ownBlock = some j → n0 < j) ∧ ∀ j, (Value.slice pb it.body.length cb).ownBlock = some j → n0 < j) := Lib.hid ⟨fun j hj => by have := (hit2.ext.row.lt j hj).1; have := HZ1.out; omega, fun j hj => by have := (hit2.body.row.lt j hj).1; have := HZ1.out; omega⟩
  clear hp2 hO1 hb1 ne2 nb2 hn2 hl2 hw2 hk2 hst2 hm2 hit2 ha1 ha2 HP1 HL1
  simp only [Itm.val]
  go_upto_region 3 with fail
  have hb3 : Below w2.heap.size w2 (w2.alloc (.cells #[.int .i64 it.kind, .int .i64 it.proto, .int .i64 it.T, .int .i64 it.ch, .slice pe it.ext.length ce, .slice pb it.body.length cb] 71)) := (Below.refl _ w2).alloc (Nat.le_refl _) _
  have x3 : (w2.alloc (.cells #[.int .i64 it.kind, .int .i64 it.proto, .int .i64 it.T, .int .i64 it.ch, .slice pe it.ext.length ce, .slice pb it.body.length cb] 71)).heap[w2.heap.size]? = some (.cells #[.int .i64 it.kind, .int .i64 it.proto, .int .i64 it.T, .int .i64 it.ch, .slice pe it.ext.length ce, .slice pb it.body.length cb] 71 (0, 0)) := heap_alloc_new _ _
  generalize (w2.alloc (.cells #[.int .i64 it.kind, .int .i64 it.proto, .int .i64 it.T, .int .i64 it.ch, .slice pe it.ext.length ce, .slice pb it.body.length cb] 71)) = w3 at *
  obtain ⟨x, hx⟩ : ∃ x, w2.heap.size = x := ⟨_, rfl⟩
  have hw3 : Low K w w3 := HW2.out.trans (Low.of_below HP2.out.bb.2.2 hb3)
  have hcall := asLentB_any w3 n0 n c ch pa (HL2.out.below hb3) (HBY.out.low hw3.1 hw3.2 HLOW.out) hz
  have hlx := HP2.out.blt
  rw [hx] at x3 hlx ⊢
  have HX3 := Lib.hid x3
  have HP3 := Lib.hid (HP2.out.below hb3)
  have HNE3 := Lib.hid (And.intro (HNE2.out.1.below hb3) (HNE2.out.2.below hb3))
  have HW3 := Lib.hid hw3
  have HK3 := Lib.hid (HK2.out.trans (KeepO.of_below (N := w.heap.size) hb3) (Nat.le_refl _) (Nat.le_refl _))
  have HLX := Lib.hid hlx
  have HXN : Hid (x ≠ n0 ∧ n0 < x ∧ (∀ j, (Value.slice pe it.ext.length ce).ownBlock = some j → j < x) ∧ ∀ j, (Value.slice pb it.body.length cb).ownBlock = some j → j < x) := by
    have := HL2.out.lt
    exact Lib.hid ⟨by omega, by omega, fun j hj => by have := (HNE2.out.1.own.row.lt j hj).2; omega, fun j hj => by have := (HNE2.out.2.own.row.lt j hj).2; omega⟩
  clear hb3 x3 hw3 hx hlx HP2 HNE2 HL2 HW2 HK2
  go_wp2_with fail
  refine hcall.mono ?_
  clear hcall
  rintro e w4 ⟨rfl, hg4, hz4⟩
  have hOn0 : ¬ O n0 := fun ho => by have := HLT.out n0 (.inl ho); have := HN0.out; omega
  have hp4 := HP3.out.grown hg4 hOn0 (fun e => HNB.out.1 e) HN2.out
  have c1 : w4.cell? ⟨K.pb, 1, none⟩ = some (.pointer (some ⟨K.r, 0, none⟩)) := (cell_of_row _ _ 1 _ _ _ hp4.cell).trans rfl
  have hw4 : Low K w w4 := HW3.out.trans (Low.of_grown HP3.out.bb.2.2 (by have := HP.out.bb.2.2; have := HN0.out; omega) hg4)
  have x4 := (hg4.block x (Array.getElem?_eq_some_iff.1 HX3.out).1 (fun e => HXN.out.1 (Option.some.inj e))).trans HX3.out
  have hfar : ∀ {u : Value} {l : List UInt8}, New K O hv2 w3 u l → (∀ j, u.ownBlock = some j → j ≠ n0) → New K O hv2 w4 u l := fun hu hn => hu.keep (fun j hj => hg4.block j (hu.own.row.lt j hj).2 (fun e => hn j hj (Option.some.inj e))) (fun _ _ h => h) rfl
  have hne4 : New K O hv2 w4 (.slice pe it.ext.length ce) it.ext ∧ New K O hv2 w4 (.slice pb it.body.length cb) it.body := ⟨hfar HNE3.out.1 (fun j hj e => by have := HE2.out.1 j hj; omega), hfar HNE3.out.2 (fun j hj e => by have := HE2.out.2 j hj; omega)⟩
  have hk4 : KeepO w.heap.size O K.b hv w O hv2 w4 := HK3.out.turn hg4 (by have := HN0.out; omega)
  have hcall := rtake_any w4 K.r K.Br fr s rv pa n c ch hp4.re hp4.okq hp4.rel (HBY.out.low hw4.1 hw4.2 HLOW.out) (fun hc0 a ha => by
    have h1 := HLOW.out hc0 a ha
    have h2 := (hp4.ow _ hp4.oo.2.1).1
    exact ⟨by omega, fun e => by have := (hp4.ow _ (hp4.oo.2.2 _ e)).1; omega⟩)
  unfold RTPost at hcall
  rw [HTK.out] at hcall
  simp only at hcall
  have hx4 := (Array.getElem?_eq_some_iff.1 x4).1
  have HP4 := Lib.hid hp4
  have HX4 := Lib.hid x4
  have HW4 := Lib.hid hw4
  have HNE4 := Lib.hid hne4
  have HK4 := Lib.hid hk4
  have HXL4 := Lib.hid hx4
  clear hg4 hz4 hOn0 hp4 hw4 x4 hfar hne4 hk4 hx4 HP3 HX3 HW3 HNE3 HK3
  go_wp2_with fail
  refine hcall.mono ?_
  clear hcall c1
  rintro e w5 ⟨fr', rv', we, wb, rfl, hin5, hrel5, hok5, hm5, hit5, ha1, ha2⟩
  obtain ⟨qe, de, rfl, _⟩ := hit5.ext.bytes
  obtain ⟨qb, db, rfl, _⟩ := hit5.body.bytes
  have hp5 := HP4.out.moveR hm5 hin5 hrel5 hok5
  have hO4 : ∀ j, O j → j < w4.heap.size := fun j hj => (HP4.out.ow j hj).2.1
  have hnw : ∀ {u : Value} {l : List UInt8}, OwnBytes w5 w4.heap.size 5 u l → Apart u rv' → l.length ≤ 1048577 → New K (fun j => O j ∨ rv'.ownBlock = some j) hv2 w5 u l := by
    intro u l hu ha hz9
    refine ⟨⟨row_mono5 hu.row HP4.out.bb.2.2⟩, fun j hj => ?_, hz9⟩
    have hlt := (hu.row.lt j hj).1
    refine ⟨fun ho => ?_, fun e => by have := HP4.out.blt _ (.inr (.inl e)); omega, fun e => by have := HP4.out.blt _ (.inr (.inr e)); omega⟩
    rcases ho with ho | ho
    · have := hO4 j ho; omega
    · rcases ha with h1 | h1 | h1
      · rw [h1] at hj; simp at hj
      · rw [h1] at ho; simp at ho
      · exact h1 (hj.trans ho.symm)
  have hx5 := (hm5.block x HXL4.out (fun e => by
      have := HLX.out K.r (.inl HP4.out.oo.2.1); omega) (fun e => by have := HLX.out x (.inl (HP4.out.oo.2.2 x e)); omega)).trans HX4.out
  have HP5 := Lib.hid hp5
  have HX5 := Lib.hid hx5
  have HNE5 := Lib.hid (And.intro (HNE4.out.1.moveR HP4.out hm5) (HNE4.out.2.moveR HP4.out hm5))
  have HNW5 := Lib.hid (And.intro (hnw hit5.ext ha1 HSZ.out.1) (hnw hit5.body ha2 HSZ.out.2))
  have HW5 := Lib.hid (HW4.out.trans (Low.of_mv HP4.out.bb.2.2 (HP4.out.ow _ HP4.out.oo.2.1).1 (fun j hj => (HP4.out.ow _ (HP4.out.oo.2.2 j hj)).1) hm5))
  have HK5 := Lib.hid (HK4.out.trans (HP4.out.keepR (N := w.heap.size) hm5 HK4.out.size) (Nat.le_refl _) (Nat.le_refl _))
  have HEW : Hid ((∀ j, (Value.slice qe it.ext.length de).ownBlock = some j → w4.heap.size ≤ j) ∧ ∀ j, (Value.slice qb it.body.length db).ownBlock = some j → w4.heap.size ≤ j) := Lib.hid ⟨fun j hj => (hit5.ext.row.lt j hj).1, fun j hj => (hit5.body.row.lt j hj).1⟩
  have hrvx : ∀ j, rv'.ownBlock = some j → j ≠ x := by
    intro j hj e
    subst e
    rcases hm5.hv with h1 | h1 | ⟨g, h1, h2⟩
    · rw [h1] at hj; simp at hj
    · have := HLX.out j (.inl (HP4.out.oo.2.2 j (h1 ▸ hj))); omega
    · rw [h1] at hj
      have := Option.some.inj hj
      have := HXL4.out
      omega
  have HRVX := Lib.hid hrvx
  have HFB := Lib.hid (far_of_apart hit5.apart)
  have hz5 := hm5.size
  have HZ5 := Lib.hid hz5
  clear hp5 hO4 hnw hx5 hin5 hrel5 hok5 hm5 hit5 ha1 ha2 hrvx hz5 HP4 HX4 HNE4 HW4 HK4
  simp only [Itm.val]
  go_upto_region 5 with fail
  have hb6 : Below w5.heap.size w5 (w5.alloc (.cells #[.int .i64 it.kind, .int .i64 it.proto, .int .i64 it.T, .int .i64 it.ch, .slice qe it.ext.length de, .slice qb it.body.length db] 71)) := (Below.refl _ w5).alloc (Nat.le_refl _) _
  have y6 : (w5.alloc (.cells #[.int .i64 it.kind, .int .i64 it.proto, .int .i64 it.T, .int .i64 it.ch, .slice qe it.ext.length de, .slice qb it.body.length db] 71)).heap[w5.heap.size]? = some (.cells #[.int .i64 it.kind, .int .i64 it.proto, .int .i64 it.T, .int .i64 it.ch, .slice qe it.ext.length de, .slice qb it.body.length db] 71 (0, 0)) := heap_alloc_new _ _
  generalize (w5.alloc (.cells #[.int .i64 it.kind, .int .i64 it.proto, .int .i64 it.T, .int .i64 it.ch, .slice qe it.ext.length de, .slice qb it.body.length db] 71)) = w6 at *
  obtain ⟨y, hy⟩ : ∃ y, w5.heap.size = y := ⟨_, rfl⟩
  have hp6 := HP5.out.below hb6
  have hyb := HP5.out.blt
  have x6 := (hb6.block x (Array.getElem?_eq_some_iff.1 HX5.out).1).trans HX5.out
  have hxy := (Array.getElem?_eq_some_iff.1 HX5.out).1
  have HNE6 := Lib.hid (And.intro (HNE5.out.1.below hb6) (HNE5.out.2.below hb6))
  have HNW6 := Lib.hid (And.intro (HNW5.out.1.below hb6) (HNW5.out.2.below hb6))
  have HW6 := Lib.hid (HW5.out.trans (Low.of_below HP5.out.bb.2.2 hb6))
  have HK6 := Lib.hid (HK5.out.trans (KeepO.of_below (N := w.heap.size) hb6) (Nat.le_refl _) (Nat.le_refl _))
  rw [hy] at y6 hyb hxy ⊢
  have HYB := Lib.hid hyb
  have HXY := Lib.hid hxy
  have HY6 := Lib.hid y6
  have HX6 := Lib.hid x6
  have HP6 := Lib.hid hp6
  obtain ⟨pc, cc, rfl⟩ := hp6.came.slice
  obtain ⟨pd, cd, rfl⟩ := hp6.want.slice
  have hcell := hp6.cell
  have HC6 := Lib.hid hcell
  have hrow6 := hp6.came.row
  have HR6 := Lib.hid hrow6
  have hB6 := hp6.bb.2.2
  have c2 : w6.cell? ⟨K.pb, 2, none⟩ = some (.slice pc L.length cc) := (cell_of_row _ _ 2 _ _ _ hcell).trans rfl
  have c2' : (w6.alloc (.cells #[.int .i64 it.kind, .int .i64 it.proto, .int .i64 it.T, .int .i64 it.ch, .slice pe it.ext.length ce, .slice pb it.body.length cb] 71)).cell? ⟨K.pb, 2, none⟩ = some (.slice pc L.length cc) := (World.cell?_of_block (heap_alloc_old w6 _ (cell_lt c2))).trans c2
  have v0 : w6.cell? ⟨x, 0, none⟩ = some (.int .i64 it.kind) := (cell_of_row _ _ 0 _ _ _ x6).trans rfl
  have v1 : w6.cell? ⟨x, 1, none⟩ = some (.int .i64 it.proto) := (cell_of_row _ _ 1 _ _ _ x6).trans rfl
  have v2 : w6.cell? ⟨x, 2, none⟩ = some (.int .i64 it.T) := (cell_of_row _ _ 2 _ _ _ x6).trans rfl
  have v3 : w6.cell? ⟨x, 3, none⟩ = some (.int .i64 it.ch) := (cell_of_row _ _ 3 _ _ _ x6).trans rfl
  have v4 : w6.cell? ⟨x, 4, none⟩ = some (.slice pe it.ext.length ce) := (cell_of_row _ _ 4 _ _ _ x6).trans rfl
  have v5 : w6.cell? ⟨x, 5, none⟩ = some (.slice pb it.body.length cb) := (cell_of_row _ _ 5 _ _ _ x6).trans rfl
  have hpn : (Value.slice pc L.length cc).ownBlock ≠ some K.pb := fun e => by
    obtain ⟨cs', f', h4⟩ := ownsRow_block hrow6 _ e
    exact cells_ne h4 hcell (by decide) rfl
  have HPN := Lib.hid hpn
  clear hb6 y6 hp6 hyb x6 hxy hy hcell hrow6 hpn HP5 HX5 HNE5 HNW5 HW5 HK5
  go_cut [36] from 36 to 45 (fun s36 wx => s36 = .pointer (some ⟨K.pb, 0, none⟩) ∧ ∃ vc', Put K 2 (.slice pc L.length cc) vc' L.length (itRow L) (itCells (it, .slice pe it.ext.length ce, .slice pb it.body.length cb)) w6 wx)
  case first =>
    go_region_law (first
      | (refine step_append_struct (wr := w6) rfl (.tmp 40) (.tmp 42) 47 rfl K.B 71 _ 6 80 Try.underlying47 info_item rfl (by decide) (.slice pc L.length cc) L.length (itRow L) (itCells (it, .slice pe it.ext.length ce, .slice pb it.body.length cb)) rfl (by intro u hu; simp only [itCells, List.mem_cons, List.not_mem_nil, or_false] at hu; rcases hu with rfl | rfl | rfl | rfl | rfl | rfl <;> rfl) rfl (by simp [Act.eval]) (by simp [Act.eval]) HR6.out (by unfold maxLen; omega) (by omega) hB6 ?_
         intro v8 w8 h81 h82 h83
         have hc8 := (h82.block K.pb (Array.getElem?_eq_some_iff.1 HC6.out).1 (fun e => HPN.out e.symm)).trans HC6.out
         have c8 : w8.cell? ⟨K.pb, 2, none⟩ = some (.slice pc L.length cc) := (cell_of_row _ _ 2 _ _ _ hc8).trans rfl
         have f8 : w8.frozen? ⟨K.pb, 2, none⟩ = false := by simp [World.frozen?, hc8]
         have hs8 : ∃ p' n' c', v8 = .slice p' n' c' := by
           rcases h81.2 with ⟨rfl, _⟩ | ⟨g, cap, cur, rfl, _⟩
           · exact ⟨_, _, _, rfl⟩
           · exact ⟨_, _, _, rfl⟩
         obtain ⟨p', n', c', rfl⟩ := hs8
         have HPUT : Hid (Put K 2 (.slice pc L.length cc) (.slice p' n' c') L.length (itRow L) (itCells (it, .slice pe it.ext.length ce, .slice pb it.body.length cb)) w6 (w8.setCell ⟨K.pb, 2, none⟩ (.slice p' n' c'))) := Lib.hid ⟨w8, h81, h82, h83, rfl⟩
         clear hc8 h81 h82 h83)
      | fail)
    all_goals
      go_wp2_with fail
      go_meet
      exact ⟨rfl, _, HPUT.out⟩
  case rest =>
    obtain ⟨rfl, vc', hput⟩ := hcut
    obtain ⟨w7, hw7⟩ : ∃ w7, w7 = wc := ⟨_, rfl⟩
    subst hw7
    obtain ⟨f1, f2, f3, f4, f5, f6⟩ := hput.facts HR6.out HC6.out
    have hp7 := HP6.out.putC hput HNE6.out.1 HNE6.out.2 HFA.out
    have hvo := HP6.out.came.vo
    have hk7 := HK6.out.trans (hput.keepO (N := w.heap.size) (hv := hv2) (ve := .slice pe it.ext.length ce) (vb := .slice pb it.body.length cb) HR6.out HC6.out HP6.out.oo.1 hvo HK6.out.size (fun j hj => by have := HE2.out.1 j hj; have := HN0.out; omega) (fun j hj => by have := HE2.out.2 j hj; have := HN0.out; omega)) (Nat.le_refl _) (Nat.le_refl _)
    have hyO : ∀ z, (z = x ∨ z = y) → z ≠ K.pb ∧ (Value.slice pc L.length cc).ownBlock ≠ some z := by
      intro z hz
      have h1 := HXY.out
      have hxo : ∀ j, O j → j < x := fun j hj => HLX.out j (.inl hj)
      refine ⟨fun e => ?_, fun e => ?_⟩
      · rcases hz with rfl | rfl
        · exact cells_ne HX6.out HC6.out (by decide) e
        · exact cells_ne HY6.out HC6.out (by decide) e
      · rcases hvo z e with h2 | h2
        · have := hxo z h2
          rcases hz with rfl | rfl <;> omega
        · have h3 := HRVX.out z h2
          have h4 := HYB.out z (.inl (.inr h2))
          rcases hz with rfl | rfl <;> omega
    have x7 := (f3 x (Array.getElem?_eq_some_iff.1 HX6.out).1 (hyO x (.inl rfl)).1 (hyO x (.inl rfl)).2).trans HX6.out
    have y7 := (f3 y (Array.getElem?_eq_some_iff.1 HY6.out).1 (hyO y (.inr rfl)).1 (hyO y (.inr rfl)).2).trans HY6.out
    have hby : ∀ {B : Nat} {u : Value} {l : List UInt8}, OwnBytes w6 B 5 u l → ∀ j, u.ownBlock = some j → w7.heap[j]? = w6.heap[j]? := by
      intro B u l hu j hj
      obtain ⟨cs, fr2, hh⟩ := ownsRow_block hu.row j hj
      refine f3 j (Array.getElem?_eq_some_iff.1 hh).1 (cells_ne hh HC6.out (by decide)) (fun e => ?_)
      obtain ⟨cs', fr3, h4⟩ := ownsRow_block HR6.out _ e
      exact cells_ne h4 hh (by decide) rfl
    have hnw : ∀ {u : Value} {l : List UInt8}, New K (fun j => O j ∨ rv'.ownBlock = some j) hv2 w6 u l → (∀ j, u.ownBlock = some j → w4.heap.size ≤ j) → New K (fun j => (O j ∨ rv'.ownBlock = some j) ∨ vc'.ownBlock = some j ∨ (Value.slice pe it.ext.length ce).ownBlock = some j ∨ (Value.slice pb it.body.length cb).ownBlock = some j) hv2 w7 u l := by
      intro u l hu hw
      refine hu.keep (fun j hj => hby hu.own j hj) (fun j hj ho => ?_) rfl
      have h4 := hw j hj
      have hxl := HXL4.out
      rcases ho with ho | ho | ho | ho
      · exact ho
      · exfalso
        obtain ⟨cs, fr2, hh⟩ := ownsRow_block (hu.own.same' (fun j hj => hby hu.own j hj)).row j hj
        obtain ⟨cs', fr3, h5⟩ := ownsRow_block f2 j ho
        exact cells_ne hh h5 (by decide) rfl
      · have := HXN.out.2.2.1 j ho; omega
      · have := HXN.out.2.2.2 j ho; omega
    have HNW7 := Lib.hid (And.intro (hnw HNW6.out.1 HEW.out.1) (hnw HNW6.out.2 HEW.out.2))
    have HP7 := Lib.hid hp7
    have HK7 := Lib.hid hk7
    have HX7 := Lib.hid x7
    have HY7 := Lib.hid y7
    have hcell := hp7.cell
    have HC7 := Lib.hid hcell
    have hrow7 := hp7.want.row
    have HR7 := Lib.hid hrow7
    have hB7 := hp7.bb.2.2
    have c3 : w7.cell? ⟨K.pb, 3, none⟩ = some (.slice pd M.length cd) := (cell_of_row _ _ 3 _ _ _ hcell).trans rfl
    have c3' : (w7.alloc (.cells #[.int .i64 it.kind, .int .i64 it.proto, .int .i64 it.T, .int .i64 it.ch, .slice qe it.ext.length de, .slice qb it.body.length db] 71)).cell? ⟨K.pb, 3, none⟩ = some (.slice pd M.length cd) := (World.cell?_of_block (heap_alloc_old w7 _ (cell_lt c3))).trans c3
    have v0 : w7.cell? ⟨y, 0, none⟩ = some (.int .i64 it.kind) := (cell_of_row _ _ 0 _ _ _ y7).trans rfl
    have v1 : w7.cell? ⟨y, 1, none⟩ = some (.int .i64 it.proto) := (cell_of_row _ _ 1 _ _ _ y7).trans rfl
    have v2 : w7.cell? ⟨y, 2, none⟩ = some (.int .i64 it.T) := (cell_of_row _ _ 2 _ _ _ y7).trans rfl
    have v3 : w7.cell? ⟨y, 3, none⟩ = some (.int .i64 it.ch) := (cell_of_row _ _ 3 _ _ _ y7).trans rfl
    have v4 : w7.cell? ⟨y, 4, none⟩ = some (.slice qe it.ext.length de) := (cell_of_row _ _ 4 _ _ _ y7).trans rfl
    have v5 : w7.cell? ⟨y, 5, none⟩ = some (.slice qb it.body.length db) := (cell_of_row _ _ 5 _ _ _ y7).trans rfl
    have hpn : (Value.slice pd M.length cd).ownBlock ≠ some K.pb := fun e => by
      obtain ⟨cs', f', h4⟩ := ownsRow_block hrow7 _ e
      exact cells_ne h4 hcell (by decide) rfl
    have HPN7 := Lib.hid hpn
    have hML : M.length ≤ N := by have := congrArg List.length HLM.out; rw [List.length_map, List.length_map] at this; omega
    have hyO7 : ∀ z, (z = x ∨ z = y) → z ≠ K.pb ∧ (Value.slice pd M.length cd).ownBlock ≠ some z := by
      intro z hz
      have h1 := HXY.out
      refine ⟨(hyO z hz).1, fun e => ?_⟩
      rcases HP6.out.want.vo z e with h2 | h2
      · have := HLX.out z (.inl h2)
        rcases hz with rfl | rfl <;> omega
      · have h3 := HRVX.out z h2
        have h4 := HYB.out z (.inl (.inr h2))
        rcases hz with rfl | rfl <;> omega
    have HYO7 := Lib.hid hyO7
    clear hput f1 f2 f3 f4 f5 f6 hp7 hvo hk7 hyO x7 y7 hby hnw hcell hrow7 hpn c2 c2' HP6 HK6 HX6 HY6 HC6 HR6 hB6 HPN HNE6 HNW6 HW6 hyO7
    go_upto_region 6 with fail
    go_cut [46] from 46 to 55 (fun s46 wx => s46 = .pointer (some ⟨K.pb, 0, none⟩) ∧ ∃ vd', Put K 3 (.slice pd M.length cd) vd' M.length (itRow M) (itCells (it, .slice qe it.ext.length de, .slice qb it.body.length db)) w7 wx)
    case first =>
      go_region_law (first
        | (refine step_append_struct (wr := w7) rfl (.tmp 50) (.tmp 52) 47 rfl K.B 71 _ 6 80 Try.underlying47 info_item rfl (by decide) (.slice pd M.length cd) M.length (itRow M) (itCells (it, .slice qe it.ext.length de, .slice qb it.body.length db)) rfl (by intro u hu; simp only [itCells, List.mem_cons, List.not_mem_nil, or_false] at hu; rcases hu with rfl | rfl | rfl | rfl | rfl | rfl <;> rfl) rfl (by simp [Act.eval]) (by simp [Act.eval]) HR7.out (by unfold maxLen; omega) (by omega) hB7 ?_
           intro v8 w8 h81 h82 h83
           have hc8 := (h82.block K.pb (Array.getElem?_eq_some_iff.1 HC7.out).1 (fun e => HPN7.out e.symm)).trans HC7.out
           have c8 : w8.cell? ⟨K.pb, 3, none⟩ = some (.slice pd M.length cd) := (cell_of_row _ _ 3 _ _ _ hc8).trans rfl
           have f8 : w8.frozen? ⟨K.pb, 3, none⟩ = false := by simp [World.frozen?, hc8]
           have hs8 : ∃ p' n' c', v8 = .slice p' n' c' := by
             rcases h81.2 with ⟨rfl, _⟩ | ⟨g, cap, cur, rfl, _⟩
             · exact ⟨_, _, _, rfl⟩
             · exact ⟨_, _, _, rfl⟩
           obtain ⟨p', n', c', rfl⟩ := hs8
           have HPUT : Hid (Put K 3 (.slice pd M.length cd) (.slice p' n' c') M.length (itRow M) (itCells (it, .slice qe it.ext.length de, .slice qb it.body.length db)) w7 (w8.setCell ⟨K.pb, 3, none⟩ (.slice p' n' c'))) := Lib.hid ⟨w8, h81, h82, h83, rfl⟩
           clear hc8 h81 h82 h83)
        | fail)
      all_goals
        go_wp2_with fail
        go_meet
        exact ⟨rfl, _, HPUT.out⟩
    case rest =>
      obtain ⟨rfl, vd', hput⟩ := hcut
      obtain ⟨f1, f2, f3, f4, f5, f6⟩ := hput.facts HR7.out HC7.out
      have hp8 := HP7.out.putD hput HNW7.out.1 HNW7.out.2
      have hvo := HP7.out.want.vo
      have hk8 := HK7.out.trans (hput.keepO (N := w.heap.size) (hv := hv2) (ve := .slice qe it.ext.length de) (vb := .slice qb it.body.length db) HR7.out HC7.out HP7.out.oo.1 hvo HK7.out.size (fun j hj => by have h1 := HEW.out.1 j hj; have := HXL4.out; have := HXN.out.2.1; have := HN0.out; omega) (fun j hj => by have h1 := HEW.out.2 j hj; have := HXL4.out; have := HXN.out.2.1; have := HN0.out; omega)) (Nat.le_refl _) (Nat.le_refl _)
      have x8 := (f3 x (Array.getElem?_eq_some_iff.1 HX7.out).1 (HYO7.out x (.inl rfl)).1 (HYO7.out x (.inl rfl)).2).trans HX7.out
      have y8 := (f3 y (Array.getElem?_eq_some_iff.1 HY7.out).1 (HYO7.out y (.inr rfl)).1 (HYO7.out y (.inr rfl)).2).trans HY7.out
      have b1 := hp8.came.its (it, .slice pe it.ext.length ce, .slice pb it.body.length cb) (by simp)
      have b2 := hp8.want.its (it, .slice qe it.ext.length de, .slice qb it.body.length db) (by simp)
      have hcall := same6_eq wc it pe qe pb qb _ ce _ cb _ de _ db b1.1.slice.2 b1.2.1.slice.2 b2.1.slice.2 b2.2.1.slice.2
      unfold Itm.val at hcall
      have HP8 := Lib.hid hp8
      have HK8 := Lib.hid hk8
      have u0 : wc.cell? ⟨x, 0, none⟩ = some (.int .i64 it.kind) := (cell_of_row _ _ 0 _ _ _ x8).trans rfl
      have u1 : wc.cell? ⟨x, 1, none⟩ = some (.int .i64 it.proto) := (cell_of_row _ _ 1 _ _ _ x8).trans rfl
      have u2 : wc.cell? ⟨x, 2, none⟩ = some (.int .i64 it.T) := (cell_of_row _ _ 2 _ _ _ x8).trans rfl
      have u3 : wc.cell? ⟨x, 3, none⟩ = some (.int .i64 it.ch) := (cell_of_row _ _ 3 _ _ _ x8).trans rfl
      have u4 : wc.cell? ⟨x, 4, none⟩ = some (.slice pe it.ext.length ce) := (cell_of_row _ _ 4 _ _ _ x8).trans rfl
      have u5 : wc.cell? ⟨x, 5, none⟩ = some (.slice pb it.body.length cb) := (cell_of_row _ _ 5 _ _ _ x8).trans rfl
      have t0 : wc.cell? ⟨y, 0, none⟩ = some (.int .i64 it.kind) := (cell_of_row _ _ 0 _ _ _ y8).trans rfl
      have t1 : wc.cell? ⟨y, 1, none⟩ = some (.int .i64 it.proto) := (cell_of_row _ _ 1 _ _ _ y8).trans rfl
      have t2 : wc.cell? ⟨y, 2, none⟩ = some (.int .i64 it.T) := (cell_of_row _ _ 2 _ _ _ y8).trans rfl
      have t3 : wc.cell? ⟨y, 3, none⟩ = some (.int .i64 it.ch) := (cell_of_row _ _ 3 _ _ _ y8).trans rfl
      have t4 : wc.cell? ⟨y, 4, none⟩ = some (.slice qe it.ext.length de) := (cell_of_row _ _ 4 _ _ _ y8).trans rfl
      have t5 : wc.cell? ⟨y, 5, none⟩ = some (.slice qb it.body.length db) := (cell_of_row _ _ 5 _ _ _ y8).trans rfl
      clear hput f1 f2 f3 f4 f5 f6 hp8 hvo hk8 x8 y8 b1 b2 c3 c3' v0 v1 v2 v3 v4 v5 HP7 HK7 HX7 HY7 HC7 HR7 hB7 HPN7 HNW7
      go_wp2_with fail
      refine hcall.mono ?_
      clear hcall
      rintro e w9 ⟨rfl, hb9⟩
      have HP9 := Lib.hid (HP8.out.below hb9)
      have HK9 := Lib.hid (HK8.out.trans (KeepO.of_below (N := w.heap.size) hb9) (Nat.le_refl _) (Nat.le_refl _))
      clear u0 u1 u2 u3 u4 u5 t0 t1 t2 t3 t4 t5 hb9
      go_wp2_with fail
      go_ret2
      refine ⟨by simp, _, hv2, ⟨fr', rv', vc', vd', _, _, HP9.out, ?_, ?_⟩, HK9.out⟩
      · rw [List.map_append, List.map_append, HLM.out]; rfl
      · rw [List.length_append]; simp; omega
end Go.Proofs.Ytofdpccjpodbhaa
