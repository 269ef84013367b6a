/-
  StreamPlays' walk. Conditions: a script that can be in memory, its steps give at most 2 to the 39th items.
  What the second form's bound gives: the length of a slice, of a string is at most its bulk. No conditions.
  A frame, a list of frames that came in: what lies in memory. Plain lemmas over the form's readings. No conditions.
  A script that came in: what lies in memory. Plain lemmas over the form's readings. No conditions.
-/
import Derived.Test.YtofdpccjpodbhaaMg46
import Derived.Test.YtofdpccjpodbhaaMg24
import Derived.Test.YtofdpccjpodbhaaRows
import Derived.Test.YtofdpccjpodbhaaMg09
import Derived.Deep.Slices
import Derived.Lib.SmallJoins
namespace Go.Proofs.Ytofdpccjpodbhaa
open Go.RowKit
set_option linter.unusedVariables false

theorem Sync.belowK {K : PK} {N N' : Nat} {s : SM} {O O' : Nat → Prop} {hv hv' : Value} {W W' : World} (h : Sync K N s O hv W) (hk : KeepO N' O K.b hv W O' hv' W') : Below K.B W W' := ⟨hk.os, hk.tape, hk.output, hk.size, (h.low hk).1⟩

theorem below_grownN {W W' : World} (h : W.grownBy W' none) : Below W.heap.size W W' := ⟨h.os, h.tape, h.output, h.size, fun k hk => h.block k hk (by simp)⟩

/-- how all stands at first -/
theorem pair_start {w w1 w2 w3 : World} {m : Nat} (hm : 512 ≤ m ∧ m ≤ 1048576) (hb1 : Below w.heap.size w w1) (hst : StS w2 w1.heap.size (w1.heap.size + 1) (SM.new m) (.slice none 0 0)) (hg2 : w1.grownBy w2 none) (hin : InR w3 w2.heap.size (w2.heap.size + 1) 0 (SM.new m) (.slice none 0 0)) (hg3 : w2.grownBy w3 none) :
    Pair ⟨w1.heap.size, w2.heap.size, w3.heap.size, w1.heap.size + 1, w2.heap.size + 1, w.heap.size⟩ 0 (SM.new m) (SM.new m) (.slice none 0 0) (.slice none 0 0) (.slice none 0 0) (.slice none 0 0) [] [] (fun j => j = w3.heap.size ∨ j = w2.heap.size)
      (w3.alloc (.cells #[.pointer (some ⟨w1.heap.size, 0, none⟩), .pointer (some ⟨w2.heap.size, 0, none⟩), .slice none 0 0, .slice none 0 0] 61)) := by
  have hb3 := below_grownN hg3
  have hb4 : Below w3.heap.size w3 (w3.alloc (.cells #[.pointer (some ⟨w1.heap.size, 0, none⟩), .pointer (some ⟨w2.heap.size, 0, none⟩), .slice none 0 0, .slice none 0 0] 61)) := (Below.refl _ w3).alloc (Nat.le_refl _) _
  have s1 := (Array.getElem?_eq_some_iff.1 hst.ins.row).1
  have s2 := (Array.getElem?_eq_some_iff.1 hin.row).1
  have z1 := hb1.size
  have z4 : (w3.alloc (.cells #[.pointer (some ⟨w1.heap.size, 0, none⟩), .pointer (some ⟨w2.heap.size, 0, none⟩), .slice none 0 0, .slice none 0 0] 61)).heap.size = w3.heap.size + 1 := by simp
  have r0 : ∀ W : World, RowsP w.heap.size (.slice none 0 0) [] (fun j => j = w3.heap.size ∨ j = w2.heap.size) W := fun W => ⟨World.ownsRow_nil _ _ _ _, fun j hj => by simp [Value.ownBlock] at hj, fun p hp => by simp at hp, fun p hp => by simp at hp⟩
  refine ⟨(hst.below hb3).below hb4, hin.keep (by omega) (fun j hj => ?_), Rel.new m hm.1, SM.new_ok m hm.2, heap_alloc_new _ _, r0 _, r0 _, List.Pairwise.nil, ⟨.inl rfl, .inr rfl, fun j hj => by simp [Value.ownBlock] at hj⟩, fun j hj => ?_, .inl rfl, fun u hu => by simp [rowsL] at hu, ⟨by show w.heap.size ≤ w1.heap.size; exact z1, fun j hj => by simp [Value.ownBlock] at hj, by show w.heap.size ≤ _; omega⟩⟩
  · rcases hj with rfl | hj
    · exact hb4.block _ s2
    · simp [Value.ownBlock] at hj
  · refine ⟨?_, ?_, ?_, by simp [Value.ownBlock]⟩
    · show w.heap.size ≤ j
      rcases hj with rfl | rfl <;> omega
    · rcases hj with rfl | rfl <;> omega
    · show j ≠ w1.heap.size
      rcases hj with rfl | rfl <;> omega

set_option maxRecDepth 20000 in
set_option maxHeartbeats 4000000 in
theorem plays_walk (w : World) (most : Int) (a : Option Addr) (n c : Nat) (L : List OpIn) (hL : OpsIn w a n c L) :
    Calls Try.prog 8 #[.int .i64 most, .slice a n c] w fun e w' => e = .returned (.bool true) ∧ Below w.heap.size w w' := by
  have hA := awake6_any w
  have HL := Lib.hid hL
  clear hL
  go_enter Try.func8, Try.ntmps8
  go_wp2_with fail
  refine hA.mono ?_
  clear hA
  rintro e w1 ⟨rfl, hb1⟩
  by_cases hm : 512 ≤ most ∧ most ≤ 1048576
  · obtain ⟨m, rfl⟩ : ∃ m : Nat, most = m := ⟨most.toNat, by omega⟩
    have hm' : 512 ≤ m ∧ m ≤ 1048576 := by omega
    have hn := new_ok w1 m hm'
    have HM := Lib.hid hm'
    have HB1 := Lib.hid hb1
    clear hm hm' hb1
    go_wp2_with fail
    refine hn.mono ?_
    clear hn
    rintro e w2 ⟨rfl, hst, hg2⟩
    have hn := rnew_ok w2 m HM.out
    have HS2 := Lib.hid (And.intro hst hg2)
    clear hst hg2
    go_wp2_with fail
    refine hn.mono ?_
    clear hn
    rintro e w3 ⟨rfl, hin, hg3, hz3⟩
    clear hz3
    have hp := pair_start HM.out HB1.out HS2.out.1 HS2.out.2 hin hg3
    go_upto_region 5 with fail
    have hb4 : Below w.heap.size w (w3.alloc (.cells #[.pointer (some ⟨w1.heap.size, 0, none⟩), .pointer (some ⟨w2.heap.size, 0, none⟩), .slice none 0 0, .slice none 0 0] 61)) :=
      (((HB1.out.trans ((below_grownN HS2.out.2).mono HB1.out.size)).trans ((below_grownN hg3).mono (Nat.le_trans HB1.out.size HS2.out.2.size))).alloc (Nat.le_trans HB1.out.size (Nat.le_trans HS2.out.2.size hg3.size)) _)
    generalize (w3.alloc (.cells #[.pointer (some ⟨w1.heap.size, 0, none⟩), .pointer (some ⟨w2.heap.size, 0, none⟩), .slice none 0 0, .slice none 0 0] 61)) = w4 at *
    generalize w1.heap.size = xb at *
    generalize w2.heap.size = xr at *
    generalize w3.heap.size = xp at *
    obtain ⟨K, hK⟩ : ∃ K : PK, (⟨xb, xr, xp, xb + 1, xr + 1, w.heap.size⟩ : PK) = K := ⟨_, rfl⟩
    have hKb : xb = K.b := by rw [← hK]
    have hKr : xr = K.r := by rw [← hK]
    have hKp : xp = K.pb := by rw [← hK]
    have hKB : w.heap.size = K.B := by rw [← hK]
    rw [hK] at hp
    rw [hKb, hKr, hKp]
    have c0 : w4.cell? ⟨K.pb, 0, none⟩ = some (.pointer (some ⟨K.b, 0, none⟩)) := (cell_of_row _ _ 0 _ _ _ hp.cell).trans rfl
    have c1 : w4.cell? ⟨K.pb, 1, none⟩ = some (.pointer (some ⟨K.r, 0, none⟩)) := (cell_of_row _ _ 1 _ _ _ hp.cell).trans rfl
    have HS : Hid (Sync K (costs (L.take 0)) (SM.new m) _ _ w4) := Lib.hid ⟨_, _, _, _, _, _, hp, rfl, by simp⟩
    have HB := Lib.hid hb4
    have HKB := Lib.hid hKB
    clear hp hb4 hK hKb hKr hKp hKB hin hg3 HS2 HB1 HM
    go_wp2_with fail
    go_loopw [7, 8, 9] (fun i x8 x9 wr => ∃ (k : Nat) (s : SM) (O : Nat → Prop) (hv : Value), k ≤ n ∧ i = .int .i64 k ∧ Sync K (costs (L.take k)) s O hv wr ∧ Below w.heap.size w wr) (fun i _ _ _ => n - (intOf i).toNat)
    case atStart => exact ⟨0, _, _, _, Nat.zero_le _, rfl, HS.out, HB.out⟩
    case round =>
      obtain ⟨k, s, O, hv, hkn, rfl, hS, hb⟩ := hrel
      have hFle := HL.out.le
      have hFcap := HL.out.cap
      unfold maxLen at hFcap
      by_cases hk1 : k < n
      · have i1 : (k : Int) < n := by omega
        obtain ⟨bb, o, rfl, hblt, hcell⟩ := HL.out.at_ (by omega)
        have hkF : k < L.length := by rw [HL.out.len]; exact hk1
        have hfk : L[k]? = some L[k] := List.getElem?_eq_getElem hkF
        have hok := HL.out.ok L[k] (List.getElem_mem _)
        have hc := hcell k L[k] hfk
        have htk := costs_take hkF
        have htl := costs_take_le L (k + 1)
        have hsum := HL.out.sum
        generalize L[k] = f at hc hok htk
        obtain ⟨kd, nn, mm, da, dn, dc, data, ma, mn, mc, more⟩ := f
        have e0 : wr.cell? ⟨bb, o + k * 5, none⟩ = some (.int .i64 kd) := (hb.cell (p := ⟨bb, o + k * 5, none⟩) hblt).trans (hc 0 _ rfl)
        have e1 : wr.cell? ⟨bb, o + k * 5 + 1, none⟩ = some (.int .i64 nn) := (hb.cell (p := ⟨bb, o + k * 5 + 1, none⟩) hblt).trans (hc 1 _ rfl)
        have e2 : wr.cell? ⟨bb, o + k * 5 + 2, none⟩ = some (.int .i64 mm) := (hb.cell (p := ⟨bb, o + k * 5 + 2, none⟩) hblt).trans (hc 2 _ rfl)
        have e3 : wr.cell? ⟨bb, o + k * 5 + 3, none⟩ = some (.slice da dn dc) := (hb.cell (p := ⟨bb, o + k * 5 + 3, none⟩) hblt).trans (hc 3 _ rfl)
        have e4 : wr.cell? ⟨bb, o + k * 5 + 4, none⟩ = some (.slice ma mn mc) := (hb.cell (p := ⟨bb, o + k * 5 + 4, none⟩) hblt).trans (hc 4 _ rfl)
        simp only [OpIn.cost] at htk
        have hcall := pplay_any wr K (costs (L.take k)) s O hv kd nn mm da dn dc ma mn mc data more hS (by omega) (hok.d.below hb) hok.dl (by rw [← HKB.out]; exact hok.d.lowA) (hok.m.below hb) hok.ml (by rw [← HKB.out]; exact hok.m.lowA)
        rw [← htk] at hcall
        have HSB := Lib.hid (And.intro hS hb)
        clear hc hok hfk hkF hcell hS hb htk htl hsum
        go_wp2_with fail
        refine hcall.mono ?_
        clear hcall e0 e1 e2 e3 e4
        rintro e w5 hE
        obtain ⟨s5, rfl, O5, hv5, hS5, hk5⟩ := hE
        have hb5 : Below w.heap.size w w5 := HSB.out.2.trans (by rw [HKB.out]; exact HSB.out.1.belowK hk5)
        obtain ⟨fr, rv, vc, vd, L5, M5, hp5, hr5⟩ := hS5
        have hcall := pstate_any w5 K fr s5 hv5 rv vc vd L5 M5 O5 hp5
        have H5 := Lib.hid (And.intro hb5 (And.intro hp5 hr5))
        clear hb5 hp5 hr5 hk5 HSB
        go_wp2_with fail
        refine hcall.mono ?_
        clear hcall
        rintro e w6 ⟨rfl, hb6⟩
        have H6 : Hid (Sync K (costs (L.take (k + 1))) s5 O5 hv5 w6 ∧ Below w.heap.size w w6) := Lib.hid ⟨⟨fr, rv, vc, vd, L5, M5, H5.out.2.1.below hb6, H5.out.2.2⟩, H5.out.1.trans (hb6.mono H5.out.1.size)⟩
        clear hb6 H5
        go_wp2_with fail
        go_roundw
        case rel => exact ⟨k + 1, s5, O5, hv5, by omega, by go_num, H6.out.1, H6.out.2⟩
        case measure => simp [intOf]; omega
      · have i1 : ¬ (k : Int) < n := by omega
        obtain ⟨fr, rv, vc, vd, L5, M5, hp5, hr5, hl5⟩ := hS
        have hcall := pkept_any wr K fr s s hv rv vc vd L5 M5 O hp5 hr5 (by have := costs_take_le L k; have := HL.out.sum; omega)
        have H5 := Lib.hid hb
        clear hb hp5 hr5 hl5
        go_wp2_with fail
        refine hcall.mono ?_
        clear hcall
        rintro e w6 ⟨rfl, hb6⟩
        rw [← HKB.out] at hb6
        have H6 := Lib.hid (H5.out.trans hb6)
        clear hb6 H5
        go_wp2_with fail
        go_ret
        exact ⟨rfl, H6.out⟩
  · have hn := new_bad w1 most hm
    have hr := rnew_bad w1 most hm
    have HB1 := Lib.hid hb1
    clear hb1 hm
    go_wp2_with fail
    refine hn.mono ?_
    clear hn
    rintro e w2 ⟨rfl, rfl⟩
    go_wp2_with fail
    refine hr.mono ?_
    clear hr
    rintro e w3 ⟨rfl, rfl⟩
    go_upto_region 5 with fail
    have hb4 : Below w.heap.size w (w3.alloc (.cells #[.pointer none, .pointer none, .slice none 0 0, .slice none 0 0] 61)) := HB1.out.alloc HB1.out.size _
    have hc4 : (w3.alloc (.cells #[.pointer none, .pointer none, .slice none 0 0, .slice none 0 0] 61)).heap[w3.heap.size]? = some (.cells #[.pointer none, .pointer none, .slice none 0 0, .slice none 0 0] 61 (0, 0)) := heap_alloc_new _ _
    generalize (w3.alloc (.cells #[.pointer none, .pointer none, .slice none 0 0, .slice none 0 0] 61)) = w4 at *
    generalize w3.heap.size = xp at *
    have c0 : w4.cell? ⟨xp, 0, none⟩ = some (.pointer none) := (cell_of_row _ _ 0 _ _ _ hc4).trans rfl
    have c1 : w4.cell? ⟨xp, 1, none⟩ = some (.pointer none) := (cell_of_row _ _ 1 _ _ _ hc4).trans rfl
    have H4 := Lib.hid hb4
    clear hb4 hc4 HB1
    go_wp2_with fail
    go_ret
    exact ⟨rfl, H4.out⟩
end Go.Proofs.Ytofdpccjpodbhaa

namespace Go.Proofs.Ytofdpccjpodbhaa
theorem bulk_pos {H : Type} (d : DataW H) : 1 ≤ Rows.uptoBulk d := by
  cases d with
  | lit l => cases l <;> simp [Rows.uptoBulk]
  | nil => simp [Rows.uptoBulk]
  | ptr d => simp [Rows.uptoBulk]
  | slice elems spare => simp [Rows.uptoBulk]
  | agg parts => simp [Rows.uptoBulk]
  | iface t d => simp [Rows.uptoBulk]
  | map entries => simp [Rows.uptoBulk]
  | held h => simp [Rows.uptoBulk]
theorem bulk_length {H : Type} (l : List (DataW H)) : l.length ≤ Rows.uptoBulkAll l := by
  induction l with
  | nil => simp [Rows.uptoBulkAll]
  | cons x r ih => have := bulk_pos x; simp only [Rows.uptoBulkAll, List.length_cons]; omega
theorem bulk_slice {H : Type} {d : DataW H} {n c : Nat} (h : (n = 0 ∧ d = .nil) ∨ ∃ es sp : List (DataW H), d = .slice es sp ∧ es.length = n ∧ sp.length = c - n) : n ≤ Rows.uptoBulk d := by
  rcases h with ⟨rfl, rfl⟩ | ⟨es, sp, rfl, rfl, _⟩
  · exact Nat.zero_le _
  · have := bulk_length es; simp only [Rows.uptoBulk]; omega
theorem bulk_bound {H : Type} {l : List (DataW H)} (hk : Rows.uptoSmall H l = true) : Rows.uptoBulkAll l ≤ 1048576 := of_decide_eq_true hk
end Go.Proofs.Ytofdpccjpodbhaa

namespace Go.Proofs.Ytofdpccjpodbhaa
open Go.RowKit Go.ChangeShapes Go.WideShapes Go.ChangeAt Go.Deep
set_option linter.unusedVariables false

theorem vlist4 {l : List Value} (h : l.length = 4) : ∃ a b c d, l = [a, b, c, d] := by
  match l, h with
  | [a, b, c, d], _ => exact ⟨a, b, c, d, rfl⟩
theorem bulk_mem {H : Type} {l : List (DataW H)} {d : DataW H} (h : d ∈ l) : Rows.uptoBulk d ≤ Rows.uptoBulkAll l := by
  induction l with
  | nil => cases h
  | cons x r ih =>
    simp only [Rows.uptoBulkAll]
    rcases List.mem_cons.1 h with rfl | h
    · omega
    · have := ih h; omega

section
variable {H : Type} {enc : TypeId × Value → H} {w : World} {fuel : Nat} {x : DataW H × List MemPlace} {a : Option Addr} {n c : Nat}

theorem slice_value1 {P : Program} {e u : TypeId} {v : Value} {y : DataW H × List MemPlace} (ht : P.underlying e = some (.slice u)) (h : DataW.trod enc P w 0 (fun _ => true) true fuel e [v] = some y) : ∃ a n c, v = .slice a n c := by
  rcases open_slice ht h with ⟨hcs, _⟩ | ⟨ad, len, cap, m, k, D, Pl, hcs, _⟩
  · simp only [List.cons.injEq, and_true] at hcs
    exact ⟨_, _, _, hcs⟩
  · simp only [List.cons.injEq, and_true] at hcs
    exact ⟨_, _, _, hcs⟩

theorem frame_open {cs : List Value} (h : DataW.trod enc Try.prog w 0 (fun _ => true) true fuel 24 cs = some x) :
    ∃ f : FrIn, cs = f.cells ∧ BytesIn w f.ea f.ne f.ce f.ext ∧ BytesIn w f.ba f.nb f.cb f.body ∧ f.ne ≤ Rows.uptoBulk x.1 ∧ f.nb ≤ Rows.uptoBulk x.1 ∧ ((Lit.int .i64 f.T).wf = true ∧ (Lit.int .i64 f.C).wf = true) := by
  obtain ⟨y0, y1, y2, y3, n, rfl, hl, h0, h1, h2, h3⟩ := Go.Joins.trod_struct4 Try.underlying24 h
  have hc4 : Try.prog.cellsOf 24 = 4 := by kernel_rfl
  rw [hc4] at hl
  obtain ⟨v0, v1, v2, v3, rfl⟩ := vlist4 hl
  have ci : Try.prog.cellsOf 3 = 1 := by kernel_rfl
  have cb : Try.prog.cellsOf 22 = 1 := by kernel_rfl
  have cu : Try.prog.cellsOf 5 = 1 := by kernel_rfl
  simp only [ci, cb] at h0 h1 h2 h3
  obtain ⟨T, e0, _, w0⟩ := DataW.trod_int Try.underlying3 h0
  obtain ⟨C, e1, _, w1⟩ := DataW.trod_int Try.underlying3 h1
  have h2' : DataW.trod enc Try.prog w 0 (fun _ => true) true n 22 [v2] = some y2 := h2
  have h3' : DataW.trod enc Try.prog w 0 (fun _ => true) true n 22 [v3] = some y3 := h3
  obtain ⟨ea, ne, ce, rfl⟩ := slice_value1 Try.underlying22 h2'
  obtain ⟨ba, nb, cbb, rfl⟩ := slice_value1 Try.underlying22 h3'
  obtain ⟨l2, i2, b2⟩ := ints_open Try.underlying22 Try.underlying5 cu h2'
  obtain ⟨l3, i3, b3⟩ := ints_open Try.underlying22 Try.underlying5 cu h3'
  have e0' : v0 = .int .i64 T := by simpa using e0
  have e1' : v1 = .int .i64 C := by simpa using e1
  subst e0' e1'
  refine ⟨⟨T, C, ea, ne, ce, _, ba, nb, cbb, _⟩, rfl, bytes_of_ints i2, bytes_of_ints i3, ?_, ?_, w0, w1⟩
  · have := bulk_slice b2
    simp only [Rows.uptoBulk, Rows.uptoBulkAll]
    omega
  · have := bulk_slice b3
    simp only [Rows.uptoBulk, Rows.uptoBulkAll]
    omega

theorem choose_lt' {α : Type} [Inhabited α] {n : Nat} {p : Nat → α → Prop} (h : ∀ i, i < n → ∃ x, p i x) : ∃ F : Nat → α, ∀ i, i < n → p i (F i) := by
  refine ⟨fun i => if hi : i < n then (h i hi).choose else default, fun i hi => ?_⟩
  simp only [dif_pos hi]
  exact (h i hi).choose_spec

instance : Inhabited FrIn := ⟨⟨0, 0, none, 0, 0, [], none, 0, 0, []⟩⟩

theorem frames_open (h : DataW.trod enc Try.prog w 0 (fun _ => true) true fuel 27 [.slice a n c] = some x) :
    ∃ L, (Rows.uptoBulk x.1 ≤ 1048576 → FramesIn w a n c L) ∧ ((n = 0 ∧ x.1 = .nil) ∨ ∃ es sp : List (DataW H), x.1 = .slice es sp ∧ es.length = n ∧ sp.length = c - n) := by
  rcases open_slice Try.underlying27 h with ⟨hcs, hx⟩ | ⟨ad, len, cap, m, k, D, Pl, hcs, _, hl, hm, hmm, hx, hcell⟩
  · simp only [List.cons.injEq, Value.slice.injEq, and_true] at hcs
    obtain ⟨rfl, rfl, rfl⟩ := hcs
    exact ⟨[], fun _ => ⟨rfl, Nat.le_refl _, Nat.zero_le _, fun h => absurd h (by omega), fun f hf => by simp at hf⟩, .inl ⟨rfl, by rw [hx]⟩⟩
  · simp only [List.cons.injEq, Value.slice.injEq, and_true] at hcs
    obtain ⟨rfl, rfl, rfl⟩ := hcs
    simp only [if_true] at hmm
    subst hmm
    have hc4 : Try.prog.cellsOf 24 = 4 := by kernel_rfl
    rw [hc4] at hcell
    obtain ⟨F, hF⟩ := choose_lt' (α := FrIn) (n := n) (p := fun i f => w.cells? 0 (ad.add (i * 4)) 4 = some f.cells ∧ BytesIn w f.ea f.ne f.ce f.ext ∧ BytesIn w f.ba f.nb f.cb f.body ∧ f.ne ≤ Rows.uptoBulk (D i) ∧ f.nb ≤ Rows.uptoBulk (D i)) (fun i hi => by
      obtain ⟨cs', h1, h2⟩ := hcell i (by omega)
      obtain ⟨f, rfl, x1, x2, x3, x4, _⟩ := frame_open h2
      exact ⟨f, h1, x1, x2, x3, x4⟩)
    refine ⟨(List.range n).map F, fun hb => ⟨by simp, hl, hm, fun hpos => ?_, fun f hf => ?_⟩, .inr ⟨(List.range n).map D, _, by rw [hx], by simp, by simp⟩⟩
    · obtain ⟨b, o, spot⟩ := ad
      obtain ⟨cs0, h0, _⟩ := hcell 0 (by omega)
      obtain ⟨_, hl0, h0c⟩ := World.cells?_some h0
      have h00 := h0c 0 (by omega)
      have hcs0 : ∃ v, cs0[0]? = some v := ⟨_, List.getElem?_eq_getElem (by omega)⟩
      obtain ⟨v0, hv0⟩ := hcs0
      rw [hv0] at h00
      have hspot : spot = none := by simpa [Addr.add] using World.cell?_spot h00
      subst hspot
      have hadd : ∀ (o' i : Nat), (⟨b, o', none⟩ : Addr).add i = ⟨b, o' + i, none⟩ := fun o' i => by unfold Addr.add; split <;> simp_all
      refine ⟨b, o, rfl, ?_, fun i f hf k v hv => ?_⟩
      · have := World.block_lt_of_cell? w _ h00
        rwa [hadd, hadd] at this
      · have hi : i < n := by
          have := (List.getElem?_eq_some_iff.1 hf).1
          simpa using this
        have hfi : f = F i := by
          rw [List.getElem?_map, List.getElem?_range hi] at hf
          simpa using hf.symm
        subst hfi
        obtain ⟨h1, _⟩ := hF i hi
        obtain ⟨_, _, h1c⟩ := World.cells?_some h1
        have hk : k < 4 := (List.getElem?_eq_some_iff.1 hv).1
        have := h1c k hk
        rw [hadd, hadd] at this
        rw [this, hv]
    · obtain ⟨i, hi, rfl⟩ := List.mem_map.1 hf
      rw [List.mem_range] at hi
      obtain ⟨_, x1, x2, x3, x4⟩ := hF i hi
      have hbi : Rows.uptoBulk (D i) ≤ 1048576 := by
        rw [hx] at hb
        simp only [Rows.uptoBulk] at hb
        have := bulk_mem (H := H) (l := (List.range n).map D) (d := D i) (List.mem_map.2 ⟨i, List.mem_range.2 hi, rfl⟩)
        omega
      exact ⟨x1, x2, by omega, by omega⟩
end
end Go.Proofs.Ytofdpccjpodbhaa

namespace Go.Proofs.Ytofdpccjpodbhaa
open Go.RowKit Go.ChangeShapes Go.WideShapes Go.ChangeAt Go.Deep
set_option linter.unusedVariables false

theorem vlist5 {l : List Value} (h : l.length = 5) : ∃ a b c d e, l = [a, b, c, d, e] := by
  match l, h with
  | [a, b, c, d, e], _ => exact ⟨a, b, c, d, e, rfl⟩

theorem op_bulk {H : Type} {d : DataW H} {n c : Nat} (h : (n = 0 ∧ d = .nil) ∨ ∃ es sp : List (DataW H), d = .slice es sp ∧ es.length = n ∧ sp.length = c - n) : n + 1 ≤ Rows.uptoBulk d := by
  rcases h with ⟨rfl, rfl⟩ | ⟨es, sp, rfl, rfl, _⟩
  · simp [Rows.uptoBulk]
  · have := bulk_length es; simp only [Rows.uptoBulk]; omega

section
variable {H : Type} {enc : TypeId × Value → H} {w : World} {fuel : Nat} {x : DataW H × List MemPlace} {a : Option Addr} {n c : Nat}

theorem op_struct5 {P : Program} {base : Nat} {spare : Nat → Bool} {held : Bool} {t : TypeId} {f0 f1 f2 f3 f4 : Field} {cs : List Value} (ht : P.underlying t = some (.struct #[f0, f1, f2, f3, f4])) (h : DataW.trod enc P w base spare held fuel t cs = some x) :
    ∃ y0 y1 y2 y3 y4 n, x = (.agg [y0.1, y1.1, y2.1, y3.1, y4.1], y0.2 ++ (y1.2 ++ (y2.2 ++ (y3.2 ++ y4.2)))) ∧ cs.length = P.cellsOf t ∧ DataW.trod enc P w base spare held n f0.type ((cs.drop f0.offset).take (P.cellsOf f0.type)) = some y0 ∧
      DataW.trod enc P w base spare held n f1.type ((cs.drop f1.offset).take (P.cellsOf f1.type)) = some y1 ∧ DataW.trod enc P w base spare held n f2.type ((cs.drop f2.offset).take (P.cellsOf f2.type)) = some y2 ∧
      DataW.trod enc P w base spare held n f3.type ((cs.drop f3.offset).take (P.cellsOf f3.type)) = some y3 ∧ DataW.trod enc P w base spare held n f4.type ((cs.drop f4.offset).take (P.cellsOf f4.type)) = some y4 := by
  obtain ⟨xs, n, _, rfl, hl, hlen, hf⟩ := DataW.trod_struct ht h
  match xs, hlen with
  | [y0, y1, y2, y3, y4], _ => exact ⟨y0, y1, y2, y3, y4, n, by simp, hl, by simpa using hf 0 f0 rfl, by simpa using hf 1 f1 rfl, by simpa using hf 2 f2 rfl, by simpa using hf 3 f3 rfl, by simpa using hf 4 f4 rfl⟩

theorem op_open {cs : List Value} (h : DataW.trod enc Try.prog w 0 (fun _ => true) true fuel 64 cs = some x) :
    ∃ f : OpIn, cs = f.cells ∧ BytesIn w f.da f.dn f.dc f.data ∧ BytesIn w f.ma f.mn f.mc f.more ∧ f.dn + f.mn + 6 ≤ Rows.uptoBulk x.1 := by
  obtain ⟨y0, y1, y2, y3, y4, n, rfl, hl, h0, h1, h2, h3, h4⟩ := op_struct5 Try.underlying64 h
  have hc5 : Try.prog.cellsOf 64 = 5 := by kernel_rfl
  rw [hc5] at hl
  obtain ⟨v0, v1, v2, v3, v4, rfl⟩ := vlist5 hl
  have ci : Try.prog.cellsOf 3 = 1 := by kernel_rfl
  have cb : Try.prog.cellsOf 22 = 1 := by kernel_rfl
  have cu : Try.prog.cellsOf 5 = 1 := by kernel_rfl
  simp only [ci, cb] at h0 h1 h2 h3 h4
  obtain ⟨T0, e0, _, w0⟩ := DataW.trod_int Try.underlying3 h0
  obtain ⟨T1, e1, _, w1⟩ := DataW.trod_int Try.underlying3 h1
  obtain ⟨T2, e2, _, w2⟩ := DataW.trod_int Try.underlying3 h2
  have h3' : DataW.trod enc Try.prog w 0 (fun _ => true) true n 22 [v3] = some y3 := h3
  have h4' : DataW.trod enc Try.prog w 0 (fun _ => true) true n 22 [v4] = some y4 := h4
  obtain ⟨ea, ne, ce, rfl⟩ := slice_value1 Try.underlying22 h3'
  obtain ⟨ba, nb, cbb, rfl⟩ := slice_value1 Try.underlying22 h4'
  obtain ⟨l3, i3, b3⟩ := ints_open Try.underlying22 Try.underlying5 cu h3'
  obtain ⟨l4, i4, b4⟩ := ints_open Try.underlying22 Try.underlying5 cu h4'
  have e0' : v0 = .int .i64 T0 := by simpa using e0
  have e1' : v1 = .int .i64 T1 := by simpa using e1
  have e2' : v2 = .int .i64 T2 := by simpa using e2
  subst e0' e1' e2'
  refine ⟨⟨T0, T1, T2, ea, ne, ce, _, ba, nb, cbb, _⟩, rfl, bytes_of_ints i3, bytes_of_ints i4, ?_⟩
  have q3 := op_bulk b3
  have q4 := op_bulk b4
  have p0 := bulk_pos y0.1
  have p1 := bulk_pos y1.1
  have p2 := bulk_pos y2.1
  simp only [Rows.uptoBulk, Rows.uptoBulkAll]
  omega

theorem ops_sum {F : Nat → OpIn} {D : Nat → DataW H} (l : List Nat) (h : ∀ i ∈ l, 2 * (F i).cost ≤ Rows.uptoBulk (D i) * Rows.uptoBulk (D i)) : 2 * costs (l.map F) ≤ Rows.uptoBulkAll (l.map D) * Rows.uptoBulkAll (l.map D) := by
  induction l with
  | nil => simp [costs]
  | cons i r ih =>
    have h1 := h i (List.mem_cons_self ..)
    have h2 := ih (fun j hj => h j (List.mem_cons_of_mem _ hj))
    have h3 := sq_add (Rows.uptoBulk (D i)) (Rows.uptoBulkAll (r.map D))
    simp only [List.map_cons, costs, Rows.uptoBulkAll]
    omega

theorem ops_open (h : DataW.trod enc Try.prog w 0 (fun _ => true) true fuel 54 [.slice a n c] = some x) :
    ∃ L, (Rows.uptoBulk x.1 ≤ 1048576 → OpsIn w a n c L) ∧ ((n = 0 ∧ x.1 = .nil) ∨ ∃ es sp : List (DataW H), x.1 = .slice es sp ∧ es.length = n ∧ sp.length = c - n) := by
  rcases open_slice Try.underlying54 h with ⟨hcs, hx⟩ | ⟨ad, len, cap, m, k, D, Pl, hcs, _, hl, hm, hmm, hx, hcell⟩
  · simp only [List.cons.injEq, Value.slice.injEq, and_true] at hcs
    obtain ⟨rfl, rfl, rfl⟩ := hcs
    exact ⟨[], fun _ => ⟨rfl, Nat.le_refl _, Nat.zero_le _, fun h => absurd h (by omega), fun f hf => by simp at hf, by simp [costs]⟩, .inl ⟨rfl, by rw [hx]⟩⟩
  · simp only [List.cons.injEq, Value.slice.injEq, and_true] at hcs
    obtain ⟨rfl, rfl, rfl⟩ := hcs
    simp only [if_true] at hmm
    subst hmm
    have hc5 : Try.prog.cellsOf 64 = 5 := by kernel_rfl
    rw [hc5] at hcell
    obtain ⟨F, hF⟩ := choose_lt' (α := OpIn) (n := n) (p := fun i f => w.cells? 0 (ad.add (i * 5)) 5 = some f.cells ∧ BytesIn w f.da f.dn f.dc f.data ∧ BytesIn w f.ma f.mn f.mc f.more ∧ f.dn + f.mn + 6 ≤ Rows.uptoBulk (D i)) (fun i hi => by
      obtain ⟨cs', h1, h2⟩ := hcell i (by omega)
      obtain ⟨f, rfl, x1, x2, x3⟩ := op_open h2
      exact ⟨f, h1, x1, x2, x3⟩)
    refine ⟨(List.range n).map F, fun hb => ⟨by simp, hl, hm, fun hpos => ?_, fun f hf => ?_, ?_⟩, .inr ⟨(List.range n).map D, _, by rw [hx], by simp, by simp⟩⟩
    · obtain ⟨b, o, spot⟩ := ad
      obtain ⟨cs0, h0, _⟩ := hcell 0 (by omega)
      obtain ⟨_, hl0, h0c⟩ := World.cells?_some h0
      have h00 := h0c 0 (by omega)
      have hcs0 : ∃ v, cs0[0]? = some v := ⟨_, List.getElem?_eq_getElem (by omega)⟩
      obtain ⟨v0, hv0⟩ := hcs0
      rw [hv0] at h00
      have hspot : spot = none := by simpa [Addr.add] using World.cell?_spot h00
      subst hspot
      have hadd : ∀ (o' i : Nat), (⟨b, o', none⟩ : Addr).add i = ⟨b, o' + i, none⟩ := fun o' i => by unfold Addr.add; split <;> simp_all
      refine ⟨b, o, rfl, ?_, fun i f hf k v hv => ?_⟩
      · have := World.block_lt_of_cell? w _ h00
        rwa [hadd, hadd] at this
      · have hi : i < n := by
          have := (List.getElem?_eq_some_iff.1 hf).1
          simpa using this
        have hfi : f = F i := by
          rw [List.getElem?_map, List.getElem?_range hi] at hf
          simpa using hf.symm
        subst hfi
        obtain ⟨h1, _⟩ := hF i hi
        obtain ⟨_, _, h1c⟩ := World.cells?_some h1
        have hk : k < 5 := (List.getElem?_eq_some_iff.1 hv).1
        have := h1c k hk
        rw [hadd, hadd] at this
        rw [this, hv]
    · obtain ⟨i, hi, rfl⟩ := List.mem_map.1 hf
      rw [List.mem_range] at hi
      obtain ⟨_, x1, x2, x3⟩ := hF i hi
      have hbi : Rows.uptoBulk (D i) ≤ 1048576 := by
        rw [hx] at hb
        simp only [Rows.uptoBulk] at hb
        have := bulk_mem (H := H) (l := (List.range n).map D) (d := D i) (List.mem_map.2 ⟨i, List.mem_range.2 hi, rfl⟩)
        omega
      exact ⟨x1, x2, by omega, by omega⟩
    · have hs := ops_sum (F := F) (D := D) (List.range n) (fun i hi => cost_sq (hF i (List.mem_range.1 hi)).2.2.2)
      rw [hx] at hb
      simp only [Rows.uptoBulk] at hb
      have hq : Rows.uptoBulkAll ((List.range n).map D) ≤ 1048576 := by omega
      have := Nat.mul_le_mul hq hq
      omega
end
end Go.Proofs.Ytofdpccjpodbhaa
