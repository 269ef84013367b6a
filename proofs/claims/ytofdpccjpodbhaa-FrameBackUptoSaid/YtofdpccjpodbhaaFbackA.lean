/-
  The walk of FrameBack: it returns true. Conditions: the slices lie in memory and are not past 2^20 elements, the numbers are ones.
-/
import Derived.Test.YtofdpccjpodbhaaFbM
import Derived.Deep.DeepCutAuto
import Derived.Deep.AppendLies
import Derived.Deep.QuietTactic
import Derived.BigQuiet
import Derived.Deep.RegionLaw
namespace Go.Proofs.Ytofdpccjpodbhaa
open Go.RowKit
set_option linter.unusedVariables false

theorem info_int : (Try.prog.info? 3).map (fun i => (i.zero, i.size, i.bytes)) = some (some (.int .i64 0), 1, 8) := by kernel_rfl
theorem info_frame : (Try.prog.info? 24).map (fun i => (i.zero, i.size, i.bytes)) = some (some (.agg #[.int .i64 0, .int .i64 0, .slice none 0 0, .slice none 0 0]), 4, 64) := by kernel_rfl
theorem sealE_zero {T C : Int} {ne nb : Nat} (h : sealE T C ne nb = 0) : (T = 0 ∨ T = 1) ∧ 0 ≤ C ∧ C ≤ 65535 ∧ (T = 1 → C = 0) ∧ ne % 4 = 0 ∧ ne ≤ 1012 ∧ 8 + ne + nb ≤ 1048576 := by
  unfold sealE at h
  by_cases h1 : T ≠ 0 ∧ T ≠ 1
  · rw [if_pos h1] at h; simp at h
  rw [if_neg h1] at h
  by_cases h2 : C < 0 ∨ 65535 < C ∨ (T = 1 ∧ C ≠ 0)
  · rw [if_pos h2] at h; simp at h
  rw [if_neg h2] at h
  by_cases h3 : ne % 4 ≠ 0 ∨ 1012 < ne
  · rw [if_pos h3] at h; simp at h
  rw [if_neg h3] at h
  by_cases h4 : 1048576 < 8 + ne + nb
  · rw [if_pos h4] at h; simp at h
  omega

theorem row_not_block {w : World} {B T T' k n b : Nat} {v : Value} {xs : List Value} {cs : Array Value} {fr : Nat × Nat} (hv : w.ownsRow B T k v n xs) (hb : w.heap[b]? = some (.cells cs T' fr)) (hT : T ≠ T') : some b ≠ v.ownBlock := by
  rcases hv.2 with ⟨rfl, _⟩ | ⟨g, cap, cur, rfl, _, hh, _⟩
  · simp [Value.ownBlock]
  · intro he
    simp only [Value.ownBlock, Option.some.injEq] at he
    subst he
    rw [hh] at hb
    simp only [Option.some.injEq, Obj.cells.injEq] at hb
    exact hT hb.2.1

theorem step_store_row {P : Program} {w : World} {ops : Array Oper} {o : Oper} {a : Act} {K : Act → World → Prop} {Q : Exit → Act → World → Prop} {E : Prop} (hgd : o.guard = none) (ty : TypeId) (x y : Operand) (ho : o.op = .store ty x y)
    (g : Nat) (cells : Array Value) (hx : a.eval x = .pointer (some ⟨g, 0, none⟩)) (hy : a.eval y = .agg cells)
    (t : TypeId) (old : Array Value) (hg : w.heap[g]? = some (.cells old t (0, 0))) (hi : (P.info? ty).map (·.size) = some cells.size)
    (hold : old.size = cells.size) (h1 : cells.all (·.oneCell') = true) (h : K (a.put o.dst undef) (w.setRow g cells)) :
    if Region.wanted o (yielded ops a.tmps) = true then Oper.wp P o a w K Q else E := by
  have hw : Region.wanted o (yielded ops a.tmps) = true := by simp [Region.wanted, hgd]
  rw [if_pos hw]
  exact wp_store_row ty x y ho g cells hx hy t old hg hi hold h1 h

theorem FB.form {w0 wr : World} {L : List FrIn} {va vp vf : Value} {l : List UInt8} {P : List (Nat × FrIn)} (h : FB w0 wr L va vp vf l P) : ∃ p c, va = .slice p l.length c ∧ BytesIn wr p l.length c l := h.all.bytes

set_option maxHeartbeats 4000000 in
set_option maxRecDepth 20000 in
noncomputable def fbackA (w : World) (a0 a1 a2 a3 : Option Addr) (n0 n1 n2 n3 c0 c1 c2 c3 : Nat) (L : List FrIn) (pr : List Int) (l2 l3 : List UInt8) (cut : Int)
    (hc1 : -9223372036854775808 ≤ cut) (hc2 : cut ≤ 9223372036854775807) (z0 : n0 ≤ 1048576) (z1 : n1 ≤ 1048576) (z2 : n2 ≤ 1048576) (z3 : n3 ≤ 1048576) :
    (R : Prop) ×' (T : Prop) ×' (Hid R → Hid T → FramesIn w a0 n0 c0 L → IntsIn .i64 w a1 n1 c1 pr → BytesIn w a2 n2 c2 l2 → BytesIn w a3 n3 c3 l3 → Calls Try.prog 6 #[.slice a0 n0 c0, .slice a1 n1 c1, .slice a2 n2 c2, .slice a3 n3 c3, .int .i64 cut] w fun e w' => e = .returned (.bool true) ∧ Below w.heap.size w w') :=
  ⟨_, _, fun hR hT hL hp h2 h3 => by
    go_enter Try.func6, Try.ntmps6
    go_wp2_with fail
    refine (awake_any w).mono ?_
    rintro e w1 ⟨rfl, hb1⟩
    have hL1 := hL.below hb1
    have hp1 := hp.below hb1
    have g2 := h2.below hb1
    have g3 := h3.below hb1
    have HB1 := Lib.hid hb1
    have G3 := Lib.hid g3
    have GP := Lib.hid hp1
    have GL := Lib.hid hL1
    have l2l := g2.len
    clear hL hp h2 h3 hb1 g3 hp1 hL1
    go_wp2_with (at_builtin; refine wpList_append_bytes rfl _ _ 22 rfl w1.heap.size 5 Try.underlying22 info_u8 (.slice none 0 0) [] l2 a2 n2 c2 rfl rfl (OwnBytes.nil _ _ _) g2 ?hlen (Nat.le_refl _) ?_)
    case hlen => simp; omega
    intro va wA ho hg
    have hFB : FB w1 wA L va (.slice none 0 0) (.slice none 0 0) l2 [] :=
      ⟨(Below.refl _ _).grown hg (Nat.le_refl _) (fun k hk => by simp [Value.ownBlock] at hk), ho, World.ownsRow_nil _ _ _ _, World.ownsRow_nil _ _ _ _, fun u hu => by simp at hu, fun u hu => by simp at hu⟩
    have HFB := Lib.hid hFB
    clear hFB ho hg g2
    go_wp2_with fail
    go_loopw [12, 13, 14, 15] (fun s12 s13 s14 s15 wr => ∃ (i : Nat) (l : List UInt8) (P : List (Nat × FrIn)), i ≤ n0 ∧ s15 = .int .i64 i ∧ FB w1 wr L s12 s13 s14 l P ∧ P.length ≤ i ∧ l.length ≤ 5048592) (fun _ _ _ s15 _ => n0 - (intOf s15).toNat)
    case atStart => exact ⟨0, l2, [], by omega, rfl, HFB.out, by simp, by omega⟩
    case round =>
      clear HFB
      obtain ⟨i, l, P, hi, rfl, hFB, hPi, hll⟩ := hrel
      obtain ⟨pa, ca, rfl, hby⟩ := hFB.form
      have hcap := hby.cap
      have hle := hby.le
      unfold maxLen at hcap
      obtain ⟨m, hm⟩ : ∃ m, l.length = m := ⟨_, rfl⟩
      have HM := Lib.hid hm
      rw [hm] at hll hle hby hFB ⊢
      have HBY := Lib.hid hby
      have HF := Lib.hid hFB
      clear hm hby hFB
      by_cases hlt : i < n0 ∧ m < 4000000
      · obtain ⟨hlt, hm4⟩ := hlt
        rename_i Z1 Z2 Z3
        revert Z1 w1 HB1 G3 GP GL l2l va wA Z2 Z3 wr u10 u13 u14 u16 u17 u18 u19 u20 u21 u22 u23 u24 u43 u44 u45 u46 u47 u48 u49 u50 u51 u52 u53 u54 u55 u56 u57 u58 u59 u60 u61 u62 u63 u64 u65 u66 u67 u68 u69 u70 u71 u72 u73 u74 u75 u76 u77 u78 u79 u80 u81 u82 u83 u84 u85 u86 u87 u88 u89 u90 u91 u92 u93 u94 u95 u96 u97 u98 u99 u100 u101 u102 u103 u104 u105 u106 u107 u108 u109 u110 u111 u112 u113 u114 u115 u116 u117 u118 u119 u120 u121 u122 u123 u124 u125 u126 u127 u128 u129 u130 u131 u132 u133 u134 u135 u136 u137 u138 u139 u140 u141 u142 u143 u144 u145 u146 u147 u148 u149 u150 u151 u152 u153 u154 u155 u156 u157 u158 u159 u160 i l P hi hPi pa ca hcap m hle hll HM HBY HF hlt hm4
        exact hR.out
      · have hcase : (¬ (i : Int) < (n0 : Int)) ∨ ((i : Int) < (n0 : Int) ∧ ¬ (m : Int) < 4000000) := by omega
        clear hlt
        go_upto_region 8 with fail
        go_cut [51] (fun s51 wx => wr = wx ∧ s51 = .bool false)
        case first =>
          rcases hcase with h1 | ⟨h1, h2⟩ <;>
          · go_wp2_with fail
            go_meet
            case rel => exact ⟨rfl, rfl⟩
        case rest =>
          obtain ⟨rfl, rfl⟩ := hcut
          clear hcase HBY
          have hall := HF.out.all
          have hbs := HF.out.bel.size
          have g3 := G3.out.below HF.out.bel
          rename_i Z1 Z2 Z3 Z4 Z5 Z6 Z7 Z8 Z9 Z10 Z11 Z12 Z13 Z14 Z15 Z16 Z17 Z18 Z19 Z20 Z21 Z22 Z23 Z24 Z25 Z26 Z27 Z28 Z29 Z30 Z31 Z32 Z33 Z34 Z35 Z36 Z37 Z38 Z39 Z40 Z41 Z42 Z43 Z44 Z45 Z46 Z47 Z48 Z49 Z50 Z51 Z52 Z53 Z54 Z55 Z56 Z57 Z58 Z59 Z60 Z61 Z62 Z63 Z64 Z65 Z66 Z67 Z68 Z69 Z70 Z71 Z72 Z73 Z74 Z75 Z76 Z77 Z78 Z79 Z80 Z81 Z82 Z83 Z84 Z85 Z86 Z87 Z88 Z89 Z90 Z91 Z92 Z93 Z94 Z95 Z96 Z97 Z98 Z99 Z100 Z101 Z102 Z103 Z104 Z105 Z106 Z107 Z108 Z109 Z110 Z111 Z112 Z113 Z114 Z115 Z116 Z117 Z118 Z119 Z120 Z121 Z122 Z123 Z124 Z125
          revert Z1 w1 HB1 G3 GP GL l2l va wA Z2 Z3 wr u10 u13 u14 u16 u17 u18 u19 u20 u21 u22 u23 u24 Z4 Z5 Z6 Z7 Z8 Z9 Z10 Z11 u51 Z12 Z13 Z14 Z15 Z16 Z17 Z18 Z19 Z20 Z21 Z22 Z23 Z24 Z25 Z26 Z27 Z28 Z29 Z30 Z31 Z32 Z33 Z34 Z35 Z36 Z37 Z38 Z39 Z40 Z41 Z42 Z43 Z44 Z45 Z46 Z47 Z48 Z49 Z50 Z51 Z52 Z53 Z54 Z55 Z56 Z57 Z58 Z59 Z60 Z61 Z62 Z63 Z64 Z65 Z66 Z67 Z68 Z69 Z70 Z71 Z72 Z73 Z74 Z75 Z76 Z77 Z78 Z79 Z80 Z81 Z82 Z83 Z84 Z85 Z86 Z87 Z88 Z89 Z90 Z91 Z92 Z93 Z94 Z95 Z96 Z97 Z98 Z99 Z100 Z101 Z102 Z103 Z104 Z105 Z106 Z107 Z108 Z109 Z110 Z111 Z112 Z113 Z114 Z115 Z116 Z117 Z118 Z119 Z120 i l P hi hPi pa ca hcap m hle hll HM HF Z121 Z122 Z123 Z124 Z125 u43 u44 u45 u46 u47 u48 u49 u50 u52 u53 u54 u55 u56 u57 u58 u59 u60 u61 u62 u63 u64 u65 u66 u67 u68 u69 u70 u71 u72 u73 u74 u75 u76 u77 u78 u79 u80 u81 u82 u83 u84 u85 u86 u87 u88 u89 u90 u91 u92 u93 u94 u95 u96 u97 u98 u99 u100 u101 u102 u103 u104 u105 u106 u107 u108 u109 u110 u111 u112 u113 u114 u115 u116 u117 u118 u119 u120 u121 u122 u123 u124 u125 u126 u127 u128 u129 u130 u131 u132 u133 u134 u135 u136 u137 u138 u139 u140 u141 u142 u143 u144 u145 u146 u147 u148 u149 u150 u151 u152 u153 u154 u155 u156 u157 u158 u159 u160 hall hbs g3
          exact hT.out⟩
end Go.Proofs.Ytofdpccjpodbhaa
