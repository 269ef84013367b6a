/-
  The reference's Free. Conditions: its session lies in memory.
-/
import Derived.Test.YtbkimebmoafbnaaMg15
namespace Go.Proofs.Ytbkimebmoafbnaa
open Go.RowKit Go.Maps
set_option linter.unusedVariables false

theorem RTo.behind {w w1 w' : World} {r B : Nat} {s' : SS} {hs' : List Int} {rs' : List (Int × Int)} {vh vr vs va vh1 vr1 vs1 va1 : Value} (hb : ∀ j, RBlk r vh1 vr1 vs1 va1 j → RBlk r vh vr vs va j ∨ w.heap.size ≤ j) (hm : RMv r vh vr vs va w w1)
    (k : RTo w1 w' r B s' hs' rs' vh1 vr1 vs1 va1) : RTo w w' r B s' hs' rs' vh vr vs va := by
  obtain ⟨vh', vr', vs', va', h1, h2, h3⟩ := k
  refine ⟨vh', vr', vs', va', h1, fun j hj => ?_, ⟨h3.os.trans hm.os, h3.tape.trans hm.tape, h3.output.trans hm.output, Nat.le_trans hm.size h3.size, fun j hj hn => ?_⟩⟩
  · rcases h2 j hj with q | q
    · exact hb j q
    · exact .inr (Nat.le_trans hm.size q)
  · refine (h3.block j (Nat.lt_of_lt_of_le hj hm.size) (fun q => ?_)).trans (hm.block j hj hn)
    rcases hb j q with q | q
    · exact hn q
    · omega

def woZ (n : Int) (L : List Int) : List Int := L.filter fun q => decide (q ≠ n)
def woP (n : Int) (L : List (Int × Int)) : List (Int × Int) := L.filter fun q => decide (q.2 ≠ n)
theorem woZ_no {n : Int} {L : List Int} {k : Nat} (hk : k < L.length) (h : L[k] = n) : woZ n (L.take (k + 1)) = woZ n (L.take k) := filter_take_no hk (by simp [h])
theorem woZ_yes {n : Int} {L : List Int} {k : Nat} (hk : k < L.length) (h : L[k] ≠ n) : woZ n (L.take (k + 1)) = woZ n (L.take k) ++ [L[k]] := filter_take_yes hk (by simp [h])
theorem woZ_le (n : Int) (L : List Int) (k : Nat) : (woZ n (L.take k)).length ≤ k := filter_take_len
theorem woP_no {n : Int} {L : List (Int × Int)} {k : Nat} (hk : k < L.length) (h : L[k].2 = n) : woP n (L.take (k + 1)) = woP n (L.take k) := filter_take_no hk (by simp [h])
theorem woP_yes {n : Int} {L : List (Int × Int)} {k : Nat} (hk : k < L.length) (h : L[k].2 ≠ n) : woP n (L.take (k + 1)) = woP n (L.take k) ++ [L[k]] := filter_take_yes hk (by simp [h])
theorem woP_le (n : Int) (L : List (Int × Int)) (k : Nat) : (woP n (L.take k)).length ≤ k := filter_take_len
theorem pairRow_snoc (l : List (Int × Int)) (p : Int × Int) : pairRow (l ++ [p]) = pairRow l ++ [.int .i64 p.1, .int .i64 p.2] := by simp [pairRow]

/-- the reference's pairs behind a Free -/
def rsFree (s : SS) (rs : List (Int × Int)) (n : Int) : List (Int × Int) := if n ∈ s.rem.map Prod.fst then woP n rs else rs
theorem free_keys (s : SS) (n : Int) : (s.free n).rem.map Prod.fst = woZ n (s.rem.map Prod.fst) := by
  show (s.rem.filter _).map Prod.fst = _
  unfold woZ
  rw [List.filter_map]
  rfl

set_option maxRecDepth 20000 in
set_option maxHeartbeats 4000000 in
theorem rfree_any (w : World) (r B : Nat) (s : SS) (rs : List (Int × Int)) (vh vr vs va : Value) (n : Int) (h : RX w r B s (s.rem.map Prod.fst) rs vh vr vs va) (hl1 : s.rem.length ≤ 1073741824) (hl2 : rs.length ≤ 1073741824) (hl3 : s.snd.length ≤ 1073741824) (hl4 : s.arr.length ≤ 1073741824) :
    Calls Try.prog 50 #[.pointer (some ⟨r, 0, none⟩), .int .i64 n] w fun e w' => e = .returned (.int .i64 (freeS s n).2) ∧ RTo w w' r B (freeS s n).1 ((freeS s n).1.rem.map Prod.fst) (rsFree s rs n) vh vr vs va := by
  have hu := rused_any w r B s (s.rem.map Prod.fst) rs vh vr vs va n h.inn
  unfold freeS rsFree
  by_cases hm : n ∈ s.rem.map Prod.fst
  · rw [if_pos hm, if_pos hm]
    rw [decide_eq_true hm] at hu
    simp only []
    rw [free_keys]
    obtain ⟨hs, hhs⟩ : ∃ hs, s.rem.map Prod.fst = hs := ⟨_, rfl⟩
    rw [hhs] at h ⊢
    obtain ⟨N, hN⟩ : ∃ N, hs.length = N := ⟨_, rfl⟩
    have hNl : N ≤ 1073741824 := by rw [← hN, ← hhs]; simpa using hl1
    have hv := h.inn.vh
    rw [hN] at hv
    obtain ⟨p, c, hvh, i1, i2, hc⟩ := int_rd hv hN
    unfold maxLen at i2
    have c13 : w.cell? ⟨r, 13, none⟩ = some vh := h.inn.cs 13 _ rfl
    rw [hvh] at c13
    have HC := Lib.hid hc
    have HN := Lib.hid hN
    have H := Lib.hid h
    have HL := Lib.hid (And.intro hl2 (And.intro hl3 hl4))
    have HVH := Lib.hid hvh
    obtain ⟨i0, hi, hz0, hz1, hz2⟩ := info_parts info_i9
    clear h hc hv hvh hN hhs hm hl1 hl2 hl3 hl4
    go_enter Try.func50, Try.ntmps50
    go_wp2_with fail
    refine hu.mono ?_
    clear hu
    rintro e w ⟨rfl, rfl⟩
    go_wp2_with fail
    go_loopw [6, 7] (fun v6 v7 wr => ∃ (k : Nat) (v : Value), k ≤ N ∧ v7 = .int .i64 k ∧ v6 = v ∧ Below w.heap.size w wr ∧ wr.ownsRow w.heap.size 3 1 v (woZ n (hs.take k)).length ((woZ n (hs.take k)).map encZ)) (fun _ v7 _ => N - (intOf v7).toNat)
    case atStart => exact ⟨0, _, Nat.zero_le _, rfl, rfl, Below.refl _ _, by rw [List.take_zero]; exact World.ownsRow_nil _ _ _ _⟩
    case round =>
      obtain ⟨k, v, hk, rfl, rfl, hb, hrow⟩ := hrel
      have d13 := bs_cell hb c13
      by_cases hkN : (k : Int) < N
      · have hk' : k < N := by omega
        obtain ⟨g, rfl, hcell⟩ := HC.out (by omega)
        have hkL : k < hs.length := by rw [HN.out]; exact hk'
        have ck := bs_cell hb (hcell k hkL)
        have hkl : (woZ n (hs.take k)).length ≤ k := woZ_le n hs k
        by_cases hn : hs[k] = n
        · have htk := woZ_no hkL hn
          have HE := Lib.hid (And.intro hb (show wr.ownsRow w.heap.size 3 1 _ (woZ n (hs.take (k + 1))).length ((woZ n (hs.take (k + 1))).map encZ) by rw [htk]; exact hrow))
          rw [hn] at ck
          clear hb hrow htk hkl hcell hn c13
          go_wp2_with fail
          go_roundw
          case rel => exact ⟨k + 1, _, by omega, by go_num, rfl, HE.out.1, HE.out.2⟩
          case measure => simp [intOf]; omega
        · have htk := woZ_yes hkL hn
          generalize (woZ n (hs.take k)) = F at *
          obtain ⟨q, hq⟩ : ∃ q, hs[k] = q := ⟨_, rfl⟩
          rw [hq] at ck hn htk
          obtain ⟨FL, hFL⟩ : ∃ FL, F.length = FL := ⟨_, rfl⟩
          rw [hFL] at hrow hkl
          have HF := Lib.hid (And.intro htk hFL)
          have HBL := Lib.hid hb
          have HRO := Lib.hid hrow
          have hbz := hb.size
          clear hb hrow htk hFL hcell hq c13
          go_wp2_with (first
            | (at_builtin; refine wpList_append_own _ rfl (.tmp 33) (.tmp 41) 50 rfl w.heap.size 3 i0 _ 1 8 Try.underlying50 hi hz0 hz1 hz2 rfl (by decide) _ _ _ rfl (HRO.out.alloc _) ⟨wr.heap.size, 0, none⟩ 1 1 [.int .i64 q] rfl rfl (fun j u hj => cell_of_newrow hj) (by simp [Value.oneCell']) (by unfold maxLen; omega) (by omega) (by simp; omega) ?_; intro v' w9 hown9 hgrow9 hnil9))
          go_roundw
          case rel => exact ⟨k + 1, _, by omega, by go_num, rfl, ((HBL.out.alloc hbz _).grown hgrow9 (by have := hbz; simp; omega) (fun j e => (HRO.out.lt j e).1)), by rw [HF.out.1, List.length_append, HF.out.2, List.map_append]; exact hown9⟩
          case measure => simp [intOf]; omega
      · have hkN2 : k = N := by omega
        rw [hkN2, List.take_of_length_le (by rw [HN.out]; exact Nat.le_refl _)] at hrow
        have HE := Lib.hid (And.intro hrow hb)
        have f13 := (H.out.below hb).inn.fz 13
        obtain ⟨p9, c9, hv9⟩ := row_slice hrow
        subst hv9
        clear hrow hb c13
        go_upto_region 11 with fail
        have hRT := RX.setH (l' := woZ n hs) (s' := s) H.out (PreV.of_below HE.out.2) (row_mono9 HE.out.1 H.out.inn.le) (fun j hj => .inr (HE.out.1.lt j hj).1) (fun _ _ _ _ => rfl) rfl rfl H.out.inn.ok
        generalize wr.setCell ⟨r, 13, none⟩ (.slice p9 (woZ n hs).length c9) = w1 at *
        obtain ⟨vh1, vr1, vs1, va1, hX1, hB1, hM1⟩ := hRT
        obtain ⟨N2, hN2⟩ : ∃ N2, rs.length = N2 := ⟨_, rfl⟩
        have hv2 := hX1.inn.vr
        rw [hN2] at hv2
        obtain ⟨p2, c2, hvr2, j1, j2, hc2⟩ := pair_rd hv2 hN2
        unfold maxLen at j2
        have c14 : w1.cell? ⟨r, 14, none⟩ = some vr1 := hX1.inn.cs 14 _ rfl
        rw [hvr2] at c14
        have hN2l : N2 ≤ 1073741824 := by have := HL.out.1; omega
        have HC2 := Lib.hid hc2
        have HN2 := Lib.hid hN2
        have HX1 := Lib.hid hX1
        have HT1 := Lib.hid (And.intro hB1 hM1)
        obtain ⟨i02, hi2, hz02, hz12, hz22⟩ := info_parts info_pair
        clear d13 f13 hX1 hB1 hM1 hN2 hv2 hvr2 hc2 HE
        go_wp2_with fail
        go_loopw [8, 9] (fun v8 v9 wr => ∃ (k : Nat) (v : Value), k ≤ N2 ∧ v9 = .int .i64 k ∧ v8 = v ∧ Below w1.heap.size w1 wr ∧ wr.ownsRow w1.heap.size 111 2 v (woP n (rs.take k)).length (pairRow (woP n (rs.take k)))) (fun _ v9 _ => N2 - (intOf v9).toNat)
        case atStart => exact ⟨0, _, Nat.zero_le _, rfl, rfl, Below.refl _ _, by rw [List.take_zero]; exact World.ownsRow_nil _ _ _ _⟩
        case round =>
          obtain ⟨k, v, hk, rfl, rfl, hb, hrow⟩ := hrel
          have d14 := bs_cell hb c14
          by_cases hkN : (k : Int) < N2
          · have hk' : k < N2 := by omega
            obtain ⟨g, rfl, hcell⟩ := HC2.out (by omega)
            have hkL : k < rs.length := by rw [HN2.out]; exact hk'
            obtain ⟨ck0, ck1⟩ := hcell k hkL
            have ck0 := bs_cell hb ck0
            have ck1 := bs_cell hb ck1
            have hkl : (woP n (rs.take k)).length ≤ k := woP_le n rs k
            by_cases hn : rs[k].2 = n
            · have htk := woP_no hkL hn
              have HE := Lib.hid (And.intro hb (show wr.ownsRow w1.heap.size 111 2 _ (woP n (rs.take (k + 1))).length (pairRow (woP n (rs.take (k + 1)))) by rw [htk]; exact hrow))
              rw [hn] at ck1
              clear hb hrow htk hkl hcell hn c14 ck0
              go_wp2_with fail
              go_roundw
              case rel => exact ⟨k + 1, _, by omega, by go_num, rfl, HE.out.1, HE.out.2⟩
              case measure => simp [intOf]; omega
            · have htk := woP_yes hkL hn
              generalize (woP n (rs.take k)) = F at *
              generalize rs[k] = q at ck0 ck1 hn htk
              obtain ⟨qa, qb⟩ := q
              simp only at ck0 ck1 hn htk
              obtain ⟨FL, hFL⟩ : ∃ FL, F.length = FL := ⟨_, rfl⟩
              rw [hFL] at hrow hkl
              have HF := Lib.hid (And.intro htk hFL)
              have HBL := Lib.hid hb
              have HRO := Lib.hid hrow
              have hbz := hb.size
              clear hb hrow htk hFL hcell c14
              go_wp2_with (first
                | (at_builtin; refine wpList_append_own _ rfl (.tmp 66) (.tmp 74) 86 rfl w1.heap.size 111 i02 _ 2 16 Try.underlying86 hi2 hz02 hz12 hz22 rfl (by decide) _ _ _ rfl (HRO.out.alloc _) ⟨wr.heap.size, 0, none⟩ 1 1 [.int .i64 qa, .int .i64 qb] rfl rfl (fun j u hj => cell_of_newrow hj) (by simp [Value.oneCell']) (by unfold maxLen; omega) (by omega) (by simp; omega) ?_; intro v' w9 hown9 hgrow9 hnil9))
              go_roundw
              case rel => exact ⟨k + 1, _, by omega, by go_num, rfl, ((HBL.out.alloc hbz _).grown hgrow9 (by have := hbz; simp; omega) (fun j e => (HRO.out.lt j e).1)), by rw [HF.out.1, List.length_append, HF.out.2, pairRow_snoc]; exact hown9⟩
              case measure => simp [intOf]; omega
          · have hkN2 : k = N2 := by omega
            rw [hkN2, List.take_of_length_le (by rw [HN2.out]; exact Nat.le_refl _)] at hrow
            have HE := Lib.hid (And.intro hrow hb)
            have f14 := (HX1.out.below hb).inn.fz 14
            obtain ⟨p9, c9, hv9⟩ := row_slice hrow
            subst hv9
            clear hrow hb c14
            go_upto_region 18 with fail
            have hRT := RX.setR (l' := woP n rs) (s' := s) HX1.out (PreV.of_below HE.out.2) (row_mono9 HE.out.1 HX1.out.inn.le) (fun j hj => .inr (HE.out.1.lt j hj).1) (fun _ _ _ _ => rfl) rfl rfl HX1.out.inn.ok
            generalize wr.setCell ⟨r, 14, none⟩ (.slice p9 (woP n rs).length c9) = w2 at *
            obtain ⟨vh2, vr2, vs2, va2, hX2, hB2, hM2⟩ := hRT
            obtain ⟨N3, hN3⟩ : ∃ N3, s.snd.length = N3 := ⟨_, rfl⟩
            obtain ⟨p3, c3, hvs3, hrd3, _⟩ := PndRd.of_row hX2.inn.vs
            have c15 : w2.cell? ⟨r, 15, none⟩ = some vs2 := hX2.inn.cs 15 _ rfl
            rw [hvs3, hN3] at c15
            have hwo := without_any w2 p3 c3 s.snd N3 n hN3 hrd3 (by have := HL.out.2.1; omega)
            have HX2 := Lib.hid hX2
            have HT2 := Lib.hid (And.intro hB2 hM2)
            clear d14 f14 hX2 hB2 hM2 hvs3 hrd3 hN3 HE
            go_wp2_with fail
            refine hwo.mono ?_
            clear hwo
            rintro e w3 ⟨v3, rfl, ho3, hb3⟩
            have d15 := bs_cell hb3 c15
            have f15 := (HX2.out.below hb3).inn.fz 15
            obtain ⟨p9, c9, hv9⟩ := row_slice ho3
            subst hv9
            have HE := Lib.hid (And.intro ho3 hb3)
            clear ho3 hb3 c15
            go_upto_region 19 with fail
            have hRT := RX.setS (l' := woH n s.snd) (s' := { s with snd := woH n s.snd }) HX2.out (PreV.of_below HE.out.2) (row_mono9 HE.out.1 HX2.out.inn.le) (fun j hj => .inr (HE.out.1.lt j hj).1) (fun _ _ _ _ => rfl) rfl rfl ⟨HX2.out.inn.ok.first, HX2.out.inn.ok.no, HX2.out.inn.ok.ow, HX2.out.inn.ok.ni, HX2.out.inn.ok.iw, HX2.out.inn.ok.ri, HX2.out.inn.ok.ro, HX2.out.inn.ok.nd, HX2.out.inn.ok.hm, HX2.out.inn.ok.rh⟩
            generalize w3.setCell ⟨r, 15, none⟩ (.slice p9 (woH n s.snd).length c9) = w4 at *
            obtain ⟨vh4, vr4, vs4, va4, hX4, hB4, hM4⟩ := hRT
            obtain ⟨N4, hN4⟩ : ∃ N4, s.arr.length = N4 := ⟨_, rfl⟩
            obtain ⟨p4, c4, hva4, hrd4, _⟩ := PndRd.of_row hX4.inn.va
            have c16 : w4.cell? ⟨r, 16, none⟩ = some va4 := hX4.inn.cs 16 _ rfl
            rw [hva4] at c16
            simp only [hN4] at c16
            have hwo := without_any w4 p4 c4 s.arr N4 n hN4 hrd4 (by have := HL.out.2.2; omega)
            have HX4 := Lib.hid hX4
            have HT4 := Lib.hid (And.intro hB4 hM4)
            clear d15 f15 hX4 hB4 hM4 hva4 hrd4 hN4 HE
            go_wp2_with fail
            refine hwo.mono ?_
            clear hwo
            rintro e w5 ⟨v5, rfl, ho5, hb5⟩
            have d16 := bs_cell hb5 c16
            have f16 := (HX4.out.below hb5).inn.fz 16
            obtain ⟨p9, c9, hv9⟩ := row_slice ho5
            subst hv9
            have HE := Lib.hid (And.intro ho5 hb5)
            clear ho5 hb5 c16
            go_wp2_with fail
            go_ret
            refine ⟨rfl, ?_⟩
            have hRT := RX.setA (l' := woH n s.arr) (s' := s.free n) HX4.out (PreV.of_below HE.out.2) (row_mono9 HE.out.1 HX4.out.inn.le) (fun j hj => .inr (HE.out.1.lt j hj).1) (fun _ _ _ _ => rfl) rfl rfl (SS.free_ok H.out.inn.ok n)
            exact RTo.behind HT1.out.1 HT1.out.2 (RTo.behind HT2.out.1 HT2.out.2 (RTo.behind HT4.out.1 HT4.out.2 hRT))
  · rw [if_neg hm, if_neg hm]
    rw [decide_eq_false hm] at hu
    have H := Lib.hid h
    clear h hm hl1 hl2 hl3 hl4
    go_enter Try.func50, Try.ntmps50
    go_wp2_with fail
    refine hu.mono ?_
    clear hu
    rintro e w1 ⟨rfl, rfl⟩
    go_wp2_with fail
    go_ret
    exact ⟨rfl, RTo.same H.out rfl⟩
end Go.Proofs.Ytbkimebmoafbnaa
