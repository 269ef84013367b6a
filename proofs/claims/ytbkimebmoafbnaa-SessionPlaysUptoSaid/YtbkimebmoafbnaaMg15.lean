/-
  The reference's Handle, Local, Remote. Conditions: its session lies in memory.
  The reference's Local, Remote. Conditions: its session lies in memory.
  The reference's without, Forget. Conditions: its session lies in memory.
-/
import Derived.Test.YtbkimebmoafbnaaMg14
namespace Go.Proofs.Ytbkimebmoafbnaa
open Go.RowKit Go.Maps
set_option linter.unusedVariables false

theorem info_i9 : (Try.prog.info? 3).map (fun i => (i.zero, i.size, i.bytes)) = some (some (.int .i64 0), 1, 8) := by kernel_rfl
theorem info_pair : (Try.prog.info? 111).map (fun i => (i.zero, i.size, i.bytes)) = some (some (.agg #[.int .i64 0, .int .i64 0]), 2, 16) := by kernel_rfl

def handS (s : SS) (k : Nat) : SS × Int × Int := if s.peer = false then (s, 0, 4) else if 64 ≤ s.rem.length ∨ s.rh < k then (s, 0, 132) else (s.addH k, k, 0)

theorem hand_all (w : World) (K : SK) (s : SS) (k : Nat) (h : SesIn w K s) (hk : Least s.rem k) (hl : s.rem.length ≤ 64) :
    Calls Try.prog 19 #[.pointer (some ⟨K.b, 0, none⟩)] w fun e w' => e = .returned (.tuple #[.int .i64 (handS s k).2.1, .int .i64 (handS s k).2.2]) ∧ SesIn w' K (handS s k).1 ∧ SMv K w w' := by
  unfold handS
  by_cases hp : s.peer = false
  · rw [if_pos hp]
    refine (hand_state w K s h hp).mono ?_
    rintro e w' ⟨rfl, rfl⟩
    exact ⟨rfl, h, SMv.refl _ _⟩
  · rw [if_neg hp]
    refine (hand_any w K s k h (by simpa using hp) hk hl).mono ?_
    intro e w' hh
    split at hh
    · rename_i hb
      obtain ⟨rfl, rfl⟩ := hh
      rw [if_pos hb]
      exact ⟨rfl, h, SMv.refl _ _⟩
    · rename_i hb
      rw [if_neg hb]
      exact hh

set_option maxRecDepth 20000 in
set_option maxHeartbeats 4000000 in
theorem rhand_any (w : World) (r B : Nat) (s : SS) (rs : List (Int × Int)) (vh vr vs va : Value) (k : Nat) (h : RX w r B s (s.rem.map Prod.fst) rs vh vr vs va) (hk : Least s.rem k) (hl : s.rem.length ≤ 64) :
    Calls Try.prog 49 #[.pointer (some ⟨r, 0, none⟩)] w fun e w' => e = .returned (.tuple #[.int .i64 (handS s k).2.1, .int .i64 (handS s k).2.2]) ∧ RTo w w' r B (handS s k).1 ((handS s k).1.rem.map Prod.fst) rs vh vr vs va := by
  have c1 : w.cell? ⟨r, 1, none⟩ = some (.bool s.peer) := h.inn.cs 1 _ rfl
  have c12 : w.cell? ⟨r, 12, none⟩ = some (.int .i64 s.rh) := h.inn.cs 12 _ rfl
  have c13 : w.cell? ⟨r, 13, none⟩ = some vh := h.inn.cs 13 _ rfl
  obtain ⟨N, hN⟩ : ∃ N, s.rem.length = N := ⟨_, rfl⟩
  have hNm : (s.rem.map Prod.fst).length = N := by simpa using hN
  have hv := h.inn.vh
  rw [hNm] at hv
  obtain ⟨p, c, hvh, i1, i2, _⟩ := int_rd hv hNm
  unfold maxLen at i2
  have HV := Lib.hid (And.intro hv hNm)
  have HVH := Lib.hid hvh
  rw [hvh] at c13
  have hoff : (Value.slice p N c).ownBlock ≠ some r := by
    rw [← hvh]
    exact fun e => by have := (h.inn.vh.lt r e).1; have := h.inn.lt; omega
  have hkl := least_le hk.1
  rw [hN] at hkl hl
  have fz := h.inn.fz
  have H := Lib.hid h
  have HK := Lib.hid hk
  have HN := Lib.hid hN
  obtain ⟨D, hD⟩ : ∃ D, handS s k = D := ⟨_, rfl⟩
  have HD := Lib.hid hD
  rw [hD]
  clear h hk hD hv hvh hN hNm
  cases hp : s.peer
  · have hd : D = (s, 0, 4) := by rw [← HD.out, handS, if_pos hp]
    subst hd
    rw [hp] at c1
    clear hp
    go_enter Try.func49, Try.ntmps49
    go_wp2_with fail
    go_ret2
    exact ⟨rfl, RTo.same H.out rfl⟩
  · rw [hp] at c1
    have HP := Lib.hid hp
    clear hp
    by_cases h64 : (64 : Int) ≤ N
    · have hd : D = (s, 0, 132) := by rw [← HD.out, handS, if_neg (by rw [HP.out]; decide), if_pos (.inl (by rw [HN.out]; omega))]
      subst hd
      go_enter Try.func49, Try.ntmps49
      go_wp2_with fail
      go_ret2
      exact ⟨rfl, RTo.same H.out rfl⟩
    · go_enter Try.func49, Try.ntmps49
      go_wp2_with fail
      go_loopw [4, 5] (fun v _ wr => ∃ j : Nat, j ≤ k ∧ v = .int .i64 j ∧ wr = w) (fun v _ _ => k - (intOf v).toNat)
      case atStart => exact ⟨0, Nat.zero_le _, rfl, rfl⟩
      case round =>
        obtain ⟨j, hj, rfl, rfl⟩ := hrel
        have hjN : (j : Int) ≤ N := by omega
        by_cases hjr : (j : Int) ≤ s.rh
        · have hu := rused_any wr r B s (s.rem.map Prod.fst) rs vh vr vs va j H.out.inn
          by_cases hjk : j < k
          · rw [decide_eq_true (HK.out.1 j hjk)] at hu
            have HJ := Lib.hid hjk
            clear hjk
            go_wp2_with fail
            refine hu.mono ?_
            clear hu
            rintro e w2 ⟨rfl, rfl⟩
            go_wp2_with fail
            go_roundw
            case rel => exact ⟨j + 1, HJ.out, by go_num, by first | rfl | trivial⟩
            case measure => have := HJ.out; simp [intOf]; omega
          · obtain rfl : j = k := by omega
            rw [decide_eq_false HK.out.2] at hu
            have hd : D = (s.addH j, (j : Int), 0) := by rw [← HD.out, handS, if_neg (by rw [HP.out]; decide), if_neg (by rw [HN.out]; omega)]
            subst hd
            obtain ⟨i0, hi, hz0, hz1, hz2⟩ := info_parts info_i9
            clear hjk hj
            go_wp2_with fail
            refine hu.mono ?_
            clear hu
            rintro e w2 ⟨rfl, rfl⟩
            go_wp2_with (first
              | (at_builtin; refine wpList_append_two _ rfl (.tmp 45) (.tmp 47) 50 rfl B 3 i0 _ 1 8 Try.underlying50 hi hz0 hz1 hz2 rfl _ _ _ rfl (World.ownsRow.alloc (HVH.out ▸ HV.out.1) _) ⟨w2.heap.size, 0, none⟩ 1 [.int .i64 j] rfl rfl (fun j u hj => cell_of_newrow hj) (by simp [Value.oneCell']) (by unfold maxLen; omega) (by omega) ?_; intro v' w3 hA; have e13 := hA.cell (a := ⟨r, 13, none⟩) (bs_cell ((Below.refl _ _).alloc (Nat.le_refl _) _) c13) hoff; have f13 : w3.frozen? ⟨r, 13, none⟩ = false := (hA.frozen (a := ⟨r, 13, none⟩) (World.block_lt_of_cell? _ _ (bs_cell ((Below.refl _ _).alloc (Nat.le_refl _) _) c13)) hoff).trans ((H.out.below ((Below.refl _ _).alloc (Nat.le_refl _) _)).inn.fz 13); have HA := Lib.hid hA; obtain ⟨p', c', rfl⟩ := hA.slice; clear hA))
            go_ret2
            have hAp := HA.out
            rw [← HVH.out] at hAp
            refine ⟨rfl, ?_⟩
            have e1 : (s.addH j).rem.map Prod.fst = s.rem.map Prod.fst ++ [(j : Int)] := by simp [SS.addH]
            rw [e1]
            refine RX.setH (l' := s.rem.map Prod.fst ++ [(j : Int)]) H.out (PreV.of_app ((Below.refl _ _).alloc (Nat.le_refl _) _) hAp) ?_ (hAp.newer ((Below.refl _ _).alloc (Nat.le_refl _) _)) (fun _ _ _ _ => rfl) rfl rfl (SS.addH_ok H.out.inn.ok _)
            have ho := hAp.owns (Nat.le_trans H.out.inn.le (by simp))
            rw [List.length_append, HV.out.2, List.length_singleton, List.map_append]
            exact ho
        · have hd : D = (s, 0, 132) := by rw [← HD.out, handS, if_neg (by rw [HP.out]; decide), if_pos (.inr (by omega))]
          subst hd
          go_wp2_with fail
          go_ret2
          exact ⟨rfl, RTo.same H.out (by first | rfl | trivial)⟩
end Go.Proofs.Ytbkimebmoafbnaa

namespace Go.Proofs.Ytbkimebmoafbnaa
open Go.RowKit Go.Maps
set_option linter.unusedVariables false

/-- how the reference's pairs stand to the handles -/
def Tie (s : SS) (rs : List (Int × Int)) : Prop := ∀ a b, (a, b) ∈ rs ↔ (b, a) ∈ s.rem ∧ 0 ≤ a

theorem mem_of_get {α : Type} {l : List α} {k : Nat} (hk : k < l.length) : l[k] ∈ l := List.getElem_mem hk

/-- what the reference's Local answers -/
def RLoc (w : World) (rs : List (Int × Int)) (remote : Int) (e : Ending) (w' : World) : Prop :=
  ∃ (hd : Int) (is : Bool), e = .returned (.tuple #[.int .i64 hd, .bool is]) ∧ (is = true → (remote, hd) ∈ rs) ∧ (is = false → hd = 0 ∧ ∀ p ∈ rs, p.1 ≠ remote) ∧ w' = w

set_option maxRecDepth 20000 in
set_option maxHeartbeats 4000000 in
theorem rlocal_any (w : World) (r B : Nat) (s : SS) (hs : List Int) (rs : List (Int × Int)) (vh vr vs va : Value) (remote : Int) (h : RIn w r B s hs rs vh vr vs va) :
    Calls Try.prog 52 #[.pointer (some ⟨r, 0, none⟩), .int .i64 remote] w (RLoc w rs remote) := by
  obtain ⟨N, hN⟩ : ∃ N, rs.length = N := ⟨_, rfl⟩
  have hv := h.vr
  rw [hN] at hv
  obtain ⟨p, c, rfl, h1, h2, hc⟩ := pair_rd hv hN
  unfold maxLen at h2
  have c14 : w.cell? ⟨r, 14, none⟩ = some (.slice p N c) := h.cs 14 _ rfl
  have HC := Lib.hid hc
  have HN := Lib.hid hN
  clear h hv hc hN
  go_enter Try.func52, Try.ntmps52
  go_wp2_with fail
  go_loopw [6] (fun v wr => ∃ k : Nat, k ≤ N ∧ v = .int .i64 k ∧ wr = w ∧ ∀ i (hi : i < (rs.map Prod.fst).length), i < k → (rs.map Prod.fst)[i] ≠ remote) (fun v _ => N - (intOf v).toNat)
  case atStart => exact ⟨0, Nat.zero_le _, rfl, rfl, fun i _ h => by omega⟩
  case round =>
    obtain ⟨k, hk, rfl, rfl, hno⟩ := hrel
    have HNO := Lib.hid hno
    clear hno
    by_cases hkN : (k : Int) < N
    · have hk' : k < N := by omega
      obtain ⟨g, rfl, hcell⟩ := HC.out (by omega)
      have hkl : k < rs.length := by rw [HN.out]; exact hk'
      obtain ⟨ck, dk⟩ := hcell k hkl
      obtain ⟨x, y, hx⟩ : ∃ x y, rs[k] = (x, y) := ⟨_, _, rfl⟩
      have HX := Lib.hid hx
      rw [hx] at ck dk
      simp only at ck dk
      clear hcell hx
      by_cases hxn : x = remote
      · have HE := Lib.hid (show (remote, y) ∈ rs by rw [← hxn, ← HX.out]; exact List.getElem_mem _)
        go_wp2_with fail
        go_ret2
        exact ⟨y, true, rfl, fun _ => HE.out, fun e => (by cases e), by first | rfl | trivial⟩
      · have HE := Lib.hid (not_in_take (l := rs.map Prod.fst) (k := k) (by simpa using hkl) HNO.out (by simp only [List.getElem_map]; rw [HX.out]; exact hxn))
        go_wp2_with fail
        go_roundw
        case rel => exact ⟨k + 1, by omega, by go_num, by first | rfl | trivial, HE.out⟩
        case measure => simp [intOf]; omega
    · have HE := Lib.hid (show remote ∉ rs.map Prod.fst from not_mem_all (fun i hi _ => HNO.out i hi (by have := HN.out; simp at hi; omega)))
      go_wp2_with fail
      go_ret2
      exact ⟨0, false, rfl, fun e => (by cases e), fun _ => ⟨rfl, fun p hp e => HE.out (List.mem_map.2 ⟨p, hp, e⟩)⟩, by first | rfl | trivial⟩

def rBad (s : SS) (rs : List (Int × Int)) (remote n : Int) : Prop := remote < 0 ∨ s.hm < remote ∨ n ∉ s.rem.map Prod.fst ∨ ∃ p ∈ rs, p.1 = remote ∨ p.2 = n
theorem rBad_iff {s : SS} {rs : List (Int × Int)} (ht : Tie s rs) {remote n : Int} : rBad s rs remote n ↔ remBad s remote n := by
  by_cases h0 : remote < 0
  · exact ⟨fun _ => .inl h0, fun _ => .inl h0⟩
  · constructor
    · rintro (q | q | q | ⟨⟨a, b⟩, hp, q⟩)
      · exact .inl q
      · exact .inr (.inl q)
      · exact .inr (.inr (.inr (.inl q)))
      · obtain ⟨h1, h2⟩ := (ht a b).1 hp
        rcases q with q | q
        · exact .inr (.inr (.inl ⟨_, h1, q⟩))
        · exact .inr (.inr (.inr (.inr ⟨_, h1, q, h2⟩)))
    · rintro (q | q | ⟨⟨b, a⟩, hp, q⟩ | q | ⟨⟨b, a⟩, hp, q, q2⟩)
      · exact .inl q
      · exact .inr (.inl q)
      · simp only at q
        exact .inr (.inr (.inr ⟨(a, b), (ht a b).2 ⟨hp, by omega⟩, .inl q⟩))
      · exact .inr (.inr (.inl q))
      · exact .inr (.inr (.inr ⟨(a, b), (ht a b).2 ⟨hp, q2⟩, .inr q⟩))

theorem bind_keys (s : SS) (remote n : Int) : (s.bind remote n).rem.map Prod.fst = s.rem.map Prod.fst := by
  show (s.rem.map _).map Prod.fst = _
  rw [List.map_map]
  refine List.map_congr_left (fun p _ => ?_)
  simp only [Function.comp]
  split
  · simp_all
  · rfl

set_option maxRecDepth 20000 in
set_option maxHeartbeats 4000000 in
theorem rremote_any (w : World) (r B : Nat) (s : SS) (rs : List (Int × Int)) (vh vr vs va : Value) (remote n : Int) (h : RX w r B s (s.rem.map Prod.fst) rs vh vr vs va) (hl : rs.length ≤ 1073741824) :
    Calls Try.prog 51 #[.pointer (some ⟨r, 0, none⟩), .int .i64 remote, .int .i64 n] w fun e w' => (rBad s rs remote n ∧ e = .returned (.int .i64 132) ∧ RTo w w' r B s (s.rem.map Prod.fst) rs vh vr vs va) ∨ (¬ rBad s rs remote n ∧ e = .returned (.int .i64 0) ∧ RTo w w' r B (s.bind remote n) ((s.bind remote n).rem.map Prod.fst) (rs ++ [(remote, n)]) vh vr vs va) := by
  have hu := rused_any w r B s (s.rem.map Prod.fst) rs vh vr vs va n h.inn
  have c11 : w.cell? ⟨r, 11, none⟩ = some (.int .i64 s.hm) := h.inn.cs 11 _ rfl
  have c14 : w.cell? ⟨r, 14, none⟩ = some vr := h.inn.cs 14 _ rfl
  obtain ⟨N, hN⟩ : ∃ N, rs.length = N := ⟨_, rfl⟩
  have hv := h.inn.vr
  rw [hN] at hv hl
  obtain ⟨p, c, hvr, i1, i2, hc⟩ := pair_rd hv hN
  unfold maxLen at i2
  have HV := Lib.hid hv
  have HVR := Lib.hid hvr
  rw [hvr] at c14
  have hoff : (Value.slice p N c).ownBlock ≠ some r := by
    rw [← hvr]
    exact fun e => by have := (h.inn.vr.lt r e).1; have := h.inn.lt; omega
  have H := Lib.hid h
  have HC := Lib.hid hc
  have HN := Lib.hid hN
  clear h hv hvr hc hN
  by_cases h0 : 0 ≤ remote
  · by_cases h1 : remote ≤ s.hm
    · by_cases h2 : n ∈ s.rem.map Prod.fst
      · rw [decide_eq_true h2] at hu
        have H2 := Lib.hid h2
        clear h2
        go_enter Try.func51, Try.ntmps51
        go_wp2_with fail
        refine hu.mono ?_
        clear hu
        rintro e w1 ⟨rfl, rfl⟩
        go_wp2_with fail
        go_loopw [8] (fun v wr => ∃ k : Nat, k ≤ N ∧ v = .int .i64 k ∧ wr = w1 ∧ ∀ i (hi : i < rs.length), i < k → rs[i].1 ≠ remote ∧ rs[i].2 ≠ n) (fun v _ => N - (intOf v).toNat)
        case atStart => exact ⟨0, Nat.zero_le _, rfl, rfl, fun i _ h => by omega⟩
        case round =>
          obtain ⟨k, hk, rfl, rfl, hno⟩ := hrel
          have HNO := Lib.hid hno
          clear hno
          by_cases hkN : (k : Int) < N
          · have hk' : k < N := by omega
            obtain ⟨g, rfl, hcell⟩ := HC.out (by omega)
            have hkl : k < rs.length := by rw [HN.out]; exact hk'
            obtain ⟨ck, dk⟩ := hcell k hkl
            obtain ⟨x, y, hx⟩ : ∃ x y, rs[k] = (x, y) := ⟨_, _, rfl⟩
            have HX := Lib.hid hx
            rw [hx] at ck dk
            simp only at ck dk
            clear hcell hx
            by_cases hxn : x = remote
            · have HE := Lib.hid (show rBad s rs remote n from .inr (.inr (.inr ⟨(x, y), by rw [← HX.out]; exact List.getElem_mem _, .inl hxn⟩)))
              go_wp2_with fail
              go_ret
              exact .inl ⟨HE.out, rfl, RTo.same H.out (by first | rfl | trivial)⟩
            · by_cases hyn : y = n
              · have HE := Lib.hid (show rBad s rs remote n from .inr (.inr (.inr ⟨(x, y), by rw [← HX.out]; exact List.getElem_mem _, .inr hyn⟩)))
                go_wp2_with fail
                go_ret
                exact .inl ⟨HE.out, rfl, RTo.same H.out (by first | rfl | trivial)⟩
              · have HE := Lib.hid (show ∀ i (hi : i < rs.length), i < k + 1 → rs[i].1 ≠ remote ∧ rs[i].2 ≠ n from fun i hi hik => by
                  by_cases e : i = k
                  · subst e
                    rw [HX.out]
                    exact ⟨hxn, hyn⟩
                  · exact HNO.out i hi (by omega))
                have hx' : (x == remote) = false := by simpa using hxn
                have hy' : (y == n) = false := by simpa using hyn
                go_wp2_with fail
                go_roundw
                case rel => exact ⟨k + 1, by omega, by go_num, by first | rfl | trivial, HE.out⟩
                case measure => simp [intOf]; omega
          · have HE := Lib.hid (show ¬ rBad s rs remote n from by
              rintro (q | q | q | ⟨p, hp, q⟩)
              · omega
              · omega
              · exact q H2.out
              · obtain ⟨i, hi, rfl⟩ := List.mem_iff_getElem.1 hp
                have := HNO.out i hi (by have := HN.out; omega)
                rcases q with q | q
                · exact this.1 q
                · exact this.2 q)
            obtain ⟨i0, hi, hz0, hz1, hz2⟩ := info_parts info_pair
            go_wp2_with (first
              | (at_builtin; refine wpList_append_two _ rfl (.tmp 62) (.tmp 66) 86 rfl B 111 i0 _ 2 16 Try.underlying86 hi hz0 hz1 hz2 rfl _ _ _ rfl (World.ownsRow.alloc (HVR.out ▸ HV.out) _) ⟨wr.heap.size, 0, none⟩ 1 [.int .i64 remote, .int .i64 n] rfl rfl (fun j u hj => cell_of_newrow hj) (by simp [Value.oneCell']) (by unfold maxLen; omega) (by omega) ?_; intro v' w3 hA; have e14 := hA.cell (a := ⟨r, 14, none⟩) (bs_cell ((Below.refl _ _).alloc (Nat.le_refl _) _) c14) hoff; have f14 : w3.frozen? ⟨r, 14, none⟩ = false := (hA.frozen (a := ⟨r, 14, none⟩) (World.block_lt_of_cell? _ _ (bs_cell ((Below.refl _ _).alloc (Nat.le_refl _) _) c14)) hoff).trans ((H.out.below ((Below.refl _ _).alloc (Nat.le_refl _) _)).inn.fz 14); have HA := Lib.hid hA; obtain ⟨p', c', rfl⟩ := hA.slice; clear hA))
            go_ret
            have hAp := HA.out
            rw [← HVR.out] at hAp
            refine .inr ⟨HE.out, rfl, ?_⟩
            rw [bind_keys]
            refine RX.setR (l' := rs ++ [(remote, n)]) H.out (PreV.of_app ((Below.refl _ _).alloc (Nat.le_refl _) _) hAp) ?_ (hAp.newer ((Below.refl _ _).alloc (Nat.le_refl _) _)) (fun _ _ _ _ => rfl) rfl rfl (SS.bind_ok H.out.inn.ok _ _)
            have ho := hAp.owns (Nat.le_trans H.out.inn.le (by simp))
            rw [List.length_append, HN.out, List.length_singleton, show pairRow (rs ++ [(remote, n)]) = pairRow rs ++ [.int .i64 remote, .int .i64 n] from by simp [pairRow]]
            exact ho
      · rw [decide_eq_false h2] at hu
        have HE := Lib.hid (show rBad s rs remote n from .inr (.inr (.inl h2)))
        clear h2
        go_enter Try.func51, Try.ntmps51
        go_wp2_with fail
        refine hu.mono ?_
        clear hu
        rintro e w1 ⟨rfl, rfl⟩
        go_wp2_with fail
        go_ret
        exact .inl ⟨HE.out, rfl, RTo.same H.out rfl⟩
    · have HE := Lib.hid (show rBad s rs remote n from .inr (.inl (by omega)))
      go_enter Try.func51, Try.ntmps51
      go_wp2_with fail
      refine hu.mono ?_
      clear hu
      rintro e w1 ⟨rfl, rfl⟩
      go_wp2_with fail
      go_ret
      exact .inl ⟨HE.out, rfl, RTo.same H.out rfl⟩
  · have HE := Lib.hid (show rBad s rs remote n from .inl (by omega))
    go_enter Try.func51, Try.ntmps51
    go_wp2_with fail
    refine hu.mono ?_
    clear hu
    rintro e w1 ⟨rfl, rfl⟩
    go_wp2_with fail
    go_ret
    exact .inl ⟨HE.out, rfl, RTo.same H.out rfl⟩
end Go.Proofs.Ytbkimebmoafbnaa

namespace Go.Proofs.Ytbkimebmoafbnaa
open Go.RowKit Go.Maps
set_option linter.unusedVariables false

theorem filter_take_yes {α : Type} {P : α → Bool} {L : List α} {k : Nat} (hk : k < L.length) (h : P L[k] = true) : (L.take (k + 1)).filter P = (L.take k).filter P ++ [L[k]] := by
  rw [List.take_add_one, List.getElem?_eq_getElem hk, Option.toList_some, List.filter_append, List.filter_cons_of_pos h, List.filter_nil]
theorem filter_take_no {α : Type} {P : α → Bool} {L : List α} {k : Nat} (hk : k < L.length) (h : P L[k] = false) : (L.take (k + 1)).filter P = (L.take k).filter P := by
  rw [List.take_add_one, List.getElem?_eq_getElem hk, Option.toList_some, List.filter_append, List.filter_cons_of_neg (by simp [h]), List.filter_nil, List.append_nil]
theorem filter_take_len {α : Type} {P : α → Bool} {L : List α} {k : Nat} : ((L.take k).filter P).length ≤ k := Nat.le_trans (List.length_filter_le _ _) (by rw [List.length_take]; omega)

/-- deliveries but those of a handle; but one -/
def woH (n : Int) (L : List Pnd) : List Pnd := L.filter fun q => decide (q.h ≠ n)
def woI (n : Int) (L : List Pnd) : List Pnd := L.filter fun q => decide (q.id ≠ n)
theorem woH_no {n : Int} {L : List Pnd} {k : Nat} (hk : k < L.length) (h : L[k].h = n) : woH n (L.take (k + 1)) = woH n (L.take k) := filter_take_no hk (by simp [h])
theorem woH_yes {n : Int} {L : List Pnd} {k : Nat} (hk : k < L.length) (h : L[k].h ≠ n) : woH n (L.take (k + 1)) = woH n (L.take k) ++ [L[k]] := filter_take_yes hk (by simp [h])
theorem woH_le (n : Int) (L : List Pnd) (k : Nat) : (woH n (L.take k)).length ≤ k := filter_take_len
theorem woI_no {n : Int} {L : List Pnd} {k : Nat} (hk : k < L.length) (h : L[k].id = n) : woI n (L.take (k + 1)) = woI n (L.take k) := filter_take_no hk (by simp [h])
theorem woI_yes {n : Int} {L : List Pnd} {k : Nat} (hk : k < L.length) (h : L[k].id ≠ n) : woI n (L.take (k + 1)) = woI n (L.take k) ++ [L[k]] := filter_take_yes hk (by simp [h])
theorem woI_le (n : Int) (L : List Pnd) (k : Nat) : (woI n (L.take k)).length ≤ k := filter_take_len

set_option maxRecDepth 20000 in
set_option maxHeartbeats 4000000 in
theorem without_any (w : World) (p : Option Addr) (c : Nat) (L : List Pnd) (N : Nat) (n : Int) (hN : L.length = N) (h : PndRd w p c L) (hl : N ≤ 1073741824) :
    Calls Try.prog 69 #[.slice p N c, .int .i64 n] w fun e w' => ∃ v, e = .returned v ∧ w'.ownsRow w.heap.size 59 3 v (woH n L).length (pndRow (woH n L)) ∧ Below w.heap.size w w' := by
  obtain ⟨i1, i2, i3⟩ := h.info hN
  have HC := Lib.hid h
  have HN := Lib.hid hN
  obtain ⟨i0, hi, hz0, hz1, hz2⟩ := info_parts info_pend
  clear h hN
  go_enter Try.func69, Try.ntmps69
  go_wp2_with fail
  go_loopw [5, 6] (fun v5 v6 wr => ∃ (k : Nat) (v : Value), k ≤ N ∧ v6 = .int .i64 k ∧ v5 = v ∧ Below w.heap.size w wr ∧ wr.ownsRow w.heap.size 59 3 v (woH n (L.take k)).length (pndRow (woH n (L.take k)))) (fun _ v6 _ => N - (intOf v6).toNat)
  case atStart => exact ⟨0, _, Nat.zero_le _, rfl, rfl, Below.refl _ _, by rw [List.take_zero]; exact World.ownsRow_nil _ _ _ _⟩
  case round =>
    obtain ⟨k, v, hk, rfl, rfl, hb, hrow⟩ := hrel
    by_cases hkN : (k : Int) < N
    · have hk' : k < N := by omega
      obtain ⟨g, rfl⟩ := i3 (by omega)
      have hkL : k < L.length := by rw [HN.out]; exact hk'
      obtain ⟨c0, c1, c2⟩ := (HC.out.below hb).cell g rfl k hkL
      have hkl : (woH n (L.take k)).length ≤ k := woH_le n L k
      by_cases hn : L[k].h = n
      · have htk := woH_no hkL hn
        have HE := Lib.hid (And.intro hb (show wr.ownsRow w.heap.size 59 3 _ (woH n (L.take (k + 1))).length (pndRow (woH n (L.take (k + 1)))) by rw [htk]; exact hrow))
        generalize L[k] = q at c0 c1 c2 hn
        obtain ⟨pid, ph, ptag⟩ := q
        simp only at c0 c1 c2 hn
        subst hn
        clear hb hrow htk hkl
        go_wp2_with fail
        go_roundw
        case rel => exact ⟨k + 1, _, by omega, by go_num, rfl, HE.out.1, HE.out.2⟩
        case measure => simp [intOf]; omega
      · have htk := woH_yes hkL hn
        generalize (woH n (L.take k)) = F at *
        generalize L[k] = q at c0 c1 c2 hn htk
        obtain ⟨pid, ph, ptag⟩ := q
        simp only at c0 c1 c2 hn htk
        obtain ⟨FL, hFL⟩ : ∃ FL, F.length = FL := ⟨_, rfl⟩
        rw [hFL] at hrow hkl
        have HF := Lib.hid (And.intro htk hFL)
        have HBL := Lib.hid hb
        have HRO := Lib.hid hrow
        have hbz := hb.size
        clear hb hrow htk hFL
        go_wp2_with (first
          | (at_builtin; refine wpList_append_own _ rfl (.tmp 20) (.tmp 25) 56 rfl w.heap.size 59 i0 _ 3 32 Try.underlying56 hi hz0 hz1 hz2 rfl (by decide) _ _ _ rfl (HRO.out.alloc _) ⟨wr.heap.size, 0, none⟩ 1 1 [.int .i64 pid, .int .i64 ph, .string ptag] rfl rfl (fun j u hj => cell_of_newrow hj) (by simp [Value.oneCell']) (by unfold maxLen; omega) (by omega) (by simp; omega) ?_; intro v' w9 hown9 hgrow9 hnil9))
        go_roundw
        case rel => exact ⟨k + 1, _, by omega, by go_num, rfl, ((HBL.out.alloc hbz _).grown hgrow9 (by have := hbz; simp; omega) (fun j e => (HRO.out.lt j e).1)), by rw [HF.out.1, List.length_append, HF.out.2, pndRow_snoc]; exact hown9⟩
        case measure => simp [intOf]; omega
    · have hkN2 : k = N := by omega
      rw [hkN2, List.take_of_length_le (by rw [HN.out]; exact Nat.le_refl _)] at hrow
      have HE := Lib.hid (And.intro hrow hb)
      clear hrow hb
      go_wp2_with fail
      go_ret
      exact ⟨_, rfl, HE.out.1, HE.out.2⟩

set_option maxRecDepth 20000 in
set_option maxHeartbeats 4000000 in
theorem rforget_any (w : World) (r B : Nat) (s : SS) (hs : List Int) (rs : List (Int × Int)) (vh vr vs va : Value) (sending : Bool) (n : Int) (h : RX w r B s hs rs vh vr vs va) (hl : (s.way sending).length ≤ 1073741824) :
    Calls Try.prog 48 #[.pointer (some ⟨r, 0, none⟩), .bool sending, .int .i64 n] w fun e w' => e = .returned (.int .i64 (forgetS s sending n).2) ∧ RTo w w' r B (forgetS s sending n).1 hs rs vh vr vs va := by
  have hwy := rway_any w r B s hs rs vh vr vs va sending h.inn
  have c15 : w.cell? ⟨r, 15, none⟩ = some vs := h.inn.cs 15 _ rfl
  have c16 : w.cell? ⟨r, 16, none⟩ = some va := h.inn.cs 16 _ rfl
  obtain ⟨D, hD⟩ : ∃ D, forgetS s sending n = D := ⟨_, rfl⟩
  rw [hD]
  have HD := Lib.hid hD
  have H := Lib.hid h
  obtain ⟨L, hL⟩ : ∃ L, s.way sending = L := ⟨_, rfl⟩
  have HL := Lib.hid hL
  obtain ⟨N, hN⟩ : ∃ N, L.length = N := ⟨_, rfl⟩
  rw [hL, hN] at hl
  rw [hL] at hwy
  have HN := Lib.hid hN
  rw [hN] at hwy
  obtain ⟨i0, hi, hz0, hz1, hz2⟩ := info_parts info_pend
  clear h hD hL hN
  go_enter Try.func48, Try.ntmps48
  go_wp2_with fail
  refine hwy.mono ?_
  clear hwy
  rintro e w1 ⟨p, c, rfl, hrd, _, rfl⟩
  have hnm := numbered_any w1 p c L N n HN.out hrd
  obtain ⟨i1, i2, i3⟩ := hrd.info HN.out
  have HC := Lib.hid hrd
  clear hrd
  by_cases hm : n ∈ L.map Pnd.id
  · rw [decide_eq_true hm] at hnm
    have hd : D = (s.del sending n, 0) := by rw [← HD.out, forgetS, if_pos (by rw [HL.out]; exact hm)]
    subst hd
    clear hm
    go_wp2_with fail
    refine hnm.mono ?_
    clear hnm
    rintro e w ⟨rfl, rfl⟩
    go_wp2_with fail
    go_loopw [9, 10] (fun v5 v6 wr => ∃ (k : Nat) (v : Value), k ≤ N ∧ v6 = .int .i64 k ∧ v5 = v ∧ Below w.heap.size w wr ∧ wr.ownsRow w.heap.size 59 3 v (woI n (L.take k)).length (pndRow (woI n (L.take k)))) (fun _ v6 _ => N - (intOf v6).toNat)
    case atStart => exact ⟨0, _, Nat.zero_le _, rfl, rfl, Below.refl _ _, by rw [List.take_zero]; exact World.ownsRow_nil _ _ _ _⟩
    case round =>
      obtain ⟨k, v, hk, rfl, rfl, hb, hrow⟩ := hrel
      by_cases hkN : (k : Int) < N
      · have hk' : k < N := by omega
        obtain ⟨g, rfl⟩ := i3 (by omega)
        have hkL : k < L.length := by rw [HN.out]; exact hk'
        obtain ⟨c0, c1, c2⟩ := (HC.out.below hb).cell g rfl k hkL
        have hkl : (woI n (L.take k)).length ≤ k := woI_le n L k
        by_cases hn : L[k].id = n
        · have htk := woI_no hkL hn
          have HE := Lib.hid (And.intro hb (show wr.ownsRow w.heap.size 59 3 _ (woI n (L.take (k + 1))).length (pndRow (woI n (L.take (k + 1)))) by rw [htk]; exact hrow))
          generalize L[k] = q at c0 c1 c2 hn
          obtain ⟨pid, ph, ptag⟩ := q
          simp only at c0 c1 c2 hn
          subst hn
          clear hb hrow htk hkl
          go_wp2_with fail
          go_roundw
          case rel => exact ⟨k + 1, _, by omega, by go_num, rfl, HE.out.1, HE.out.2⟩
          case measure => simp [intOf]; omega
        · have htk := woI_yes hkL hn
          generalize (woI n (L.take k)) = F at *
          generalize L[k] = q at c0 c1 c2 hn htk
          obtain ⟨pid, ph, ptag⟩ := q
          simp only at c0 c1 c2 hn htk
          obtain ⟨FL, hFL⟩ : ∃ FL, F.length = FL := ⟨_, rfl⟩
          rw [hFL] at hrow hkl
          have HF := Lib.hid (And.intro htk hFL)
          have HBL := Lib.hid hb
          have HRO := Lib.hid hrow
          have hbz := hb.size
          clear hb hrow htk hFL
          go_wp2_with (first
            | (at_builtin; refine wpList_append_own _ rfl (.tmp 32) (.tmp 37) 56 rfl w.heap.size 59 i0 _ 3 32 Try.underlying56 hi hz0 hz1 hz2 rfl (by decide) _ _ _ rfl (HRO.out.alloc _) ⟨wr.heap.size, 0, none⟩ 1 1 [.int .i64 pid, .int .i64 ph, .string ptag] rfl rfl (fun j u hj => cell_of_newrow hj) (by simp [Value.oneCell']) (by unfold maxLen; omega) (by omega) (by simp; omega) ?_; intro v' w9 hown9 hgrow9 hnil9))
          go_roundw
          case rel => exact ⟨k + 1, _, by omega, by go_num, rfl, ((HBL.out.alloc hbz _).grown hgrow9 (by have := hbz; simp; omega) (fun j e => (HRO.out.lt j e).1)), by rw [HF.out.1, List.length_append, HF.out.2, pndRow_snoc]; exact hown9⟩
          case measure => simp [intOf]; omega
      · have hkN2 : k = N := by omega
        rw [hkN2, List.take_of_length_le (by rw [HN.out]; exact Nat.le_refl _)] at hrow
        have HE := Lib.hid (And.intro hrow hb)
        clear hrow hb
        obtain ⟨p9, c9, hv9⟩ := row_slice HE.out.1
        subst hv9
        cases sending
        · have c16 := bs_cell HE.out.2 c16
          have f16 := (H.out.below HE.out.2).inn.fz 16
          go_wp2_with fail
          go_ret
          exact ⟨rfl, RX.setA (l' := woI n L) (s' := s.del false n) H.out (PreV.of_below HE.out.2) (row_mono9 HE.out.1 H.out.inn.le) (fun j hj => .inr (HE.out.1.lt j hj).1) (fun _ _ _ _ => rfl) rfl (by rw [← HL.out]; rfl) (SS.del_ok H.out.inn.ok _ _)⟩
        · have c15 := bs_cell HE.out.2 c15
          have f15 := (H.out.below HE.out.2).inn.fz 15
          go_wp2_with fail
          go_ret
          exact ⟨rfl, RX.setS (l' := woI n L) (s' := s.del true n) H.out (PreV.of_below HE.out.2) (row_mono9 HE.out.1 H.out.inn.le) (fun j hj => .inr (HE.out.1.lt j hj).1) (fun _ _ _ _ => rfl) (by rw [← HL.out]; rfl) rfl (SS.del_ok H.out.inn.ok _ _)⟩
  · rw [decide_eq_false hm] at hnm
    have hd : D = (s, 131) := by rw [← HD.out, forgetS, if_neg (by rw [HL.out]; exact hm)]
    subst hd
    clear hm
    go_wp2_with fail
    refine hnm.mono ?_
    clear hnm
    rintro e w ⟨rfl, rfl⟩
    go_wp2_with fail
    go_ret
    exact ⟨rfl, RTo.same H.out rfl⟩
end Go.Proofs.Ytbkimebmoafbnaa
