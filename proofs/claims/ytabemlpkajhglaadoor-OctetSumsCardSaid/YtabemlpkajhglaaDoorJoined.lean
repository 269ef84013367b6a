/-
  The walk of OctetJoined: it returns true. Conditions: the two slices lie in memory and have together at most 2097152 places, the decoder's tables stand.
-/
import Derived.Test.YtabemlpkajhglaaDoorLive
import Derived.Test.YtabemlpkajhglaaDoorParts
import Derived.Deep.DeepCutAuto
namespace Go.Proofs.YtabemlpkajhglaaDoor
open Go.RowKit
set_option linter.unusedVariables false

theorem info_bytes : (Tryd.prog.info? 24).map (fun i => (i.zero, i.size, i.bytes)) = some (some (.slice none 0 0), 1, 24) := by kernel_rfl

/-- these values are slices that hold these lists -/
def Vals (w : World) (vs : List Value) (L : List (List UInt8)) : Prop :=
  vs.length = L.length ∧ ∀ i, i < L.length → ∃ ai ci, vs[i]? = some (.slice ai (L.getD i []).length ci) ∧ BytesIn w ai (L.getD i []).length ci (L.getD i [])
theorem Vals.nil (w : World) : Vals w [] [] := ⟨rfl, fun i hi => absurd hi (Nat.not_lt_zero _)⟩
theorem Vals.snoc {w : World} {vs : List Value} {L : List (List UInt8)} (h : Vals w vs L) {a : Option Addr} {n c : Nat} {l : List UInt8} (hl : BytesIn w a n c l) : Vals w (vs ++ [.slice a n c]) (L ++ [l]) := by
  obtain ⟨h1, h2⟩ := h
  refine ⟨by simp [h1], fun i hi => ?_⟩
  rw [List.length_append, List.length_singleton] at hi
  by_cases hlt : i < L.length
  · obtain ⟨ai, ci, e1, e2⟩ := h2 i hlt
    have e3 : (L ++ [l]).getD i [] = L.getD i [] := by simp [List.getD_eq_getElem?_getD, List.getElem?_append_left hlt]
    rw [e3]
    exact ⟨ai, ci, by rw [List.getElem?_append_left (by omega)]; exact e1, e2⟩
  · obtain rfl : i = L.length := by omega
    have e3 : (L ++ [l]).getD L.length [] = l := by simp
    rw [e3, hl.len]
    exact ⟨a, c, by rw [← h1]; simp, hl⟩
theorem Vals.below {w w' : World} {vs : List Value} {L : List (List UInt8)} (h : Vals w vs L) (hb : Below w.heap.size w w') : Vals w' vs L :=
  ⟨h.1, fun i hi => by obtain ⟨ai, ci, e1, e2⟩ := h.2 i hi; exact ⟨ai, ci, e1, e2.below hb⟩⟩
theorem parts_of {w : World} {B T : Nat} {v : Value} {vs : List Value} {L : List (List UInt8)} (h : w.ownsRow B T 1 v L.length vs) (hv : Vals w vs L) :
    ∃ a c, v = .slice a L.length c ∧ PartsIn w a L.length c L := by
  rcases h.2 with ⟨rfl, h0⟩ | ⟨g, cap, cur, rfl, hb, hh, h1, h2, h3, h4⟩
  · exact ⟨none, 0, by rw [h0], rfl, by omega, Nat.zero_le _, fun h => absurd h (by omega)⟩
  · refine ⟨_, cap, rfl, rfl, h1, h2, fun _ => ⟨g, 0, rfl, (Array.getElem?_eq_some_iff.1 hh).1, fun i hi => ?_⟩⟩
    obtain ⟨ai, ci, e1, e2⟩ := hv.2 i hi
    refine ⟨ai, ci, ?_, e2⟩
    rw [Nat.zero_add, h.cellAt i (by omega), e1]

set_option maxHeartbeats 2000000 in
theorem joined_walk (w : World) (hT : Tabs w) (a ca : Option Addr) (n c m d : Nat) (l : List UInt8) (cs : List Int) (h : BytesIn w a n c l) (hc : IntsIn .i64 w ca m d cs) (hsum : n + m ≤ 2097152) :
    Calls Tryd.prog 9 #[.slice a n c, .slice ca m d] w fun e w' => e = .returned (.bool true) ∧ Below w.heap.size w w' := by
  go_enter Tryd.func9, Tryd.ntmps9
  go_wp2_with fail
  refine (live_any w hT).mono ?_
  rintro e w1 ⟨rfl, hb1⟩
  have h1 := h.below hb1
  have hc1 := hc.below hb1
  have hnc := h1.le
  have hcm := h1.cap
  have hmd := hc1.le
  have hdm := hc1.cap
  unfold maxLen at hcm hdm
  clear h hc
  go_wp2_with fail
  go_loopw [6, 7, 8] (fun v t i wr => ∃ (k A : Nat) (L : List (List UInt8)) (vs : List Value), k ≤ m ∧ A ≤ n ∧ Hid (L.length = k) ∧ t = .int .i64 A ∧ i = .int .i64 k ∧ Hid (L.flatten = l.take A) ∧ Hid (wr.ownsRow w1.heap.size 24 1 v L.length vs) ∧ Hid (Vals w1 vs L) ∧ Below w1.heap.size w1 wr) (fun _ _ i _ => m - (intOf i).toNat)
  case atStart => exact ⟨0, 0, [], [], by omega, by omega, Lib.hid rfl, rfl, rfl, Lib.hid rfl, Lib.hid (World.ownsRow_nil _ _ _ _), Lib.hid (Vals.nil _), Below.refl _ _⟩
  case round =>
    obtain ⟨k, A, L, vs, hk, hA, HL, rfl, rfl, HF, HO, HV, hB⟩ := hrel
    by_cases hlt : k < m
    · obtain ⟨b2, o2, rfl, hb2, hcell⟩ := hc1.at_ (by omega)
      have hx := (hB.cell (p := ⟨b2, o2 + k, none⟩) hb2).trans (hcell k hlt)
      have hxb := bd_i64 (hc1.wf (cs.getD k 0) (by rw [List.getD_eq_getElem?_getD, List.getElem?_eq_getElem (by rw [hc1.len]; exact hlt)]; exact List.getElem_mem _))
      obtain ⟨x, hxx⟩ : ∃ x, cs.getD k 0 = x := ⟨_, rfl⟩
      rw [hxx] at hx hxb
      obtain ⟨hx1, hx2⟩ := hxb
      clear hxx hcell
      go_upto_region 8 with fail
      go_cut [32] (fun s32 wx => wr = wx ∧ ∃ bb : Bool, s32 = .bool bb ∧ (bb = false → 0 ≤ x ∧ x ≤ (n : Int) - (A : Int)))
      case first =>
        by_cases hneg : x < 0
        · go_wp2_with fail
          go_meet
          case rel => exact ⟨rfl, true, rfl, fun h => by cases h⟩
        · by_cases hgt : (n : Int) - (A : Int) < x
          · go_wp2_with fail
            go_meet
            case rel => exact ⟨rfl, true, rfl, fun h => by cases h⟩
          · go_wp2_with fail
            go_meet
            case rel => exact ⟨rfl, false, rfl, fun _ => by omega⟩
      case rest =>
      obtain ⟨rfl, bb, rfl, hbb⟩ := hcut
      have HBB := Lib.hid hbb
      clear hbb
      go_upto_if 32 with fail
      go_cut [9] (fun s9 wx => wr = wx ∧ ∃ K : Nat, s9 = .int .i64 K ∧ A + K ≤ n)
      case first =>
        cases bb with
        | true =>
          go_wp2_with fail
          go_meet
          case rel => exact ⟨rfl, 0, rfl, by omega⟩
        | false =>
          have := HBB.out rfl
          clear HBB
          obtain ⟨h01, h02⟩ := this
          go_wp2_with fail
          go_meet
          case rel => exact ⟨rfl, x.toNat, by rw [Int.toNat_of_nonneg h01], by omega⟩
      case rest =>
        obtain ⟨rfl, K, rfl, hAK⟩ := hcut
        have H1 := Lib.hid h1
        by_cases hcA : c = A
        · obtain rfl : K = 0 := by omega
          obtain rfl : A = n := by omega
          obtain rfl : c = A := hcA
          clear h1
          go_wp2_with (at_builtin; refine wpList_append_val rfl (.tmp 33) (.tmp 40) 28 rfl w1.heap.size 24 (.slice none 0 0) 24 Tryd.underlying28 info_bytes rfl _ _ _ _ ?hy rfl rfl HO.out ?h63 ?hbytes ?hbase ?_)
          case hy => rfl
          case h63 => rw [HL.out]; unfold maxLen; omega
          case hbytes => rw [HL.out]; omega
          case hbase => exact hB.size
          intro v' w' hown' hg hbel' hnew
          have HOW := Lib.hid hown'
          clear hown' hg hnew
          go_wp2_with fail
          go_roundw
          case measure => simp [intOf]; omega
          case rel =>
            refine ⟨k + 1, c, L ++ [[]], _, by omega, by omega, Lib.hid (by simp [HL.out]), by go_num, by go_num, Lib.hid ?_, Lib.hid (show w'.ownsRow _ _ _ _ (L ++ [[]]).length _ from by rw [List.length_append]; exact HOW.out), Lib.hid (HV.out.snoc (BytesIn.empty a)), hB.trans hbel'⟩
            rw [List.flatten_append, HF.out]; simp
        · obtain ⟨b1, o1, rfl, hb1', _⟩ := h1.at_ (by omega)
          have HSB := Lib.hid (h1.sub A K hAK)
          clear h1
          go_wp2_with (at_builtin; refine wpList_append_val rfl (.tmp 33) (.tmp 40) 28 rfl w1.heap.size 24 (.slice none 0 0) 24 Tryd.underlying28 info_bytes rfl _ _ _ _ ?hy2 rfl rfl HO.out ?h632 ?hbytes2 ?hbase2 ?_)
          case hy2 => rfl
          case h632 => rw [HL.out]; unfold maxLen; omega
          case hbytes2 => rw [HL.out]; omega
          case hbase2 => exact hB.size
          intro v' w' hown' hg hbel' hnew
          have HOW := Lib.hid hown'
          clear hown' hg hnew
          go_wp2_with fail
          go_roundw
          case measure => simp [intOf]; omega
          case rel =>
            refine ⟨k + 1, A + K, L ++ [(l.drop A).take K], _, by omega, by omega, Lib.hid (by simp [HL.out]), by go_num, by go_num, Lib.hid ?_, Lib.hid (show w'.ownsRow _ _ _ _ (L ++ [(l.drop A).take K]).length _ from by rw [List.length_append]; exact HOW.out), Lib.hid (HV.out.snoc HSB.out), hB.trans hbel'⟩
            rw [List.flatten_append, HF.out, List.take_add]; simp
    · obtain rfl : m = k := by omega
      have H1 := Lib.hid h1
      by_cases hcA : c = A
      · obtain rfl : A = n := by omega
        obtain rfl : c = A := hcA
        clear h1
        go_wp2_with (at_builtin; refine wpList_append_val rfl (.tmp 45) (.tmp 49) 28 rfl w1.heap.size 24 (.slice none 0 0) 24 Tryd.underlying28 info_bytes rfl _ _ _ _ ?hy3 rfl rfl HO.out ?h633 ?hbytes3 ?hbase3 ?_)
        case hy3 => rfl
        case h633 => rw [HL.out]; unfold maxLen; omega
        case hbytes3 => rw [HL.out]; omega
        case hbase3 => exact hB.size
        intro v' w' hown' hg hbel' hnew
        have hL' : (L ++ [[]]).length = m + 1 := by rw [List.length_append, HL.out]; rfl
        have hown2 : w'.ownsRow w1.heap.size 24 1 v' (L ++ [[]]).length (vs ++ [.slice a 0 0]) := by rw [List.length_append]; exact hown'
        have hB' := hB.trans hbel'
        obtain ⟨pa, pc, hpv, hpp⟩ := parts_of hown2 ((HV.out.snoc (BytesIn.empty a)).below hB')
        have hflat : (L ++ [[]]).flatten = l := by rw [List.flatten_append, HF.out, List.take_of_length_le (by rw [H1.out.len]; exact Nat.le_refl _)]; simp
        have hs := sum_any w' pa _ pc _ hpp
        rw [hflat, hL'] at hs
        rw [hL'] at hpv
        have hpb := hpp.cap
        have hpb2 := hpp.le
        rw [hL'] at hpb2
        have HS := Lib.hid hs
        have HB' := Lib.hid hB'
        clear hs hown' hown2 hg hnew hflat hL' hpp hbel' hB
        subst hpv
        unfold maxLen at hpb
        go_wp2_with fail
        refine HS.out.mono ?_
        rintro e w4 ⟨rfl, hb4⟩
        have hB4 : Below w1.heap.size w1 w4 := HB'.out.trans (hb4.mono HB'.out.size)
        go_wp2_with fail
        refine (sum_one w4 _ _ _ l (H1.out.below hB4)).mono ?_
        rintro e w5 ⟨rfl, hb5⟩
        have hB5 : Below w.heap.size w w5 := hb1.trans ((hB4.trans (hb5.mono hB4.size)).mono hb1.size)
        clear hb5 hB4
        go_wp2_with fail
        go_ret
        exact ⟨rfl, hB5⟩
      · obtain ⟨b1, o1, rfl, hb1', _⟩ := h1.at_ (by omega)
        have HSB := Lib.hid (h1.sub A (n - A) (by omega))
        clear h1
        go_wp2_with (at_builtin; refine wpList_append_val rfl (.tmp 45) (.tmp 49) 28 rfl w1.heap.size 24 (.slice none 0 0) 24 Tryd.underlying28 info_bytes rfl _ _ _ _ ?hy4 rfl rfl HO.out ?h634 ?hbytes4 ?hbase4 ?_)
        case hy4 => rfl
        case h634 => rw [HL.out]; unfold maxLen; omega
        case hbytes4 => rw [HL.out]; omega
        case hbase4 => exact hB.size
        intro v' w' hown' hg hbel' hnew
        have hL' : (L ++ [(l.drop A).take (n - A)]).length = m + 1 := by rw [List.length_append, HL.out]; rfl
        have hown2 : w'.ownsRow w1.heap.size 24 1 v' (L ++ [(l.drop A).take (n - A)]).length (vs ++ [.slice (some ⟨b1, o1 + A, none⟩) (n - A) (c - A)]) := by rw [List.length_append]; exact hown'
        have hB' := hB.trans hbel'
        obtain ⟨pa, pc, hpv, hpp⟩ := parts_of hown2 ((HV.out.snoc HSB.out).below hB')
        have hflat : (L ++ [(l.drop A).take (n - A)]).flatten = l := by rw [List.flatten_append, HF.out, List.flatten_singleton, List.take_of_length_le (l := l.drop A) (by rw [List.length_drop, H1.out.len]; exact Nat.le_refl _), List.take_append_drop]
        have hs := sum_any w' pa _ pc _ hpp
        rw [hflat, hL'] at hs
        rw [hL'] at hpv
        have hpb := hpp.cap
        have hpb2 := hpp.le
        rw [hL'] at hpb2
        have HS := Lib.hid hs
        have HB' := Lib.hid hB'
        clear hs hown' hown2 hg hnew hflat hL' hpp hbel' hB
        subst hpv
        unfold maxLen at hpb
        go_wp2_with fail
        refine HS.out.mono ?_
        rintro e w4 ⟨rfl, hb4⟩
        have hB4 : Below w1.heap.size w1 w4 := HB'.out.trans (hb4.mono HB'.out.size)
        go_wp2_with fail
        refine (sum_one w4 _ _ _ l (H1.out.below hB4)).mono ?_
        rintro e w5 ⟨rfl, hb5⟩
        have hB5 : Below w.heap.size w w5 := hb1.trans ((hB4.trans (hb5.mono hB4.size)).mono hb1.size)
        clear hb5 hB4
        go_wp2_with fail
        go_ret
        exact ⟨rfl, hB5⟩
end Go.Proofs.YtabemlpkajhglaaDoor
