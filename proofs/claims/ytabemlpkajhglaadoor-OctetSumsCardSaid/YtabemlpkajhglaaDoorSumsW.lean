/-
  The walk of OctetSums: it returns true. Conditions: the parts lie in memory, each of at most 2^47 bytes, the list takes at most 2^47 bytes; the decoder's tables stand.
-/
import Derived.Test.YtabemlpkajhglaaDoorSums
import Derived.StillTailTactics
namespace Go.Proofs.YtabemlpkajhglaaDoor
open Go.RowKit
set_option linter.unusedVariables false

theorem apart_kept {v u : Value} (h : Apart v u) : u.ownBlock = none ∨ u.ownBlock ≠ v.ownBlock := by
  rcases h with a1 | a1 | a1
  · cases hv : u.ownBlock with
    | none => exact .inl rfl
    | some b => exact .inr (by rw [a1]; exact fun h => by cases h)
  · exact .inl a1
  · exact .inr (fun h => a1 h.symm)

set_option maxHeartbeats 4000000 in
theorem sums_walk (w : World) (hT : Tabs w) (a : Option Addr) (n c : Nat) (L : List (List UInt8)) (h : PartsIn w a n c L) (hz : n * 24 ≤ 140737488351232) (hsz : ∀ i, i < n → (L.getD i []).length ≤ 140737488351232) :
    Calls Tryd.prog 8 #[.slice a n c] w fun e w' => e = .returned (.bool true) ∧ Below w.heap.size w w' := by
  go_enter Tryd.func8, Tryd.ntmps8
  go_wp2_with fail
  refine (live_any w hT).mono ?_
  rintro e w1 ⟨rfl, hb1⟩
  have h1 := h.below hb1
  have hl := h1.len
  have HL := Lib.hid hl
  have HZ := Lib.hid hsz
  clear h hl hsz
  go_wp2_with fail
  go_loopw [4, 5, 6] (fun vl va i wr => ∃ (k : Nat) (gs : List Nat), k ≤ n ∧ i = .int .i64 k ∧ Lents wr w1.heap.size L k vl va gs ∧ Below w1.heap.size w1 wr) (fun _ _ i _ => n - (intOf i).toNat)
  case atStart => exact ⟨0, [], by omega, rfl, Lents.start _ _ _, Below.refl _ _⟩
  case round =>
    obtain ⟨k, gs, hk, rfl, hI, hB⟩ := hrel
    by_cases hlt : k < n
    · obtain ⟨b, o, rfl, hbl, hcell⟩ := h1.at_ (by have := h1.le; omega)
      obtain ⟨ai, ci, hc, hby⟩ := hcell k hlt
      have hc' := (hB.cell (p := ⟨b, o + k, none⟩) hbl).trans hc
      have hby' := hby.below hB
      clear hc hcell hby
      obtain ⟨p, hp⟩ : ∃ p, L.getD k [] = p := ⟨_, rfl⟩
      have hpz := HZ.out k hlt
      rw [hp] at hc' hby' hpz
      obtain ⟨np, hnp⟩ : ∃ np, p.length = np := ⟨_, rfl⟩
      rw [hnp] at hc' hby' hpz
      have HP := Lib.hid hp
      have HNP := Lib.hid hnp
      clear hp hnp
      go_wp2_with fail
      refine (lent_any wr ai np ci p hby' (by omega)).mono ?_
      rintro e w2 ⟨rfl, hb2, hG2⟩
      have hI2 := hI.below hb2
      have hBw := hB.size
      have hBw2 := hb2.size
      go_wp2_with (at_builtin; refine wpList_append_val rfl (.tmp 28) (.tmp 30) 28 rfl w1.heap.size 24 (.slice none 0 0) 24 Tryd.underlying28 info_bytes rfl _ _ _ _ ?hy rfl rfl hI2.rl ?h63 ?hbytes ?hbase ?_)
      case hy => rfl
      case h63 => unfold maxLen; omega
      case hbytes => omega
      case hbase => omega
      intro vl' w3 r3 g3 hb3 n3
      have hB3 := g3.size
      have hra : w3.ownsRow w1.heap.size 24 1 _ k _ := hI2.ra.kept g3 (apart_kept hI2.ap)
      have HR3 := Lib.hid r3
      have HG3 := Lib.hid g3
      have HN3 := Lib.hid n3
      clear r3 g3 n3
      go_wp2_with (at_builtin; refine wpList_append_val rfl (.tmp 32) (.tmp 34) 28 rfl w1.heap.size 24 (.slice none 0 0) 24 Tryd.underlying28 info_bytes rfl _ _ _ _ ?hy2 rfl rfl hra ?h632 ?hbytes2 ?hbase2 ?_)
      case hy2 => rfl
      case h632 => unfold maxLen; omega
      case hbytes2 => omega
      case hbase2 => omega
      intro va' w4 r4 g4 hb4 n4
      have hstep := hI.step (G := wr.heap.size) (w2 := w2) (w3 := w3) (w4 := w4) (by rw [HL.out]; exact hlt) rfl hBw hb2 (by rw [HP.out]; exact hG2) (by rw [HP.out]; unfold pV; rw [HNP.out]; exact HR3.out) HG3.out HN3.out (by rw [HP.out]; unfold qV; rw [HNP.out]; exact r4) g4 n4
      have HST := Lib.hid hstep
      have hBB : Below w1.heap.size w1 w4 := ((hB.trans (hb2.mono hBw)).trans hb3).trans hb4
      clear hstep r4 g4 n4 hI hI2 hra hG2
      go_wp2_with fail
      go_roundw
      case rel => exact ⟨k + 1, _, by omega, by go_num, HST.out, hBB⟩
      case measure => simp [intOf]; omega
    · obtain rfl : k = n := by omega
      have hIL := hI.cast HL.out
      obtain ⟨pa, pc, hpv, hpp⟩ := parts_of hIL.rl (hIL.vals (fun i hi => HZ.out i (by rw [HL.out] at hi; exact hi)))
      have hs := sum_any wr pa _ pc _ hpp
      have hpb := hpp.cap
      have hpb2 := hpp.le
      rw [HL.out] at hpv hs hpb2
      unfold maxLen at hpb
      have HS := Lib.hid hs
      obtain ⟨aa, ac, hav, hac2, hac1⟩ := hI.raShape
      have HIL := Lib.hid hI
      clear hs hI hpp hIL
      subst hpv
      subst hav
      go_wp2_with fail
      refine HS.out.mono ?_
      rintro e w5 ⟨rfl, hb5⟩
      have hB5 : Below w1.heap.size w1 w5 := hB.trans (hb5.mono hB.size)
      go_wp2_with fail
      refine (refSum_any w5 _ _ _ L (h1.below hB5)).mono ?_
      rintro e w6 ⟨rfl, rfl⟩
      obtain ⟨cs, hcs⟩ : ∃ cs, crcSum L.flatten = cs := ⟨_, rfl⟩
      rw [hcs]
      clear hcs HS
      go_wp2_with fail
      go_loopw [11] (fun i wq => ∃ j : Nat, j ≤ k ∧ i = .int .i64 j ∧ Below w5.heap.size w5 wq) (fun i _ => k - (intOf i).toNat)
      case atStart => exact ⟨0, by omega, rfl, Below.refl _ _⟩
      case round =>
        obtain ⟨j, hj, rfl, hBq⟩ := hrel
        by_cases hjt : j < k
        · have hIq := (HIL.out.below hb5).below hBq
          obtain ⟨g, hg⟩ : ∃ g, aa = some ⟨g, 0, none⟩ := by
            rcases hIq.ra.2 with ⟨e1, e2⟩ | ⟨g, cap, cur, e1, _⟩
            · exact absurd hjt (by omega)
            · simp only [Value.slice.injEq] at e1
              exact ⟨g, e1.1⟩
          subst hg
          have hca := Lents.allcell HL.out hIq j hjt
          obtain ⟨b, o, rfl, hbl, hcell⟩ := h1.at_ (by have := h1.le; omega)
          obtain ⟨ai, ci, hc, hby⟩ := hcell j hjt
          have hBall : Below w1.heap.size w1 wr := hB5.trans (hBq.mono hB5.size)
          have hc' := (hBall.cell (p := ⟨b, o + j, none⟩) hbl).trans hc
          have hby' := hby.below hBall
          obtain ⟨hblk, _⟩ := hIq.blk j hjt
          obtain ⟨p, hp⟩ : ∃ p, L.getD j [] = p := ⟨_, rfl⟩
          have hpz := HZ.out j hjt
          rw [hp] at hc' hby' hpz hblk hca
          obtain ⟨G, hG⟩ : ∃ G, gs.getD j 0 = G := ⟨_, rfl⟩
          rw [hG] at hblk hca
          unfold qV at hca
          obtain ⟨np, hnp⟩ : ∃ np, p.length = np := ⟨_, rfl⟩
          rw [hnp] at hc' hby' hpz hca
          have hd : Below wr.heap.size wr wr.drew := below_drew (Below.refl _ _)
          have hbk := back_any wr.drew G ai np ci p (hby'.below hd) (by omega) (hblk.below hd)
          have hdB : Below w5.heap.size w5 wr.drew := below_drew hBq
          have hsd : wr.drew.heap.size = wr.heap.size := rfl
          have HBK := Lib.hid hbk
          clear hbk hblk hp hG hnp hc hcell hby hIq
          go_wp2_with fail
          go_still_tail 8, (by kernel_rfl)
          change wpList _ _ _ _ _ wr.drew
          generalize wr.drew = wd at *
          go_wp2_with fail
          refine HBK.out.mono ?_
          rintro e w7 ⟨rfl, hb7⟩
          go_wp2_with fail
          go_roundw
          case rel => exact ⟨j + 1, by omega, by go_num, hdB.trans (hb7.mono hdB.size)⟩
          case measure => simp [intOf]; omega
        · obtain rfl : j = k := by omega
          go_wp2_with fail
          go_ret
          exact ⟨rfl, (hb1.trans (hB5.mono hb1.size)).trans (hBq.mono (by have := hb1.size; have := hB5.size; omega))⟩
end Go.Proofs.YtabemlpkajhglaaDoor
