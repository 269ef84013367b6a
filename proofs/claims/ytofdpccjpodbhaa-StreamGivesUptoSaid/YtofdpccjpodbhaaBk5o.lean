/-
  The contracts of filled and (*book).owned of the statements of layer 5: owned returns true, and changes nothing but the rows of the book. Conditions: the rows are the caller's own, each in a block of its own.
-/
import Derived.Test.YtofdpccjpodbhaaBk5q
namespace Go.Proofs.Ytofdpccjpodbhaa
open Go.RowKit
set_option linter.unusedVariables false

theorem filled_any (w : World) (a : Option Addr) (n c i : Nat) (hi : i ≤ 1152921504606846976) (h : BytesIn w a n c (mk5 i n)) :
    Calls Try.prog 41 #[.slice a n c, .int .i64 i] w fun e w' => e = .returned (.bool true) ∧ ∃ m, w' = w.drewN m := by
  have hn := h.le
  have hc := h.cap
  unfold maxLen at hc
  go_enter Try.func41, Try.ntmps41
  go_wp2_with fail
  go_loopw [5] (fun s5 wr => ∃ k m : Nat, k ≤ n ∧ s5 = .int .i64 k ∧ wr = w.drewN m) (fun s5 _ => n - (intOf s5).toNat)
  case atStart => exact ⟨0, 0, by omega, rfl, by rw [World.drewN_zero]⟩
  case round =>
    obtain ⟨k, m, hk, rfl, rfl⟩ := hrel
    by_cases hlt : k < n
    · obtain ⟨b, o, rfl, hb, hcell⟩ := h.at_ (by omega)
      have hcl := hcell k hlt
      rw [mk5_getD i n k hlt] at hcl
      have hcl' : (w.drewN m).cell? ⟨b, o + k, none⟩ = some (.int .u8 (((i + 1) % 256 : Nat) : Int)) := by
        have e : (UInt8.ofNat (i + 1)).toNat = (i + 1) % 256 := by simp
        rw [← e]; exact hcl
      clear hcl hcell
      go_wp2_with fail
      go_roundw
      case rel => exact ⟨k + 1, m, by omega, by go_num, rfl⟩
      case measure => simp [intOf]; omega
    · obtain rfl : k = n := by omega
      go_wp2_with fail
      go_ret
      exact ⟨rfl, _, rfl⟩

set_option maxHeartbeats 4000000 in
theorem owned5_any (w : World) (B bp : Nat) (vl : Value) (vs : List Value) (nn : Nat → Nat) (hbk : Book5 w B bp vl vs) (hB : B ≤ w.heap.size) (hd : Dist5 vs)
    (hv : ∀ j, j < vs.length → ∃ l : List UInt8, l.length = nn j ∧ RowB w B (vs.getD j default) l) (hN : vs.length ≤ 1000000) (hnn : ∀ j, nn j ≤ 140737488355200) :
    Calls Try.prog 17 #[.pointer (some ⟨bp, 0, none⟩)] w fun e w' => e = .returned (.bool true) ∧ Only5 vs w w' := by
  have hvm : ∀ v ∈ vs, ∃ l, RowB w B v l := fun v hv' => by
    obtain ⟨j, hj, rfl⟩ := List.mem_iff_getElem.1 hv'
    obtain ⟨l, _, h2⟩ := hv j hj
    rw [List.getD_eq_getElem?_getD, List.getElem?_eq_getElem hj] at h2
    exact ⟨l, h2⟩
  have hmem : ∀ j, j < vs.length → vs.getD j default ∈ vs := fun j hj => by
    rw [List.getD_eq_getElem?_getD, List.getElem?_eq_getElem hj]; exact List.getElem_mem hj
  have hlt : ∀ j, j < vs.length → ∀ g, (vs.getD j default).ownBlock = some g → g < w.heap.size := fun j hj g hg => by
    obtain ⟨l, _, h2⟩ := hv j hj
    exact (h2.lt g hg).2
  have hf0 : Fill5 w B vs nn 0 0 := fun j hj => by
    obtain ⟨l, h1, h2⟩ := hv j hj
    exact ⟨l, h1, h2, fun m _ hc => by omega⟩
  -- the list of the lists, in any later world
  have hbook : ∀ wr, Only5 vs w wr → Book5 wr B bp vl vs := fun wr ho => hbk.only hvm ho
  obtain ⟨la, lc, hvl, hlc⟩ : ∃ la lc, vl = .slice la vs.length lc ∧ (0 < vs.length → ∃ g, la = some ⟨g, 0, none⟩) := by
    rcases hbk.row.2 with ⟨e1, e2⟩ | ⟨g, cap, cur, e1, _⟩
    · exact ⟨none, 0, by rw [e1, e2], fun h => by omega⟩
    · exact ⟨_, cap, e1, fun _ => ⟨g, rfl⟩⟩
  subst hvl
  have hitem : ∀ wr, Only5 vs w wr → ∀ i, i < vs.length → ∀ g, la = some ⟨g, 0, none⟩ → wr.cell? ⟨g, i, none⟩ = some (vs.getD i default) := fun wr ho i hi g hg => by
    have h := (hbook wr ho).row
    subst hg
    rw [h.cellAt i (by omega), List.getD_eq_getElem?_getD, List.getElem?_eq_getElem hi]
    rfl
  obtain ⟨N, hNN⟩ : ∃ N, vs.length = N := ⟨_, rfl⟩
  rw [hNN] at hlc
  have HN := Lib.hid hNN
  have HB := Lib.hid hbook
  have HI := Lib.hid hitem
  have HF := Lib.hid hf0
  have HL := Lib.hid hlt
  have HM := Lib.hid hmem
  have HV := Lib.hid hvm
  have hN' : N ≤ 1000000 := by omega
  have hc0 := hbk.cell
  rw [hNN] at hc0
  have hcells : ∀ wr, Only5 vs w wr → wr.cell? ⟨bp, 0, none⟩ = some (.slice la N lc) := fun wr ho => by
    have := (hbook wr ho).cell
    rw [hNN] at this
    exact this
  have HC := Lib.hid hcells
  clear hcells hbook hitem hf0 hlt hmem hvm hNN hv hbk hc0
  have hn63 : lc ≤ lc := Nat.le_refl _
  go_enter Try.func17, Try.ntmps17
  go_wp2_with fail
  go_loopw [3] (fun s3 wr => ∃ i : Nat, i ≤ N ∧ s3 = .int .i64 i ∧ Only5 vs w wr ∧ Fill5 wr B vs nn i 0) (fun s3 _ => N - (intOf s3).toNat)
  case atStart => exact ⟨0, by omega, rfl, Only5.refl _ _, HF.out⟩
  case round =>
    obtain ⟨i, hi, rfl, hO, hF⟩ := hrel
    have hcb := HC.out wr hO
    by_cases hlt : i < N
    · obtain ⟨g, rfl⟩ := hlc (by omega)
      have hcell := HI.out wr hO i (by rw [HN.out]; exact hlt) g rfl
      obtain ⟨l, hll, hl, _⟩ := hF i (by rw [HN.out]; exact hlt)
      obtain ⟨p, c, hpc, hby⟩ := hl.bytes
      rw [hll] at hpc
      have hnni := hnn i
      rw [hpc] at hcell
      have hcc : nn i ≤ c ∧ c ≤ 9223372036854775807 := ⟨by have := hby.le; omega, by have := hby.cap; unfold maxLen at this; omega⟩
      obtain ⟨n, hn⟩ : ∃ n, nn i = n := ⟨_, rfl⟩
      have hpp : 0 < n → ∃ g', p = some ⟨g', 0, none⟩ := fun h0 => by
        obtain ⟨g', cap', e, _⟩ := hl.some_ (by omega)
        rw [hpc] at e
        simp only [Value.slice.injEq] at e
        exact ⟨g', e.1⟩
      rw [hn] at hpc hcell hnni hcc
      have HP := Lib.hid hpc
      have HNI := Lib.hid hn
      have hF' := Lib.hid hF
      clear hpc hn hll hl hby hF
      go_wp2_with fail
      go_loopw [4] (fun s5 wq => ∃ k : Nat, k ≤ n ∧ s5 = .int .i64 k ∧ Only5 vs w wq ∧ Fill5 wq B vs nn i k) (fun s5 _ => n - (intOf s5).toNat)
      case atStart => exact ⟨0, by omega, rfl, hO, hF'.out⟩
      case round =>
        obtain ⟨k, hk, rfl, hO2, hF2⟩ := hrel
        have hcb2 := HC.out _ hO2
        have hcell3 := HI.out _ hO2 i (by rw [HN.out]; exact hlt) g rfl
        rw [HP.out] at hcell3
        by_cases hkt : k < n
        · obtain ⟨g', rfl⟩ := hpp (by omega)
          obtain ⟨l, hll, hl, _⟩ := hF2 i (by rw [HN.out]; exact hlt)
          rw [HP.out] at hl
          rw [HNI.out] at hll
          have hcell2 := hl.cell hll k hkt
          have hfr := hl.frozen hll k
          have hset := hF2.set hd (by rw [HN.out]; exact hlt) (by rw [HNI.out]; exact hkt) (by rw [HP.out, HNI.out])
          have hgr := hO2.grown (setCell_grown wr g' k (.int .u8 (((i + 1) % 256 : Nat) : Int))) (fun k' hk' => by
            simp only [Option.some.injEq] at hk'
            exact .inr ⟨_, HM.out i (by rw [HN.out]; exact hlt), by rw [HP.out, ← hk']; rfl⟩)
          have HS := Lib.hid hset
          have HG := Lib.hid hgr
          clear hset hgr hl hll hF2
          go_wp2_with fail
          go_roundw
          case rel => exact ⟨k + 1, by omega, by go_num, HG.out, HS.out⟩
          case measure => simp [intOf]; omega
        · obtain rfl : k = n := by omega
          go_wp2_with fail
          go_roundw
          case rel => exact ⟨i + 1, by omega, by go_num, hO2, Fill5.next (by rw [HNI.out]; exact hF2)⟩
          case measure => simp [intOf]; omega
    · obtain rfl : i = N := by omega
      have hG0 := GS5.start hO (by rw [HN.out]; exact hF)
      have HG0 := Lib.hid hG0
      clear hG0 hF HF
      go_wp2_with fail
      go_loopw [5, 6] (fun s6 s7 wr => ∃ (j : Nat) (G : List (Value × Nat × Nat)), j ≤ i ∧ s7 = .int .i64 j ∧ GS5 w wr B vs nn s6 G j ∧ G.length = 24 * j ∧ ∀ u ∈ G, u.2.1 < j) (fun _ s7 _ => i - (intOf s7).toNat)
      case atStart => exact ⟨0, [], by omega, rfl, HG0.out, rfl, fun u hu => by simp at hu⟩
      case round =>
        obtain ⟨j, G, hj, rfl, hG, hGl, hGi⟩ := hrel
        have hcb := HC.out wr hG.only
        by_cases hjt : j < i
        · obtain ⟨g, rfl⟩ := hlc (by omega)
          have hcell := HI.out wr hG.only j (by rw [HN.out]; exact hjt) g rfl
          have hK := hG.begin hGi (by rw [HN.out]; exact hjt) hd HL.out
          have hnni := hnn j
          obtain ⟨n, hn⟩ : ∃ n, nn j = n := ⟨_, rfl⟩
          rw [hn] at hnni hK
          obtain ⟨v0, hv0⟩ : ∃ v0, vs.getD j default = v0 := ⟨_, rfl⟩
          rw [hv0] at hcell hK
          have HK := Lib.hid hK
          clear hn hv0 hK hG hGi
          go_wp2_with fail
          go_loopw [5, 7, 8] (fun s6 s8 s9 wq => ∃ (k : Nat) (G : List (Value × Nat × Nat)), k ≤ 24 ∧ s9 = .int .i64 k ∧ GK5 w wq B vs nn s6 G j (n + k) s8 ∧ G.length = 24 * j + k) (fun _ _ s9 _ => 24 - (intOf s9).toNat)
          case atStart => exact ⟨0, G, by omega, rfl, HK.out, hGl⟩
          case round =>
            obtain ⟨k, G, hk, rfl, hK, hGl⟩ := hrel
            by_cases hkt : k < 24
            · obtain ⟨m, hm⟩ : ∃ m, n + k = m := ⟨_, rfl⟩
              have hmb : m ≤ 140737488355224 := by omega
              rw [hm] at hK
              obtain ⟨p, c, hpc, _⟩ := hK.own.bytes
              rw [mk5_length] at hpc
              subst hpc
              have hown := hK.own
              have HM2 := Lib.hid hm
              have hBq : B ≤ wr.heap.size := Nat.le_trans hB hK.only.size
              clear hm
              go_wp2_with (at_builtin; refine wpList_append_rowB rfl (.tmp 66) (.tmp 70) 22 rfl B Try.underlying22 info_u8 _ (mk5 j m) (UInt8.ofNat (j + 1)) _ rfl rfl ?hyv hown ?hlen ?hbase ?_)
              case hyv => simp
              case hlen => rw [mk5_length]; omega
              case hbase => exact hBq
              intro v' w' ho' hg' hf'
              have ho2 : OwnBytes w' B 5 v' (mk5 j m ++ [UInt8.ofNat (j + 1)]) := by simpa using ho'
              have hP := hK.put (by rw [HN.out]; exact hjt) ho2 hg' hf'
              obtain ⟨g2, c2, hv2, _⟩ := ho'.some_ (by simp)
              rw [List.length_append, mk5_length, List.length_singleton] at hv2
              subst hv2
              have hSz : w.heap.size ≤ w'.heap.size := hP.only.size
              have hrw := hP.row
              have HP := Lib.hid hP
              clear hK hown ho' ho2 hg' hf' hP
              go_wp2_with (at_builtin; refine wpList_append_val rfl (.tmp 72) (.tmp 74) 29 rfl w.heap.size 22 (.slice none 0 0) 24 Try.underlying29 info_row5 rfl _ _ _ (.slice (some ⟨g2, 0, none⟩) (m + 1) c2) rfl rfl rfl hrw ?h63 ?hbytes hSz ?_)
              case h63 => unfold maxLen; omega
              case hbytes => omega
              intro gv' w2 hr2 hg2 _ _
              rw [← hGl] at hr2
              have hQ := HP.out.note (by omega) hr2 hg2
              have HQ := Lib.hid hQ
              clear hQ hr2 hg2
              go_wp2_with fail
              go_roundw
              case rel => exact ⟨k + 1, _, by omega, by go_num, by rw [← Nat.add_assoc, HM2.out]; exact HQ.out, by rw [List.length_append, List.length_singleton]; omega⟩
              case measure => simp [intOf]; omega
            · obtain rfl : k = 24 := by omega
              go_wp2_with fail
              go_roundw
              case rel => exact ⟨j + 1, G, by omega, by go_num, hK.next, by omega, fun u hu => by have := (hK.from_ u hu).1; omega⟩
              case measure => simp [intOf]; omega
        · obtain rfl : j = i := by omega
          have HG := Lib.hid hG
          have hON := hG.only
          obtain ⟨ga, gc, hgv, hgc1, hgc2⟩ := hG.form
          obtain ⟨q, hq⟩ : ∃ q, G.length = q := ⟨_, rfl⟩
          rw [hq] at hgv hgc1 hGl
          have HQ := Lib.hid hq
          have HGV := Lib.hid hgv
          subst hgv
          clear hG hGi hq HG0
          go_wp2_with fail
          go_loopw [9] (fun s10 wq => ∃ (t m : Nat), t ≤ j ∧ s10 = .int .i64 t ∧ wq = wr.drewN m) (fun s10 _ => j - (intOf s10).toNat)
          case atStart => exact ⟨0, 0, by omega, rfl, by rw [World.drewN_zero]⟩
          case round =>
            obtain ⟨t, m, ht, rfl, rfl⟩ := hrel
            have hcb2 := HC.out _ (hON.drewN m)
            by_cases htt : t < j
            · obtain ⟨g, rfl⟩ := hlc (by omega)
              have hcell := HI.out _ (hON.drewN m) t (by rw [HN.out]; exact htt) g rfl
              obtain ⟨p, c, hpc, hby⟩ := HG.out.bytes (j := t) (by rw [HN.out]; exact htt) m
              rw [hpc] at hcell
              have hmk := filled_any _ p _ c t (by omega) hby
              have HMK := Lib.hid hmk
              clear hmk hby hpc
              go_wp2_with fail
              refine HMK.out.mono ?_
              rintro e w2 ⟨rfl, m2, rfl⟩
              go_wp2_with fail
              go_roundw
              case rel => exact ⟨t + 1, _, by omega, by go_num, rfl⟩
              case measure => simp [intOf]; omega
            · obtain rfl : t = j := by omega
              have hON2 := hON.drewN m
              go_wp2_with fail
              go_loopw [11] (fun s12 wq => ∃ (s m : Nat), s ≤ q ∧ s12 = .int .i64 s ∧ wq = wr.drewN m) (fun s12 _ => q - (intOf s12).toNat)
              case atStart => exact ⟨0, m, by omega, rfl, rfl⟩
              case round =>
                obtain ⟨s, m, hs, rfl, rfl⟩ := hrel
                by_cases hst : s < q
                · obtain ⟨g', c', p, n, cc, e, hcell, hby⟩ := HG.out.item (t := s) (by rw [HQ.out]; exact hst) m
                  simp only [Value.slice.injEq] at e
                  obtain ⟨rfl, _, rfl⟩ := e
                  have hmk := filled_any _ p _ cc (s / 24) (by omega) hby
                  have HMK := Lib.hid hmk
                  clear hmk hby
                  go_wp2_with fail
                  refine HMK.out.mono ?_
                  rintro e w2 ⟨rfl, m2, rfl⟩
                  go_wp2_with fail
                  go_roundw
                  case rel => exact ⟨s + 1, _, by omega, by go_num, rfl⟩
                  case measure => simp [intOf]; omega
                · obtain rfl : s = q := by omega
                  go_wp2_with fail
                  go_ret
                  exact ⟨rfl, hON.drewN m⟩
end Go.Proofs.Ytofdpccjpodbhaa
