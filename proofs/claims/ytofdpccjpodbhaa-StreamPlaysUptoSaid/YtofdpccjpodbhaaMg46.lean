/-
  The contract of (*ByteBook).Owned: it returns true, and changes nothing but the rows that were taken. Conditions: the rows are the caller's own, each in a block of its own.
  A stream beside the document's: kept. Conditions: what came is what should have come; its bytes are its owner's.
  A script's steps: how they lie in memory; how many items they can give. No conditions.
-/
import Derived.Test.YtofdpccjpodbhaaMg45
import Derived.Test.YtofdpccjpodbhaaStrE
import Derived.Test.YtofdpccjpodbhaaMg30
namespace Go.Proofs.Ytofdpccjpodbhaa
open Go.RowKit
set_option linter.unusedVariables false

/-- how many grown lists a round has noted -/
def cnt (k : Nat) : Nat := min k 3 + (if 8 < k then 1 else 0) + (if 19 < k then 1 else 0)

set_option maxHeartbeats 4000000 in
theorem owned_any (w : World) (B bp : Nat) (vl : Value) (vs : List Value) (nn : Nat → Nat) (hbk : BookIs w B bp vl vs) (hB : B ≤ w.heap.size) (hd : Distinct vs)
    (hv : ∀ j, j < vs.length → ∃ l : List UInt8, l.length = nn j ∧ OwnBytes w B 5 (vs.getD j default) l) (hN : vs.length ≤ 1099511627776) (hnn : ∀ j, nn j ≤ 140737488355200) :
    Calls Try.prog 59 #[.pointer (some ⟨bp, 0, none⟩)] w fun e w' => e = .returned (.bool true) ∧ OnlyRows vs w w' := by
  have hvm : ∀ v ∈ vs, ∃ l, OwnBytes w B 5 v l := fun v hv' => by
    obtain ⟨j, hj, rfl⟩ := List.mem_iff_getElem.1 hv'
    obtain ⟨l, _, h2⟩ := hv j hj
    rw [List.getD_eq_getElem?_getD, List.getElem?_eq_getElem hj] at h2
    exact ⟨l, h2⟩
  have hmem : ∀ j, j < vs.length → vs.getD j default ∈ vs := fun j hj => by
    rw [List.getD_eq_getElem?_getD, List.getElem?_eq_getElem hj]; exact List.getElem_mem hj
  have hlt : ∀ j, j < vs.length → ∀ g, (vs.getD j default).ownBlock = some g → g < w.heap.size := fun j hj g hg => by
    obtain ⟨l, _, h2⟩ := hv j hj
    exact (h2.row.lt g hg).2
  have hf0 : FilledTo w B vs nn 0 0 := fun j hj => by
    obtain ⟨l, h1, h2⟩ := hv j hj
    exact ⟨l, h1, h2, fun m _ hc => by omega⟩
  -- the list of the lists, in any later world
  have hbook : ∀ wr, OnlyRows vs w wr → BookIs wr B bp vl vs := fun wr ho => hbk.only hvm ho
  obtain ⟨la, lc, hvl, hlc⟩ : ∃ la lc, vl = .slice la vs.length lc ∧ (0 < vs.length → ∃ g, la = some ⟨g, 0, none⟩) := by
    rcases hbk.row.2 with ⟨e1, e2⟩ | ⟨g, cap, cur, e1, _⟩
    · exact ⟨none, 0, by rw [e1, e2], fun h => by omega⟩
    · exact ⟨_, cap, e1, fun _ => ⟨g, rfl⟩⟩
  subst hvl
  have hitem : ∀ wr, OnlyRows vs w wr → ∀ i, i < vs.length → ∀ g, la = some ⟨g, 0, none⟩ → wr.cell? ⟨g, i, none⟩ = some (vs.getD i default) := fun wr ho i hi g hg => by
    have h := (hbook wr ho).row
    subst hg
    rw [h.cellAt i (by omega), List.getD_eq_getElem?_getD, List.getElem?_eq_getElem hi]
    rfl
  obtain ⟨N, hNN⟩ : ∃ N, vs.length = N := ⟨_, rfl⟩
  rw [hNN] at hlc
  have HN := Lib.hid hNN
  have HB := Lib.hid hbook
  have HI := Lib.hid hitem
  have HF := Lib.hid hf0
  have HL := Lib.hid hlt
  have HM := Lib.hid hmem
  have HV := Lib.hid hvm
  have hN' : N ≤ 1099511627776 := by omega
  have hc0 := hbk.cell
  rw [hNN] at hc0
  have hcells : ∀ wr, OnlyRows vs w wr → wr.cell? ⟨bp, 0, none⟩ = some (.slice la N lc) := fun wr ho => by
    have := (hbook wr ho).cell
    rw [hNN] at this
    exact this
  have HC := Lib.hid hcells
  clear hcells hbook hitem hf0 hlt hmem hvm hNN hv hbk hc0
  have hn63 : lc ≤ lc := Nat.le_refl _
  go_enter Try.func59, Try.ntmps59
  go_wp2_with fail
  go_loopw [3] (fun s3 wr => ∃ i : Nat, i ≤ N ∧ s3 = .int .i64 i ∧ OnlyRows vs w wr ∧ FilledTo wr B vs nn i 0) (fun s3 _ => N - (intOf s3).toNat)
  case atStart => exact ⟨0, by omega, rfl, OnlyRows.refl _ _, HF.out⟩
  case round =>
    obtain ⟨i, hi, rfl, hO, hF⟩ := hrel
    have hcb := HC.out wr hO
    by_cases hlt : i < N
    · obtain ⟨g, rfl⟩ := hlc (by omega)
      have hcell := HI.out wr hO i (by rw [HN.out]; exact hlt) g rfl
      obtain ⟨l, hll, hl, _⟩ := hF i (by rw [HN.out]; exact hlt)
      obtain ⟨p, c, hpc, hby⟩ := hl.bytes
      rw [hll] at hpc
      have hnni := hnn i
      rw [hpc] at hcell
      have hcc : nn i ≤ c ∧ c ≤ 9223372036854775807 := ⟨by have := hby.le; omega, by have := hby.cap; unfold maxLen at this; omega⟩
      obtain ⟨n, hn⟩ : ∃ n, nn i = n := ⟨_, rfl⟩
      have hpp : 0 < n → ∃ g', p = some ⟨g', 0, none⟩ := fun h0 => by
        obtain ⟨g', cap', e, _⟩ := hl.some_ (by omega)
        rw [hpc] at e
        simp only [Value.slice.injEq] at e
        exact ⟨g', e.1⟩
      rw [hn] at hpc hcell hnni hcc
      have HP := Lib.hid hpc
      have HNI := Lib.hid hn
      have hF' := Lib.hid hF
      clear hpc hn hll hl hby hF
      go_wp2_with fail
      go_loopw [5] (fun s5 wq => ∃ k : Nat, k ≤ n ∧ s5 = .int .i64 k ∧ OnlyRows vs w wq ∧ FilledTo wq B vs nn i k) (fun s5 _ => n - (intOf s5).toNat)
      case atStart => exact ⟨0, by omega, rfl, hO, hF'.out⟩
      case round =>
        obtain ⟨k, hk, rfl, hO2, hF2⟩ := hrel
        by_cases hkt : k < n
        · obtain ⟨g', rfl⟩ := hpp (by omega)
          obtain ⟨l, hll, hl, _⟩ := hF2 i (by rw [HN.out]; exact hlt)
          rw [HP.out] at hl
          rw [HNI.out] at hll
          have hcell2 := hl.cell hll k hkt
          have hfr := hl.frozen hll k
          have hset := hF2.set hd (by rw [HN.out]; exact hlt) (by rw [HNI.out]; exact hkt) (by rw [HP.out, HNI.out])
          have hgr := hO2.grown (grownBy_setCell wr g' k (.int .u8 (((i + k / 251) % 256 : Nat) : Int))) (fun k' hk' => by
            simp only [Option.some.injEq] at hk'
            exact .inr ⟨_, HM.out i (by rw [HN.out]; exact hlt), by rw [HP.out, ← hk']; rfl⟩)
          have HS := Lib.hid hset
          have HG := Lib.hid hgr
          clear hset hgr hl hll hF2
          go_wp2_with fail
          go_roundw
          case rel => exact ⟨k + 1, by omega, by go_num, HG.out, HS.out⟩
          case measure => simp [intOf]; omega
        · obtain rfl : k = n := by omega
          go_wp2_with fail
          go_roundw
          case rel => exact ⟨i + 1, by omega, by go_num, hO2, FilledTo.next (by rw [HNI.out]; exact hF2)⟩
          case measure => simp [intOf]; omega
    · obtain rfl : i = N := by omega
      have hG0 := GS.start hO (by rw [HN.out]; exact hF)
      have HG0 := Lib.hid hG0
      clear hG0 hF HF
      go_wp2_with fail
      go_loopw [6, 7] (fun s6 s7 wr => ∃ (j : Nat) (G : List (Value × Nat × Nat)), j ≤ i ∧ s7 = .int .i64 j ∧ GS w wr B vs nn s6 G j ∧ G.length = 5 * j ∧ ∀ u ∈ G, u.2.1 < j) (fun _ s7 _ => i - (intOf s7).toNat)
      case atStart => exact ⟨0, [], by omega, rfl, HG0.out, rfl, fun u hu => by simp at hu⟩
      case round =>
        obtain ⟨j, G, hj, rfl, hG, hGl, hGi⟩ := hrel
        have hcb := HC.out wr hG.only
        by_cases hjt : j < i
        · obtain ⟨g, rfl⟩ := hlc (by omega)
          have hcell := HI.out wr hG.only j (by rw [HN.out]; exact hjt) g rfl
          have hK := hG.begin hGi (by rw [HN.out]; exact hjt) hd HL.out
          have hnni := hnn j
          obtain ⟨n, hn⟩ : ∃ n, nn j = n := ⟨_, rfl⟩
          rw [hn] at hnni hK
          obtain ⟨v0, hv0⟩ : ∃ v0, vs.getD j default = v0 := ⟨_, rfl⟩
          rw [hv0] at hcell hK
          have HK := Lib.hid hK
          clear hn hv0 hK hG hGi
          go_wp2_with fail
          go_loopw [6, 8, 9] (fun s6 s8 s9 wq => ∃ (k : Nat) (G : List (Value × Nat × Nat)), k ≤ 20 ∧ s9 = .int .i64 k ∧ GK w wq B vs nn s6 G j (n + k) s8 ∧ G.length = 5 * j + cnt k) (fun _ _ s9 _ => 20 - (intOf s9).toNat)
          case atStart => exact ⟨0, G, by omega, rfl, HK.out, hGl⟩
          case round =>
            obtain ⟨k, G, hk, rfl, hK, hGl⟩ := hrel
            by_cases hkt : k < 20
            · obtain ⟨m, hm⟩ : ∃ m, n + k = m := ⟨_, rfl⟩
              have hmb : m ≤ 140737488355220 := by omega
              rw [hm] at hK
              obtain ⟨p, c, hpc, _⟩ := hK.own.bytes
              rw [markL_length] at hpc
              subst hpc
              have hown := hK.own
              have HM2 := Lib.hid hm
              have hBq : B ≤ wr.heap.size := Nat.le_trans hB hK.only.size
              have hnote : (k < 3 ∨ k = 8 ∨ k = 19) ∨ ((k : Int) < 3) = False ∧ ((k : Int) == 8) = false ∧ ((k : Int) == 19) = false := by
                by_cases h1 : k < 3
                · exact .inl (.inl h1)
                by_cases h2 : k = 8
                · exact .inl (.inr (.inl h2))
                by_cases h3 : k = 19
                · exact .inl (.inr (.inr h3))
                exact .inr ⟨by simp; omega, by simp; omega, by simp; omega⟩
              have HNO := Lib.hid hnote
              clear hm hnote
              go_wp2_with (at_builtin; refine wpList_append_grew' rfl (.tmp 64) (.tmp 71) 22 rfl B 5 Try.underlying22 info_u8 _ (markL j m) (UInt8.ofNat (j + m / 251)) _ rfl rfl ?hyv hown ?hlen ?hbase ?_)
              case hyv => simp
              case hlen => rw [markL_length]; omega
              case hbase => exact hBq
              intro v' w' ho' hg' hf'
              have ho2 : OwnBytes w' B 5 v' (markL j m ++ [UInt8.ofNat (j + m / 251)]) := by simpa using ho'
              have hP := hK.put (by rw [HN.out]; exact hjt) ho2 hg' hf'
              obtain ⟨g2, c2, hv2, _⟩ := ho'.some_ (by simp)
              rw [List.length_append, markL_length, List.length_singleton] at hv2
              subst hv2
              have hSz : w.heap.size ≤ w'.heap.size := hP.only.size
              have hrw := hP.row
              have HP := Lib.hid hP
              clear hK hown ho' ho2 hg' hf' hP
              rcases HNO.out with hno | ⟨n1, n2, n3⟩
              · have hcn : cnt (k + 1) = cnt k + 1 ∧ cnt k < 5 := by
                  unfold cnt
                  rcases hno with h | h | h
                  · rw [if_neg (by omega), if_neg (by omega), if_neg (by omega), if_neg (by omega)]; omega
                  · subst h; decide
                  · subst h; decide
                have ht : (((k : Int) < 3) = True) ∨ (((k : Int) < 3) = False ∧ ((k : Int) == 8) = true) ∨ (((k : Int) < 3) = False ∧ ((k : Int) == 8) = false ∧ ((k : Int) == 19) = true) := by
                  rcases hno with h | h | h
                  · exact .inl (by simp; omega)
                  · subst h; exact .inr (.inl ⟨by decide, by decide⟩)
                  · subst h; exact .inr (.inr ⟨by decide, by decide, by decide⟩)
                rcases ht with n1 | ⟨n1, n2⟩ | ⟨n1, n2, n3⟩ <;>
                · go_wp2_with (at_builtin; refine wpList_append_val rfl (.tmp 83) (.tmp 85) 29 rfl w.heap.size 22 (.slice none 0 0) 24 Try.underlying29 info_row rfl _ _ _ (.slice (some ⟨g2, 0, none⟩) (m + 1) c2) rfl rfl rfl hrw ?h63 ?hbytes hSz ?_)
                  case h63 => unfold maxLen; omega
                  case hbytes => omega
                  intro gv' w2 hr2 hg2 _ _
                  rw [← hGl] at hr2
                  have hQ := HP.out.note (by omega) hr2 hg2
                  have HQ := Lib.hid hQ
                  clear hQ hr2 hg2
                  go_wp2_with fail
                  go_roundw
                  case rel => exact ⟨k + 1, _, by omega, by go_num, by rw [← Nat.add_assoc, HM2.out]; exact HQ.out, by rw [List.length_append, List.length_singleton]; omega⟩
                  case measure => simp [intOf]; omega
              · have hcn : cnt (k + 1) = cnt k := by
                  have h1 : ¬ k < 3 := by intro h; have : ((k : Int) < 3) := by omega
                                          rw [n1] at this; exact this
                  have h2 : k ≠ 8 := by intro h; subst h; simp at n2
                  have h3 : k ≠ 19 := by intro h; subst h; simp at n3
                  unfold cnt
                  split <;> split <;> split <;> split <;> omega
                go_wp2_with fail
                go_roundw
                case rel => exact ⟨k + 1, G, by omega, by go_num, by rw [← Nat.add_assoc, HM2.out]; exact HP.out, by omega⟩
                case measure => simp [intOf]; omega
            · obtain rfl : k = 20 := by omega
              go_wp2_with fail
              go_roundw
              case rel => exact ⟨j + 1, G, by omega, by go_num, hK.next, by rw [hGl]; unfold cnt; simp; omega, fun u hu => by have := (hK.from_ u hu).1; omega⟩
              case measure => simp [intOf]; omega
        · obtain rfl : j = i := by omega
          have HG := Lib.hid hG
          have hON := hG.only
          obtain ⟨ga, gc, hgv, hgc1, hgc2⟩ := hG.form
          obtain ⟨q, hq⟩ : ∃ q, G.length = q := ⟨_, rfl⟩
          rw [hq] at hgv hgc1 hGl
          have HQ := Lib.hid hq
          have HGV := Lib.hid hgv
          subst hgv
          clear hG hGi hq HG0
          go_wp2_with fail
          go_loopw [10] (fun s10 wq => ∃ (t m : Nat), t ≤ j ∧ s10 = .int .i64 t ∧ wq = wr.drewN m) (fun s10 _ => j - (intOf s10).toNat)
          case atStart => exact ⟨0, 0, by omega, rfl, by rw [World.drewN_zero]⟩
          case round =>
            obtain ⟨t, m, ht, rfl, rfl⟩ := hrel
            have hcb2 := HC.out _ (hON.drewN m)
            by_cases htt : t < j
            · obtain ⟨g, rfl⟩ := hlc (by omega)
              have hcell := HI.out _ (hON.drewN m) t (by rw [HN.out]; exact htt) g rfl
              obtain ⟨p, c, hpc, hby⟩ := HG.out.bytes (j := t) (by rw [HN.out]; exact htt) m
              rw [hpc] at hcell
              have hmk := marked_any _ p _ c t (by omega) hby
              have HMK := Lib.hid hmk
              clear hmk hby hpc
              go_wp2_with fail
              refine HMK.out.mono ?_
              rintro e w2 ⟨rfl, m2, rfl⟩
              go_wp2_with fail
              go_roundw
              case rel => exact ⟨t + 1, _, by omega, by go_num, rfl⟩
              case measure => simp [intOf]; omega
            · obtain rfl : t = j := by omega
              have hON2 := hON.drewN m
              go_wp2_with fail
              go_loopw [12] (fun s12 wq => ∃ (s m : Nat), s ≤ q ∧ s12 = .int .i64 s ∧ wq = wr.drewN m) (fun s12 _ => q - (intOf s12).toNat)
              case atStart => exact ⟨0, m, by omega, rfl, rfl⟩
              case round =>
                obtain ⟨s, m, hs, rfl, rfl⟩ := hrel
                by_cases hst : s < q
                · obtain ⟨g', c', p, n, cc, e, hcell, hby⟩ := HG.out.item (t := s) (by rw [HQ.out]; exact hst) m
                  simp only [Value.slice.injEq] at e
                  obtain ⟨rfl, _, rfl⟩ := e
                  have hmk := marked_any _ p _ cc (s / 5) (by omega) hby
                  have HMK := Lib.hid hmk
                  clear hmk hby
                  go_wp2_with fail
                  refine HMK.out.mono ?_
                  rintro e w2 ⟨rfl, m2, rfl⟩
                  go_wp2_with fail
                  go_roundw
                  case rel => exact ⟨s + 1, _, by omega, by go_num, rfl⟩
                  case measure => simp [intOf]; omega
                · obtain rfl : s = q := by omega
                  go_wp2_with fail
                  go_ret
                  exact ⟨rfl, hON.drewN m⟩
end Go.Proofs.Ytofdpccjpodbhaa

namespace Go.Proofs.Ytofdpccjpodbhaa
open Go.RowKit
set_option linter.unusedVariables false

theorem BookIs.mono {w : World} {B B' bp : Nat} {vl : Value} {vs : List Value} (h : BookIs w B bp vl vs) (hB : B' ≤ B) : BookIs w B' bp vl vs := ⟨h.at_, row_mono5 h.row hB⟩

theorem rowsL_take {L : List (Itm × Value × Value)} {k : Nat} (hk : k < L.length) : rowsL (L.take (k + 1)) = rowsL (L.take k) ++ [L[k].2.1] ++ [L[k].2.2] := by
  unfold rowsL
  rw [List.take_add_one, List.getElem?_eq_getElem hk, Option.toList_some, List.flatMap_append]
  simp

theorem rowsL_length (L : List (Itm × Value × Value)) : (rowsL L).length = 2 * L.length := by
  induction L with
  | nil => rfl
  | cons p t ih => simp only [rowsL, List.flatMap_cons, List.length_append, List.length_cons, List.length_nil] at ih ⊢; omega

/-- a take keeps all but the book -/
theorem took_below {n : Nat} {w wr w' : World} {bp : Nat} {vl : Value} (h : Below n w wr) (hn : n ≤ wr.heap.size) (hbp : n ≤ bp) (hv : ∀ j, vl.ownBlock = some j → n ≤ j) (hz : wr.heap.size ≤ w'.heap.size) (hb : ∀ k, k < wr.heap.size → k ≠ bp → some k ≠ vl.ownBlock → w'.heap[k]? = wr.heap[k]?) (ho : w'.os = wr.os ∧ w'.tape = wr.tape ∧ w'.output = wr.output) : Below n w w' :=
  ⟨ho.1.trans h.os, ho.2.1.trans h.tape, ho.2.2.trans h.output, Nat.le_trans h.size hz, fun j hj => (hb j (by omega) (by omega) (fun e => by have := hv j e.symm; omega)).trans (h.block j hj)⟩

theorem distinct_of {vs : List Value} (h : vs.Pairwise Far) : Distinct vs := by
  intro i j hi hj hne
  have e1 : vs.getD i default = vs[i] := by rw [List.getD_eq_getElem?_getD, List.getElem?_eq_getElem hi]; rfl
  have e2 : vs.getD j default = vs[j] := by rw [List.getD_eq_getElem?_getD, List.getElem?_eq_getElem hj]; rfl
  rw [e1, e2]
  rcases Nat.lt_or_gt_of_ne hne with h1 | h1
  · exact List.pairwise_iff_getElem.1 h i j hi hj h1
  · exact far_symm (List.pairwise_iff_getElem.1 h j i hj hi h1)

theorem RowsP.rowsz {B : Nat} {v : Value} {L : List (Itm × Value × Value)} {O : Nat → Prop} {W : World} (h : RowsP B v L O W) {u : Value} (hu : u ∈ rowsL L) : ∃ l : List UInt8, OwnBytes W B 5 u l ∧ l.length ≤ 1048577 := by
  obtain ⟨p, hp, rfl | rfl⟩ := mem_rowsL hu
  · exact ⟨_, (h.its p hp).1, (h.sz p hp).1⟩
  · exact ⟨_, (h.its p hp).2.1, (h.sz p hp).2⟩

theorem lengths_of {W : World} {B : Nat} {vs : List Value} (h : ∀ u ∈ vs, ∃ l : List UInt8, OwnBytes W B 5 u l ∧ l.length ≤ 1048577) : ∃ nn : Nat → Nat, (∀ j, j < vs.length → ∃ l : List UInt8, l.length = nn j ∧ OwnBytes W B 5 (vs.getD j default) l) ∧ ∀ j, nn j ≤ 1048577 := by
  have hex : ∀ j, j < vs.length → ∃ l : List UInt8, OwnBytes W B 5 (vs.getD j default) l ∧ l.length ≤ 1048577 := fun j hj => by
    have e1 : vs.getD j default = vs[j] := by rw [List.getD_eq_getElem?_getD, List.getElem?_eq_getElem hj]; rfl
    rw [e1]
    exact h _ (List.getElem_mem hj)
  refine ⟨fun j => if hj : j < vs.length then (hex j hj).choose.length else 0, fun j hj => ⟨(hex j hj).choose, by simp [hj], (hex j hj).choose_spec.1⟩, fun j => ?_⟩
  by_cases hj : j < vs.length
  · simp only [hj, dif_pos]
    exact (hex j hj).choose_spec.2
  · simp [hj]

set_option maxRecDepth 20000 in
set_option maxHeartbeats 4000000 in
theorem pkept_any (w : World) (K : PK) (fr : Nat) (s q : SM) (hv rv vc vd : Value) (L M : List (Itm × Value × Value)) (O : Nat → Prop) (hp : Pair K fr s q hv rv vc vd L M O w) (he : L.map Prod.fst = M.map Prod.fst) (hl : L.length ≤ 549755813888) :
    Calls Try.prog 32 #[.pointer (some ⟨K.pb, 0, none⟩)] w fun e w' => e = .returned (.bool true) ∧ Below K.B w w' := by
  obtain ⟨pc, cc, rfl⟩ := hp.came.slice
  obtain ⟨pd, cd, rfl⟩ := hp.want.slice
  have hlen : M.length = L.length := by have := congrArg List.length he; simpa using this.symm
  have HP := Lib.hid hp
  have HE := Lib.hid he
  have HLEN := Lib.hid hlen
  have hpb := hp.blt K.pb (.inl hp.oo.1)
  have HPB := Lib.hid hpb
  rw [hlen] at hp
  have hcell := hp.cell
  obtain ⟨N, hN⟩ : ∃ N, L.length = N := ⟨_, rfl⟩
  rw [hN] at hcell hl
  have HCELL := Lib.hid hcell
  have HN := Lib.hid hN
  clear hp he hlen hpb hN hcell
  go_enter Try.func32, Try.ntmps32
  go_upto_region 2 with fail
  have hb1 : Below w.heap.size w (w.alloc (.cells #[.slice none 0 0] 100)) := (Below.refl _ w).alloc (Nat.le_refl _) _
  have hbk : BookIs (w.alloc (.cells #[.slice none 0 0] 100)) w.heap.size w.heap.size (.slice none 0 0) (rowsL (L.take 0)) := ⟨heap_alloc_new _ _, by rw [List.take_zero]; exact World.ownsRow_nil _ _ _ _⟩
  generalize (w.alloc (.cells #[.slice none 0 0] 100)) = w1 at *
  go_wp2_with fail
  go_loopw [4, 5] (fun i u wr => ∃ (k : Nat) (vl : Value), k ≤ N ∧ i = .int .i64 k ∧ Below w.heap.size w wr ∧ BookIs wr w.heap.size w.heap.size vl (rowsL (L.take k))) (fun i u _ => N - (intOf i).toNat)
  case atStart => exact ⟨0, _, Nat.zero_le _, rfl, hb1, hbk⟩
  case round =>
    obtain ⟨k, vl, hk, rfl, hb, hbk⟩ := hrel
    have hc := (hb.block K.pb HPB.out).trans HCELL.out
    have c2 : wr.cell? ⟨K.pb, 2, none⟩ = some (.slice pc N cc) := (cell_of_row _ _ 2 _ _ _ hc).trans rfl
    have c3 : wr.cell? ⟨K.pb, 3, none⟩ = some (.slice pd N cd) := (cell_of_row _ _ 3 _ _ _ hc).trans rfl
    by_cases hkN : (k : Int) < N
    · have hk' : k < N := by omega
      have hkL : k < L.length := by rw [HN.out]; exact hk'
      have hkM : k < M.length := by rw [HLEN.out]; exact hkL
      have hkk : (L[k]).1 = (M[k]).1 := by
        have h9 := HE.out
        have h8 : (L.map Prod.fst)[k]? = (M.map Prod.fst)[k]? := by rw [h9]
        simpa [List.getElem?_eq_getElem, hkL, hkM] using h8
      have hrow := HP.out.came.row
      have hrow' := HP.out.want.row
      have hgc : ∃ g, pc = some ⟨g, 0, none⟩ := by
        rcases hrow.2 with ⟨_, h0⟩ | ⟨g, cap, cur, e1, _⟩
        · omega
        · exact ⟨g, by cases e1; rfl⟩
      have hgd : ∃ g, pd = some ⟨g, 0, none⟩ := by
        rcases hrow'.2 with ⟨_, h0⟩ | ⟨g, cap, cur, e1, _⟩
        · omega
        · exact ⟨g, by cases e1; rfl⟩
      obtain ⟨g, rfl⟩ := hgc
      obtain ⟨g', rfl⟩ := hgd
      have ci : ∀ j, j < 6 → w.cell? ⟨g, 6 * k + j, none⟩ = (itCells L[k])[j]? := fun j hj => item_cell hrow k hkL j hj
      have ci' : ∀ j, j < 6 → w.cell? ⟨g', 6 * k + j, none⟩ = (itCells M[k])[j]? := fun j hj => item_cell hrow' k hkM j hj
      obtain ⟨o1, o2, _, _⟩ := HP.out.came.its L[k] (List.getElem_mem _)
      obtain ⟨o1', o2', _, _⟩ := HP.out.want.its M[k] (List.getElem_mem _)
      have htk := rowsL_take hkL
      generalize hq : L[k] = q at *
      generalize hq' : M[k] = q' at *
      obtain ⟨it, ve, vb⟩ := q
      obtain ⟨it', ve', vb'⟩ := q'
      simp only at hkk o1 o2 o1' o2' htk
      subst hkk
      obtain ⟨pe, ce, rfl, i1⟩ := o1.bytes
      obtain ⟨pb, cb, rfl, i2⟩ := o2.bytes
      obtain ⟨pe', ce', rfl, i3⟩ := o1'.bytes
      obtain ⟨pb', cb', rfl, i4⟩ := o2'.bytes
      have c0' : w.cell? ⟨g, k * 6, none⟩ = some (.int .i64 it.kind) := (by rw [Nat.mul_comm]; rfl : _ = _).trans (ci 0 (by omega))
      have xc0 := (hb.cell (p := ⟨g, k * 6, none⟩) (cell_lt c0')).trans c0'
      have c1' : w.cell? ⟨g, k * 6 + 1, none⟩ = some (.int .i64 it.proto) := (by rw [Nat.mul_comm] : _ = _).trans (ci 1 (by omega))
      have xc1 := (hb.cell (p := ⟨g, k * 6 + 1, none⟩) (cell_lt c1')).trans c1'
      have c2' : w.cell? ⟨g, k * 6 + 2, none⟩ = some (.int .i64 it.T) := (by rw [Nat.mul_comm] : _ = _).trans (ci 2 (by omega))
      have xc2 := (hb.cell (p := ⟨g, k * 6 + 2, none⟩) (cell_lt c2')).trans c2'
      have c3' : w.cell? ⟨g, k * 6 + 3, none⟩ = some (.int .i64 it.ch) := (by rw [Nat.mul_comm] : _ = _).trans (ci 3 (by omega))
      have xc3 := (hb.cell (p := ⟨g, k * 6 + 3, none⟩) (cell_lt c3')).trans c3'
      have c4' : w.cell? ⟨g, k * 6 + 4, none⟩ = some (.slice pe it.ext.length ce) := (by rw [Nat.mul_comm] : _ = _).trans (ci 4 (by omega))
      have xc4 := (hb.cell (p := ⟨g, k * 6 + 4, none⟩) (cell_lt c4')).trans c4'
      have c5' : w.cell? ⟨g, k * 6 + 5, none⟩ = some (.slice pb it.body.length cb) := (by rw [Nat.mul_comm] : _ = _).trans (ci 5 (by omega))
      have xc5 := (hb.cell (p := ⟨g, k * 6 + 5, none⟩) (cell_lt c5')).trans c5'
      have e0' : w.cell? ⟨g', k * 6, none⟩ = some (.int .i64 it.kind) := (by rw [Nat.mul_comm]; rfl : _ = _).trans (ci' 0 (by omega))
      have xe0 := (hb.cell (p := ⟨g', k * 6, none⟩) (cell_lt e0')).trans e0'
      have e1' : w.cell? ⟨g', k * 6 + 1, none⟩ = some (.int .i64 it.proto) := (by rw [Nat.mul_comm] : _ = _).trans (ci' 1 (by omega))
      have xe1 := (hb.cell (p := ⟨g', k * 6 + 1, none⟩) (cell_lt e1')).trans e1'
      have e2' : w.cell? ⟨g', k * 6 + 2, none⟩ = some (.int .i64 it.T) := (by rw [Nat.mul_comm] : _ = _).trans (ci' 2 (by omega))
      have xe2 := (hb.cell (p := ⟨g', k * 6 + 2, none⟩) (cell_lt e2')).trans e2'
      have e3' : w.cell? ⟨g', k * 6 + 3, none⟩ = some (.int .i64 it.ch) := (by rw [Nat.mul_comm] : _ = _).trans (ci' 3 (by omega))
      have xe3 := (hb.cell (p := ⟨g', k * 6 + 3, none⟩) (cell_lt e3')).trans e3'
      have e4' : w.cell? ⟨g', k * 6 + 4, none⟩ = some (.slice pe' it.ext.length ce') := (by rw [Nat.mul_comm] : _ = _).trans (ci' 4 (by omega))
      have xe4 := (hb.cell (p := ⟨g', k * 6 + 4, none⟩) (cell_lt e4')).trans e4'
      have e5' : w.cell? ⟨g', k * 6 + 5, none⟩ = some (.slice pb' it.body.length cb') := (by rw [Nat.mul_comm] : _ = _).trans (ci' 5 (by omega))
      have xe5 := (hb.cell (p := ⟨g', k * 6 + 5, none⟩) (cell_lt e5')).trans e5'
      have hdr : Below w.heap.size w wr.drew := hb.trans ⟨rfl, rfl, rfl, Nat.le_refl _, fun _ _ => rfl⟩
      have hsm := same6_eq wr.drew it pe pe' pb pb' _ ce _ cb _ ce' _ cb' (i1.below hdr) (i2.below hdr) (i3.below hdr) (i4.below hdr)
      unfold Itm.val at hsm
      have HTK := Lib.hid htk
      have HBK := Lib.hid hbk
      have HD := Lib.hid hdr
      have HBB := Lib.hid hb
      have HC45 := Lib.hid (And.intro c4' c5')
      have HBKD : Hid (BookIs wr.drew w.heap.size w.heap.size vl (rowsL (L.take k))) := Lib.hid ⟨hbk.at_, hbk.row⟩
      clear ci ci' hrow hrow' hdr hq hq' i1 i2 i3 i4 o1 o2 o1' o2' htk hbk c0' c1' c2' c3' c4' c5' e0' e1' e2' e3' e4' e5'
      go_upto_region 5 with fail
      go_still_tail 14, (by kernel_rfl)
      change wpList _ _ _ _ _ wr.drew
      generalize wr.drew = wd at *
      clear xc0 xc1 xc2 xc3 xc4 xc5 xe0 xe1 xe2 xe3 xe4 xe5 c2 c3 hc hb
      go_wp2_with fail
      refine hsm.mono ?_
      clear hsm
      rintro e w2 ⟨rfl, hb2⟩
      have hbw2 := HD.out.trans (hb2.mono HD.out.size)
      have hbk2 : BookIs w2 w.heap.size w.heap.size vl (rowsL (L.take k)) := ⟨(hb2.block _ HBKD.out.lt).trans HBKD.out.at_, ownsRow_same HBKD.out.row (fun j hj => hb2.block j (HBKD.out.row.lt j hj).2)⟩
      have hc2 := (hbw2.block K.pb HPB.out).trans HCELL.out
      have c2 : w2.cell? ⟨K.pb, 2, none⟩ = some (.slice (some ⟨g, 0, none⟩) N cc) := (cell_of_row _ _ 2 _ _ _ hc2).trans rfl
      have y4 := (hbw2.cell (p := ⟨g, k * 6 + 4, none⟩) (cell_lt HC45.out.1)).trans HC45.out.1
      have hcall := btake_any w2 w.heap.size w.heap.size vl (rowsL (L.take k)) pe it.ext.length ce hbk2 hbw2.size (by rw [rowsL_length, List.length_take]; omega)
      have HB2 := Lib.hid hbw2
      clear hb2 hbk2 hc2 hbw2
      go_wp2_with fail
      refine hcall.mono ?_
      clear hcall
      rintro e w3 ⟨rfl, vl3, hbk3, hz3, hf3, ho3, ht3, hp3⟩
      have hvl : ∀ j, vl.ownBlock = some j → w.heap.size ≤ j := fun j hj => (HBKD.out.row.lt j hj).1
      have hbw3 := took_below HB2.out HB2.out.size (Nat.le_refl _) hvl hz3 hf3 ⟨ho3, ht3, hp3⟩
      have hc3 := (hbw3.block K.pb HPB.out).trans HCELL.out
      have c3 : w3.cell? ⟨K.pb, 2, none⟩ = some (.slice (some ⟨g, 0, none⟩) N cc) := (cell_of_row _ _ 2 _ _ _ hc3).trans rfl
      have y5 := (hbw3.cell (p := ⟨g, k * 6 + 5, none⟩) (cell_lt HC45.out.2)).trans HC45.out.2
      have hcall := btake_any w3 w.heap.size w.heap.size vl3 (rowsL (L.take k) ++ [.slice pe it.ext.length ce]) pb it.body.length cb hbk3 hbw3.size (by rw [List.length_append, rowsL_length, List.length_take]; simp only [List.length_cons, List.length_nil]; omega)
      have HB3 := Lib.hid hbw3
      have hvl3 : ∀ j, vl3.ownBlock = some j → w.heap.size ≤ j := fun j hj => (hbk3.row.lt j hj).1
      have HV3 := Lib.hid hvl3
      clear hbk3 hz3 hf3 ho3 ht3 hp3 hvl hbw3 hc3 c2 y4 hvl3
      go_wp2_with fail
      refine hcall.mono ?_
      clear hcall
      rintro e w4 ⟨rfl, vl4, hbk4, hz4, hf4, ho4, ht4, hp4⟩
      have hbw4 := took_below HB3.out HB3.out.size (Nat.le_refl _) HV3.out hz4 hf4 ⟨ho4, ht4, hp4⟩
      have HB4 := Lib.hid hbw4
      have HBK4 : Hid (BookIs w4 w.heap.size w.heap.size vl4 (rowsL (L.take (k + 1)))) := Lib.hid (by rw [HTK.out]; exact hbk4)
      clear hbk4 hz4 hf4 ho4 ht4 hp4 hbw4 c3 y5
      go_wp2_with fail
      go_roundw
      case rel => exact ⟨k + 1, vl4, by omega, by go_num, HB4.out, HBK4.out⟩
      case measure => simp [intOf]; omega
    · have hk2 : k = N := by omega
      subst hk2
      have hkn : rowsL (L.take k) = rowsL L := by rw [List.take_of_length_le (by have := HN.out; omega)]
      rw [hkn] at hbk
      have hbk2 := hbk.mono (B' := K.B) HP.out.bb.2.2
      have hwz := hb.size
      have HB := Lib.hid hb
      have hrl := rowsL_length L
      obtain ⟨nn, hn1, hn2⟩ := lengths_of (vs := rowsL L) (fun u hu => (HP.out.came.rowsz hu))
      have hown := owned_any wr K.B w.heap.size vl (rowsL L) nn hbk2 (Nat.le_trans HP.out.bb.2.2 hwz) (distinct_of HP.out.dist) (fun j hj => by
        obtain ⟨l, h1, h2⟩ := hn1 j hj
        exact ⟨l, h1, h2.of_below HB.out⟩) (by rw [hrl]; have := HN.out; omega) (fun j => by have := hn2 j; omega)
      clear hb hbk hbk2
      go_wp2_with fail
      refine hown.mono ?_
      clear hown
      rintro e w2 ⟨rfl, hor⟩
      have HO := Lib.hid hor
      clear hor
      go_wp2_with fail
      go_ret
      refine ⟨rfl, (HB.out.mono HP.out.bb.2.2).trans (HO.out.below (Nat.le_trans HP.out.bb.2.2 hwz) (fun v hv9 j hj => ?_))⟩
      obtain ⟨⟨l, hl9⟩, _⟩ := HP.out.came.rows hv9
      exact (hl9.row.lt j hj).1
end Go.Proofs.Ytofdpccjpodbhaa

namespace Go.Proofs.Ytofdpccjpodbhaa
open Go.RowKit
set_option linter.unusedVariables false

/-- a step of a script as it lies -/
structure OpIn where
  kd : Int
  nn : Int
  mm : Int
  da : Option Addr
  dn : Nat
  dc : Nat
  data : List UInt8
  ma : Option Addr
  mn : Nat
  mc : Nat
  more : List UInt8

instance : Inhabited OpIn := ⟨⟨0, 0, 0, none, 0, 0, [], none, 0, 0, []⟩⟩

def OpIn.cells (f : OpIn) : List Value := [.int .i64 f.kd, .int .i64 f.nn, .int .i64 f.mm, .slice f.da f.dn f.dc, .slice f.ma f.mn f.mc]
/-- how many items a step can give -/
def OpIn.cost (f : OpIn) : Nat := 2 * (f.dn * (1 + f.mn)) + f.dn + 1
def costs : List OpIn → Nat
  | [] => 0
  | f :: r => f.cost + costs r

theorem costs_append (a b : List OpIn) : costs (a ++ b) = costs a + costs b := by
  induction a with
  | nil => simp [costs]
  | cons x r ih => simp only [List.cons_append, costs, ih]; omega

theorem costs_take {L : List OpIn} {k : Nat} (hk : k < L.length) : costs (L.take (k + 1)) = costs (L.take k) + L[k].cost := by
  rw [List.take_add_one, List.getElem?_eq_getElem hk, Option.toList_some, costs_append]
  simp [costs]

theorem costs_take_le (L : List OpIn) (k : Nat) : costs (L.take k) ≤ costs L := by
  have h := costs_append (L.take k) (L.drop k)
  rw [List.take_append_drop] at h
  omega

structure OpIn.ok (f : OpIn) (w : World) : Prop where
  d : BytesIn w f.da f.dn f.dc f.data
  m : BytesIn w f.ma f.mn f.mc f.more
  dl : f.dn ≤ 1048576
  ml : f.mn ≤ 1048576

/-- a script in memory -/
structure OpsIn (w : World) (a : Option Addr) (n c : Nat) (L : List OpIn) : Prop where
  len : L.length = n
  le : n ≤ c
  cap : c ≤ maxLen
  at_ : 0 < c → ∃ b o, a = some ⟨b, o, none⟩ ∧ b < w.heap.size ∧ ∀ i f, L[i]? = some f → ∀ (k : Nat) v, f.cells[k]? = some v → w.cell? ⟨b, o + i * 5 + k, none⟩ = some v
  ok : ∀ f ∈ L, f.ok w
  sum : costs L ≤ 549755813888

theorem BytesIn.lowA {w : World} {pa : Option Addr} {n c : Nat} {l : List UInt8} (h : BytesIn w pa n c l) : LowA w.heap.size pa c := by
  intro hc a ha
  obtain ⟨g, o, e, hlt, _⟩ := h.at_ hc
  rw [e] at ha
  cases ha
  exact hlt

theorem four_mul_le (x y : Nat) : 4 * (x * y) ≤ (x + y) * (x + y) := by
  rcases Nat.le_total x y with h | h
  · obtain ⟨d, rfl⟩ := Nat.exists_eq_add_of_le h
    simp only [Nat.mul_add, Nat.add_mul, Nat.mul_comm d x]
    omega
  · obtain ⟨d, rfl⟩ := Nat.exists_eq_add_of_le h
    simp only [Nat.mul_add, Nat.add_mul, Nat.mul_comm d y]
    omega

theorem cost_sq {f : OpIn} {q : Nat} (h : f.dn + f.mn + 6 ≤ q) : 2 * f.cost ≤ q * q := by
  have h1 := four_mul_le f.dn f.mn
  have h2 : (f.dn + f.mn + 6) * (f.dn + f.mn + 6) ≤ q * q := Nat.mul_le_mul h h
  have h3 : (f.dn + f.mn + 6) * (f.dn + f.mn + 6) = (f.dn + f.mn) * (f.dn + f.mn) + 12 * (f.dn + f.mn) + 36 := by
    generalize f.dn + f.mn = z
    simp only [Nat.mul_add, Nat.add_mul]
    omega
  unfold OpIn.cost
  rw [Nat.mul_add f.dn 1 f.mn]
  omega

theorem sq_add (a b : Nat) : a * a + b * b ≤ (a + b) * (a + b) := by
  simp only [Nat.mul_add, Nat.add_mul]
  omega
end Go.Proofs.Ytofdpccjpodbhaa
