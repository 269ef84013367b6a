/-
  OctetPoints' walk: the forms that are none, the first byte above 127; its end.
-/
import Derived.Test.YtfjbjcaccfcakaaDoorPtsB
import Derived.Deep.DeepCutAuto
namespace Go.Proofs.YtfjbjcaccfcakaaDoor
open Go.RowKit
set_option linter.unusedVariables false

def badC : Array Value := #[.string ⟨#[128]⟩, .string ⟨#[191]⟩, .string ⟨#[192, 128]⟩, .string ⟨#[193, 191]⟩, .string ⟨#[224, 128, 128]⟩, .string ⟨#[224, 159, 191]⟩, .string ⟨#[237, 160, 128]⟩, .string ⟨#[237, 191, 191]⟩, .string ⟨#[240, 128, 128, 128]⟩, .string ⟨#[240, 143, 191, 191]⟩, .string ⟨#[244, 144, 128, 128]⟩, .string ⟨#[245, 128, 128, 128]⟩, .string ⟨#[248, 136, 128, 128, 128]⟩, .string ⟨#[254]⟩, .string ⟨#[255]⟩]
theorem bad_cell (wr : World) (g : Nat) (hh : wr.heap[g]? = some (.cells badC 9 (0, 0))) (i : Nat) (hi : i < 15) : wr.cell? ⟨g, i, none⟩ = some (.string (strL (badL.getD i []))) := by
  unfold badC at hh
  match i, hi with
  | 0, _ => simp [World.cell?, hh, badL, strL]
  | 1, _ => simp [World.cell?, hh, badL, strL]
  | 2, _ => simp [World.cell?, hh, badL, strL]
  | 3, _ => simp [World.cell?, hh, badL, strL]
  | 4, _ => simp [World.cell?, hh, badL, strL]
  | 5, _ => simp [World.cell?, hh, badL, strL]
  | 6, _ => simp [World.cell?, hh, badL, strL]
  | 7, _ => simp [World.cell?, hh, badL, strL]
  | 8, _ => simp [World.cell?, hh, badL, strL]
  | 9, _ => simp [World.cell?, hh, badL, strL]
  | 10, _ => simp [World.cell?, hh, badL, strL]
  | 11, _ => simp [World.cell?, hh, badL, strL]
  | 12, _ => simp [World.cell?, hh, badL, strL]
  | 13, _ => simp [World.cell?, hh, badL, strL]
  | 14, _ => simp [World.cell?, hh, badL, strL]
theorem bad_len (i : Nat) (hi : i < 15) : badL.getD i [] ∈ badL ∧ (badL.getD i []).length ≤ 5 := by
  have : ∀ i : Fin 15, badL.getD i.1 [] ∈ badL ∧ (badL.getD i.1 []).length ≤ 5 := by decide
  exact this ⟨i, hi⟩

set_option maxHeartbeats 8000000 in
set_option maxRecDepth 20000 in
theorem ptsC (w : World) (a : Option Addr) (n c : Nat) (l : List Int) (cut last : Int) (hz : n ≤ 17592186044416) (hcc : IsI64 cut) (hcl : IsI64 last) :
    (ptsB w a n c l cut last hz hcc hcl).1 := by
  intro hle hcap Z1 w1 HT HI HB1 Z2 wr u12 u13 Y1 Y2 Y3 Y4 Y5 Y6 Y7 Y8 Y9 Y10 Y11 Y12 Y13 Y14 Y15 Y16 Y17 Y18 Y19 Y20 Y21 i W hi hWl P kk m hl4 S hsz HS HM HW HWL HL hm46 hlt Y22 Y23 Y24 hin w2 HB2 Y25 Y26 wc u6 u15 u16 u23 u24 u25 u26 u27 u28 u29 u30 u31 u32 u33 u34 u35 u36 u37 u38 u39 u40 u41 u42 u43 u44 u45 u46 u47 u48 u49 u50 u51 u52 u53 u54 u55 u56 u57 u58 u59 u60 u61 u62 u63 u64 u65 u66 u67 u68 u69 u70 u71 u72 u73 u74 u75 u76 u77 u78 u79 u80 u81 u82 u83 u84 u85 u86 u87 u88 u89 u90 u91 u92 u93 u94 u95 u96 u97 u98 u99 u100 u101 u102 u103 u104 u105 u106 u107 u108 u109 u110 u111 hcut
  go_upto_region 24 with fail
  have hbe : Below w1.heap.size w1 (wc.alloc (.cells badC 9)) := hcut.alloc hcut.size _
  have hhe : (wc.alloc (.cells badC 9)).heap[wc.heap.size]? = some (.cells badC 9 (0, 0)) := heap_alloc_new _ _
  change Code.wp _ _ _ _ (wc.alloc (.cells badC 9))
  generalize (wc.alloc (.cells badC 9)) = wE at *
  obtain ⟨gb, hgb⟩ : ∃ g, wc.heap.size = g := ⟨_, rfl⟩
  rw [hgb] at hhe ⊢
  have HBE := Lib.hid hbe
  have HHE := Lib.hid hhe
  clear hbe hhe hgb hcut
  go_wp2_with fail
  go_loopw [18] (fun s18 wr => ∃ j : Nat, j ≤ 15 ∧ s18 = .int .i64 j ∧ Below wE.heap.size wE wr) (fun s18 _ => 15 - (intOf s18).toNat)
  case atStart => exact ⟨0, by omega, rfl, Below.refl _ _⟩
  case round =>
    obtain ⟨j, hj, rfl, hB⟩ := hrel
    by_cases hlt : j < 15
    · have hj15 : (j : Int) < 15 := by omega
      have hcj := bad_cell _ gb ((hB.block gb (Array.getElem?_eq_some_iff.1 HHE.out).1).trans HHE.out) j hlt
      obtain ⟨hbm, hbl⟩ := bad_len j hlt
      obtain ⟨q, hq⟩ : ∃ q, badL.getD j [] = q := ⟨_, rfl⟩
      rw [hq] at hcj hbm hbl
      obtain ⟨E, hE⟩ : ∃ E, strL q = E := ⟨_, rfl⟩
      rw [hE] at hcj
      have hes : E.size = q.length := by rw [← hE, strL_size]
      have hfu : utf8S (S ++ E ++ ⟨#[97]⟩) = (m : Int) := by
        have e : S ++ E ++ ⟨#[97]⟩ = strL (txt W ++ q ++ [97]) := by rw [← HS.out, ← hE, strL_append]; exact strL_append _ _
        rw [e, utf8_bad W HW.out q hbm, HM.out]
      have hs3 : (S ++ E ++ ⟨#[97]⟩ : ByteArray).size = m + q.length + 1 := by rw [ByteArray.size_append, ByteArray.size_append, hsz, hes]; rfl
      have hBw := HBE.out.trans (hB.mono HBE.out.size)
      have hcall := utf8_any (S ++ E ++ ⟨#[97]⟩) wr (by omega) (HT.out.below hBw)
      rw [hfu] at hcall
      obtain ⟨ql, hql⟩ : ∃ k, q.length = k := ⟨_, rfl⟩
      rw [hql] at hes hbl
      have t1 : m + ql ≤ 9223372036854775807 := by omega
      have t2 : (S ++ E).size = m + ql := by rw [ByteArray.size_append, hsz, hes]
      have t3 : m + ql + 1 ≤ 9223372036854775807 := by omega
      have HB := Lib.hid hB
      clear hfu hs3 hBw hB hE hq hbm hql
      go_wp2_with fail
      refine hcall.mono ?_
      rintro e w3 ⟨rfl, hb3⟩
      have HB3 := Lib.hid (HB.out.trans (hb3.mono HB.out.size))
      clear hcall hb3 hcj HB t2
      go_wp2_with fail
      go_roundw
      case rel => exact ⟨j + 1, by omega, by go_num, HB3.out⟩
      case measure => simp [intOf]; omega
    · have hj15 : ¬ (j : Int) < 15 := by omega
      have hBw := HBE.out.trans (hB.mono HBE.out.size)
      have HBW := Lib.hid hBw
      clear hB hBw
      go_wp2_with fail
      refine (point_any last wr hcl).mono ?_
      rintro e w' ⟨⟨d, rfl, hok⟩, rfl⟩
      clear hok
      obtain ⟨y, hy⟩ : ∃ y, 128 + d % 128 = y := ⟨_, rfl⟩
      have hy8 : 128 ≤ y ∧ y < 256 := by omega
      have hyi : (128 : Int) + (d : Int) % 128 = (y : Int) := by omega
      have hby : BytesIn (wr.alloc (.cells #[.int .u8 (y : Int)] 5)) (some ⟨wr.heap.size, 0, none⟩) 1 1 [UInt8.ofNat y] :=
        bytesIn_alloc wr _ [UInt8.ofNat y] (by show _ = #[byteV (UInt8.ofNat y)]; rw [byteV_of y hy8.2]) (by simp)
      have v1 := run_string_bytes (P := Tryd.prog) (wr.alloc (.cells #[.int .u8 (y : Int)] 5)) 25 9 5 Tryd.underlying25 Tryd.underlying5 Tryd.underlying9 _ _ _ _ hby
      have v2 : (convert 25 9 (.slice (some ⟨wr.heap.size, 0, none⟩) 1 1)).run Tryd.prog (wr.alloc (.cells #[.int .u8 (y : Int)] 5)) = .ok (.string (strL [UInt8.ofNat y])) (wr.alloc (.cells #[.int .u8 (y : Int)] 5)) := v1
      obtain ⟨E, hE⟩ : ∃ E, strL [UInt8.ofNat y] = E := ⟨_, rfl⟩
      rw [hE] at v2
      have hes : E.size = 1 := by rw [← hE, strL_size]; rfl
      have t1 : m + 1 ≤ 9223372036854775807 := by omega
      have ha : asciiS (S ++ E) = if asciiS S = -1 then (m : Int) else asciiS S := by
        rw [← hE, ← HS.out, strL_append, ascii_snoc _ _ (by rw [ofNat_toNat y hy8.2]; exact hy8.1), HM.out]
      have hc1 := ascii_any (S ++ E) (wr.alloc (.cells #[.int .u8 (y : Int)] 5)) (by rw [ByteArray.size_append, hsz, hes]; omega)
      have hc2 := ascii_any S (wr.alloc (.cells #[.int .u8 (y : Int)] 5)) (by omega)
      rw [ha] at hc1
      obtain ⟨A, hA⟩ : ∃ A, asciiS S = A := ⟨_, rfl⟩
      rw [hA] at hc1 hc2
      have hfin : Below w.heap.size w (wr.alloc (.cells #[.int .u8 (y : Int)] 5)) := (HB1.out.trans (HBW.out.mono HB1.out.size)).alloc (Nat.le_trans HB1.out.size HBW.out.size) _
      have HFIN := Lib.hid hfin
      clear hby v1 hE ha hA hy hfin
      by_cases hA1 : A = -1
      · subst hA1
        rw [if_pos rfl] at hc1
        go_wp2_with fail
        refine hc1.mono ?_
        rintro e w4 ⟨rfl, rfl⟩
        clear hc1 v2
        go_wp2_with fail
        refine hc2.mono ?_
        rintro e w5 ⟨rfl, rfl⟩
        clear hc2
        go_wp2_with fail
        go_ret
        exact ⟨rfl, HFIN.out⟩
      · rw [if_neg hA1] at hc1
        have hA2 : (A == -1) = false := by simpa using hA1
        clear hA1
        go_wp2_with fail
        refine hc1.mono ?_
        rintro e w4 ⟨rfl, rfl⟩
        clear hc1 v2
        go_wp2_with fail
        refine hc2.mono ?_
        rintro e w5 ⟨rfl, rfl⟩
        clear hc2
        go_wp2_with fail
        go_ret
        exact ⟨rfl, HFIN.out⟩
end Go.Proofs.YtfjbjcaccfcakaaDoor
