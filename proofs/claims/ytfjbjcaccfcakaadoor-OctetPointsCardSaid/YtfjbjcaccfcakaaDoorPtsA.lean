/-
  OctetPoints' walk: its first loop. Conditions: the ints lie in memory, are no more than 2^44; the decoder's tables stand.
-/
import Derived.Test.YtfjbjcaccfcakaaDoorPtsW
import Derived.Test.YtfjbjcaccfcakaaDoorConv
import Derived.Deep.DeepCutAuto
namespace Go.Proofs.YtfjbjcaccfcakaaDoor
open Go.RowKit
set_option linter.unusedVariables false

/-- where the last form begins, how many bytes it has -/
def LastOf (W : List Nat) (s9 s10 : Value) : Prop :=
  ∃ P kk : Nat, s9 = .int .i64 P ∧ s10 = .int .i64 kk ∧ (kk = 0 ∨ ∃ W' c, W = W' ++ [c] ∧ (txt W').length = P ∧ (wrC c).length = kk)

set_option maxHeartbeats 8000000 in
set_option maxRecDepth 20000 in
noncomputable def ptsA (w : World) (a : Option Addr) (n c : Nat) (l : List Int) (cut last : Int) (hz : n ≤ 17592186044416) (hcc : IsI64 cut) (hcl : IsI64 last) :
    (R0 : Prop) ×' (Hid R0 → Tabs w → IntsIn .i64 w a n c l → Calls Tryd.prog 3 #[.slice a n c, .int .i64 cut, .int .i64 last] w fun e w' => e = .returned (.bool true) ∧ Below w.heap.size w w') :=
  ⟨_, fun hR0 => by
  intro hT h
  have hle := h.le
  have hcap := h.cap
  unfold maxLen at hcap
  go_enter Tryd.func3, Tryd.ntmps3
  go_wp2_with fail
  refine (live_any w hT).mono ?_
  rintro e w1 ⟨rfl, hb1⟩
  have HT := Lib.hid (hT.below hb1)
  have HI := Lib.hid (h.below hb1)
  have HB1 := Lib.hid hb1
  clear hT h hb1
  go_wp2_with fail
  go_loopw [8, 9, 10, 11] (fun s8 s9 s10 s11 wr => ∃ (i : Nat) (W : List Nat), i ≤ n ∧ s11 = .int .i64 i ∧ W.length = i ∧ (∀ d ∈ W, okC d) ∧ s8 = .string (strL (txt W)) ∧ LastOf W s9 s10 ∧ Below w1.heap.size w1 wr) (fun _ _ _ s11 _ => n - (intOf s11).toNat)
  case atStart => exact ⟨0, [], by omega, rfl, rfl, fun d hd => by simp at hd, rfl, ⟨0, 0, rfl, rfl, .inl rfl⟩, Below.refl _ _⟩
  case round =>
    obtain ⟨i, W, hi, rfl, hWl, hW, rfl, ⟨P, kk, rfl, rfl, hlast⟩, hB⟩ := hrel
    have hl4 := (txt_len W).2
    obtain ⟨m, hm⟩ : ∃ m, (txt W).length = m := ⟨_, rfl⟩
    have hsz : (strL (txt W)).size = m := by rw [strL_size, hm]
    obtain ⟨S, hS⟩ : ∃ S, strL (txt W) = S := ⟨_, rfl⟩
    rw [hm] at hl4
    rw [hS] at hsz ⊢
    have HS := Lib.hid hS
    have HM := Lib.hid hm
    have HW := Lib.hid hW
    have HWL := Lib.hid hWl
    have HL := Lib.hid hlast
    have hm46 : m ≤ 70368744177664 := by omega
    clear hS hm hW hlast
    by_cases hlt : i < n
    · clear HL
      have hIr := HI.out.below hB
      obtain ⟨b, o, rfl, hbw, hcell⟩ := hIr.at_ (by omega)
      have hci := hcell i hlt
      have hq : IsI64 (l.getD i 0) := by
        have hmem : l.getD i 0 ∈ l := by
          have : i < l.length := by rw [hIr.len]; exact hlt
          rw [List.getD_eq_getElem?_getD, List.getElem?_eq_getElem this]
          exact List.getElem_mem this
        exact bd_i64 (hIr.wf _ hmem)
      obtain ⟨q, hqq⟩ : ∃ q, l.getD i 0 = q := ⟨_, rfl⟩
      rw [hqq] at hci hq
      have hlt' : (i : Int) < (n : Int) := by omega
      clear hIr hcell hqq
      go_wp2_with fail
      refine (point_any q wr hq).mono ?_
      rintro e w' ⟨⟨d, rfl, hok⟩, rfl⟩
      clear hci
      go_wp2_with fail
      refine (written_any d wr hok.1).mono ?_
      rintro e w2 ⟨g, rfl, hb2, hby⟩
      have v1 := run_string_bytes (P := Tryd.prog) w2 25 9 5 Tryd.underlying25 Tryd.underlying5 Tryd.underlying9 _ _ _ _ hby
      obtain ⟨E, hE⟩ : ∃ E, strL (wrC d) = E := ⟨_, rfl⟩
      obtain ⟨k, hk⟩ : ∃ k, (wrC d).length = k := ⟨_, rfl⟩
      have v2 : (convert 25 9 (.slice (some ⟨g, 0, none⟩) k k)).run Tryd.prog w2 = .ok (.string E) w2 := by rw [← hE, ← hk]; exact v1
      have hk4 : k ≤ 4 := by rw [← hk]; exact (wrC_len d).2
      have hes : E.size = k := by rw [← hE, strL_size, hk]
      have hmk : m + k ≤ 9223372036854775807 := by omega
      rw [hk]
      have HE := Lib.hid hE
      have HK := Lib.hid hk
      have HOK := Lib.hid hok
      have HB2 := Lib.hid (hB.trans (hb2.mono hB.size))
      clear hE hk v1 hby hb2 hok hB
      go_wp2_with fail
      go_roundw
      case rel =>
        refine ⟨i + 1, W ++ [d], by omega, by go_num, by rw [List.length_append, HWL.out]; rfl, fun x hx => ?_, ?_, ⟨m, k, rfl, rfl, .inr ⟨W, d, rfl, HM.out, HK.out⟩⟩, HB2.out⟩
        · rcases List.mem_append.1 hx with hx | hx
          · exact HW.out x hx
          · obtain rfl : x = d := by simpa using hx
            exact HOK.out
        · rw [txt_snoc, ← strL_append, HS.out, HE.out]
      case measure => simp [intOf]; omega
    · have hin : ¬ (i : Int) < (n : Int) := by omega
      skip
      rename_i Z1 Z2 Z3
      revert hle hcap Z1 w1 HT HI HB1 Z2 Z3 wr u12 u13 u24 u25 u26 u27 u28 u29 u30 u31 u32 u33 u34 u35 u36 u37 u38 u39 u40 u41 u42 u43 u44 i W hi hWl hB P kk m hl4 S hsz HS HM HW HWL HL hm46 hlt hin
      exact hR0.out⟩
end Go.Proofs.YtfjbjcaccfcakaaDoor
