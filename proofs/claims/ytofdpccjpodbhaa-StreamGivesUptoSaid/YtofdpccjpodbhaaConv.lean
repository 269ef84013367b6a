/-
  string(b) of bytes that lie in memory. It speaks of no program. No conditions.
-/
import Derived.Test.YtofdpccjpodbhaaLib
import Derived.Laws.BytesArg
namespace Go.Proofs.Ytofdpccjpodbhaa
open Go.RowKit
set_option linter.unusedVariables false

theorem run_string_bytes {P : Program} (w : World) (src dst e : TypeId) (hs : P.underlying src = some (.slice e)) (he : P.underlying e = some (.int .u8)) (hd : P.underlying dst = some .string) (a : Option Addr) (n c : Nat) (l : List UInt8) (h : BytesIn w a n c l) :
    (convert src dst (.slice a n c)).run P w = .ok (.string ⟨l.toArray⟩) w := by
  by_cases h0 : n = 0
  · subst h0
    have hl : l = [] := List.eq_nil_of_length_eq_zero h.len
    subst hl
    cases a with
    | none => exact run_convert_bytes_nil w src e hs he 0 c dst hd
    | some a =>
      obtain ⟨b, o, e⟩ := a
      rw [run_convert_bytes_string w src dst _ _ 0 c hs he hd]
      simp [Conv.bytesToString, loadCells, loadCellsFrom]
      rfl
  · obtain ⟨b, o, rfl, _, hc⟩ := h.at_ (by have := h.le; omega)
    have := run_convert_bytes_arg (P := P) w src e hs he b o n c (l.map fun x => (x.toNat : Int)) (by rw [List.length_map, h.len]) (fun i hi => by
      rw [hc i hi]
      have hil : i < l.length := by rw [h.len]; exact hi
      simp [List.getD_eq_getElem?_getD, hil]) dst hd
    rw [this]
    have e2 : (l.map fun x => (x.toNat : Int)).map (fun n => UInt8.ofNat n.toNat) = l := by
      rw [List.map_map]
      conv => rhs; rw [← List.map_id l]
      exact List.map_congr_left fun x _ => by simp
    unfold strOfNums
    rw [e2]
end Go.Proofs.Ytofdpccjpodbhaa
