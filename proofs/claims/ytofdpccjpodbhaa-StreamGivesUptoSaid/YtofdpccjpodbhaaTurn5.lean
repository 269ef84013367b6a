/-
  The contracts of turned and kept of the statements of layer 5. Conditions: the bytes lie in memory.
-/
import Derived.Test.YtofdpccjpodbhaaLent
import Derived.Deep.QuietTactic
import Derived.BigQuiet
namespace Go.Proofs.Ytofdpccjpodbhaa
open Go.RowKit
set_option linter.unusedVariables false

def turnB (l : List UInt8) : List UInt8 := l.map fun x => x ^^^ 85

theorem xor85_all : ∀ i : Fin 256, bits BinOp.xor IntKind.u8 (i.val : Int) 85 = (((UInt8.ofNat i.val ^^^ 85).toNat : Nat) : Int) := by decide +kernel
theorem xor85 (y : UInt8) : bits BinOp.xor IntKind.u8 (y.toNat : Int) 85 = (((y ^^^ 85).toNat : Nat) : Int) := by
  have := xor85_all ⟨y.toNat, y.toNat_lt⟩
  simpa using this

set_option maxHeartbeats 1000000 in
theorem turned_any (w : World) (a : Option Addr) (n c : Nat) (l : List UInt8) (h : BytesIn w a n c l) (hz : n ≤ 1048576) :
    Calls Try.prog 13 #[.slice a n c] w fun e w' => ∃ v, e = .returned v ∧ OwnBytes w' w.heap.size 5 v (turnB l) ∧ Below w.heap.size w w' := by
  have hle := h.le
  have hcap := h.cap
  unfold maxLen at hcap
  have HH := Lib.hid h
  have HL := Lib.hid h.len
  clear h
  go_enter Try.func13, Try.ntmps13
  go_wp2_with fail
  go_loopw [3, 4] (fun s3 s4 wr => ∃ k : Nat, k ≤ n ∧ s4 = .int .i64 k ∧ OwnBytes wr w.heap.size 5 s3 ((turnB l).take k) ∧ Below w.heap.size w wr) (fun _ s4 _ => n - (intOf s4).toNat)
  case atStart => exact ⟨0, by omega, rfl, OwnBytes.nil _ _ _, Below.refl _ _⟩
  case round =>
    obtain ⟨k, hk, rfl, ho, hB⟩ := hrel
    by_cases hlt : k < n
    · have h1 := HH.out.below hB
      obtain ⟨b, o, rfl, _, hc⟩ := h1.at_ (by omega)
      have hck := hc k hlt
      obtain ⟨y, hy⟩ : ∃ y, l.getD k 0 = y := ⟨_, rfl⟩
      rw [hy] at hck
      have hs : (turnB l).take (k + 1) = (turnB l).take k ++ [y ^^^ 85] := by
        rw [take_succ_getD _ _ (by unfold turnB; rw [List.length_map, HL.out]; exact hlt)]
        congr 2
        rw [← hy]
        unfold turnB
        have hkl : k < l.length := by rw [HL.out]; exact hlt
        simp [List.getD_eq_getElem?_getD, hkl]
      have HS := Lib.hid hs
      have hlo : ((turnB l).take k).length = k := by unfold turnB; rw [List.length_take, List.length_map, HL.out]; omega
      have HLO := Lib.hid hlo
      have hbs := hB.size
      clear h1 hc hy hs hlo
      go_wp2_with (at_builtin; refine wpList_append_grew' rfl (.tmp 11) (.tmp 17) 22 rfl w.heap.size 5 Try.underlying22 info_u8 _ ((turnB l).take k) (y ^^^ 85) _ rfl rfl ?hyv ho ?hlen ?hbase ?_)
      case hyv => rw [xor85]
      case hlen => rw [HLO.out]; omega
      case hbase => exact hbs
      intro v' w' ho' hg' hf'
      have ho2 : OwnBytes w' w.heap.size 5 v' ((turnB l).take (k + 1)) := by rw [HS.out]; exact ho'
      have HO2 := Lib.hid ho2
      have hB2 := hB.grown hg' hB.size (fun k hk => (ho.row.lt k hk).1)
      clear ho2 ho' hg' hf' ho
      go_wp2_with fail
      go_roundw
      case rel => exact ⟨k + 1, by omega, by go_num, HO2.out, hB2⟩
      case measure => simp [intOf]; omega
    · obtain rfl : k = n := by omega
      rw [List.take_of_length_le (by unfold turnB; rw [List.length_map, HL.out]; exact Nat.le_refl _)] at ho
      have HO := Lib.hid ho
      clear ho
      go_wp2_with fail
      go_ret
      exact ⟨_, rfl, HO.out, hB⟩

theorem strCat (l r : List UInt8) : ((⟨l.toArray⟩ : ByteArray) ++ ⟨r.toArray⟩) = ⟨(l ++ r).toArray⟩ := by
  apply ByteArray.ext
  simp

set_option maxHeartbeats 2000000 in
/-- .. and its owner writes all over -/
theorem kept_any (w : World) (g n cap : Nat) (L r : List UInt8) (a : Option Addr) (c : Nat) (hg : Lent w g L) (hL : L.length = cap) (hLt : L.take (n + 9) = r ++ spareL) (hnc : n + 9 ≤ cap) (hcm : cap ≤ maxLen) (h : BytesIn w a n c r) (hz : n ≤ 1048576) :
    Calls Try.prog 15 #[.slice (some ⟨g, 0, none⟩) n cap, .slice a n c] w fun e w' => e = .returned (.bool true) ∧ w.grownBy w' (some g) := by
  have hcm' := hcm
  unfold maxLen at hcm'
  have hcc := h.cap
  have hcl := h.le
  unfold maxLen at hcc
  have hrl := h.len
  have hall := hg.bytes 0 (n + 9) cap (by omega) hnc hcm
  rw [List.drop_zero, hLt] at hall
  have v1 : ∀ m, (convert 22 9 (.slice (some ⟨g, 0, none⟩) (n + 9) cap)).run Try.prog (w.drewN m) = .ok (.string ⟨(r ++ spareL).toArray⟩) (w.drewN m) := fun m => run_string_bytes _ _ _ 5 Try.underlying22 Try.underlying5 Try.underlying9 _ _ _ _ (hall.below ⟨rfl, rfl, rfl, Nat.le_refl _, fun _ _ => rfl⟩)
  have v2 : ∀ m, (convert 22 9 (.slice a n c)).run Try.prog (w.drewN m) = .ok (.string ⟨r.toArray⟩) (w.drewN m) := fun m => run_string_bytes _ _ _ 5 Try.underlying22 Try.underlying5 Try.underlying9 _ _ _ _ (h.below ⟨rfl, rfl, rfl, Nat.le_refl _, fun _ _ => rfl⟩)
  have v1' := v1 0
  have v2' := v2 0
  rw [World.drewN_zero] at v1' v2'
  have HG := Lib.hid hg
  have HLL := Lib.hid hL
  have hcat := strCat r spareL
  clear h hall hg hL hLt
  go_enter Try.func15, Try.ntmps15
  go_upto_region 4 with fail
  go_upto_region 5 with fail
  have hb : (r ++ spareL == (({ data := r.toArray } : ByteArray) ++ { data := #[98, 101, 104, 105, 110, 100, 32, 105, 116] }).toList) = true := by
    have e : (({ data := r.toArray } : ByteArray) ++ { data := #[98, 101, 104, 105, 110, 100, 32, 105, 116] }) = ⟨(r ++ spareL).toArray⟩ := hcat
    rw [e, ByteArray.toList_eq]
    simp
  rw [hb]
  clear hb hcat v1 v2 v1' v2'
  go_wp2_with fail
  go_loopw [7] (fun s7 wr => ∃ (k : Nat) (L' : List UInt8), k ≤ n + 9 ∧ s7 = .int .i64 k ∧ Lent wr g L' ∧ L'.length = cap ∧ w.grownBy wr (some g)) (fun s7 _ => n + 9 - (intOf s7).toNat)
  case atStart => exact ⟨0, L, by omega, rfl, HG.out, HLL.out, ⟨rfl, rfl, rfl, Nat.le_refl _, fun _ _ _ => rfl⟩⟩
  case round =>
    obtain ⟨k, L', hk, rfl, hl, hll, hgr⟩ := hrel
    by_cases hlt : k < n + 9
    · have hc := hl.cell k (by omega)
      have hf := hl.frozen k (by omega)
      have hs := hl.set k 238
      have hs' : Lent (wr.setCell ⟨g, k, none⟩ (.int .u8 238)) g (L'.set k 238) := hs
      have hgr2 : w.grownBy (wr.setCell ⟨g, k, none⟩ (.int .u8 238)) (some g) :=
        ⟨hgr.os, hgr.tape, hgr.output, by rw [World.size_setCell]; exact hgr.size, fun j hj hne => (heap_setCell_other wr ⟨g, k, none⟩ j _ (fun e => hne (by rw [e]))).trans (hgr.block j hj hne)⟩
      have HS := Lib.hid hs'
      have HGR := Lib.hid hgr2
      have hklt : (k : Int) < (n : Int) + 9 := by omega
      clear hl hs hs' hgr hgr2
      go_wp2_with fail
      go_roundw
      case rel => exact ⟨k + 1, _, by omega, by go_num, HS.out, by rw [List.length_set]; exact hll, HGR.out⟩
      case measure => simp [intOf]; omega
    · obtain rfl : k = n + 9 := by omega
      have HGR := Lib.hid hgr
      clear hl hgr
      go_wp2_with fail
      go_ret
      exact ⟨rfl, HGR.out⟩
end Go.Proofs.Ytofdpccjpodbhaa
