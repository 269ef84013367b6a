/-
  Where a tag stands first; is it told of; is a state final. Conditions: the lists lie in memory.
-/
import Derived.Test.YtcbjfakkikjbkaaKv
namespace Go.Proofs.Ytcbjfakkikjbkaa
open Go.RowKit Go.Maps
set_option linter.all false

/-- where a tag stands first -/
structure FirstAt (L : List Un) (tag : ByteArray) (r : Int) : Prop where
  no : r = -1 → ∀ u ∈ L, u.tag ≠ tag
  yes : r ≠ -1 → ∃ i : Nat, r = i ∧ ∃ h : i < L.length, L[i].tag = tag ∧ ∀ j (hj : j < i), L[j].tag ≠ tag
def FirTo (w : World) (L : List Un) (tag : ByteArray) (e : Ending) (w' : World) : Prop := ∃ r, e = .returned (.int .i64 r) ∧ FirstAt L tag r ∧ w' = w
set_option maxRecDepth 20000 in
set_option maxHeartbeats 4000000 in
theorem first_any (w w0 : World) (p : Option Addr) (n c : Nat) (L : List Un) (tag : ByteArray) (h : UsIn w0 p n c L) (hb : Below w0.heap.size w0 w) : Calls Try.prog 9 #[.slice p n c, .string tag] w (FirTo w L tag) := by
  have HU := Lib.hid h
  have HB := Lib.hid hb
  have hle := h.le
  have hcap := h.cap
  have hp3 := h.ptr
  have HLE := Lib.hid h.len
  unfold maxLen at hcap
  clear h hb
  go_enter Try.func9, Try.ntmps9
  go_wp2_with fail
  go_loopw [5] (fun v5 wr => ∃ k : Nat, k ≤ n ∧ v5 = .int .i64 k ∧ (∀ j (hj : j < L.length), j < k → L[j].tag ≠ tag) ∧ wr = w) (fun v5 _ => n - (intOf v5).toNat)
  case atStart => exact ⟨0, Nat.zero_le _, rfl, fun j hj q => by omega, rfl⟩
  case round =>
    obtain ⟨k, hkn, rfl, hno, rfl⟩ := hrel
    have HNO := Lib.hid hno
    clear hno
    by_cases hlt : (k : Int) < n
    · have HLT := Lib.hid (show k < n by omega)
      have ka : k < L.length := by rw [HLE.out]; omega
      obtain ⟨b1, o1, rfl⟩ := hp3 (by omega)
      obtain ⟨b, o, tk, ee, htk0, hik⟩ := HU.out.at_ ka
      simp only [Option.some.injEq, Addr.mk.injEq, and_true] at ee
      obtain ⟨rfl, rfl⟩ := ee
      have c0 : wr.cell? ⟨b1, o1 + k * 20, none⟩ = some (.string L[k].tag) := bs_cellV HB.out (by have := htk0 0 (.string L[k].tag) rfl; rwa [Nat.add_zero] at this)
      have HY := Lib.hid (show L[k].tag = tag → FirstAt L tag k from fun q => ⟨fun e => by omega, fun _ => ⟨k, rfl, ka, q, fun j hj => HNO.out j (by omega) hj⟩⟩)
      have HN2 := Lib.hid (show L[k].tag ≠ tag → ∀ j (hj : j < L.length), j < k + 1 → L[j].tag ≠ tag from fun q j hj hjk => by
        by_cases e : j = k
        · subst e; exact q
        · exact HNO.out j hj (by omega))
      generalize L[k].tag = yt at *
      clear htk0 hik
      by_cases he : yt = tag
      · have ee : (yt.toList == tag.toList) = true := by rw [teq]; exact decide_eq_true he
        have HF := Lib.hid (HY.out he)
        clear he
        go_wp2_with fail
        go_ret
        exact ⟨_, rfl, HF.out, rfl⟩
      · have ee : (yt.toList == tag.toList) = false := by rw [teq]; exact decide_eq_false he
        have HF := Lib.hid (HN2.out he)
        clear he
        go_wp2_with fail
        go_roundw
        case rel => exact ⟨k + 1, by have := HLT.out; omega, by go_num, HF.out, by first | rfl | trivial⟩
        case measure => simp [intOf]; omega
    · go_wp2_with fail
      go_ret
      refine ⟨-1, rfl, ⟨fun _ u hu => ?_, fun q => absurd rfl q⟩, rfl⟩
      obtain ⟨i, hi, rfl⟩ := List.getElem_of_mem hu
      exact HNO.out i hi (by have := HLE.out; omega)

def AmoTo (w : World) (rs : List (ByteArray × Int)) (tag : ByteArray) (e : Ending) (w' : World) : Prop := ∃ b : Bool, e = .returned (.bool b) ∧ (tag ∈ rs.map Prod.fst → b = true) ∧ w' = w
set_option maxRecDepth 20000 in
set_option maxHeartbeats 4000000 in
theorem among_any (w : World) (v : Value) (rs : List (ByteArray × Int)) (tag : ByteArray) (h : RowOf w rcells 2 v rs) : Calls Try.prog 12 #[v, .string tag] w (AmoTo w rs tag) := by
  obtain ⟨p, c, rfl, hle, hcap, hrow⟩ := h
  obtain ⟨n, hn⟩ : ∃ n, rs.length = n := ⟨_, rfl⟩
  have hrow := fun q : 0 < n => hrow (by rw [hn]; exact q)
  rw [hn] at hle ⊢
  have HLE := Lib.hid hn
  unfold maxLen at hcap
  clear hn
  go_enter Try.func12, Try.ntmps12
  go_wp2_with fail
  go_loopw [5] (fun v5 wr => ∃ k : Nat, k ≤ n ∧ v5 = .int .i64 k ∧ (∀ j (hj : j < rs.length), j < k → rs[j].1 ≠ tag) ∧ wr = w) (fun v5 _ => n - (intOf v5).toNat)
  case atStart => exact ⟨0, Nat.zero_le _, rfl, fun j hj q => by omega, rfl⟩
  case round =>
    obtain ⟨k, hkn, rfl, hno, rfl⟩ := hrel
    have HNO := Lib.hid hno
    clear hno
    by_cases hlt : (k : Int) < n
    · have HLT := Lib.hid (show k < n by omega)
      have ka : k < rs.length := by rw [HLE.out]; omega
      obtain ⟨g, rfl, hr⟩ := hrow (by omega)
      have c0 : wr.cell? ⟨g, k * 2, none⟩ = some (.string rs[k].1) := by
        have := hr k ka 0 (.string rs[k].1) rfl
        rwa [Nat.add_zero] at this
      have HR := Lib.hid hr
      have HN2 := Lib.hid (show rs[k].1 ≠ tag → ∀ j (hj : j < rs.length), j < k + 1 → rs[j].1 ≠ tag from fun q j hj hjk => by
        by_cases e : j = k
        · subst e; exact q
        · exact HNO.out j hj (by omega))
      generalize rs[k].1 = yt at *
      clear hr hrow
      by_cases he : yt = tag
      · have ee : (yt.toList == tag.toList) = true := by rw [teq]; exact decide_eq_true he
        clear he
        go_wp2_with fail
        go_ret
        exact ⟨true, rfl, fun _ => rfl, rfl⟩
      · have ee : (yt.toList == tag.toList) = false := by rw [teq]; exact decide_eq_false he
        have HF := Lib.hid (HN2.out he)
        clear he
        go_wp2_with fail
        go_roundw
        case rel => exact ⟨k + 1, by have := HLT.out; omega, by go_num, HF.out, by first | rfl | trivial⟩
        case measure => simp [intOf]; omega
    · clear hrow
      go_wp2_with fail
      go_ret
      refine ⟨false, rfl, fun q => ?_, rfl⟩
      obtain ⟨x, hx, rfl⟩ := List.mem_map.1 q
      obtain ⟨i, hi, rfl⟩ := List.getElem_of_mem hx
      exact absurd rfl (HNO.out i hi (by have := HLE.out; omega))

set_option maxRecDepth 20000 in
set_option maxHeartbeats 4000000 in
theorem outcome14_any (w : World) (s : St) (t : Sl) : Calls Try.prog 10 #[.agg (sarr s t)] w fun e w' => e = .returned (.bool (outK s.kind)) ∧ Below w.heap.size w w' := by
  obtain ⟨D, hD⟩ : ∃ D, outK s.kind = D := ⟨_, rfl⟩
  rw [hD]
  have HD := Lib.hid hD
  clear hD
  obtain ⟨P, hP⟩ : ∃ P, sarr s t = P := ⟨_, rfl⟩
  rw [hP]
  have HP := Lib.hid hP
  clear hP
  go_enter Try.func10, Try.ntmps10
  go_upto_region 1 with fail
  have hb0 : Below w.heap.size w (w.alloc (.cells P 33)) := (Below.refl _ _).alloc (Nat.le_refl _) _
  have ox : (w.alloc (.cells P 33)).heap[w.heap.size]? = some (.cells P 33 (0, 0)) := _root_.Go.heap_alloc_new _ _
  change Code.wp _ _ _ _ (w.alloc (.cells P 33))
  generalize (w.alloc (.cells P 33)) = w0 at *
  obtain ⟨x, hx⟩ : ∃ x, w.heap.size = x := ⟨_, rfl⟩
  rw [hx] at ox ⊢
  rw [← HP.out] at ox
  have x0 : w0.cell? ⟨x, 0, none⟩ = some (.int .i64 s.kind) := (cell_of_row _ _ 0 _ _ _ ox).trans rfl
  have HB0 := Lib.hid hb0
  clear ox hx hb0
  generalize s.kind = k at *
  by_cases h1 : 36 ≤ k
  · by_cases h2 : k ≤ 39
    · have hDt : D = true := by rw [← HD.out]; exact decide_eq_true ⟨h1, h2⟩
      subst hDt
      go_wp2_with fail
      go_ret
      exact ⟨by first | (simp; done) | (simp; omega), HB0.out⟩
    · have hDf : D = false := by rw [← HD.out]; exact decide_eq_false (fun q => h2 q.2)
      subst hDf
      go_wp2_with fail
      go_ret
      exact ⟨by first | (simp; done) | (simp; omega), HB0.out⟩
  · have hDf : D = false := by rw [← HD.out]; exact decide_eq_false (fun q => h1 q.1)
    subst hDf
    go_wp2_with fail
    go_ret
    exact ⟨by first | (simp; done) | (simp; omega), HB0.out⟩
end Go.Proofs.Ytcbjfakkikjbkaa
