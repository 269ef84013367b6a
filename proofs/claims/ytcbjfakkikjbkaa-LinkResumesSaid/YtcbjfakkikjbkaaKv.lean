/-
  Which lists of deliveries are not too great; where a tag stands first; is it told of. Conditions: the lists lie in memory.
-/
import Derived.Test.YtcbjfakkikjbkaaKu
namespace Go.Proofs.Ytcbjfakkikjbkaa
open Go.RowKit Go.Maps
set_option linter.all false

def valL : List Value := [.int .i64 0, .int .u64 0, .string ⟨#[]⟩, .slice none 0 0, .int .i64 0]
def faultL : List Value := [.string ⟨#[]⟩, .string ⟨#[]⟩] ++ valL
def stateL : List Value := [.int .i64 0, .int .i64 0, .int .i64 0] ++ faultL ++ [.bool false, .bool false] ++ valL ++ [.string ⟨#[]⟩, .slice none 0 0]
def termL : List Value := [.int .i64 0, .string ⟨#[]⟩, .int .i64 0, .int .i64 0, .int .i64 0, .bool false, .int .i64 0, .string ⟨#[]⟩] ++ stateL ++ [.slice none 0 0, .slice none 0 0]
/-- a perform that tells a link's fields; all else is nought -/
def perfL (k ni hd ct cr av : Int) (dr : Bool) : List Value :=
  [.int .i64 k, .string ⟨#[]⟩, .string ⟨#[]⟩, .int .i64 0, .int .i64 0, .int .i64 0] ++ valL ++ [.int .i64 0, .int .i64 ni, .int .i64 0, .int .i64 0, .int .i64 0, .int .i64 0, .string ⟨#[]⟩, .int .i64 hd, .bool false, .int .i64 0, .int .i64 0] ++ termL ++ termL ++
    [.slice none 0 0, .bool false, .int .i64 0, .int .i64 0, .int .i64 ct, .int .i64 cr, .int .i64 av, .bool dr, .bool false, .int .i64 0, .bool false, .string ⟨#[]⟩, .int .i64 0, .bool false, .bool false, .bool false, .bool false, .bool false, .bool false] ++ stateL ++
    [.int .i64 0, .int .i64 0, .bool false] ++ faultL
def perfC (k ni hd ct cr av : Int) (dr : Bool) : Array Value := (perfL k ni hd ct cr av dr).toArray
theorem perf_is (k ni hd ct cr av : Int) (dr : Bool) : PfIs (perfC k ni hd ct cr av dr) k ct cr av dr := ⟨rfl, rfl, rfl, rfl, rfl, rfl⟩
/-- an operation that has a list of deliveries alone -/
def opC (v : Value) : Array Value := (([.int .i64 0, .bool false, .int .i64 0, .bool false, .string ⟨#[]⟩] : List Value) ++ stateL ++ perfL 0 0 0 0 0 0 false ++ [v]).toArray
theorem opC_state (v : Value) (j : Nat) (hj : j < 19) : (opC v)[5 + j]? = (scells zS default)[j]? := by
  match j, hj with
  | 0, _ => rfl | 1, _ => rfl | 2, _ => rfl | 3, _ => rfl | 4, _ => rfl | 5, _ => rfl | 6, _ => rfl | 7, _ => rfl | 8, _ => rfl | 9, _ => rfl | 10, _ => rfl | 11, _ => rfl | 12, _ => rfl | 13, _ => rfl | 14, _ => rfl | 15, _ => rfl | 16, _ => rfl | 17, _ => rfl | 18, _ => rfl
  | m + 19, h => exact absurd h (by omega)
theorem opC_props (v : Value) (j : Nat) (hj : j < 5) : (opC v)[30 + j]? = (vcells zV (.slice none 0 0))[j]? := by
  match j, hj with
  | 0, _ => rfl | 1, _ => rfl | 2, _ => rfl | 3, _ => rfl | 4, _ => rfl
  | m + 5, h => exact absurd h (by omega)
theorem opC_left (v : Value) : (opC v)[152]? = some v := by kernel_rfl

/-- a list that is not too great -/
def Ok14 (L : List Un) : Prop := L.length ≤ 100000 ∧ ∀ u ∈ L, u.st.Fine ∧ u.st.w ≤ 100000
def Gr14 (w : World) (L : List Un) (e : Ending) (w' : World) : Prop := ∃ b : Bool, e = .returned (.bool b) ∧ (b = false → Ok14 L) ∧ Below w.heap.size w w'
set_option maxRecDepth 20000 in
set_option maxHeartbeats 8000000 in
theorem great14_any (w : World) (p : Option Addr) (n c : Nat) (L : List Un) (h : UsIn w p n c L) : Calls Try.prog 5 #[.agg (opC (.slice p n c))] w (Gr14 w L) := by
  have HU := Lib.hid h
  have hle := h.le
  have hcap := h.cap
  have hp3 := h.ptr
  have HLE := Lib.hid h.len
  unfold maxLen at hcap
  obtain ⟨C, hC⟩ : ∃ C, opC (.slice p n c) = C := ⟨_, rfl⟩
  rw [hC]
  have HCS := Lib.hid (show ∀ j, j < 19 → C[5 + j]? = (scells zS default)[j]? by rw [← hC]; exact opC_state _)
  have HCP := Lib.hid (show ∀ j, j < 5 → C[30 + j]? = (vcells zV (.slice none 0 0))[j]? by rw [← hC]; exact opC_props _)
  have HCL := Lib.hid (show C[152]? = some (.slice p n c) by rw [← hC]; exact opC_left _)
  clear h hC
  go_enter Try.func5, Try.ntmps5
  go_upto_region 1 with fail
  have hb0 : Below w.heap.size w (w.alloc (.cells C 40)) := (Below.refl _ _).alloc (Nat.le_refl _) _
  have ox : (w.alloc (.cells C 40)).heap[w.heap.size]? = some (.cells C 40 (0, 0)) := _root_.Go.heap_alloc_new _ _
  change Code.wp _ _ _ _ (w.alloc (.cells C 40))
  generalize (w.alloc (.cells C 40)) = w0 at *
  obtain ⟨x, hx⟩ : ∃ x, w.heap.size = x := ⟨_, rfl⟩
  rw [hx] at ox ⊢
  have HX := Lib.hid (And.intro ox hb0)
  have HRS := Lib.hid (show ∀ V : World, V.heap[x]? = some (.cells C 40 (0, 0)) → V.rangeAt x 5 (sarr zS default).toList from fun V hV j y hj => by
    have hj19 : j < 19 := by have := (List.getElem?_eq_some_iff.1 hj).1; exact this
    rw [cell_of_row _ _ (5 + j) _ _ _ hV, HCS.out j hj19]
    exact hj)
  have HRP := Lib.hid (show ∀ V : World, V.heap[x]? = some (.cells C 40 (0, 0)) → V.rangeAt x 30 (vcells zV (.slice none 0 0)) from fun V hV j y hj => by
    have hj5 : j < 5 := by have := (List.getElem?_eq_some_iff.1 hj).1; exact this
    rw [cell_of_row _ _ (30 + j) _ _ _ hV, HCP.out j hj5]
    exact hj)
  clear ox hb0 hx
  have hwg := weigh_on zS
  unfold weighOn at hwg
  have HWG := Lib.hid (hwg w0 default 0 (zS_in w0) (Int.le_refl _) (by omega))
  have HR0 := Lib.hid (HRS.out w0 HX.out.1)
  clear hwg
  go_wp2_with (refine wpList_load_midTo rfl 33 (.tmp 5) rfl (some 6) rfl x 5 rfl (sarr zS default) _ HR0.out Try.underlying33 rfl size_state ?_)
  refine HWG.out.mono ?_
  rintro e w1 ⟨r, rfl, hwp, hb1⟩
  have ox1 := (hb1.block x (Array.getElem?_eq_some_iff.1 HX.out.1).1).trans HX.out.1
  have HR1 := Lib.hid (HRP.out w1 ox1)
  have HPR := Lib.hid (props_any w1 zV (.slice none 0 0) (zV_in w1))
  have HB1 := Lib.hid (HX.out.2.trans (hb1.mono HX.out.2.size))
  have hr1 := hwp.lt
  have hr2 := hwp.le
  have HO1 := Lib.hid ox1
  clear hwp hb1 ox1
  go_wp2_with (refine wpList_load_midTo rfl 28 (.tmp 10) rfl (some 11) rfl x 30 rfl #[.int .i64 zV.kind, .int .u64 zV.num, .string zV.text, .slice none 0 0, .int .i64 zV.elem] _ HR1.out Try.underlying28 rfl size_value ?_)
  refine HPR.out.mono ?_
  rintro e w2 ⟨rfl, hb2⟩
  have hpz : propN zV = 0 := by unfold propN; rw [if_neg]; rw [V.wt_eq]; simp [zV, V.text, V.list, wts, ByteArray.size]
  rw [hpz]
  have ox2 := (hb2.block x (Array.getElem?_eq_some_iff.1 HO1.out).1).trans HO1.out
  have HB2 := Lib.hid (HB1.out.trans (hb2.mono HB1.out.size))
  have HO2 := Lib.hid ox2
  have e0 : wrap64 (r + 0) = r := by rw [Int.add_zero]; exact wrap_id (by omega) (by omega)
  have e0' : wrap64 r = r := wrap_id (by omega) (by omega)
  clear hb2 ox2 hpz
  go_wp2_with fail
  go_loopw [3, 4] (fun v3 v4 wr => ∃ (k : Nat) (r : Int), k ≤ n ∧ v4 = .int .i64 k ∧ v3 = .int .i64 r ∧ 0 < r ∧ r ≤ 500002 ∧ (r ≤ 100000 → (k : Int) ≤ r ∧ ∀ i (hi : i < L.length), i < k → L[i].st.Fine ∧ L[i].st.w ≤ 100000) ∧ Below w2.heap.size w2 wr) (fun _ v4 _ => n - (intOf v4).toNat)
  case atStart => exact ⟨0, r, Nat.zero_le _, rfl, rfl, by omega, by omega, fun _ => ⟨by omega, fun i hi hk => by omega⟩, Below.refl _ _⟩
  case round =>
    obtain ⟨k, r, hkN, rfl, rfl, hr1, hr2, hr3, hbw⟩ := hrel
    have HR := Lib.hid (And.intro hr1 (And.intro hr2 (And.intro hr3 hbw)))
    have oxr := (hbw.block x (Array.getElem?_eq_some_iff.1 HO2.out).1).trans HO2.out
    have x152 : wr.cell? ⟨x, 152, none⟩ = some (.slice p n c) := (cell_of_row _ _ 152 _ _ _ oxr).trans HCL.out
    have HBW := Lib.hid (HB2.out.trans (hbw.mono HB2.out.size))
    clear oxr hbw
    by_cases hend : (k : Int) < n ∧ r ≤ 100000
    · obtain ⟨hlt, hle⟩ := hend
      have HLT := Lib.hid (And.intro (show k < n by omega) hle)
      have ka : k < L.length := by rw [HLE.out]; omega
      obtain ⟨b1, o1, rfl⟩ := hp3 (by omega)
      obtain ⟨b, o, tk, ee, htk0, hik⟩ := HU.out.at_ ka
      simp only [Option.some.injEq, Addr.mk.injEq, and_true] at ee
      obtain ⟨rfl, rfl⟩ := ee
      have htk : wr.rangeAt b1 (o1 + k * 20) (ucells L[k] tk) := fun j u hu => bs_cellV HBW.out (htk0 j u hu)
      have HKF := Lib.hid (show ∀ r', WghP L[k].st (r + 1) r' → r' ≤ 500002 ∧ 0 < r' ∧ (r' ≤ 100000 → ((k + 1 : Nat) : Int) ≤ r' ∧ ∀ i (hi : i < L.length), i < k + 1 → L[i].st.Fine ∧ L[i].st.w ≤ 100000) from fun r' hw => ⟨hw.le, by have := hw.lt; omega, fun q => by
        have h7 := hw.ok q
        have h8 := HR.out.2.2.1 hle
        refine ⟨by have := hw.lt; have := h8.1; omega, fun i hi hik => ?_⟩
        by_cases e : i = k
        · subst e; exact ⟨h7.1, by have := h7.2; omega⟩
        · exact h8.2 i hi (by omega)⟩)
      have hwg0 := weigh_on L[k].st
      unfold weighOn at hwg0
      have hwg := hwg0 wr tk (r + 1) (hik.st.blw HBW.out) (by omega) (by omega)
      clear hwg0 htk0
      generalize L[k] = yk at htk hik HKF hwg
      obtain ⟨E, hE⟩ : ∃ E, sarr yk.st tk = E := ⟨_, rfl⟩
      have HTK := Lib.hid (show wr.rangeAt b1 (o1 + k * 20 + 1) E.toList by
        rw [← hE]
        intro j v hv
        have := htk (1 + j) v (ucells_get yk tk j v hv)
        rwa [← Nat.add_assoc] at this)
      have HSZ := Lib.hid (show (Try.prog.info? 33).map (·.size) = some E.toList.length by rw [← hE]; exact size_state)
      rw [hE] at hwg
      have HWK := Lib.hid hwg
      have e1 : wrap64 (r + 1) = r + 1 := wrap_id (by omega) (by omega)
      clear htk hik hwg hE ka
      go_wp2_with (refine wpList_load_midTo rfl 33 (.tmp 29) rfl (some 30) rfl b1 (o1 + k * 20 + 1) rfl E _ HTK.out Try.underlying33 rfl HSZ.out ?_)
      refine HWK.out.mono ?_
      rintro e w3 ⟨r', rfl, hwp, hb3⟩
      have HW3 := Lib.hid (And.intro (HKF.out r' hwp) (HR.out.2.2.2.trans (hb3.mono HR.out.2.2.2.size)))
      clear hwp hb3 x152
      go_wp2_with fail
      go_roundw
      case rel => exact ⟨k + 1, r', by have := HLT.out.1; omega, by go_num, rfl, HW3.out.1.2.1, HW3.out.1.1, HW3.out.1.2.2, HW3.out.2⟩
      case measure => simp [intOf]; omega
    · have hpost : decide (100000 < r) = false → Ok14 L := fun q => by
        have q : r ≤ 100000 := by have := of_decide_eq_false q; omega
        have hk : k = n := by
          have : ¬ (k : Int) < n := fun h => hend ⟨h, q⟩
          omega
        have h8 := hr3 q
        refine ⟨by rw [HLE.out]; have := h8.1; omega, fun u hu => ?_⟩
        obtain ⟨i, hi, rfl⟩ := List.getElem_of_mem hu
        exact h8.2 i hi (by rw [hk, ← HLE.out]; exact hi)
      have HPO := Lib.hid (And.intro hpost HBW.out)
      clear hpost hr3
      by_cases hlt : (k : Int) < n
      · have hle : ¬ r ≤ 100000 := fun q => hend ⟨hlt, q⟩
        clear hend
        go_wp2_with fail
        go_ret
        exact ⟨true, rfl, fun q => (by cases q), HPO.out.2⟩
      · clear hend
        go_wp2_with fail
        go_ret
        exact ⟨_, rfl, HPO.out⟩
end Go.Proofs.Ytcbjfakkikjbkaa
