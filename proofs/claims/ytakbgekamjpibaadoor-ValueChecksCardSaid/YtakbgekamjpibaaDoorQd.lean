/-
  The reference's mapped, arrayed. Conditions: the values lie in memory.
-/
import Derived.Test.YtakbgekamjpibaaDoorVr
import Derived.Test.YtakbgekamjpibaaDoorVb
namespace Go.Proofs.YtakbgekamjpibaaDoor
open Go.RowKit
set_option linter.unusedVariables false

attribute [local go_sem] Oper.semAt_some

/-- the keys ahead of the j-th are unlike each other -/
def Unl (l : List V) (j : Nat) : Prop := ∀ i k (hi : 2 * i < l.length) (hk : 2 * k < l.length), i < j → k < i → l[2 * i] ≠ l[2 * k]
theorem evens_lenV (l : List V) (h : l.length % 2 = 0) : (evens l).length = l.length / 2 := by rw [evens_len]; omega
theorem nodup_unl (l : List V) (h : l.length % 2 = 0) : (evens l).Nodup ↔ Unl l (l.length / 2) := by
  have hl := evens_lenV l h
  unfold List.Nodup
  rw [List.pairwise_iff_getElem]
  constructor
  · intro q i k hi hk h1 h2 e
    have := q k i (by omega) (by omega) h2
    rw [evens_get l k hk (by omega), evens_get l i hi (by omega)] at this
    exact this e.symm
  · intro q i j hi hj hij e
    rw [evens_get l i (by omega) hi, evens_get l j (by omega) hj] at e
    exact q j i (by omega) (by omega) (by omega) hij e.symm

set_option maxRecDepth 20000 in
set_option maxHeartbeats 4000000 in
theorem mapped_ref (a : V) (w : World) (s : Value) (h : VIn w a s) (hlb : a.list.length ≤ 1000000) : Calls Tryd.prog 82 #[s] w fun e w' => e = .returned (.bool (mapOk a.list)) ∧ Below w.heap.size w w' := by
  obtain ⟨p, c, hs, h1, h2, h3⟩ := h.slice
  obtain ⟨N, hN⟩ : ∃ N, a.list.length = N := ⟨_, rfl⟩
  rw [hN] at hs h1 h3 hlb
  subst hs
  unfold maxLen at h2
  have HV := Lib.hid h
  have HN := Lib.hid hN
  clear h hN
  go_enter Tryd.func82, Tryd.ntmps82
  by_cases hodd : N % 2 = 0
  · by_cases hbig : N ≤ 2048
    · have hM := Lib.hid (show Unl a.list (N / 2) ↔ mapOk a.list = true from by
        unfold mapOk
        rw [decide_eq_true_eq, HN.out]
        have := nodup_unl a.list (by rw [HN.out]; exact hodd)
        rw [HN.out] at this
        exact ⟨fun q => ⟨hodd, hbig, this.2 q⟩, fun q => this.1 q.2.2⟩)
      have ho1 : ((N : Int) % 2 == 0) = true := by simp; omega
      have ho2 : ((N : Int) % 2 != 0) = false := by simp; omega
      have ho3 : decide (1024 < (N : Int) / 2) = false := decide_eq_false (by omega)
      have HO := Lib.hid (show ∃ n2, N = 2 * n2 from ⟨N / 2, by omega⟩)
      have HOD := Lib.hid hodd
      clear hodd
      go_wp2_with fail
      obtain ⟨n2, hn2⟩ := HO.out
      go_loopw [3] (fun v3 wr => ∃ k j : Nat, k = 2 * j ∧ k ≤ N ∧ v3 = .int .i64 k ∧ Hid (Unl a.list j) ∧ Below w.heap.size w wr) (fun v3 _ => N - (intOf v3).toNat)
      case atStart => exact ⟨0, 0, rfl, Nat.zero_le _, rfl, Lib.hid (fun i k _ _ h => by omega), Below.refl _ _⟩
      case round =>
        obtain ⟨k, j, hkj, hk', rfl, HU, hb⟩ := hrel
        have HJ := Lib.hid (And.intro hkj hn2)
        have HB := Lib.hid hb
        clear hb
        by_cases hkN : (k : Int) < N
        · have hk2 : k + 2 ≤ N := by omega
          have ka : k < a.list.length := by rw [HN.out]; omega
          clear hkj hn2
          go_wp2_with fail
          go_loopw [4] (fun v4 wq => ∃ m q : Nat, m = 2 * q ∧ m ≤ k ∧ v4 = .int .i64 m ∧ Hid (∀ kq (hq : 2 * kq < a.list.length), kq < q → a.list[k] ≠ a.list[2 * kq]) ∧ Below w.heap.size w wq) (fun v4 _ => k - (intOf v4).toNat)
          case atStart => exact ⟨0, 0, rfl, Nat.zero_le _, rfl, Lib.hid (fun _ _ h => by omega), HB.out⟩
          case round =>
            obtain ⟨m, q, hmq, hm', rfl, HQ, hb⟩ := hrel
            have HMQ := Lib.hid hmq
            by_cases hmk : (m : Int) < k
            · have hm2 : m + 2 ≤ k := by have := HJ.out.1; omega
              have km : m < a.list.length := by rw [HN.out]; omega
              have hmN : (m : Int) < N := by omega
              clear hmq
              obtain ⟨b1, o1, rfl⟩ := h3 (by omega)
              obtain ⟨ta, hta, hia⟩ := (HV.out.blw hb).part rfl ka
              obtain ⟨tb, htb, hib⟩ := (HV.out.blw hb).part rfl km
              obtain ⟨c0, c1, c2, c3, c4⟩ := part_cells hta
              obtain ⟨d0, d1, d2, d3, d4⟩ := part_cells htb
              have hd : Below wr.heap.size wr wr.drew := ⟨rfl, rfl, rfl, Nat.le_refl _, fun _ _ => rfl⟩
              have hc := requal_any _ wr.drew ta _ tb (hia.blw hd) (hib.blw hd)
              have HDR : Hid (Below w.heap.size w wr.drew) := Lib.hid ⟨hb.os, hb.tape, hb.output, hb.size, hb.block⟩
              obtain ⟨z, hz⟩ : ∃ z, decide (a.list[k] = a.list[m]) = z := ⟨_, rfl⟩
              rw [hz] at hc
              have HZ := Lib.hid hz
              obtain ⟨pa, ca, hsa, hj0⟩ := hia.slice
              obtain ⟨pb, cb, hsb, hj1⟩ := hib.slice
              subst hsa hsb
              clear hj0 hj1 hz hb hta htb hia hib hd
              obtain ⟨xk, hxk⟩ : ∃ x, a.list[k] = x := ⟨_, rfl⟩
              obtain ⟨xm, hxm⟩ : ∃ x, a.list[m] = x := ⟨_, rfl⟩
              rw [hxk] at c0 c1 c2 c3 c4 hc
              rw [hxm] at d0 d1 d2 d3 d4 hc
              have HC := Lib.hid hc
              clear hc hxk hxm
              go_upto_region 9 with fail
              go_still_tail 8, (by kernel_rfl)
              change wpList _ _ _ _ _ wr.drew
              generalize wr.drew = wd at *
              clear c0 c1 c2 c3 c4 d0 d1 d2 d3 d4
              go_wp2_with fail
              refine HC.out.mono ?_
              rintro e w1 ⟨rfl, hb1⟩
              have HB1 := Lib.hid (HDR.out.trans (hb1.mono HDR.out.size))
              clear hb1
              cases z
              · have HQ2 := Lib.hid (show ∀ kq (hq : 2 * kq < a.list.length), kq < q + 1 → a.list[k] ≠ a.list[2 * kq] from fun kq hq h => by
                  by_cases e : kq = q
                  · subst e
                    have h1 := of_decide_eq_false HZ.out
                    have h2 := HMQ.out
                    subst h2
                    exact h1
                  · exact HQ.out kq hq (by omega))
                go_wp2_with fail
                go_roundw
                case rel => exact ⟨m + 2, q + 1, by have := HMQ.out; omega, by omega, by go_num, HQ2, HB1.out⟩
                case measure => simp [intOf]; omega
              · have HF := Lib.hid (show mapOk a.list = false from by
                  cases hmo : mapOk a.list with
                  | false => rfl
                  | true =>
                    exfalso
                    have h0 := hM.out.2 hmo
                    have h1 := of_decide_eq_true HZ.out
                    have h2 := HMQ.out
                    have h3 := HJ.out.1
                    subst h2
                    subst h3
                    exact h0 j q ka km (by omega) (by omega) h1)
                go_wp2_with fail
                go_ret
                exact ⟨ret_boolV (by rw [HF.out]), HB1.out⟩
            · have hmk2 : m = k := by omega
              have HU2 := Lib.hid (show Unl a.list (j + 1) from fun i kk hi hk hij hki => by
                by_cases e : i = j
                · subst e
                  have h3 := HJ.out.1
                  have h2 := HMQ.out
                  have h4 := HQ.out kk hk (by omega)
                  subst h3
                  exact h4
                · exact HU.out i kk hi hk (by omega) hki)
              have HBQ := Lib.hid hb
              clear hb hmq
              go_wp2_with fail
              go_roundw
              case rel => exact ⟨k + 2, j + 1, by have := HJ.out.1; omega, by omega, by go_num, HU2, HBQ.out⟩
              case measure => simp [intOf]; omega
        · have hke : k = N := by omega
          have HF := Lib.hid (show mapOk a.list = true from hM.out.1 (by
            have e : j = N / 2 := by omega
            rw [← e]; exact HU.out))
          clear hkj hn2 hke
          go_wp2_with fail
          go_ret
          exact ⟨ret_boolV (by rw [HF.out]), HB.out⟩
    · have hM := Lib.hid (show mapOk a.list = false from by unfold mapOk; rw [decide_eq_false_iff_not, HN.out]; exact fun q => hbig q.2.1)
      have ho1 : ((N : Int) % 2 == 0) = true := by simp; omega
      have ho2 : ((N : Int) % 2 != 0) = false := by simp; omega
      have ho3 : decide (1024 < (N : Int) / 2) = true := decide_eq_true (by omega)
      go_wp2_with fail
      go_ret
      exact ⟨ret_boolV (by rw [hM.out]), Below.refl _ _⟩
  · have hM := Lib.hid (show mapOk a.list = false from by unfold mapOk; rw [decide_eq_false_iff_not, HN.out]; exact fun q => hodd q.1)
    have ho1 : ((N : Int) % 2 == 0) = false := by simp; omega
    have ho2 : ((N : Int) % 2 != 0) = true := by simp; omega
    go_wp2_with fail
    go_ret
    exact ⟨ret_boolV (by rw [hM.out]), Below.refl _ _⟩

set_option maxRecDepth 20000 in
set_option maxHeartbeats 4000000 in
theorem arrayed_ref (v : V) (w : World) (s : Value) (h : VIn w v s) (hlb : v.list.length ≤ 1000000) : Calls Tryd.prog 83 #[.agg #[.int .i64 v.kind, .int .u64 v.num, .string v.text, s, .int .i64 v.elem]] w fun e w' => e = .returned (.bool (arrOk v)) ∧ Below w.heap.size w w' := by
  obtain ⟨p, c, hs, h1, h2, h3⟩ := h.slice
  obtain ⟨N, hN⟩ : ∃ N, v.list.length = N := ⟨_, rfl⟩
  rw [hN] at hs h1 h3 hlb
  subst hs
  unfold maxLen at h2
  have HV := Lib.hid h
  have HN := Lib.hid hN
  clear h hN
  go_enter Tryd.func83, Tryd.ntmps83
  go_upto_region 1 with fail
  have hb0 : Below w.heap.size w (w.alloc (.cells #[.int .i64 v.kind, .int .u64 v.num, .string v.text, (.slice p N c), .int .i64 v.elem] 25)) := ((Below.refl _ _).alloc (Nat.le_refl _) _)
  have ox : (w.alloc (.cells #[.int .i64 v.kind, .int .u64 v.num, .string v.text, (.slice p N c), .int .i64 v.elem] 25)).heap[w.heap.size]? = some (.cells #[.int .i64 v.kind, .int .u64 v.num, .string v.text, (.slice p N c), .int .i64 v.elem] 25 (0, 0)) := _root_.Go.heap_alloc_new _ _
  generalize (w.alloc (.cells #[.int .i64 v.kind, .int .u64 v.num, .string v.text, (.slice p N c), .int .i64 v.elem] 25)) = w0 at *
  obtain ⟨x, hx⟩ : ∃ x, w.heap.size = x := ⟨_, rfl⟩
  rw [hx] at ox ⊢
  have HB0 := Lib.hid hb0
  have x3 : w0.cell? ⟨x, 3, none⟩ = some (.slice p N c) := (cell_of_row _ _ 3 _ _ _ ox).trans rfl
  have x4 : w0.cell? ⟨x, 4, none⟩ = some (.int .i64 v.elem) := (cell_of_row _ _ 4 _ _ _ ox).trans rfl
  clear hb0 ox hx
  by_cases e1 : v.elem ≤ 0
  · have HF := Lib.hid (show arrOk v = false from by unfold arrOk; exact decide_eq_false (fun q => by omega))
    go_wp2_with fail
    go_ret
    exact ⟨ret_boolV (by rw [HF.out]), HB0.out⟩
  · by_cases e2 : 24 ≤ v.elem
    · have HF := Lib.hid (show arrOk v = false from by unfold arrOk; exact decide_eq_false (fun q => by omega))
      go_wp2_with fail
      go_ret
      exact ⟨ret_boolV (by rw [HF.out]), HB0.out⟩
    · have HE := Lib.hid (show 0 < v.elem ∧ v.elem < 24 by omega)
      go_wp2_with fail
      go_loopw [3] (fun v3 wr => ∃ k : Nat, k ≤ N ∧ v3 = .int .i64 k ∧ Hid (∀ i (h : i < v.list.length), i < k → (v.list[i]).kind = v.elem) ∧ Below w0.heap.size w0 wr) (fun v3 _ => N - (intOf v3).toNat)
      case atStart => exact ⟨0, Nat.zero_le _, rfl, Lib.hid (fun i _ h => by omega), Below.refl _ _⟩
      case round =>
        obtain ⟨k, hk', rfl, HK, hb⟩ := hrel
        have HB := Lib.hid hb
        have x3 := bs_cellV hb x3
        have x4 := bs_cellV hb x4
        by_cases hkN : (k : Int) < N
        · have ka : k < v.list.length := by rw [HN.out]; omega
          obtain ⟨b1, o1, rfl⟩ := h3 (by omega)
          obtain ⟨ta, hta, hia⟩ := (HV.out.blw (HB0.out.trans (hb.mono HB0.out.size))).part rfl ka
          obtain ⟨c0, c1, c2, c3, c4⟩ := part_cells hta
          have HDR : Hid (Below w0.heap.size w0 wr.drew) := Lib.hid ⟨hb.os, hb.tape, hb.output, hb.size, hb.block⟩
          have hcur : (v.list[k]).kind = v.elem ∨ (v.list[k]).kind ≠ v.elem := Classical.em _
          have HCU : ∀ t : Bool, ((v.list[k]).kind != v.elem) = t → Hid (((v.list[k]).kind != v.elem) = t) := fun t h => Lib.hid h
          obtain ⟨z, hz⟩ : ∃ z, ((v.list[k]).kind != v.elem) = z := ⟨_, rfl⟩
          have HZ := HCU z hz
          obtain ⟨xk, hxk⟩ : ∃ x, (v.list[k]).kind = x := ⟨_, rfl⟩
          rw [hxk] at c0 hz
          clear hb hta hia hcur HCU hxk c1 c2 c3 c4
          go_upto_region 6 with fail
          go_still_tail 8, (by kernel_rfl)
          change wpList _ _ _ _ _ wr.drew
          generalize wr.drew = wd at *
          clear c0
          cases z
          · have HK2 := Lib.hid (show ∀ i (h : i < v.list.length), i < k + 1 → (v.list[i]).kind = v.elem from fun i hi h => by
              by_cases e : i = k
              · subst e
                have := HZ.out
                simpa using this
              · exact HK.out i hi (by omega))
            go_wp2_with fail
            go_roundw
            case rel => exact ⟨k + 1, by omega, by go_num, HK2, HDR.out⟩
            case measure => simp [intOf]; omega
          · have HF := Lib.hid (show arrOk v = false from by
              unfold arrOk
              refine decide_eq_false (fun q => ?_)
              have h1 := q.2.2 _ (List.getElem_mem ka)
              have h2 := HZ.out
              simp [h1] at h2)
            go_wp2_with fail
            go_ret
            exact ⟨ret_boolV (by rw [HF.out]), HB0.out.trans (HDR.out.mono HB0.out.size)⟩
        · have HF := Lib.hid (show arrOk v = true from by
            unfold arrOk
            refine decide_eq_true ⟨HE.out.1, HE.out.2, fun y hy => ?_⟩
            obtain ⟨i, hi, rfl⟩ := List.mem_iff_getElem.1 hy
            exact HK.out i hi (by rw [HN.out] at hi; omega))
          clear hb
          go_wp2_with fail
          go_ret
          exact ⟨ret_boolV (by rw [HF.out]), HB0.out.trans (HB.out.mono HB0.out.size)⟩


end Go.Proofs.YtakbgekamjpibaaDoor
