/-
  Lemmas on the codec. Conditions: as each says.
-/
import Derived.Test.YtnnnfhobbnjmfaaGreatDoorEn08
import Derived.Test.YtnnnfhobbnjmfaaGreatDoorEn03
import Derived.Test.YtnnnfhobbnjmfaaGreatDoorEn21
import Derived.Test.YtnnnfhobbnjmfaaGreatDoorEn09
import Derived.Test.YtnnnfhobbnjmfaaGreatDoorEn19
namespace Go.Proofs.YtnnnfhobbnjmfaaGreatDoor
open Go.RowKit
set_option linter.all false

attribute [local go_sem] Oper.semAt_some

def Unl (l : List V) (j : Nat) : Prop := ∀ i k (hi : 2 * i < l.length) (hk : 2 * k < l.length), i < j → k < i → l[2 * i] ≠ l[2 * k]
theorem evens_lenV (l : List V) (h : l.length % 2 = 0) : (evens l).length = l.length / 2 := by rw [evens_len]; omega
theorem nodup_unl (l : List V) (h : l.length % 2 = 0) : (evens l).Nodup ↔ Unl l (l.length / 2) := by
  have hl := evens_lenV l h
  unfold List.Nodup
  rw [List.pairwise_iff_getElem]
  constructor
  · intro q i k hi hk h1 h2 e
    have := q k i (by omega) (by omega) h2
    rw [evens_get l k hk (by omega), evens_get l i hi (by omega)] at this
    exact this e.symm
  · intro q i j hi hj hij e
    rw [evens_get l i (by omega) hi, evens_get l j (by omega) hj] at e
    exact q j i (by omega) (by omega) (by omega) hij e.symm

set_option maxRecDepth 20000 in
set_option maxHeartbeats 4000000 in
theorem mapped_ref (a : V) (w : World) (s : Value) (h : VIn w a s) (hlb : a.list.length ≤ 2000000) : Calls Tryz.prog 92 #[s] w fun e w' => e = .returned (.bool (mapOk a.list)) ∧ Below w.heap.size w w' := by
  obtain ⟨p, c, hs, h1, h2, h3⟩ := h.slice
  obtain ⟨N, hN⟩ : ∃ N, a.list.length = N := ⟨_, rfl⟩
  rw [hN] at hs h1 h3 hlb
  subst hs
  unfold maxLen at h2
  have HV := Lib.hid h
  have HN := Lib.hid hN
  clear h hN
  go_enter Tryz.func92, Tryz.ntmps92
  by_cases hodd : N % 2 = 0
  · by_cases hbig : N ≤ 2048
    · have hM := Lib.hid (show Unl a.list (N / 2) ↔ mapOk a.list = true from by
        unfold mapOk
        rw [decide_eq_true_eq, HN.out]
        have := nodup_unl a.list (by rw [HN.out]; exact hodd)
        rw [HN.out] at this
        exact ⟨fun q => ⟨hodd, hbig, this.2 q⟩, fun q => this.1 q.2.2⟩)
      have ho1 : ((N : Int) % 2 == 0) = true := by simp; omega
      have ho2 : ((N : Int) % 2 != 0) = false := by simp; omega
      have ho3 : decide (1024 < (N : Int) / 2) = false := decide_eq_false (by omega)
      have HO := Lib.hid (show ∃ n2, N = 2 * n2 from ⟨N / 2, by omega⟩)
      have HOD := Lib.hid hodd
      clear hodd
      go_wp2_with fail
      obtain ⟨n2, hn2⟩ := HO.out
      go_loopw [3] (fun v3 wr => ∃ k j : Nat, k = 2 * j ∧ k ≤ N ∧ v3 = .int .i64 k ∧ Hid (Unl a.list j) ∧ Below w.heap.size w wr) (fun v3 _ => N - (intOf v3).toNat)
      case atStart => exact ⟨0, 0, rfl, Nat.zero_le _, rfl, Lib.hid (fun i k _ _ h => by omega), Below.refl _ _⟩
      case round =>
        obtain ⟨k, j, hkj, hk', rfl, HU, hb⟩ := hrel
        have HJ := Lib.hid (And.intro hkj hn2)
        have HB := Lib.hid hb
        clear hb
        by_cases hkN : (k : Int) < N
        · have hk2 : k + 2 ≤ N := by omega
          have ka : k < a.list.length := by rw [HN.out]; omega
          clear hkj hn2
          go_wp2_with fail
          go_loopw [4] (fun v4 wq => ∃ m q : Nat, m = 2 * q ∧ m ≤ k ∧ v4 = .int .i64 m ∧ Hid (∀ kq (hq : 2 * kq < a.list.length), kq < q → a.list[k] ≠ a.list[2 * kq]) ∧ Below w.heap.size w wq) (fun v4 _ => k - (intOf v4).toNat)
          case atStart => exact ⟨0, 0, rfl, Nat.zero_le _, rfl, Lib.hid (fun _ _ h => by omega), HB.out⟩
          case round =>
            obtain ⟨m, q, hmq, hm', rfl, HQ, hb⟩ := hrel
            have HMQ := Lib.hid hmq
            by_cases hmk : (m : Int) < k
            · have hm2 : m + 2 ≤ k := by have := HJ.out.1; omega
              have km : m < a.list.length := by rw [HN.out]; omega
              have hmN : (m : Int) < N := by omega
              clear hmq
              obtain ⟨b1, o1, rfl⟩ := h3 (by omega)
              obtain ⟨ta, hta, hia⟩ := (HV.out.blw hb).part rfl ka
              obtain ⟨tb, htb, hib⟩ := (HV.out.blw hb).part rfl km
              obtain ⟨c0, c1, c2, c3, c4⟩ := part_cells hta
              obtain ⟨d0, d1, d2, d3, d4⟩ := part_cells htb
              have hd : Below wr.heap.size wr wr.drew := ⟨rfl, rfl, rfl, Nat.le_refl _, fun _ _ => rfl⟩
              have hc := requal_any _ wr.drew ta _ tb (hia.blw hd) (hib.blw hd)
              have HDR : Hid (Below w.heap.size w wr.drew) := Lib.hid ⟨hb.os, hb.tape, hb.output, hb.size, hb.block⟩
              obtain ⟨z, hz⟩ : ∃ z, decide (a.list[k] = a.list[m]) = z := ⟨_, rfl⟩
              rw [hz] at hc
              have HZ := Lib.hid hz
              obtain ⟨pa, ca, hsa, hj0⟩ := hia.slice
              obtain ⟨pb, cb, hsb, hj1⟩ := hib.slice
              subst hsa hsb
              clear hj0 hj1 hz hb hta htb hia hib hd
              obtain ⟨xk, hxk⟩ : ∃ x, a.list[k] = x := ⟨_, rfl⟩
              obtain ⟨xm, hxm⟩ : ∃ x, a.list[m] = x := ⟨_, rfl⟩
              rw [hxk] at c0 c1 c2 c3 c4 hc
              rw [hxm] at d0 d1 d2 d3 d4 hc
              have HC := Lib.hid hc
              clear hc hxk hxm
              go_upto_region 9 with fail
              go_still_tail 8, (by kernel_rfl)
              change wpList _ _ _ _ _ wr.drew
              generalize wr.drew = wd at *
              clear c0 c1 c2 c3 c4 d0 d1 d2 d3 d4
              go_wp2_with fail
              refine HC.out.mono ?_
              rintro e w1 ⟨rfl, hb1⟩
              have HB1 := Lib.hid (HDR.out.trans (hb1.mono HDR.out.size))
              clear hb1
              cases z
              · have HQ2 := Lib.hid (show ∀ kq (hq : 2 * kq < a.list.length), kq < q + 1 → a.list[k] ≠ a.list[2 * kq] from fun kq hq h => by
                  by_cases e : kq = q
                  · subst e
                    have h1 := of_decide_eq_false HZ.out
                    have h2 := HMQ.out
                    subst h2
                    exact h1
                  · exact HQ.out kq hq (by omega))
                go_wp2_with fail
                go_roundw
                case rel => exact ⟨m + 2, q + 1, by have := HMQ.out; omega, by omega, by go_num, HQ2, HB1.out⟩
                case measure => simp [intOf]; omega
              · have HF := Lib.hid (show mapOk a.list = false from by
                  cases hmo : mapOk a.list with
                  | false => rfl
                  | true =>
                    exfalso
                    have h0 := hM.out.2 hmo
                    have h1 := of_decide_eq_true HZ.out
                    have h2 := HMQ.out
                    have h3 := HJ.out.1
                    subst h2
                    subst h3
                    exact h0 j q ka km (by omega) (by omega) h1)
                go_wp2_with fail
                go_ret
                exact ⟨ret_boolV (by rw [HF.out]), HB1.out⟩
            · have hmk2 : m = k := by omega
              have HU2 := Lib.hid (show Unl a.list (j + 1) from fun i kk hi hk hij hki => by
                by_cases e : i = j
                · subst e
                  have h3 := HJ.out.1
                  have h2 := HMQ.out
                  have h4 := HQ.out kk hk (by omega)
                  subst h3
                  exact h4
                · exact HU.out i kk hi hk (by omega) hki)
              have HBQ := Lib.hid hb
              clear hb hmq
              go_wp2_with fail
              go_roundw
              case rel => exact ⟨k + 2, j + 1, by have := HJ.out.1; omega, by omega, by go_num, HU2, HBQ.out⟩
              case measure => simp [intOf]; omega
        · have hke : k = N := by omega
          have HF := Lib.hid (show mapOk a.list = true from hM.out.1 (by
            have e : j = N / 2 := by omega
            rw [← e]; exact HU.out))
          clear hkj hn2 hke
          go_wp2_with fail
          go_ret
          exact ⟨ret_boolV (by rw [HF.out]), HB.out⟩
    · have hM := Lib.hid (show mapOk a.list = false from by unfold mapOk; rw [decide_eq_false_iff_not, HN.out]; exact fun q => hbig q.2.1)
      have ho1 : ((N : Int) % 2 == 0) = true := by simp; omega
      have ho2 : ((N : Int) % 2 != 0) = false := by simp; omega
      have ho3 : decide (1024 < (N : Int) / 2) = true := decide_eq_true (by omega)
      go_wp2_with fail
      go_ret
      exact ⟨ret_boolV (by rw [hM.out]), Below.refl _ _⟩
  · have hM := Lib.hid (show mapOk a.list = false from by unfold mapOk; rw [decide_eq_false_iff_not, HN.out]; exact fun q => hodd q.1)
    have ho1 : ((N : Int) % 2 == 0) = false := by simp; omega
    have ho2 : ((N : Int) % 2 != 0) = true := by simp; omega
    go_wp2_with fail
    go_ret
    exact ⟨ret_boolV (by rw [hM.out]), Below.refl _ _⟩

set_option maxRecDepth 20000 in
set_option maxHeartbeats 4000000 in
theorem arrayed_ref (v : V) (w : World) (s : Value) (h : VIn w v s) (hlb : v.list.length ≤ 2000000) : Calls Tryz.prog 93 #[.agg #[.int .i64 v.kind, .int .u64 v.num, .string v.text, s, .int .i64 v.elem]] w fun e w' => e = .returned (.bool (arrOk v)) ∧ Below w.heap.size w w' := by
  obtain ⟨p, c, hs, h1, h2, h3⟩ := h.slice
  obtain ⟨N, hN⟩ : ∃ N, v.list.length = N := ⟨_, rfl⟩
  rw [hN] at hs h1 h3 hlb
  subst hs
  unfold maxLen at h2
  have HV := Lib.hid h
  have HN := Lib.hid hN
  clear h hN
  go_enter Tryz.func93, Tryz.ntmps93
  go_upto_region 1 with fail
  have hb0 : Below w.heap.size w (w.alloc (.cells #[.int .i64 v.kind, .int .u64 v.num, .string v.text, (.slice p N c), .int .i64 v.elem] 25)) := ((Below.refl _ _).alloc (Nat.le_refl _) _)
  have ox : (w.alloc (.cells #[.int .i64 v.kind, .int .u64 v.num, .string v.text, (.slice p N c), .int .i64 v.elem] 25)).heap[w.heap.size]? = some (.cells #[.int .i64 v.kind, .int .u64 v.num, .string v.text, (.slice p N c), .int .i64 v.elem] 25 (0, 0)) := _root_.Go.heap_alloc_new _ _
  generalize (w.alloc (.cells #[.int .i64 v.kind, .int .u64 v.num, .string v.text, (.slice p N c), .int .i64 v.elem] 25)) = w0 at *
  obtain ⟨x, hx⟩ : ∃ x, w.heap.size = x := ⟨_, rfl⟩
  rw [hx] at ox ⊢
  have HB0 := Lib.hid hb0
  have x3 : w0.cell? ⟨x, 3, none⟩ = some (.slice p N c) := (cell_of_row _ _ 3 _ _ _ ox).trans rfl
  have x4 : w0.cell? ⟨x, 4, none⟩ = some (.int .i64 v.elem) := (cell_of_row _ _ 4 _ _ _ ox).trans rfl
  clear hb0 ox hx
  by_cases e1 : v.elem ≤ 0
  · have HF := Lib.hid (show arrOk v = false from by unfold arrOk; exact decide_eq_false (fun q => by omega))
    go_wp2_with fail
    go_ret
    exact ⟨ret_boolV (by rw [HF.out]), HB0.out⟩
  · by_cases e2 : 24 ≤ v.elem
    · have HF := Lib.hid (show arrOk v = false from by unfold arrOk; exact decide_eq_false (fun q => by omega))
      go_wp2_with fail
      go_ret
      exact ⟨ret_boolV (by rw [HF.out]), HB0.out⟩
    · have HE := Lib.hid (show 0 < v.elem ∧ v.elem < 24 by omega)
      go_wp2_with fail
      go_loopw [3] (fun v3 wr => ∃ k : Nat, k ≤ N ∧ v3 = .int .i64 k ∧ Hid (∀ i (h : i < v.list.length), i < k → (v.list[i]).kind = v.elem) ∧ Below w0.heap.size w0 wr) (fun v3 _ => N - (intOf v3).toNat)
      case atStart => exact ⟨0, Nat.zero_le _, rfl, Lib.hid (fun i _ h => by omega), Below.refl _ _⟩
      case round =>
        obtain ⟨k, hk', rfl, HK, hb⟩ := hrel
        have HB := Lib.hid hb
        have x3 := bs_cellV hb x3
        have x4 := bs_cellV hb x4
        by_cases hkN : (k : Int) < N
        · have ka : k < v.list.length := by rw [HN.out]; omega
          obtain ⟨b1, o1, rfl⟩ := h3 (by omega)
          obtain ⟨ta, hta, hia⟩ := (HV.out.blw (HB0.out.trans (hb.mono HB0.out.size))).part rfl ka
          obtain ⟨c0, c1, c2, c3, c4⟩ := part_cells hta
          have HDR : Hid (Below w0.heap.size w0 wr.drew) := Lib.hid ⟨hb.os, hb.tape, hb.output, hb.size, hb.block⟩
          have hcur : (v.list[k]).kind = v.elem ∨ (v.list[k]).kind ≠ v.elem := Classical.em _
          have HCU : ∀ t : Bool, ((v.list[k]).kind != v.elem) = t → Hid (((v.list[k]).kind != v.elem) = t) := fun t h => Lib.hid h
          obtain ⟨z, hz⟩ : ∃ z, ((v.list[k]).kind != v.elem) = z := ⟨_, rfl⟩
          have HZ := HCU z hz
          obtain ⟨xk, hxk⟩ : ∃ x, (v.list[k]).kind = x := ⟨_, rfl⟩
          rw [hxk] at c0 hz
          clear hb hta hia hcur HCU hxk c1 c2 c3 c4
          go_upto_region 6 with fail
          go_still_tail 8, (by kernel_rfl)
          change wpList _ _ _ _ _ wr.drew
          generalize wr.drew = wd at *
          clear c0
          cases z
          · have HK2 := Lib.hid (show ∀ i (h : i < v.list.length), i < k + 1 → (v.list[i]).kind = v.elem from fun i hi h => by
              by_cases e : i = k
              · subst e
                have := HZ.out
                simpa using this
              · exact HK.out i hi (by omega))
            go_wp2_with fail
            go_roundw
            case rel => exact ⟨k + 1, by omega, by go_num, HK2, HDR.out⟩
            case measure => simp [intOf]; omega
          · have HF := Lib.hid (show arrOk v = false from by
              unfold arrOk
              refine decide_eq_false (fun q => ?_)
              have h1 := q.2.2 _ (List.getElem_mem ka)
              have h2 := HZ.out
              simp [h1] at h2)
            go_wp2_with fail
            go_ret
            exact ⟨ret_boolV (by rw [HF.out]), HB0.out.trans (HDR.out.mono HB0.out.size)⟩
        · have HF := Lib.hid (show arrOk v = true from by
            unfold arrOk
            refine decide_eq_true ⟨HE.out.1, HE.out.2, fun y hy => ?_⟩
            obtain ⟨i, hi, rfl⟩ := List.mem_iff_getElem.1 hy
            exact HK.out i hi (by rw [HN.out] at hi; omega))
          clear hb
          go_wp2_with fail
          go_ret
          exact ⟨ret_boolV (by rw [HF.out]), HB0.out.trans (HB.out.mono HB0.out.size)⟩



attribute [local go_sem] Oper.semAt_some

set_option maxRecDepth 20000 in
set_option maxHeartbeats 4000000 in
theorem own_ref (v : V) (d : Int) (w : World) (s : Value) (h : VIn w v s) (hts : v.text.size ≤ 9223372036854775800) (hlb : v.list.length ≤ 2000000) :
    Calls Tryz.prog 60 #[.agg #[.int .i64 v.kind, .int .u64 v.num, .string v.text, s, .int .i64 v.elem], .int .i64 d] w fun e w' => e = .returned (.int .i64 (aloneC v d)) ∧ Below w.heap.size w w' := by
  obtain ⟨p, c, hs, h1, h2, h3⟩ := h.slice
  obtain ⟨N, hN⟩ : ∃ N, v.list.length = N := ⟨_, rfl⟩
  have HLB := Lib.hid (And.intro hts hlb)
  rw [hN] at hs h1 h3 hlb
  subst hs
  unfold maxLen at h2
  have HV := Lib.hid h
  have HN := Lib.hid hN
  obtain ⟨b1, hb1⟩ : ∃ b, rextraV v = b := ⟨_, rfl⟩
  obtain ⟨b2, hb2⟩ : ∃ b, numOk v.kind v.num = b := ⟨_, rfl⟩
  obtain ⟨b3, hb3⟩ : ∃ b, textOk v.kind v.text = b := ⟨_, rfl⟩
  have HBB := Lib.hid (And.intro hb1 (And.intro hb2 hb3))
  clear h hN hb1 hb2 hb3 hts
  go_enter Tryz.func60, Tryz.ntmps60
  go_upto_region 1 with fail
  have hb0 : Below w.heap.size w (w.alloc (.cells #[.int .i64 v.kind, .int .u64 v.num, .string v.text, (.slice p N c), .int .i64 v.elem] 25)) := ((Below.refl _ _).alloc (Nat.le_refl _) _)
  have ox : (w.alloc (.cells #[.int .i64 v.kind, .int .u64 v.num, .string v.text, (.slice p N c), .int .i64 v.elem] 25)).heap[w.heap.size]? = some (.cells #[.int .i64 v.kind, .int .u64 v.num, .string v.text, (.slice p N c), .int .i64 v.elem] 25 (0, 0)) := _root_.Go.heap_alloc_new _ _
  generalize (w.alloc (.cells #[.int .i64 v.kind, .int .u64 v.num, .string v.text, (.slice p N c), .int .i64 v.elem] 25)) = w0 at *
  obtain ⟨x, hx⟩ : ∃ x, w.heap.size = x := ⟨_, rfl⟩
  rw [hx] at ox ⊢
  have HB0 := Lib.hid hb0
  have HO := Lib.hid ox
  clear hb0 ox hx
  have hc := rextra_any v w0 _ (HV.out.blw HB0.out)
  rw [HBB.out.1] at hc
  have HC := Lib.hid hc
  clear hc
  have x0 : w0.cell? ⟨x, 0, none⟩ = some (.int .i64 v.kind) := (cell_of_row _ _ 0 _ _ _ HO.out).trans rfl
  have x1 : w0.cell? ⟨x, 1, none⟩ = some (.int .u64 v.num) := (cell_of_row _ _ 1 _ _ _ HO.out).trans rfl
  have x2 : w0.cell? ⟨x, 2, none⟩ = some (.string v.text) := (cell_of_row _ _ 2 _ _ _ HO.out).trans rfl
  have x3 : w0.cell? ⟨x, 3, none⟩ = some (.slice p N c) := (cell_of_row _ _ 3 _ _ _ HO.out).trans rfl
  have x4 : w0.cell? ⟨x, 4, none⟩ = some (.int .i64 v.elem) := (cell_of_row _ _ 4 _ _ _ HO.out).trans rfl
  go_wp2_with fail
  refine HC.out.mono ?_
  clear x0 x1 x2 x3 x4
  rintro e w1 ⟨rfl, hb1⟩
  have HB1 := Lib.hid hb1
  have ox1 := (hb1.block x (Array.getElem?_eq_some_iff.1 HO.out).1).trans HO.out
  have hc := number_any v w1 _ (HV.out.blw (HB0.out.trans (hb1.mono HB0.out.size)))
  rw [HBB.out.2.1] at hc
  have HC1 := Lib.hid hc
  clear hc hb1
  have x0 : w1.cell? ⟨x, 0, none⟩ = some (.int .i64 v.kind) := (cell_of_row _ _ 0 _ _ _ ox1).trans rfl
  have x1 : w1.cell? ⟨x, 1, none⟩ = some (.int .u64 v.num) := (cell_of_row _ _ 1 _ _ _ ox1).trans rfl
  have x2 : w1.cell? ⟨x, 2, none⟩ = some (.string v.text) := (cell_of_row _ _ 2 _ _ _ ox1).trans rfl
  have x3 : w1.cell? ⟨x, 3, none⟩ = some (.slice p N c) := (cell_of_row _ _ 3 _ _ _ ox1).trans rfl
  have x4 : w1.cell? ⟨x, 4, none⟩ = some (.int .i64 v.elem) := (cell_of_row _ _ 4 _ _ _ ox1).trans rfl
  clear ox1
  go_wp2_with fail
  refine HC1.out.mono ?_
  clear x0 x1 x2 x3 x4
  rintro e w2 ⟨rfl, hb2⟩
  have HB2 := Lib.hid (HB1.out.trans (hb2.mono HB1.out.size))
  have ox2 := (HB2.out.block x (Array.getElem?_eq_some_iff.1 HO.out).1).trans HO.out
  have hc := spelled_any v w2 _ (HV.out.blw (HB0.out.trans (HB2.out.mono HB0.out.size))) HLB.out.1
  rw [HBB.out.2.2] at hc
  have HC2 := Lib.hid hc
  clear hc hb2
  have x0 : w2.cell? ⟨x, 0, none⟩ = some (.int .i64 v.kind) := (cell_of_row _ _ 0 _ _ _ ox2).trans rfl
  have x1 : w2.cell? ⟨x, 1, none⟩ = some (.int .u64 v.num) := (cell_of_row _ _ 1 _ _ _ ox2).trans rfl
  have x2 : w2.cell? ⟨x, 2, none⟩ = some (.string v.text) := (cell_of_row _ _ 2 _ _ _ ox2).trans rfl
  have x3 : w2.cell? ⟨x, 3, none⟩ = some (.slice p N c) := (cell_of_row _ _ 3 _ _ _ ox2).trans rfl
  have x4 : w2.cell? ⟨x, 4, none⟩ = some (.int .i64 v.elem) := (cell_of_row _ _ 4 _ _ _ ox2).trans rfl
  clear ox2
  go_wp2_with fail
  refine HC2.out.mono ?_
  clear x0 x1 x2 x3 x4
  rintro e w3 ⟨rfl, hb3⟩
  have HB3 := Lib.hid (HB2.out.trans (hb3.mono HB2.out.size))
  have ox3 := (HB3.out.block x (Array.getElem?_eq_some_iff.1 HO.out).1).trans HO.out
  have HO3 := Lib.hid ox3
  clear hb3
  have x0 : w3.cell? ⟨x, 0, none⟩ = some (.int .i64 v.kind) := (cell_of_row _ _ 0 _ _ _ ox3).trans rfl
  have x1 : w3.cell? ⟨x, 1, none⟩ = some (.int .u64 v.num) := (cell_of_row _ _ 1 _ _ _ ox3).trans rfl
  have x2 : w3.cell? ⟨x, 2, none⟩ = some (.string v.text) := (cell_of_row _ _ 2 _ _ _ ox3).trans rfl
  have x3 : w3.cell? ⟨x, 3, none⟩ = some (.slice p N c) := (cell_of_row _ _ 3 _ _ _ ox3).trans rfl
  have x4 : w3.cell? ⟨x, 4, none⟩ = some (.int .i64 v.elem) := (cell_of_row _ _ 4 _ _ _ ox3).trans rfl
  clear ox3
  by_cases k0 : v.kind < 0
  · have k1 : ¬ 25 ≤ v.kind := by omega
    have HF := Lib.hid (show aloneC v d = 20 from by unfold aloneC; rw [if_pos k0])
    go_wp2_with fail
    go_ret
    exact ⟨ret_intV (by rw [HF.out]), HB0.out.trans (HB3.out.mono HB0.out.size)⟩
  · by_cases k1 : 25 ≤ v.kind
    · skip
      have HF := Lib.hid (show aloneC v d = 20 from by unfold aloneC; rw [if_neg k0, if_pos (by omega)])
      go_wp2_with fail
      go_ret
      exact ⟨ret_intV (by rw [HF.out]), HB0.out.trans (HB3.out.mono HB0.out.size)⟩
    · have HK := Lib.hid (show 0 ≤ v.kind ∧ v.kind ≤ 24 by omega)
      by_cases kd : 32 < d
      · skip
        have HF := Lib.hid (show aloneC v d = 26 from by have h := HK.out; unfold aloneC; rw [if_neg k0, if_neg (by omega), if_pos kd])
        go_wp2_with fail
        go_ret
        exact ⟨ret_intV (by rw [HF.out]), HB0.out.trans (HB3.out.mono HB0.out.size)⟩
      · have HIK := Lib.hid (show InK v d from ⟨k0, by have := HK.out; omega, kd⟩)
        have HEX := Lib.hid (show extraV v = b1 from by rw [← HBB.out.1]; exact (rextra_eq v HK.out.1 HK.out.2).symm)
        cases b1
        rotate_left
        · skip
          have HF := Lib.hid (show aloneC v d = 25 from by rw [aloneC_in HIK.out, if_pos HEX.out])
          go_wp2_with fail
          go_ret
          exact ⟨ret_intV (by rw [HF.out]), HB0.out.trans (HB3.out.mono HB0.out.size)⟩
        · cases b2
          · skip
            have HF := Lib.hid (show aloneC v d = 21 from by rw [aloneC_in HIK.out, if_neg (by rw [HEX.out]; simp), if_pos HBB.out.2.1])
            go_wp2_with fail
            go_ret
            exact ⟨ret_intV (by rw [HF.out]), HB0.out.trans (HB3.out.mono HB0.out.size)⟩
          · cases b3
            · skip
              have HF := Lib.hid (show aloneC v d = 22 from by rw [aloneC_in HIK.out, if_neg (by rw [HEX.out]; simp), if_neg (by rw [HBB.out.2.1]; simp), if_pos HBB.out.2.2])
              go_wp2_with fail
              go_ret
              exact ⟨ret_intV (by rw [HF.out]), HB0.out.trans (HB3.out.mono HB0.out.size)⟩
            · have HA := Lib.hid (aloneC_in3 ⟨HIK.out, HEX.out, HBB.out.2.1, HBB.out.2.2⟩)
              by_cases e22 : v.kind = 22
              · have q22 : (v.kind == 22) = true := by simp [e22]
                have hm := mapped_ref v w3 _ (HV.out.blw (HB0.out.trans (HB3.out.mono HB0.out.size))) HLB.out.2
                obtain ⟨z, hz⟩ : ∃ z, mapOk v.list = z := ⟨_, rfl⟩
                rw [hz] at hm
                have HM := Lib.hid hm
                have HZ := Lib.hid (show aloneC v d = if z = false then 23 else 0 from by rw [HA.out, if_pos e22, hz])
                clear hm hz e22
                go_wp2_with fail
                refine HM.out.mono ?_
                clear x0 x1 x2 x3 x4
                rintro e w4 ⟨rfl, hb4⟩
                have HB4 := Lib.hid (HB3.out.trans (hb4.mono HB3.out.size))
                clear hb4
                cases z
                · go_wp2_with fail
                  go_ret
                  exact ⟨ret_intV (by rw [HZ.out]; simp), HB0.out.trans (HB4.out.mono HB0.out.size)⟩
                · go_wp2_with fail
                  go_ret
                  exact ⟨ret_intV (by rw [HZ.out, if_neg (by simp)]), HB0.out.trans (HB4.out.mono HB0.out.size)⟩
              · have q22 : (v.kind == 22) = false := by simp [e22]
                by_cases e23 : v.kind = 23
                · have q23 : (v.kind == 23) = true := by simp [e23]
                  have hm := arrayed_ref v w3 _ (HV.out.blw (HB0.out.trans (HB3.out.mono HB0.out.size))) HLB.out.2
                  obtain ⟨z, hz⟩ : ∃ z, arrOk v = z := ⟨_, rfl⟩
                  rw [hz] at hm
                  have HM := Lib.hid hm
                  have HZ := Lib.hid (show aloneC v d = if z = false then 24 else 0 from by rw [HA.out, if_neg e22, if_pos e23, hz])
                  clear hm hz e22 e23
                  go_wp2_with fail
                  refine HM.out.mono ?_
                  clear x0 x1 x2 x3 x4
                  rintro e w4 ⟨rfl, hb4⟩
                  have HB4 := Lib.hid (HB3.out.trans (hb4.mono HB3.out.size))
                  clear hb4
                  cases z
                  · go_wp2_with fail
                    go_ret
                    exact ⟨ret_intV (by rw [HZ.out]; simp), HB0.out.trans (HB4.out.mono HB0.out.size)⟩
                  · go_wp2_with fail
                    go_ret
                    exact ⟨ret_intV (by rw [HZ.out, if_neg (by simp)]), HB0.out.trans (HB4.out.mono HB0.out.size)⟩
                · have q23 : (v.kind == 23) = false := by simp [e23]
                  by_cases e24 : v.kind = 24
                  · have q24 : (v.kind == 24) = true := by simp [e24]
                    have HZ := Lib.hid (show aloneC v d = if N = 2 then 0 else 27 from by rw [HA.out, if_neg e22, if_neg e23, if_pos e24, HN.out])
                    clear e22 e23 e24
                    by_cases n2 : N = 2
                    · have m2 : ((N : Int) == 2) = true := by simp; omega
                      have m3 : ((N : Int) != 2) = false := by simp; omega
                      have HN2 := Lib.hid n2
                      clear n2
                      go_wp2_with fail
                      go_ret
                      exact ⟨ret_intV (by rw [HZ.out, if_pos HN2.out]), HB0.out.trans (HB3.out.mono HB0.out.size)⟩
                    · have m2 : ((N : Int) == 2) = false := by simp; omega
                      have m3 : ((N : Int) != 2) = true := by simp; omega
                      have HN2 := Lib.hid n2
                      clear n2
                      go_wp2_with fail
                      go_ret
                      exact ⟨ret_intV (by rw [HZ.out, if_neg HN2.out]), HB0.out.trans (HB3.out.mono HB0.out.size)⟩
                  · have q24 : (v.kind == 24) = false := by simp [e24]
                    have HZ := Lib.hid (show aloneC v d = 0 from by rw [HA.out, if_neg e22, if_neg e23, if_neg e24])
                    clear e22 e23 e24
                    go_wp2_with fail
                    go_ret
                    exact ⟨ret_intV (by rw [HZ.out]), HB0.out.trans (HB3.out.mono HB0.out.size)⟩

theorem firstBad_append (a b : List (Int × V)) : firstBad (a ++ b) = if firstBad a = 0 then firstBad b else firstBad a := by
  induction a with
  | nil => simp [firstBad]
  | cons x r ih =>
    obtain ⟨d, y⟩ := x
    rw [List.cons_append, firstBad, firstBad]
    by_cases h : aloneC y d = 0
    · rw [if_pos h, if_pos h, ih]
    · rw [if_neg h, if_neg h, if_neg h]
theorem pres_drop {l : List V} {k : Nat} (h : k < l.length) (d : Int) : pres (l.drop k) d = (l[k]).pre d ++ pres (l.drop (k + 1)) d := by
  rw [List.drop_eq_getElem_cons h, pres]
theorem dep_partV {v x : V} (hx : x ∈ v.list) : x.dep + 1 ≤ v.dep := by
  have key : ∀ (l : List V) (n : Int), 0 ≤ n → x ∈ l → x.dep ≤ deps l n := by
    intro l
    induction l with
    | nil => intro n _ h; cases h
    | cons a r ih2 =>
      intro n hn h
      rw [deps, deps_mono r _ (by have := (dep_bd a).1; omega)]
      rcases List.mem_cons.1 h with rfl | h
      · omega
      · have := ih2 0 (Int.le_refl _) h; omega
  have := key v.list 0 (Int.le_refl _) hx
  rw [v.dep_eq]
  omega

set_option maxRecDepth 20000 in
set_option maxHeartbeats 4000000 in
theorem check_ref : ∀ (v : V) (d : Int) (w : World) (s : Value), VIn w v s → v.wt ≤ 2000000 → 1 ≤ d → d + v.dep ≤ 4000000 →
    Calls Tryz.prog 44 #[.agg #[.int .i64 v.kind, .int .u64 v.num, .string v.text, s, .int .i64 v.elem], .int .i64 d] w fun e w' => e = .returned (.int .i64 (firstBad (v.pre d))) ∧ Below w.heap.size w w' := by
  refine V.ind (fun v ih d w s h hwt hd1 hd2 => ?_)
  obtain ⟨p, c, hs, h1, h2, h3⟩ := h.slice
  obtain ⟨N, hN⟩ : ∃ N, v.list.length = N := ⟨_, rfl⟩
  have hvd := (dep_bd v).1
  have htx := v.text_le
  have hlw := v.len_lt
  have HI := Lib.hid ih
  have HW := Lib.hid (And.intro hwt hd2)
  have HPRE := Lib.hid (show firstBad (v.pre d) = if aloneC v d = 0 then firstBad (pres v.list (d + 1)) else aloneC v d from by rw [V.pre_eq, firstBad])
  rw [hN] at hs h1 h3
  subst hs
  unfold maxLen at h2
  have HV := Lib.hid h
  have HN := Lib.hid hN
  have hdb : d ≤ 4000000 := by omega
  have hc0 := fun w0 hb => own_ref v d w0 _ (VIn.blw h (hb : Below w.heap.size w w0)) (by omega) (by omega)
  have HC0 := Lib.hid hc0
  clear ih h hN hwt hd2 hvd htx hlw hc0
  go_enter Tryz.func44, Tryz.ntmps44
  go_upto_region 1 with fail
  have hb0 : Below w.heap.size w (w.alloc (.cells #[.int .i64 v.kind, .int .u64 v.num, .string v.text, (.slice p N c), .int .i64 v.elem] 25)) := ((Below.refl _ _).alloc (Nat.le_refl _) _)
  have ox : (w.alloc (.cells #[.int .i64 v.kind, .int .u64 v.num, .string v.text, (.slice p N c), .int .i64 v.elem] 25)).heap[w.heap.size]? = some (.cells #[.int .i64 v.kind, .int .u64 v.num, .string v.text, (.slice p N c), .int .i64 v.elem] 25 (0, 0)) := _root_.Go.heap_alloc_new _ _
  generalize (w.alloc (.cells #[.int .i64 v.kind, .int .u64 v.num, .string v.text, (.slice p N c), .int .i64 v.elem] 25)) = w0 at *
  obtain ⟨x, hx⟩ : ∃ x, w.heap.size = x := ⟨_, rfl⟩
  rw [hx] at ox ⊢
  have HB0 := Lib.hid hb0
  have HO := Lib.hid ox
  clear hb0 ox hx
  have hc := HC0.out w0 HB0.out
  obtain ⟨z, hz⟩ : ∃ z, aloneC v d = z := ⟨_, rfl⟩
  rw [hz] at hc
  have HZ := Lib.hid hz
  have HC := Lib.hid hc
  clear hc hz
  have x0 : w0.cell? ⟨x, 0, none⟩ = some (.int .i64 v.kind) := (cell_of_row _ _ 0 _ _ _ HO.out).trans rfl
  have x1 : w0.cell? ⟨x, 1, none⟩ = some (.int .u64 v.num) := (cell_of_row _ _ 1 _ _ _ HO.out).trans rfl
  have x2 : w0.cell? ⟨x, 2, none⟩ = some (.string v.text) := (cell_of_row _ _ 2 _ _ _ HO.out).trans rfl
  have x3 : w0.cell? ⟨x, 3, none⟩ = some (.slice p N c) := (cell_of_row _ _ 3 _ _ _ HO.out).trans rfl
  have x4 : w0.cell? ⟨x, 4, none⟩ = some (.int .i64 v.elem) := (cell_of_row _ _ 4 _ _ _ HO.out).trans rfl
  go_wp2_with fail
  refine HC.out.mono ?_
  clear x0 x1 x2 x3 x4
  rintro e w1 ⟨rfl, hb1⟩
  have HB1 := Lib.hid hb1
  have ox1 := (hb1.block x (Array.getElem?_eq_some_iff.1 HO.out).1).trans HO.out
  have x3 : w1.cell? ⟨x, 3, none⟩ = some (.slice p N c) := (cell_of_row _ _ 3 _ _ _ ox1).trans rfl
  clear hb1 ox1
  by_cases hz0 : z = 0
  · have hzb : (z != 0) = false := by simp [hz0]
    have hzc : (z == 0) = true := by simp [hz0]
    obtain ⟨D, hD⟩ : ∃ D, firstBad (pres v.list (d + 1)) = D := ⟨_, rfl⟩
    have HF := Lib.hid (show firstBad (v.pre d) = D from by rw [HPRE.out, HZ.out, if_pos hz0, hD])
    have HD := Lib.hid (show firstBad (pres (v.list.drop 0) (d + 1)) = D by rw [List.drop_zero]; exact hD)
    clear hz0 hD
    go_wp2_with fail
    go_loopw [5, 6] (fun v5 v6 wr => ∃ (k : Nat) (q5 : Int), k ≤ N ∧ v6 = .int .i64 k ∧ v5 = .int .i64 q5 ∧ Hid (firstBad (pres (v.list.drop k) (d + 1)) = D) ∧ Below w1.heap.size w1 wr) (fun _ v6 _ => N - (intOf v6).toNat)
    case atStart => exact ⟨0, _, Nat.zero_le _, rfl, rfl, HD, Below.refl _ _⟩
    case round =>
      obtain ⟨k, q5, hk', rfl, rfl, HK, hb⟩ := hrel
      have HB := Lib.hid hb
      have x3 := bs_cellV hb x3
      by_cases hkN : (k : Int) < N
      · have ka : k < v.list.length := by rw [HN.out]; omega
        obtain ⟨b1, o1, rfl⟩ := h3 (by omega)
        have hB := HB0.out.trans ((HB1.out.trans (hb.mono HB1.out.size)).mono HB0.out.size)
        obtain ⟨ta, hta, hia⟩ := (HV.out.blw hB).part rfl ka
        obtain ⟨c0, c1, c2, c3, c4⟩ := part_cells hta
        have hst := HK.out
        rw [pres_drop ka, firstBad_append] at hst
        have hc := HI.out _ (List.getElem_mem ka) (d + 1) wr ta hia (by have := V.wt_lt (List.getElem_mem ka); have := HW.out.1; omega) (by omega) (by have := dep_partV (List.getElem_mem ka); have := HW.out.2; omega)
        obtain ⟨pa, ca, hsa, hj0⟩ := hia.slice
        subst hsa
        obtain ⟨y, hy⟩ : ∃ y, firstBad ((v.list[k]).pre (d + 1)) = y := ⟨_, rfl⟩
        rw [hy] at hc hst
        obtain ⟨xk, hxk⟩ : ∃ x, v.list[k] = x := ⟨_, rfl⟩
        rw [hxk] at c0 c1 c2 c3 c4 hc
        have HC2 := Lib.hid hc
        have HST := Lib.hid hst
        clear hc hst hy hxk hj0 hia hta hB hb
        go_wp2_with fail
        refine HC2.out.mono ?_
        clear c0 c1 c2 c3 c4
        rintro e w2 ⟨rfl, hb2⟩
        have HB2 := Lib.hid (HB.out.trans (hb2.mono HB.out.size))
        clear hb2
        by_cases hy0 : y = 0
        · have hyb : (y != 0) = false := by simp [hy0]
          have hyc : (y == 0) = true := by simp [hy0]
          have HN2 := Lib.hid (show firstBad (pres (v.list.drop (k + 1)) (d + 1)) = D from by rw [← HST.out, if_pos hy0])
          clear hy0
          go_wp2_with fail
          go_roundw
          case rel => exact ⟨k + 1, _, by omega, by go_num, rfl, HN2, HB2.out⟩
          case measure => simp [intOf]; omega
        · have hyb : (y != 0) = true := by simp [hy0]
          have hyc : (y == 0) = false := by simp [hy0]
          have HN2 := Lib.hid (show D = y from by rw [← HST.out, if_neg hy0])
          clear hy0
          go_wp2_with fail
          go_ret
          exact ⟨ret_intV (by rw [HF.out, HN2.out]), HB0.out.trans ((HB1.out.trans (HB2.out.mono HB1.out.size)).mono HB0.out.size)⟩
      · have HN2 := Lib.hid (show D = 0 from by rw [← HK.out, List.drop_eq_nil_of_le (by rw [HN.out]; omega), pres, firstBad])
        clear hb
        go_wp2_with fail
        go_ret
        exact ⟨ret_intV (by rw [HF.out, HN2.out]), HB0.out.trans ((HB1.out.trans (HB.out.mono HB1.out.size)).mono HB0.out.size)⟩
  · have hzb : (z != 0) = true := by simp [hz0]
    have hzc : (z == 0) = false := by simp [hz0]
    have HF := Lib.hid (show firstBad (v.pre d) = z from by rw [HPRE.out, HZ.out, if_neg hz0])
    clear hz0
    go_wp2_with fail
    go_ret
    exact ⟨ret_intV (by rw [HF.out]), HB0.out.trans (HB1.out.mono HB0.out.size)⟩

set_option maxRecDepth 20000 in
set_option maxHeartbeats 4000000 in
theorem rcheck_any (v : V) (w : World) (s : Value) (h : VIn w v s) (hwt : v.wt ≤ 2000000) :
    Calls Tryz.prog 30 #[.agg #[.int .i64 v.kind, .int .u64 v.num, .string v.text, s, .int .i64 v.elem]] w fun e w' => e = .returned (.int .i64 (firstBad (v.pre 1))) ∧ Below w.heap.size w w' := by
  obtain ⟨p, c, hs, h1, h2, h3⟩ := h.slice
  obtain ⟨N, hN⟩ : ∃ N, v.list.length = N := ⟨_, rfl⟩
  rw [hN] at hs
  subst hs
  have hvd := dep_bd v
  have hc0 := fun w0 hb => check_ref v 1 w0 _ (VIn.blw h (hb : Below w.heap.size w w0)) hwt (by omega) (by omega)
  have HC0 := Lib.hid hc0
  clear h hN hwt hvd hc0 h1 h2 h3
  go_enter Tryz.func30, Tryz.ntmps30
  go_upto_region 1 with fail
  have hb0 : Below w.heap.size w (w.alloc (.cells #[.int .i64 v.kind, .int .u64 v.num, .string v.text, (.slice p N c), .int .i64 v.elem] 25)) := ((Below.refl _ _).alloc (Nat.le_refl _) _)
  have ox : (w.alloc (.cells #[.int .i64 v.kind, .int .u64 v.num, .string v.text, (.slice p N c), .int .i64 v.elem] 25)).heap[w.heap.size]? = some (.cells #[.int .i64 v.kind, .int .u64 v.num, .string v.text, (.slice p N c), .int .i64 v.elem] 25 (0, 0)) := _root_.Go.heap_alloc_new _ _
  generalize (w.alloc (.cells #[.int .i64 v.kind, .int .u64 v.num, .string v.text, (.slice p N c), .int .i64 v.elem] 25)) = w0 at *
  obtain ⟨x, hx⟩ : ∃ x, w.heap.size = x := ⟨_, rfl⟩
  rw [hx] at ox ⊢
  have HB0 := Lib.hid hb0
  have HO := Lib.hid ox
  clear hb0 ox hx
  have HC := Lib.hid (HC0.out w0 HB0.out)
  have x0 : w0.cell? ⟨x, 0, none⟩ = some (.int .i64 v.kind) := (cell_of_row _ _ 0 _ _ _ HO.out).trans rfl
  have x1 : w0.cell? ⟨x, 1, none⟩ = some (.int .u64 v.num) := (cell_of_row _ _ 1 _ _ _ HO.out).trans rfl
  have x2 : w0.cell? ⟨x, 2, none⟩ = some (.string v.text) := (cell_of_row _ _ 2 _ _ _ HO.out).trans rfl
  have x3 : w0.cell? ⟨x, 3, none⟩ = some (.slice p N c) := (cell_of_row _ _ 3 _ _ _ HO.out).trans rfl
  have x4 : w0.cell? ⟨x, 4, none⟩ = some (.int .i64 v.elem) := (cell_of_row _ _ 4 _ _ _ HO.out).trans rfl
  go_wp2_with fail
  refine HC.out.mono ?_
  clear x0 x1 x2 x3 x4
  rintro e w1 ⟨rfl, hb1⟩
  have HB1 := Lib.hid (HB0.out.trans (hb1.mono HB0.out.size))
  clear hb1
  go_wp2_with fail
  go_ret
  exact ⟨rfl, HB1.out⟩


attribute [local go_sem] Oper.semAt_some

theorem rboth_on : ∀ v : V, WitOn v ∧ ShoOn v := by
  refine V.ind (fun v ih => ?_)
  have h1 : WitOn v := wit_of v (fun x hx => (ih x hx).2) (runi_of v (fun x hx => (ih x hx).1))
  exact ⟨h1, sho_of v h1⟩
set_option maxRecDepth 20000 in
set_option maxHeartbeats 4000000 in
theorem rencode_any (v : V) (w : World) (s : Value) (hv : VIn w v s) (hT : Tabs w) (hwt : v.wt ≤ 2000000) :
    Calls Tryz.prog 8 #[.agg #[.int .i64 v.kind, .int .u64 v.num, .string v.text, s, .int .i64 v.elem]] w (EncTo w v) := by
  have hc := fun W (hW : Below w.heap.size w W) => rcheck_any v W s (hv.blw hW) hwt
  obtain ⟨E, hE⟩ : ∃ E, firstBad (v.pre 1) = E := ⟨_, rfl⟩
  rw [hE] at hc
  have HC := Lib.hid hc
  have HV := Lib.hid (And.intro hv (And.intro hwt hE))
  clear hc hv hT hwt hE
  go_enter Tryz.func8, Tryz.ntmps8
  go_upto_region 1 with fail
  have hb0 : Below w.heap.size w (w.alloc (.cells #[.int .i64 v.kind, .int .u64 v.num, .string v.text, s, .int .i64 v.elem] 25)) := ((Below.refl _ _).alloc (Nat.le_refl _) _)
  have ox : (w.alloc (.cells #[.int .i64 v.kind, .int .u64 v.num, .string v.text, s, .int .i64 v.elem] 25)).heap[w.heap.size]? = some (.cells #[.int .i64 v.kind, .int .u64 v.num, .string v.text, s, .int .i64 v.elem] 25 (0, 0)) := _root_.Go.heap_alloc_new _ _
  generalize (w.alloc (.cells #[.int .i64 v.kind, .int .u64 v.num, .string v.text, s, .int .i64 v.elem] 25)) = w0 at *
  obtain ⟨x, hx⟩ : ∃ x, w.heap.size = x := ⟨_, rfl⟩
  rw [hx] at ox ⊢
  have HB0 := Lib.hid hb0
  have x0 : w0.cell? ⟨x, 0, none⟩ = some (.int .i64 v.kind) := (cell_of_row _ _ 0 _ _ _ ox).trans rfl
  have x1 : w0.cell? ⟨x, 1, none⟩ = some (.int .u64 v.num) := (cell_of_row _ _ 1 _ _ _ ox).trans rfl
  have x2 : w0.cell? ⟨x, 2, none⟩ = some (.string v.text) := (cell_of_row _ _ 2 _ _ _ ox).trans rfl
  have x3 : w0.cell? ⟨x, 3, none⟩ = some (s) := (cell_of_row _ _ 3 _ _ _ ox).trans rfl
  have x4 : w0.cell? ⟨x, 4, none⟩ = some (.int .i64 v.elem) := (cell_of_row _ _ 4 _ _ _ ox).trans rfl
  have HX := Lib.hid hx
  have HOX := Lib.hid ox
  clear hb0 ox hx
  go_wp2_with fail
  refine (HC.out w0 HB0.out).mono ?_
  clear x0 x1 x2 x3 x4
  rintro e w1 ⟨rfl, hb1⟩
  have HX1 := Lib.hid ((hb1.block x (Array.getElem?_eq_some_iff.1 HOX.out).1).trans HOX.out)
  have HB1 := Lib.hid (HB0.out.trans (hb1.mono HB0.out.size))
  clear hb1
  by_cases hE : E = 0
  · subst hE
    obtain ⟨hr, hd⟩ := (right_iff (vin_wf v s HV.out.1)).1 HV.out.2.2
    have hp := (rboth_on v).2 hr (by have := HV.out.2.1; omega) w1 s (HV.out.1.blw HB1.out)
    have HP := Lib.hid hp
    have HPL := Lib.hid (putV_len v).2
    clear hp hr hd
    have x0 : w1.cell? ⟨x, 0, none⟩ = some (.int .i64 v.kind) := (cell_of_row _ _ 0 _ _ _ HX1.out).trans rfl
    have x1 : w1.cell? ⟨x, 1, none⟩ = some (.int .u64 v.num) := (cell_of_row _ _ 1 _ _ _ HX1.out).trans rfl
    have x2 : w1.cell? ⟨x, 2, none⟩ = some (.string v.text) := (cell_of_row _ _ 2 _ _ _ HX1.out).trans rfl
    have x3 : w1.cell? ⟨x, 3, none⟩ = some (s) := (cell_of_row _ _ 3 _ _ _ HX1.out).trans rfl
    have x4 : w1.cell? ⟨x, 4, none⟩ = some (.int .i64 v.elem) := (cell_of_row _ _ 4 _ _ _ HX1.out).trans rfl
    go_wp2_with fail
    refine HP.out.mono ?_
    clear x0 x1 x2 x3 x4
    rintro e w2 ⟨c, hc256, d, hput, fp, fn, fk, rfl, ⟨hyc, hfp⟩, hb2⟩
    have hml : (putV v).length = 1 + fn := by rw [hput, List.length_cons, hyc.len]; omega
    have HML := Lib.hid (And.intro hml hput)
    have HFN := Lib.hid (show (fn : Int) ≤ 1000000000 from by have h1 := HPL.out; have h2 := HV.out.2.1; omega)
    clear hput hfp hml
    go_upto_region 5 with (refine wpList_store_rowTo rfl 58 (.tmp 5) (.tmp 12) rfl rfl w2.heap.size #[.int .i64 (c : Nat), .slice fp fn fk] rfl rfl 58 #[.int .i64 0, .slice none 0 0] (_root_.Go.heap_alloc_new w2 _) (by as_aux_lemma => kernel_rfl) (by as_aux_lemma => kernel_rfl) (by simp [Value.oneCell']) ?_)
    have hb_w3 : Below w2.heap.size w2 ((w2.alloc (.cells #[.int .i64 0, .slice none 0 0] 58)).setRow w2.heap.size #[.int .i64 (c : Nat), .slice fp fn fk]) := below_setRow ((Below.refl _ _).alloc (Nat.le_refl _) _) (Nat.le_refl _) _
    have oz := setRow_heap (w2.alloc (.cells #[.int .i64 0, .slice none 0 0] 58)) w2.heap.size _ #[.int .i64 (c : Nat), .slice fp fn fk] _ _ (_root_.Go.heap_alloc_new w2 _)
    change Code.wp _ _ _ _ ((w2.alloc (.cells #[.int .i64 0, .slice none 0 0] 58)).setRow w2.heap.size #[.int .i64 (c : Nat), .slice fp fn fk])
    generalize ((w2.alloc (.cells #[.int .i64 0, .slice none 0 0] 58)).setRow w2.heap.size #[.int .i64 (c : Nat), .slice fp fn fk]) = w3 at *
    obtain ⟨z, hx_z⟩ : ∃ x, w2.heap.size = x := ⟨_, rfl⟩
    rw [hx_z] at oz ⊢
    have HX_z := Lib.hid hx_z
    clear hx_z
    have HZR := Lib.hid oz
    have hb3 := hb2.trans (hb_w3.mono hb2.size)
    have HB3 := Lib.hid (And.intro (HB1.out.trans (hb3.mono HB1.out.size)) (hyc.below hb_w3))
    have z0 : w3.cell? ⟨z, 0, none⟩ = some (.int .i64 c) := (cell_of_row _ _ 0 _ _ _ oz).trans rfl
    have z1 : w3.cell? ⟨z, 1, none⟩ = some (.slice fp fn fk) := (cell_of_row _ _ 1 _ _ _ oz).trans rfl
    have hfnI := HFN.out
    clear oz hb_w3 hyc hb2 hb3
    by_cases hl : 1048576 < 1 + (fn : Int)
    · have he : encS v = ([], 2) := by unfold encS; rw [if_neg (by rw [HV.out.2.2]; simp), if_pos (by have := HML.out.1; omega)]
      have HE := Lib.hid he
      clear he
      go_wp2_with fail
      go_ret2
      exact ⟨.slice none 0 0, by rw [HE.out]; rfl, by rw [HE.out]; exact OwnBytes.nil _ _ _, HB3.out.1⟩
    · have he : encS v = (putV v, 0) := by unfold encS; rw [if_neg (by rw [HV.out.2.2]; simp), if_neg (by have := HML.out.1; omega)]
      have HE := Lib.hid he
      clear he
      have z1a : ∀ o, (w3.alloc o).cell? ⟨z, 1, none⟩ = some (.slice fp fn fk) := fun o => bs_cellV ((Below.refl w3.heap.size w3).alloc (Nat.le_refl _) o) z1
      have hz3 : w.heap.size ≤ w3.heap.size := HB3.out.1.size
      go_wp2_with (at_builtin; refine wpList_append_bytesF rfl (.tmp 21) (.tmp 23) 28 rfl w.heap.size Tryz.underlying28 info_u8 _ [UInt8.ofNat c] d _ fn fk rfl rfl (own_lit2 w3 w.heap.size _ _ ?hyv hz3) (HB3.out.2.below ((Below.refl w3.heap.size w3).alloc (Nat.le_refl _) _)) ?hlen (by simp; omega) ?_)
      case hyv => first | rw [ofNat_toNat hc256] | omega
      case hlen =>
        have h0 := HB3.out.2.len
        have h1 := HFN.out
        first | omega | (simp; omega)
      intro u4 w4 ho4 hg4
      have HO4 := Lib.hid ho4
      have HW4 := Lib.hid ((HB3.out.1.alloc hz3 _).trans (hg4.below (own_lit2 w3 w.heap.size _ _ (by rw [ofNat_toNat hc256]) hz3) (by simp; omega)))
      clear ho4 hg4
      go_wp2_with fail
      go_ret2
      exact ⟨u4, by rw [HE.out]; rfl, by rw [HE.out, HML.out.2]; exact HO4.out, HW4.out⟩
  · have he : encS v = ([], E) := by unfold encS; rw [HV.out.2.2, if_pos hE]
    have HE := Lib.hid he
    have hE2 : (E != 0) = true := by simp [hE]
    clear he
    go_wp2_with fail
    go_ret2
    exact ⟨.slice none 0 0, by rw [HE.out]; rfl, by rw [HE.out]; exact OwnBytes.nil _ _ _, HB1.out⟩
end Go.Proofs.YtnnnfhobbnjmfaaGreatDoor

