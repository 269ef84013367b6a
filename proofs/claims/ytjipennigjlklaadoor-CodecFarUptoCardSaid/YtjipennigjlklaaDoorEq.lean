/-
  The codec's reader: span and array, joined. Conditions: the reader and its bytes lie in memory; value and data keep their contracts a level deeper.
-/
import Derived.Test.YtjipennigjlklaaDoorMg40
import Derived.Test.YtjipennigjlklaaDoorEn
namespace Go.Proofs.YtjipennigjlklaaDoor
open Go.RowKit
set_option linter.unusedVariables false
set_option maxHeartbeats 4000000

def spanX (k0 tot : Nat) (y : Except Er (List V × Nat)) : Except Er (List V × Nat) := match y with
  | .error e => .error (spanE k0 e)
  | .ok (l, _) => .ok (l, tot)
theorem faultE_span {n at_ a2 k0 : Nat} {sz own : Int} (h : at_ + k0 = a2) (y : Er) : faultE (erP n (at_ : Nat) own a2 y) (erC (at_ : Nat) y) = faultE (erP n sz own at_ (spanE k0 y)) (erC sz (spanE k0 y)) := by
  cases y with
  | short =>
    show faultE (shP n (at_ : Nat)) (shC (at_ : Nat)) = faultE ((at_ + 0 : Nat) : Int) 32
    unfold shP shC
    rw [if_neg (by omega), if_neg (by omega)]
    rfl
  | own e => rfl
  | pl j e => subst h; show faultE _ _ = faultE _ _; congr 1; show ((at_ + k0 + j : Nat) : Int) = ((at_ + (j + k0) : Nat) : Int); omega
theorem wto_in {W W2 w' : World} {r q bv : Nat} {p : Option Addr} {n cp at_ en a1 a2e st k0 tot : Nat} {sz own K el : Int} {B : List UInt8} (hk : KeepF (fun g => g = r) W W2) (hr2 : RdIn W2 r p n cp a1 en sz B) (hq : RdIn W2 q p n cp a1 a2e (at_ : Nat) B) (hqW : W.heap.size ≤ q) (hrb : r < bv) (hbv : bv < W.heap.size)
    (hst : at_ + k0 = st) (htot : at_ + tot = a2e) (y : Except Er (List V × Nat)) {e : Ending} (hsp : SpTo W2 q bv p n cp st a2e (at_ : Nat) own K el y e w') :
    (∃ ps, e = .panicked ps ∧ WTo W r bv p n cp at_ en sz own K el (spanX k0 tot y) e w') ∨ (e = .returned (.tuple #[]) ∧ w'.heap[r]? = W2.heap[r]? ∧ (∃ a3 : Nat, w'.heap[q]? = some (.cells #[.slice p n cp, .int .i64 (a3 : Nat), .int .i64 (a2e : Nat), .int .i64 (at_ : Nat)] 49 (0, 0))) ∧
      ∀ w2, RdMv w' w2 r #[.slice p n cp, .int .i64 (a2e : Nat), .int .i64 (en : Nat), .int .i64 sz] → WTo W r bv p n cp at_ en sz own K el (spanX k0 tot y) (.returned (.tuple #[])) w2) := by
  have hrlt := hr2.lt
  have hsz := hk.size
  have ku : ∀ {X : World}, KeepF (fun g => g = q ∨ g = bv) W2 X → KeepF (fun g => g = r ∨ g = bv) W X := fun h =>
    (hk.wide (fun j h => Or.inl (b := j = bv) h)).on h (fun j hj h => by rcases h with h | h; exact absurd hj (by omega); exact .inr h)
  rcases y with er | ⟨l, k⟩
  · obtain ⟨rfl, hk2⟩ := hsp
    exact .inl ⟨_, rfl, faultE_span hst er, ku hk2⟩
  · obtain ⟨rfl, hk2, ⟨s, F, hvo, hbx⟩, hrow⟩ := hsp
    have hrq : w'.heap[r]? = W2.heap[r]? := hk2.block r hrlt (by omega)
    refine .inr ⟨rfl, hrq, ⟨_, hrow⟩, fun w2 hm => ⟨rfl, ?_, ⟨s, F, ?_, ?_⟩, ?_⟩⟩
    · exact (ku hk2).trans (hm.keep.wide (fun j h => .inl h))
    · refine (hvo.mono hsz).keep (fun b hb => hm.keep.block b (hvo.lt b hb).2 (fun e => by have := (hvo.lt b hb).1; omega))
    · exact (hm.keep.block bv (by have := hk2.size; omega) (by omega)).trans hbx
    · rw [htot]; exact hm.at_
theorem wto_err {w w' : World} {r bv : Nat} {p : Option Addr} {n cp at_ en : Nat} {sz own K el a b : Int} {y : Er} {e : Ending} (h : e = faultE a b ∧ KeepF (fun g => g = r) w w') (hf : faultE a b = faultE (erP n sz own at_ y) (erC sz y)) : WTo w r bv p n cp at_ en sz own K el (.error y) e w' :=
  ⟨h.1.trans hf, h.2.wide (fun j h => .inl h)⟩

noncomputable def mapV (K : Int) (x : Except Er (List V × Nat)) : Res := match x with
  | .error y => .error y
  | .ok (l, k) => if K = 22 ∧ ¬ (evens l).Nodup then .error (.own (ec 34)) else .ok (.mk K 0 ⟨#[]⟩ l 0, k)
theorem span_x (wd : Nat) (K d : Int) (w : World) (r : Nat) (p : Option Addr) (n cp at_ en : Nat) (sz own : Int) (B : List UInt8) (h : RdIn w r p n cp at_ en sz B) (x : Except Er (List V × Nat)) (hx : ∀ W b, r < b → w.heap.size ≤ b → RdIn W r p n cp at_ en sz B → W.cell? ⟨b, 0, none⟩ = some (.int .i64 K) → W.cell? ⟨b + 1, 0, none⟩ = some (.int .i64 (wd : Nat)) → W.cell? ⟨b + 2, 0, none⟩ = some (.int .i64 own) → W.cell? ⟨b + 3, 0, none⟩ = some (.int .i64 d) → W.heap[b + 5]? = some (.cells #[.int .i64 K, .int .u64 0, .string ⟨#[]⟩, .slice none 0 0, .int .i64 0] 25 (0, 0)) →
      Calls Tryd.prog 61 #[.pointer (some ⟨r, 0, none⟩), .int .i64 (wd : Nat), .int .i64 (wd : Nat), .func (.func 62) #[] #[.pointer (some ⟨b + 1, 0, none⟩), .pointer (some ⟨b, 0, none⟩), .pointer (some ⟨b + 2, 0, none⟩), .pointer (some ⟨b + 5, 0, none⟩), .pointer (some ⟨b + 3, 0, none⟩)]] W fun e w' => WTo W r (b + 5) p n cp at_ en sz own K 0 x e w')
    (hok : K = 22 → ∀ l k, x = .ok (l, k) → (∀ y ∈ l, Okk y) ∧ l.length ≤ 4294967296) :
    Calls Tryd.prog 49 #[.pointer (some ⟨r, 0, none⟩), .int .i64 K, .int .i64 (wd : Nat), .int .i64 own, .int .i64 d] w fun e w' => RdTo w r p n cp at_ en sz own (mapV K x) e w' := by
  by_cases hk : K = 22
  · cases x with
    | error y =>
      have := span_map wd K d w r p n cp at_ en sz own B h hk (.error y) hx (fun l k q => by cases q)
      exact this
    | ok z =>
      obtain ⟨l, k⟩ := z
      obtain ⟨hl1, hl2⟩ := hok hk l k rfl
      by_cases hnd : (evens l).Nodup
      · have := span_map wd K d w r p n cp at_ en sz own B h hk (.ok (l, k)) hx (fun l2 k2 q W Bs s F hv hT => by
          simp only [Except.ok.injEq, Prod.mk.injEq] at q
          obtain ⟨rfl, rfl⟩ := q
          refine (twice_any l hl1 hl2 W Bs s F hv).mono ?_
          rintro e w' ⟨⟨b, rfl, hb⟩, hbl⟩
          cases b with
          | false => exact ⟨rfl, hbl⟩
          | true => exact absurd hnd (hb.1 rfl))
        have e : mapV K (.ok (l, k)) = spanV K 0 (.ok (l, k)) := by unfold mapV spanV; simp only; rw [if_neg (fun q => q.2 hnd)]
        rw [e]
        exact this
      · have := span_twice wd K d w r p n cp at_ en sz own B h hk (.ok (l, k)) hx (fun l2 k2 q W Bs s F hv hT => by
          simp only [Except.ok.injEq, Prod.mk.injEq] at q
          obtain ⟨rfl, rfl⟩ := q
          refine (twice_any l hl1 hl2 W Bs s F hv).mono ?_
          rintro e w' ⟨⟨b, rfl, hb⟩, hbl⟩
          cases b with
          | true => exact ⟨rfl, hbl⟩
          | false => exact absurd (hb.2 hnd) (by decide))
        have e : mapV K (.ok (l, k)) = dupV (.ok (l, k)) := by unfold mapV dupV; simp only; rw [if_pos ⟨hk, hnd⟩]
        rw [e]
        exact this
  · have := span_list wd K d w r p n cp at_ en sz own B h (by simp [hk]) x hx
    have e : mapV K x = spanV K 0 x := by
      cases x with
      | error y => rfl
      | ok z => obtain ⟨l, k⟩ := z; unfold mapV spanV; simp only; rw [if_neg (fun q => hk q.1)]
    rw [e]
    exact this

def ValC (rv : List UInt8 → Res) (d : Int) : Prop := ∀ (W : World) (r : Nat) (p : Option Addr) (n cp at_ en : Nat) (sz own : Int) (B : List UInt8), RdIn W r p n cp at_ en sz B → Calls Tryd.prog 21 #[.pointer (some ⟨r, 0, none⟩), .int .i64 d] W fun e w' => RdTo W r p n cp at_ en sz own (rv (sOf B at_ en)) e w'
def DatT (rd : Nat → List UInt8 → Res) (d : Int) : Prop := ∀ (c : Nat), DatC c → ∀ (W : World) (r : Nat) (p : Option Addr) (n cp at_ en : Nat) (sz own : Int) (B : List UInt8), RdIn W r p n cp at_ en sz B → Calls Tryd.prog 34 #[.pointer (some ⟨r, 0, none⟩), .int .u8 (c : Nat), .int .i64 own, .int .i64 d] W fun e w' => RdTo W r p n cp at_ en sz own (rd c (sOf B at_ en)) e w'
theorem sp_kind {c : Nat} (hc : c / 16 = 12 ∨ c / 16 = 13) (hk : 0 ≤ kindC c) : kindC c = 21 ∨ kindC c = 22 := by
  obtain ⟨d, hd, rfl⟩ : ∃ d, d < 32 ∧ c = 192 + d := ⟨c - 192, by omega, by omega⟩
  have key : ∀ d : Fin 32, 0 ≤ kindC (192 + d.1) → kindC (192 + d.1) = 21 ∨ kindC (192 + d.1) = 22 := by decide
  exact key ⟨d, hd⟩ hk
theorem wf_sp {K el : Int} (h : K = 21 ∨ K = 22 ∨ K = 23) (h2 : IsI64 el) : (V.mk K 0 ⟨#[]⟩ [] el).Wf := by
  refine ⟨?_, u64_0, Nat.zero_le _, h2⟩
  show IsI64 K
  rcases h with rfl | rfl | rfl <;> constructor <;> decide
set_option maxRecDepth 20000 in
theorem span_any (c : Nat) (hc : c / 16 = 12 ∨ c / 16 = 13) (hk : 0 ≤ kindC c) (d : Int) (hwd : IntKind.i64.wrap (d + 1) = d + 1) (rv : List UInt8 → Res) (hle : ∀ s v k, rv s = .ok (v, k) → k ≤ s.length) (hgo : ∀ s v k, s.length ≤ 4294967295 → rv s = .ok (v, k) → k ≤ s.length ∧ Okk v) (hv : ValC rv (d + 1)) (w : World) (r : Nat) (p : Option Addr) (n cp at_ en : Nat) (sz own : Int) (B : List UInt8) (h : RdIn w r p n cp at_ en sz B) :
    Calls Tryd.prog 49 #[.pointer (some ⟨r, 0, none⟩), .int .i64 (kindC c), .int .i64 (wOf c : Nat), .int .i64 own, .int .i64 d] w fun e w' => RdTo w r p n cp at_ en sz own (withinR c (wOf c) (spanIn rv c) (sOf B at_ en)) e w' := by
  have hl : (sOf B at_ en).length = en - at_ := sOf_len (by rw [h.len]; exact h.hen)
  have hae := h.ha
  have hBl := h.len
  obtain ⟨hw1, hw4⟩ := wOf_bd c
  have hkk := sp_kind hc hk
  obtain ⟨K, hK⟩ : ∃ K, kindC c = K := ⟨_, rfl⟩
  obtain ⟨wd, hwde⟩ : ∃ wd, wOf c = wd := ⟨_, rfl⟩
  unfold withinR
  rw [hK] at hkk ⊢
  rw [hwde] at hw1 hw4 ⊢
  by_cases hs : en < at_ + wd
  · rw [if_pos (by omega)]
    refine span_x wd K d w r p n cp at_ en sz own B h (.error .short) (fun W b h1 h2 h3 h4 h5 h6 h7 h8 => ?_) (fun _ l k q => by cases q)
    exact (within_short1 wd wd _ W r p n cp at_ en sz own B h3 hs).mono (fun e w' q => wto_err q rfl)
  rw [if_neg (by omega)]
  have htk : beVal ((sOf B at_ en).take wd) = nAt B at_ wd := by unfold nAt; rw [sOf_take (by omega)]
  rw [htk]
  obtain ⟨N, hN⟩ : ∃ N, nAt B at_ wd = N := ⟨_, rfl⟩
  obtain ⟨a1, ha1⟩ : ∃ a1, at_ + wd = a1 := ⟨_, rfl⟩
  rw [hN]
  have hNB : N ≤ 4294967295 := by
    have hlt := nAt_lt (B := B) (at_ := at_) (wd := wd)
    have h2 : 256 ^ wd ≤ 256 ^ 4 := Nat.pow_le_pow_right (by omega) hw4
    have h3 : 256 ^ 4 = 4294967296 := by decide
    rw [hN] at hlt
    exact Nat.le_of_lt_succ (Nat.lt_of_lt_of_le hlt (Nat.le_trans h2 (Nat.le_of_eq h3)))
  by_cases hsm : N < wd
  · rw [if_pos hsm]
    refine span_x wd K d w r p n cp at_ en sz own B h (.error (.pl 0 (ec 32))) (fun W b h1 h2 h3 h4 h5 h6 h7 h8 => ?_) (fun _ l k q => by cases q)
    exact (within_small wd wd _ W r p n cp at_ en sz own B h3 hw1 hw4 N a1 hN ha1 (by omega) hsm).mono (fun e w' q => wto_err q rfl)
  rw [if_neg hsm]
  by_cases hs2 : en < a1 + N
  · rw [if_pos (by omega)]
    refine span_x wd K d w r p n cp at_ en sz own B h (.error .short) (fun W b h1 h2 h3 h4 h5 h6 h7 h8 => ?_) (fun _ l k q => by cases q)
    exact (within_short2 wd wd _ W r p n cp at_ en sz own B h3 hw1 hw4 N a1 hN ha1 (by omega) (by omega) hs2).mono (fun e w' q => wto_err q rfl)
  rw [if_neg (by omega)]
  obtain ⟨ae, hae2⟩ : ∃ ae, a1 + N = ae := ⟨_, rfl⟩
  obtain ⟨a2, ha2⟩ : ∃ a2, a1 + wd = a2 := ⟨_, rfl⟩
  have hq : ((sOf B at_ en).drop wd).take N = sOf B a1 ae := by rw [sOf_drop, ha1, sOf_cut (by omega), hae2]
  rw [hq]
  have hql : (sOf B a1 ae).length = N := by rw [sOf_len (by rw [hBl]; have := h.hen; omega)]; omega
  obtain ⟨M, hM⟩ : ∃ M, nAt B a1 wd = M := ⟨_, rfl⟩
  have hMB : M < 4294967296 := by
    have hlt := nAt_lt (B := B) (at_ := a1) (wd := wd)
    have h2 : 256 ^ wd ≤ 256 ^ 4 := Nat.pow_le_pow_right (by omega) hw4
    have h3 : 256 ^ 4 = 4294967296 := by decide
    rw [hM] at hlt
    exact Nat.lt_of_lt_of_le hlt (Nat.le_trans h2 (Nat.le_of_eq h3))
  have hct : beVal ((sOf B a1 ae).take wd) = M := by rw [sOf_take (by omega)]; exact hM
  have hdr : (sOf B a1 ae).drop wd = sOf B a2 ae := by rw [sOf_drop, ha2]
  have hdl : (sOf B a2 ae).length = ae - a2 := sOf_len (by rw [hBl]; have := h.hen; omega)
  have hnin : spanIn rv c N (sOf B a1 ae) = mapV K (spanX (wd + wd) (wd + N) (if K = 22 ∧ M % 2 ≠ 0 then .error (.own (ec 34)) else if K = 22 ∧ 1024 < M / 2 then .error (.own (ec 2)) else spC rv M (sOf B a2 ae) (ae - a2))) := by
    unfold spanIn
    rw [hK, hwde, hct, hdr]
    by_cases o1 : K = 22 ∧ M % 2 ≠ 0
    · rw [if_pos o1, if_pos o1]; rfl
    rw [if_neg o1, if_neg o1]
    by_cases o2 : K = 22 ∧ 1024 < M / 2
    · rw [if_pos o2, if_pos o2]; rfl
    rw [if_neg o2, if_neg o2]
    unfold spC
    cases els rv M (sOf B a2 ae) with
    | error y => rfl
    | ok z =>
      obtain ⟨l, k⟩ := z
      simp only
      by_cases o3 : wd + k < N
      · rw [if_pos o3, if_pos (show k < ae - a2 by omega)]; rfl
      · rw [if_neg o3, if_neg (show ¬ k < ae - a2 by omega)]
        show _ = mapV K (.ok (l, wd + N))
        unfold mapV
        simp only
  rw [hnin]
  refine span_x wd K d w r p n cp at_ en sz own B h _ (fun W b h1 h2 h3 h4 h5 h6 h7 h8 => ?_) (fun hK2 l k q => ?_)
  · refine within_s wd wd _ _ _ _ _ W r p n cp at_ en sz own B h3 hw1 hw4 N a1 hN ha1 ae hae2 (by omega) (by omega) _ (fun W2 q hWq hkW hrW hqW => ?_)
    have hb5 := (gl h8)
    have nr : ∀ j, b ≤ j → j ≠ r := fun j hj => by omega
    have c0 := hkW.cell h4 (nr b (Nat.le_refl _))
    have c1 := hkW.cell h5 (nr (b + 1) (by omega))
    have c2 := hkW.cell h6 (nr (b + 2) (by omega))
    have c3 := hkW.cell h7 (nr (b + 3) (by omega))
    have ob := (hkW.block (b + 5) hb5 (nr _ (by omega))).trans h8
    have hne : b ≠ q ∧ b + 2 ≠ q ∧ b + 3 ≠ q ∧ b + 5 ≠ q ∧ b + 3 ≠ b + 5 := ⟨by omega, by omega, by omega, by omega, by omega⟩
    have hsrc := hrW.src
    have hwf : (V.mk K 0 ⟨#[]⟩ [] 0).Wf := wf_sp (by omega) i64_0
    have fin : ∀ (y : Except Er (List V × Nat)) e w', SpTo W2 q (b + 5) p n cp a2 ae (at_ : Nat) own K 0 y e w' → _ := fun y e w' hsp => wto_in hkW hrW hqW hWq (show r < b + 5 by omega) hb5 (show at_ + (wd + wd) = a2 by omega) (show at_ + (wd + N) = ae by omega) y hsp
    by_cases o1 : K = 22 ∧ M % 2 ≠ 0
    · rw [if_pos o1]
      exact (clos_odd W2 q (b + 1) b (b + 2) (b + 5) (b + 3) p n cp a1 ae (at_ : Nat) own B hqW wd K d hw1 hw4 M a2 hM ha2 (by omega) c1 c0 c2 c3 ob hne o1.1 o1.2).mono (fun e w' hsp => fin _ e w' hsp)
    rw [if_neg o1]
    by_cases o2 : K = 22 ∧ 1024 < M / 2
    · rw [if_pos o2]
      exact (clos_long W2 q (b + 1) b (b + 2) (b + 5) (b + 3) p n cp a1 ae (at_ : Nat) own B hqW wd K d hw1 hw4 M a2 hM ha2 (by omega) c1 c0 c2 c3 ob hne o2.1 (by have := o1; omega) o2.2).mono (fun e w' hsp => fin _ e w' hsp)
    rw [if_neg o2]
    by_cases hK2 : K = 22
    · exact (clos_map W2 q (b + 1) b (b + 2) (b + 5) (b + 3) p n cp a1 ae (at_ : Nat) own B hqW wd K d hw1 hw4 M a2 hM ha2 (by omega) c1 c0 c2 c3 ob hne r hsrc (by omega) (by have := hrW.lt; omega) (by omega) hwf hwd rv hle (fun a3 W3 h3 => hv W3 q p n cp a3 ae _ own B h3) hK2 (by omega) (by omega)).mono (fun e w' hsp => fin _ e w' hsp)
    · exact (clos_list W2 q (b + 1) b (b + 2) (b + 5) (b + 3) p n cp a1 ae (at_ : Nat) own B hqW wd K d hw1 hw4 M a2 hM ha2 (by omega) c1 c0 c2 c3 ob hne r hsrc (by omega) (by have := hrW.lt; omega) (by omega) hwf hwd rv hle (fun a3 W3 h3 => hv W3 q p n cp a3 ae _ own B h3) (by simp [hK2])).mono (fun e w' hsp => fin _ e w' hsp)
  · by_cases o1 : K = 22 ∧ M % 2 ≠ 0
    · rw [if_pos o1] at q; cases q
    rw [if_neg o1] at q
    by_cases o2 : K = 22 ∧ 1024 < M / 2
    · rw [if_pos o2] at q; cases q
    rw [if_neg o2] at q
    unfold spC at q
    cases he : els rv M (sOf B a2 ae) with
    | error y => rw [he] at q; cases q
    | ok z =>
      obtain ⟨l2, k2⟩ := z
      rw [he] at q
      simp only at q
      by_cases o3 : k2 < ae - a2
      · rw [if_pos o3] at q; cases q
      rw [if_neg o3] at q
      simp only [spanX, Except.ok.injEq, Prod.mk.injEq] at q
      obtain ⟨rfl, rfl⟩ := q
      obtain ⟨q1, q2, q3, q4⟩ := els_all (Q := Okk) (f := fun _ => 0) (L := 4294967295) (fun s v k hs hr => ⟨(hgo s v k hs hr).1, (hgo s v k hs hr).2, Nat.zero_le _⟩) M (sOf B a2 ae) l2 k2 (by omega) he
      exact ⟨q3, by omega⟩
theorem kindC_bd (c : Nat) : -1 ≤ kindC c ∧ kindC c ≤ 24 := by
  unfold kindC
  repeat' split
  all_goals omega
theorem getD_drop {B : List UInt8} {a e : Nat} (h : a < e) (h2 : e ≤ B.length) : (sOf B a e).headD 0 = B.getD a 0 := by
  unfold sOf
  rw [List.getD_eq_getElem?_getD, ← List.head?_drop]
  obtain ⟨m, hm⟩ : ∃ m, e - a = m + 1 := ⟨e - a - 1, by omega⟩
  rw [hm]
  cases B.drop a with
  | nil => rfl
  | cons x t => rfl
theorem RdTo.bare {w w' : World} {r : Nat} {p : Option Addr} {n cp at_ en : Nat} {sz own : Int} {rd : Nat → List UInt8 → Res} {c : Nat} {s : List UInt8} {e : Ending} (h : RdTo w r p n cp at_ en sz (at_ : Nat) (rd c s) e w') : RdTo w r p n cp at_ en sz own (bareR rd c s) e w' := by
  unfold bareR
  cases hr : rd c s with
  | ok x => rw [hr] at h; exact h
  | error y =>
    rw [hr] at h
    obtain ⟨rfl, hk⟩ := h
    refine ⟨?_, hk⟩
    cases y <;> rfl
set_option maxRecDepth 20000 in
theorem array_any (c : Nat) (hc : c / 16 = 14 ∨ c / 16 = 15) (hk : kindC c = 23) (d : Int) (hwd : IntKind.i64.wrap (d + 1) = d + 1) (rd : Nat → List UInt8 → Res) (hle : ∀ c s v k, rd c s = .ok (v, k) → k ≤ s.length) (hd : (decide (32 < d + 1) = true ∧ ∀ c s, rd c s = .error (.pl 0 (ec 26))) ∨ (decide (32 < d + 1) = false ∧ DatT rd (d + 1))) (w : World) (r : Nat) (p : Option Addr) (n cp at_ en : Nat) (sz own : Int) (B : List UInt8) (h : RdIn w r p n cp at_ en sz B) :
    Calls Tryd.prog 50 #[.pointer (some ⟨r, 0, none⟩), .int .i64 (wOf c : Nat), .int .i64 d] w fun e w' => RdTo w r p n cp at_ en sz own (withinR c (wOf c + 1) (arrIn rd c) (sOf B at_ en)) e w' := by
  have hl : (sOf B at_ en).length = en - at_ := sOf_len (by rw [h.len]; exact h.hen)
  have hae := h.ha
  have hBl := h.len
  obtain ⟨hw1, hw4⟩ := wOf_bd c
  obtain ⟨wd, hwde⟩ : ∃ wd, wOf c = wd := ⟨_, rfl⟩
  unfold withinR
  rw [hwde] at hw1 hw4 ⊢
  by_cases hs : en < at_ + wd
  · rw [if_pos (by omega)]
    refine array_walk wd hw4 d 0 w r p n cp at_ en sz own B h (.error .short) (fun W b h1 h2 h3 h4 h5 h8 => ?_)
    exact (within_short1 wd (wd + 1) _ W r p n cp at_ en sz own B h3 hs).mono (fun e w' q => wto_err q rfl)
  rw [if_neg (by omega)]
  have htk : beVal ((sOf B at_ en).take wd) = nAt B at_ wd := by unfold nAt; rw [sOf_take (by omega)]
  rw [htk]
  obtain ⟨N, hN⟩ : ∃ N, nAt B at_ wd = N := ⟨_, rfl⟩
  obtain ⟨a1, ha1⟩ : ∃ a1, at_ + wd = a1 := ⟨_, rfl⟩
  rw [hN]
  by_cases hsm : N < wd + 1
  · rw [if_pos hsm]
    refine array_walk wd hw4 d 0 w r p n cp at_ en sz own B h (.error (.pl 0 (ec 32))) (fun W b h1 h2 h3 h4 h5 h8 => ?_)
    exact (within_small wd (wd + 1) _ W r p n cp at_ en sz own B h3 hw1 hw4 N a1 hN ha1 (by omega) hsm).mono (fun e w' q => wto_err q rfl)
  rw [if_neg hsm]
  by_cases hs2 : en < a1 + N
  · rw [if_pos (by omega)]
    refine array_walk wd hw4 d 0 w r p n cp at_ en sz own B h (.error .short) (fun W b h1 h2 h3 h4 h5 h8 => ?_)
    exact (within_short2 wd (wd + 1) _ W r p n cp at_ en sz own B h3 hw1 hw4 N a1 hN ha1 (by omega) (by omega) hs2).mono (fun e w' q => wto_err q rfl)
  rw [if_neg (by omega)]
  obtain ⟨ae, hae2⟩ : ∃ ae, a1 + N = ae := ⟨_, rfl⟩
  obtain ⟨a2, ha2⟩ : ∃ a2, a1 + wd = a2 := ⟨_, rfl⟩
  obtain ⟨a3, ha3⟩ : ∃ a3, a2 + 1 = a3 := ⟨_, rfl⟩
  have hq : ((sOf B at_ en).drop wd).take N = sOf B a1 ae := by rw [sOf_drop, ha1, sOf_cut (by omega), hae2]
  rw [hq]
  have hen := h.hen
  obtain ⟨M, hM⟩ : ∃ M, nAt B a1 wd = M := ⟨_, rfl⟩
  obtain ⟨cc, hcc⟩ : ∃ cc, (B.getD a2 0).toNat = cc := ⟨_, rfl⟩
  have hct : beVal ((sOf B a1 ae).take wd) = M := by rw [sOf_take (by omega)]; exact hM
  have hdr : (sOf B a1 ae).drop wd = sOf B a2 ae := by rw [sOf_drop, ha2]
  have hdr1 : (sOf B a1 ae).drop (wd + 1) = sOf B a3 ae := by rw [sOf_drop]; congr 1; omega
  have hhd : ((sOf B a2 ae).headD 0).toNat = cc := by rw [getD_drop (by omega) (by omega)]; exact hcc
  obtain ⟨el, hel⟩ : ∃ el, kindC cc = el := ⟨_, rfl⟩
  have helb := kindC_bd cc
  rw [hel] at helb
  have hie : IsI64 el := ⟨by omega, by omega⟩
  have hwf : (V.mk 23 0 ⟨#[]⟩ [] el).Wf := wf_sp (by omega) hie
  by_cases bad : el < 0 ∨ cc = 0 ∨ cc / 16 = 4
  · have e1 : arrIn rd c N (sOf B a1 ae) = spanV 23 el (spanX (wd + wd) (wd + N) (.error (.pl 0 (ec 30)))) := by
      unfold arrIn
      simp only
      rw [hwde, hdr, hhd, hel, if_pos bad]
      simp [spanV, spanX, spanE]
    rw [e1]
    refine array_walk wd hw4 d el w r p n cp at_ en sz own B h _ (fun W b h1 h2 h3 h4 h5 h8 => ?_)
    refine within_a wd (wd + 1) _ _ _ W r p n cp at_ en sz own B h3 hw1 hw4 N a1 hN ha1 ae hae2 (by omega) (by omega) _ (fun W2 q hWq hkW hrW hqW => ?_)
    have hb5 := (gl h8)
    have c0 := hkW.cell h4 (show ¬ b = r by omega)
    have c1 := hkW.cell h5 (show ¬ b + 1 = r by omega)
    have ob := (hkW.block (b + 3) hb5 (show ¬ b + 3 = r by omega)).trans h8
    have hne : b + 1 ≠ q ∧ b + 3 ≠ q ∧ b + 1 ≠ b + 3 := ⟨by omega, by omega, by omega⟩
    have fin : ∀ (y : Except Er (List V × Nat)) e w', SpTo W2 q (b + 3) p n cp a2 ae (at_ : Nat) own 23 el y e w' → _ := fun y e w' hsp => wto_in hkW hrW hqW hWq (show r < b + 3 by omega) hb5 (show at_ + (wd + wd) = a2 by omega) (show at_ + (wd + N) = ae by omega) y hsp
    by_cases n1 : el < 0
    · exact (arr_neg W2 q b (b + 3) (b + 1) p n cp a1 ae (at_ : Nat) own B hqW wd 23 d hw1 hw4 M a2 a3 cc el hM ha2 ha3 (by omega) hcc hel c0 c1 ob hne n1).mono (fun e w' hsp => fin (.error (.pl 0 (ec 30))) e w' hsp)
    by_cases n2 : cc = 0
    · exact (arr_zero W2 q b (b + 3) (b + 1) p n cp a1 ae (at_ : Nat) own B hqW wd 23 d hw1 hw4 M a2 a3 cc el hM ha2 ha3 (by omega) hcc hel c0 c1 ob hne n1 n2).mono (fun e w' hsp => fin (.error (.pl 0 (ec 30))) e w' hsp)
    · exact (arr_lone W2 q b (b + 3) (b + 1) p n cp a1 ae (at_ : Nat) own B hqW wd 23 d hw1 hw4 M a2 a3 cc el hM ha2 ha3 (by omega) hcc hel c0 c1 ob hne n1 n2 (by omega)).mono (fun e w' hsp => fin (.error (.pl 0 (ec 30))) e w' hsp)
  · have e1 : arrIn rd c N (sOf B a1 ae) = spanV 23 el (spanX (wd + wd + 1) (wd + N) (spC (bareR rd cc) M (sOf B a3 ae) (ae - a3))) := by
      unfold arrIn
      simp only
      rw [hwde, hdr, hhd, hel, if_neg bad, hct, hdr1, hk]
      unfold spC
      cases els (bareR rd cc) M (sOf B a3 ae) with
      | error y => rfl
      | ok z =>
        obtain ⟨l, k⟩ := z
        simp only
        by_cases o3 : wd + 1 + k < N
        · rw [if_pos o3, if_pos (by omega)]; rfl
        · rw [if_neg o3, if_neg (by omega)]; rfl
    rw [e1]
    have hble : ∀ s v k, bareR rd cc s = .ok (v, k) → k ≤ s.length := fun s v k q => by
      unfold bareR at q
      cases hr : rd cc s with
      | error y => rw [hr] at q; cases q
      | ok x => rw [hr] at q; cases q; exact hle _ _ _ _ hr
    refine array_walk wd hw4 d el w r p n cp at_ en sz own B h _ (fun W b h1 h2 h3 h4 h5 h8 => ?_)
    refine within_a wd (wd + 1) _ _ _ W r p n cp at_ en sz own B h3 hw1 hw4 N a1 hN ha1 ae hae2 (by omega) (by omega) _ (fun W2 q hWq hkW hrW hqW => ?_)
    have hb5 := (gl h8)
    have c0 := hkW.cell h4 (show ¬ b = r by omega)
    have c1 := hkW.cell h5 (show ¬ b + 1 = r by omega)
    have ob := (hkW.block (b + 3) hb5 (show ¬ b + 3 = r by omega)).trans h8
    have hne : b + 1 ≠ q ∧ b + 3 ≠ q ∧ b + 1 ≠ b + 3 := ⟨by omega, by omega, by omega⟩
    have fin : ∀ (y : Except Er (List V × Nat)) e w', SpTo W2 q (b + 3) p n cp a3 ae (at_ : Nat) own 23 el y e w' → _ := fun y e w' hsp => wto_in hkW hrW hqW hWq (show r < b + 3 by omega) hb5 (show at_ + (wd + wd + 1) = a3 by omega) (show at_ + (wd + N) = ae by omega) y hsp
    have hdc : DatC cc := ⟨by rw [hel]; omega, by omega, by omega⟩
    rcases hd with ⟨hdp, hdd⟩ | ⟨hdp, hdd⟩
    · exact (arr_deep W2 q b (b + 3) (b + 1) p n cp a1 ae (at_ : Nat) own B hqW wd 23 d hw1 hw4 M a2 a3 cc el hM ha2 ha3 (by omega) hcc hel c0 c1 ob hne r hrW.src (by omega) (by have := hrW.lt; omega) (by omega) hwf hwd (by omega) (by omega) (by omega) (bareR rd cc) (fun s => by unfold bareR; rw [hdd]; rfl) hdp).mono (fun e w' hsp => fin _ e w' hsp)
    · exact (arr_list W2 q b (b + 3) (b + 1) p n cp a1 ae (at_ : Nat) own B hqW wd 23 d hw1 hw4 M a2 a3 cc el hM ha2 ha3 (by omega) hcc hel c0 c1 ob hne r hrW.src (by omega) (by have := hrW.lt; omega) (by omega) hwf hwd (by omega) (by omega) (by omega) (bareR rd cc) hble hdp (fun a4 W3 h3 => (hdd cc hdc W3 q p n cp a4 ae _ (a4 : Nat) B h3).mono (fun e w' hr => hr.bare))).mono (fun e w' hsp => fin _ e w' hsp)
end Go.Proofs.YtjipennigjlklaaDoor
