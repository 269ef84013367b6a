/-
  Copies of values in memory of their own. Conditions: the value lies in memory, and is no greater than a million.
  Listed, Mapped; what a kind has, extra, within, isNum. Conditions: the values lie in memory.
  Find: the program's and the reference's. Conditions: the values lie in memory; the map is no greater than a million.
  Contracts of octet.Ascii and octet.Utf8: what each returns, for every string. Condition of Utf8: the two tables of package unicode/utf8 stand as they are laid.
-/
import Derived.Test.YtjipennigjlklaaDoorMg06
import Derived.Handy
import Derived.Test.YtjipennigjlklaaDoorMg04
import Derived.Test.YtjipennigjlklaaDoorMg05
import Derived.WalkLawsBesides
namespace Go.Proofs.YtjipennigjlklaaDoor
open Go.RowKit
set_option linter.unusedVariables false

theorem cell_of_newrow {w : World} {ys : List Value} {e : TypeId} {j : Nat} {u : Value} (hj : ys[j]? = some u) : (w.alloc (.cells ys.toArray e)).cell? ((⟨w.heap.size, 0, none⟩ : Addr).add j) = some u := by
  have hadd : (⟨w.heap.size, 0, none⟩ : Addr).add j = ⟨w.heap.size, j, none⟩ := by unfold Addr.add; split <;> simp_all
  rw [hadd, cell_of_row _ _ j _ _ _ (_root_.Go.heap_alloc_new w _)]
  simpa using hj
theorem info_val : (Tryd.prog.info? 25).map (fun i => (i.zero, i.size, i.bytes)) = some (some (.agg #[.int .i64 0, .int .u64 0, .string ⟨#[]⟩, .slice none 0 0, .int .i64 0]), 5, 64) := by kernel_rfl
theorem info_partsV {P : Program} {t : TypeId} {z : Value} {k b : Nat} (h : (P.info? t).map (fun i => (i.zero, i.size, i.bytes)) = some (some z, k, b)) : ∃ i, P.info? t = some i ∧ i.zero = some z ∧ i.size = k ∧ i.bytes = b := by
  obtain ⟨i, hi, hzz⟩ := Option.map_eq_some_iff.1 h
  simp only [Prod.mk.injEq] at hzz
  exact ⟨i, hi, hzz.1, hzz.2.1, hzz.2.2⟩
theorem VO.slice {w : World} {B : Nat} {v : V} {s : Value} {F : Nat → Prop} (h : VO w B v s F) : ∃ p c, s = .slice p v.list.length c ∧ v.list.length ≤ c ∧ c ≤ maxLen := by
  obtain ⟨p, c, e, h1, h2, _⟩ := h.vin.slice
  exact ⟨p, c, e, h1, h2⟩
theorem set_farV {w : World} {b i g : Nat} {v : Value} (h : g ≠ b) : (w.setCell ⟨b, i, none⟩ v).heap[g]? = w.heap[g]? := by
  simp [World.setCell, Array.getElem?_modify, Ne.symm h]
theorem VO.as {w : World} {B : Nat} {v v' : V} {s : Value} {F : Nat → Prop} (h : VO w B v s F) (hl : v'.list = v.list) (hw : v'.Wf) : VO w B v' s F := by
  cases h with
  | mk _ _ _ ss Fs wf hrow hin hd hs hF =>
    have hln : v'.list.length = v.list.length := by rw [hl]
    refine .mk v' s F ss Fs hw (by rw [hl]; exact hrow) (fun i hi => ?_) (fun i j hi hj => hd i j (hln ▸ hi) (hln ▸ hj)) (fun g hg i hi => hs g hg i (hln ▸ hi)) (fun b => by rw [hF b, hln])
    have := hin i (hln ▸ hi)
    have e : v'.list[i] = v.list[i]'(hln ▸ hi) := by simp only [hl]
    rw [e]
    exact this


def V.listed (l : List V) : V := .mk 21 0 ⟨#[]⟩ l 0
def hasT (k : Int) : Bool := decide (k = 14 ∨ k = 17 ∨ k = 18 ∨ k = 19 ∨ k = 20)
def hasP (k : Int) : Bool := decide (k = 21 ∨ k = 22 ∨ k = 23 ∨ k = 24)
def hasN (k : Int) : Bool := decide (¬ (k = 0 ∨ k = 14 ∨ k = 17 ∨ k = 18 ∨ k = 19 ∨ k = 20 ∨ k = 21 ∨ k = 22 ∨ k = 23 ∨ k = 24))
theorem has_any (k : Int) (w : World) : Calls Tryd.prog 52 #[.int .i64 k] w fun e w' => e = .returned (.tuple #[.bool (hasN k), .bool (hasT k), .bool (hasP k)]) ∧ w' = w := by
  by_cases e0 : k = 0
  · subst e0
    rw [show hasN 0 = false from by decide, show hasT 0 = false from by decide, show hasP 0 = false from by decide]
    go_enter Tryd.func52, Tryd.ntmps52
    go_wp2_with fail
    go_ret3
    exact ⟨rfl, rfl⟩
  by_cases e14 : k = 14
  · subst e14
    rw [show hasN 14 = false from by decide, show hasT 14 = true from by decide, show hasP 14 = false from by decide]
    go_enter Tryd.func52, Tryd.ntmps52
    go_wp2_with fail
    go_ret3
    exact ⟨rfl, rfl⟩
  by_cases e17 : k = 17
  · subst e17
    rw [show hasN 17 = false from by decide, show hasT 17 = true from by decide, show hasP 17 = false from by decide]
    go_enter Tryd.func52, Tryd.ntmps52
    go_wp2_with fail
    go_ret3
    exact ⟨rfl, rfl⟩
  by_cases e18 : k = 18
  · subst e18
    rw [show hasN 18 = false from by decide, show hasT 18 = true from by decide, show hasP 18 = false from by decide]
    go_enter Tryd.func52, Tryd.ntmps52
    go_wp2_with fail
    go_ret3
    exact ⟨rfl, rfl⟩
  by_cases e19 : k = 19
  · subst e19
    rw [show hasN 19 = false from by decide, show hasT 19 = true from by decide, show hasP 19 = false from by decide]
    go_enter Tryd.func52, Tryd.ntmps52
    go_wp2_with fail
    go_ret3
    exact ⟨rfl, rfl⟩
  by_cases e20 : k = 20
  · subst e20
    rw [show hasN 20 = false from by decide, show hasT 20 = true from by decide, show hasP 20 = false from by decide]
    go_enter Tryd.func52, Tryd.ntmps52
    go_wp2_with fail
    go_ret3
    exact ⟨rfl, rfl⟩
  by_cases e21 : k = 21
  · subst e21
    rw [show hasN 21 = false from by decide, show hasT 21 = false from by decide, show hasP 21 = true from by decide]
    go_enter Tryd.func52, Tryd.ntmps52
    go_wp2_with fail
    go_ret3
    exact ⟨rfl, rfl⟩
  by_cases e22 : k = 22
  · subst e22
    rw [show hasN 22 = false from by decide, show hasT 22 = false from by decide, show hasP 22 = true from by decide]
    go_enter Tryd.func52, Tryd.ntmps52
    go_wp2_with fail
    go_ret3
    exact ⟨rfl, rfl⟩
  by_cases e23 : k = 23
  · subst e23
    rw [show hasN 23 = false from by decide, show hasT 23 = false from by decide, show hasP 23 = true from by decide]
    go_enter Tryd.func52, Tryd.ntmps52
    go_wp2_with fail
    go_ret3
    exact ⟨rfl, rfl⟩
  by_cases e24 : k = 24
  · subst e24
    rw [show hasN 24 = false from by decide, show hasT 24 = false from by decide, show hasP 24 = true from by decide]
    go_enter Tryd.func52, Tryd.ntmps52
    go_wp2_with fail
    go_ret3
    exact ⟨rfl, rfl⟩
  rw [show hasN k = true from by simp [hasN, e0, e14, e17, e18, e19, e20, e21, e22, e23, e24], show hasT k = false from by simp [hasT, e14, e17, e18, e19, e20], show hasP k = false from by simp [hasP, e21, e22, e23, e24]]
  have m0 : (k == 0) = false := by simpa using e0
  have m14 : (k == 14) = false := by simpa using e14
  have m17 : (k == 17) = false := by simpa using e17
  have m18 : (k == 18) = false := by simpa using e18
  have m19 : (k == 19) = false := by simpa using e19
  have m20 : (k == 20) = false := by simpa using e20
  have m21 : (k == 21) = false := by simpa using e21
  have m22 : (k == 22) = false := by simpa using e22
  have m23 : (k == 23) = false := by simpa using e23
  have m24 : (k == 24) = false := by simpa using e24
  clear e0 e14 e17 e18 e19 e20 e21 e22 e23 e24
  go_enter Tryd.func52, Tryd.ntmps52
  go_wp2_with fail
  go_ret3
  exact ⟨rfl, rfl⟩

def twoC (n : Int) : Int := if n < 9223372036854775808 then n else n - 18446744073709551616
theorem wrap_twoC {n : Int} (h : IsU64 n) : wrap64 n = twoC n := by
  obtain ⟨h1, h2⟩ := h
  unfold wrap64 twoC
  split <;> omega
theorem ret_boolV {a b : Bool} (h : a = b) : Ending.returned (.bool a) = .returned (.bool b) := by rw [h]
set_option maxRecDepth 20000 in
set_option maxHeartbeats 4000000 in
theorem within8_any (n : Int) (w : World) (hn : IsU64 n) : Calls Tryd.prog 53 #[.int .u64 n, .int .i64 8] w fun e w' => e = .returned (.bool (decide (-128 ≤ twoC n ∧ twoC n < 128))) ∧ w' = w := by
  obtain ⟨n0, n1⟩ := hn
  go_enter Tryd.func53, Tryd.ntmps53
  have e := wrap_twoC ⟨n0, n1⟩
  go_wp2_with fail
  all_goals
    go_ret
    refine ⟨ret_boolV ?_, rfl⟩
    rw [Bool.eq_iff_iff]
    simp only [Bool.or_eq_true, beq_iff_eq, decide_eq_true_eq]
    try rw [e] at *
    try omega
    try (constructor <;> intro q <;> first | omega | trivial)
set_option maxRecDepth 20000 in
set_option maxHeartbeats 4000000 in
theorem within16_any (n : Int) (w : World) (hn : IsU64 n) : Calls Tryd.prog 53 #[.int .u64 n, .int .i64 16] w fun e w' => e = .returned (.bool (decide (-32768 ≤ twoC n ∧ twoC n < 32768))) ∧ w' = w := by
  obtain ⟨n0, n1⟩ := hn
  go_enter Tryd.func53, Tryd.ntmps53
  have e := wrap_twoC ⟨n0, n1⟩
  go_wp2_with fail
  all_goals
    go_ret
    refine ⟨ret_boolV ?_, rfl⟩
    rw [Bool.eq_iff_iff]
    simp only [Bool.or_eq_true, beq_iff_eq, decide_eq_true_eq]
    try rw [e] at *
    try omega
    try (constructor <;> intro q <;> first | omega | trivial)
set_option maxRecDepth 20000 in
set_option maxHeartbeats 4000000 in
theorem within32_any (n : Int) (w : World) (hn : IsU64 n) : Calls Tryd.prog 53 #[.int .u64 n, .int .i64 32] w fun e w' => e = .returned (.bool (decide (-2147483648 ≤ twoC n ∧ twoC n < 2147483648))) ∧ w' = w := by
  obtain ⟨n0, n1⟩ := hn
  go_enter Tryd.func53, Tryd.ntmps53
  have e := wrap_twoC ⟨n0, n1⟩
  go_wp2_with fail
  all_goals
    go_ret
    refine ⟨ret_boolV ?_, rfl⟩
    rw [Bool.eq_iff_iff]
    simp only [Bool.or_eq_true, beq_iff_eq, decide_eq_true_eq]
    try rw [e] at *
    try omega
    try (constructor <;> intro q <;> first | omega | trivial)



def byteS (s : ByteArray) (k : Nat) : Nat := if h : k < s.size then s[k].toNat else 0
theorem byteS_in (s : ByteArray) (k : Nat) (h : k < s.size) : byteS s k = s[k].toNat := by simp [byteS, h]
theorem byteS_lt (s : ByteArray) (k : Nat) : byteS s k < 256 := by
  unfold byteS; split
  · exact UInt8.toNat_lt _
  · omega

def asciiF (s : ByteArray) : Nat → Nat → Int
  | 0, _ => -1
  | f + 1, k => if 128 ≤ byteS s k then (k : Int) else asciiF s f (k + 1)
def asciiS (s : ByteArray) : Int := asciiF s s.size 0

theorem ret_i64 {a b : Int} (h : a = b) : Ending.returned (.int .i64 a) = .returned (.int .i64 b) := by rw [h]
theorem ascii_any (s : ByteArray) (w : World) (hs : s.size ≤ 9223372036854775807) :
    Calls Tryd.prog 55 #[.string s] w fun e w' => e = .returned (.int .i64 (asciiS s)) ∧ w = w' := by
  go_enter Tryd.func55, Tryd.ntmps55
  go_wp2
  go_loop [6] (fun i => ∃ k : Nat, k ≤ s.size ∧ i = .int .i64 k ∧ Hid (asciiS s = asciiF s (s.size - k) k)) (fun i => s.size - (intOf i).toNat)
  case atStart => exact ⟨0, by omega, rfl, Lib.hid rfl⟩
  case round =>
    obtain ⟨k, hk, rfl, H⟩ := hrel
    by_cases hlt : k < s.size
    · have hb := byteS_in s k hlt
      have hx := byteS_lt s k
      have hf : s.size - k = (s.size - (k + 1)) + 1 := by omega
      by_cases h128 : 128 ≤ s[k].toNat
      · have HE := Lib.hid (show asciiS s = (k : Int) by rw [H.out, hf, asciiF, hb, if_pos h128])
        clear hb hf hx
        have h128' : (128 : Int) ≤ (s[k].toNat : Int) := by omega
        go_wp2
        go_ret
        exact ⟨ret_i64 HE.out.symm, rfl⟩
      · have HE := Lib.hid (show asciiS s = asciiF s (s.size - (k + 1)) (k + 1) by rw [H.out, hf, asciiF, hb, if_neg h128])
        clear hb hf hx
        have h128' : ¬ (128 : Int) ≤ (s[k].toNat : Int) := by omega
        go_wp2
        go_round
        case rel => exact ⟨k + 1, by omega, by go_num, HE⟩
        case measure => simp [intOf]; omega
    · have HE := Lib.hid (show asciiS s = -1 by rw [H.out, show s.size - k = 0 by omega, asciiF])
      go_wp2
      go_ret
      exact ⟨ret_i64 HE.out.symm, rfl⟩

def Tabs (w : World) : Prop := Lib.Utf8Tabs 0 1 w
theorem Tabs.below {w w' : World} (h : Tabs w) (hb : Below w.heap.size w w') : Tabs w' := by
  obtain ⟨h1, h2⟩ := h
  refine ⟨fun c hc => ?_, fun i hi => ?_⟩
  · exact (hb.cell (World.block_lt_of_cell? w _ (h1 c hc))).trans (h1 c hc)
  · obtain ⟨e1, e2⟩ := h2 i hi
    exact ⟨(hb.cell (World.block_lt_of_cell? w _ e1)).trans e1, (hb.cell (World.block_lt_of_cell? w _ e2)).trans e2⟩

def utf8F (s : ByteArray) : Nat → Nat → Int
  | 0, _ => -1
  | f + 1, k => if k < s.size then (if (Lib.decodeGo (s.extract k s.size)).1 = 65533 ∧ (Lib.decodeGo (s.extract k s.size)).2 = 1 then (k : Int) else utf8F s f (k + (Lib.decodeGo (s.extract k s.size)).2)) else -1
def utf8S (s : ByteArray) : Int := utf8F s s.size 0

theorem tabs_decode (s : ByteArray) (k : Nat) (w : World) (hT : Tabs w) :
    Calls Tryd.prog 66 #[.string (s.extract k s.size)] w fun e w' =>
      e = .returned (.tuple #[.int .i32 (Lib.decodeGo (s.extract k s.size)).1, .int .i64 (Lib.decodeGo (s.extract k s.size)).2]) ∧ Below w.heap.size w w' :=
  Tryd.utf8_DecodeRuneInString _ w hT

theorem decodeGo_bd (s : ByteArray) (k : Nat) (h : k < s.size) : 1 ≤ (Lib.decodeGo (s.extract k s.size)).2 ∧ (Lib.decodeGo (s.extract k s.size)).2 ≤ s.size - k ∧ (Lib.decodeGo (s.extract k s.size)).1 ≤ 1114111 := by
  have hsz : (s.extract k s.size).size = s.size - k := by simp
  unfold Lib.decodeGo
  rw [if_neg (by omega), Lib.decode_at, hsz]
  have hb : ∀ x : UInt8, x.toNat < 256 := fun x => x.toNat_lt
  have h0 := hb ((s.extract k s.size).get! 0)
  generalize ((s.extract k s.size).get! 0).toNat = b0 at *
  generalize ((s.extract k s.size).get! (0 + 1)).toNat = b1
  generalize ((s.extract k s.size).get! (0 + 2)).toNat = b2
  generalize ((s.extract k s.size).get! (0 + 3)).toNat = b3
  generalize hn : s.size - k = n
  have hn1 : 1 ≤ n := by omega
  clear hb hsz
  unfold Lib.decodeN
  repeat' split
  all_goals first | (simp only; omega) | omega

set_option maxHeartbeats 2000000 in
theorem utf8_any (s : ByteArray) (w : World) (hs : s.size ≤ 9223372036854775800) (hT : Tabs w) :
    Calls Tryd.prog 54 #[.string s] w fun e w' => e = .returned (.int .i64 (utf8S s)) ∧ Below w.heap.size w w' := by
  go_enter Tryd.func54, Tryd.ntmps54
  go_wp2
  go_loopw [3] (fun i wr => ∃ k f : Nat, k ≤ s.size ∧ s.size - k ≤ f ∧ i = .int .i64 k ∧ Hid (utf8S s = utf8F s f k) ∧ Below w.heap.size w wr) (fun i _ => s.size - (intOf i).toNat)
  case atStart => exact ⟨0, s.size, by omega, by omega, rfl, Lib.hid rfl, Below.refl _ _⟩
  case round =>
    obtain ⟨k, f, hk, hf, rfl, H, hB⟩ := hrel
    by_cases hlt : k < s.size
    · obtain ⟨f, rfl⟩ : ∃ f', f = f' + 1 := ⟨f - 1, by omega⟩
      obtain ⟨hd1, hd2, hd3⟩ := decodeGo_bd s k hlt
      have hs1 := H.out
      rw [utf8F, if_pos hlt] at hs1
      have hc := tabs_decode s k wr (hT.below hB)
      obtain ⟨r, hr⟩ : ∃ r, (Lib.decodeGo (s.extract k s.size)).1 = r := ⟨_, rfl⟩
      obtain ⟨m, hm⟩ : ∃ m, (Lib.decodeGo (s.extract k s.size)).2 = m := ⟨_, rfl⟩
      rw [hr, hm] at hs1 hc
      rw [hr] at hd3
      rw [hm] at hd1 hd2
      clear hr hm H hT
      have HC := Lib.hid hc
      clear hc
      by_cases c1 : r = 65533
      · by_cases c2 : m = 1
        · subst c1; subst c2
          have HE := Lib.hid (show utf8S s = (k : Int) by rw [hs1, if_pos ⟨rfl, rfl⟩])
          clear hs1
          go_wp2_with fail
          refine HC.out.mono ?_
          rintro e w' ⟨rfl, hb'⟩
          go_wp2_with fail
          go_ret
          exact ⟨ret_i64 HE.out.symm, hB.trans (hb'.mono hB.size)⟩
        · subst c1
          have HE := Lib.hid (show utf8S s = utf8F s f (k + m) by rw [hs1, if_neg (fun h => c2 h.2)])
          clear hs1
          have c2' : ((m : Int) == 1) = false := by simp; omega
          go_wp2_with fail
          refine HC.out.mono ?_
          rintro e w' ⟨rfl, hb'⟩
          go_wp2_with fail
          go_roundw
          case rel => exact ⟨k + m, f, by omega, by omega, by go_num, HE, hB.trans (hb'.mono hB.size)⟩
          case measure => simp [intOf]; omega
      · have HE := Lib.hid (show utf8S s = utf8F s f (k + m) by rw [hs1, if_neg (fun h => c1 h.1)])
        clear hs1
        have c1' : ((r : Int) == 65533) = false := by simp; omega
        go_wp2_with fail
        refine HC.out.mono ?_
        rintro e w' ⟨rfl, hb'⟩
        go_wp2_with fail
        go_roundw
        case rel => exact ⟨k + m, f, by omega, by omega, by go_num, HE, hB.trans (hb'.mono hB.size)⟩
        case measure => simp [intOf]; omega
    · have HE := Lib.hid (show utf8S s = -1 by rw [H.out]; cases f <;> simp [utf8F, hlt])
      go_wp2
      go_ret
      exact ⟨ret_i64 HE.out.symm, hB⟩
end Go.Proofs.YtjipennigjlklaaDoor
