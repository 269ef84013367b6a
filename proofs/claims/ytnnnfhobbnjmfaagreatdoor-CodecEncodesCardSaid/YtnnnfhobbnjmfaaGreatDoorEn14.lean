/-
  Lemmas on the codec. Conditions: as each says.
-/
import Derived.Test.YtnnnfhobbnjmfaaGreatDoorEn13
import Derived.Test.YtnnnfhobbnjmfaaGreatDoorEn11
namespace Go.Proofs.YtnnnfhobbnjmfaaGreatDoor
open Go.RowKit
set_option linter.all false

attribute [local go_sem] Oper.semAt_some

theorem putL_snoc5 (n wd k : Nat) (h : k < wd) : (putL n wd).take (k + 1) = (putL n wd).take k ++ [UInt8.ofNat (n / 256 ^ (wd - 1 - k) % 256)] := by
  rw [take_succ_getD _ _ (by rw [putL_length]; exact h)]
  congr 2
  simp [putL, List.getD_eq_getElem?_getD, h, byteAt]
def MkTo (w : World) (l : List UInt8) (e : Ending) (w' : World) : Prop := ∃ u, e = .returned u ∧ OwnBytes w' w.heap.size 5 u l ∧ Below w.heap.size w w'
def MkB (w : World) (B : Nat) (l : List UInt8) (b : Bool) (e : Ending) (w' : World) : Prop := ∃ p n c, e = .returned (.tuple #[.slice p n c, .bool b]) ∧ (BytesIn w' p n c l ∧ ∀ a, p = some a → B ≤ a.block) ∧ Below w.heap.size w w'
theorem OwnBytes.ex {w : World} {B T : Nat} {u : Value} {l : List UInt8} (h : OwnBytes w B T u l) : ∃ p n c, u = .slice p n c ∧ BytesIn w p n c l ∧ ∀ a, p = some a → B ≤ a.block := by
  obtain ⟨p, c, hu, hy⟩ := h.bytes
  exact ⟨p, _, c, hu, hy, fun a e => (h.row.lt a.block (by rw [hu, e]; rfl)).1⟩
theorem lit_bytes (w : World) (y : UInt8) : BytesIn (w.alloc (.cells #[.int .u8 (y.toNat : Int)] 5)) (some ⟨w.heap.size, 0, none⟩) 1 1 [y] := by
  have h := Blk.of_cells (w := w.alloc (.cells #[.int .u8 (y.toNat : Int)] 5)) (b := w.heap.size) (T := 5) (l := [y]) (_root_.Go.heap_alloc_new w _) (by simp [byteV])
  exact h.all 1 1 rfl (Nat.le_refl _) (by unfold maxLen; omega)
theorem wpList_append_lit {P : Program} {wr : World} {ops : Array Oper} {rest : List Oper} {o : Oper} {a : Act} {Q : Exit → Act → World → Prop} (hgd : o.guard = none)
    (s x : Operand) (t : TypeId) (ho : o.op = .call { callee := .builtin .append, args := #[s, x], argTypes := #[t, t] })
    (B : Nat) (ht : P.underlying t = some (.slice 5)) (hinfo : (P.info? 5).map (fun i => (i.zero, i.size, i.bytes)) = some (some (.int .u8 0), 1, 1))
    (v : Value) (l : List UInt8) (y : UInt8) (yv : Value)
    (hs : a.eval s = v) (hx : a.eval x = .slice (some ⟨wr.heap.size, 0, none⟩) 1 1) (hyv : yv = .int .u8 (y.toNat : Int)) (hown : OwnBytes wr B 5 v l)
    (hlen : l.length + 1 ≤ 140737488355328) (hbase : B ≤ wr.heap.size)
    (h : ∀ v' w', OwnBytes w' B 5 v' (l ++ [y]) → Gw wr w' v v' → wpList P ops Q rest (a.put o.dst v') w') :
    wpList P ops Q (o :: rest) a (wr.alloc (.cells #[yv] 5)) := by
  subst hyv
  have hb : Below wr.heap.size wr (wr.alloc (.cells #[.int .u8 (y.toNat : Int)] 5)) := (Below.refl _ _).alloc (Nat.le_refl _) _
  exact wpList_append_bytesF hgd s x t ho B ht hinfo v l [y] _ 1 1 hs hx (hown.of_below hb) (lit_bytes wr y) hlen (Nat.le_trans hbase hb.size) (fun v' w' h1 h2 => h v' w' h1 (h2.pre hb))
set_option maxHeartbeats 1000000 in
theorem rword_any (w : World) (x wd : Nat) (hx : x < 18446744073709551616) (h8 : wd ≤ 8) :
    Calls Tryz.prog 65 #[.int .u64 x, .int .i64 wd] w (MkTo w (putL x wd)) := by
  go_enter Tryz.func65, Tryz.ntmps65
  go_wp2_with fail
  go_loopw [5, 6] (fun s5 s6 wr => ∃ k : Nat, k ≤ wd ∧ s6 = .int .i64 ((wd : Int) - 1 - k) ∧ OwnBytes wr w.heap.size 5 s5 ((putL x wd).take k) ∧ Below w.heap.size w wr) (fun _ s6 _ => (intOf s6 + 1).toNat)
  case atStart => exact ⟨0, by omega, by simp, OwnBytes.nil _ _ _, Below.refl _ _⟩
  case round =>
    obtain ⟨k, hk, rfl, ho, hB⟩ := hrel
    by_cases hlt : k < wd
    · obtain ⟨i, hi⟩ : ∃ i, wd - 1 - k = i := ⟨_, rfl⟩
      have hi' : (wd : Int) - 1 - (k : Int) = (i : Int) := by omega
      rw [hi']
      have hi3 : i ≤ 7 := by omega
      have hs := putL_snoc5 x wd k hlt
      rw [hi] at hs
      obtain ⟨y, hy⟩ : ∃ y, UInt8.ofNat (x / 256 ^ i % 256) = y := ⟨_, rfl⟩
      have hyv : (y.toNat : Int) = ((x / 256 ^ i % 256 : Nat) : Int) := by rw [← hy]; simp
      rw [hy] at hs
      have HS := Lib.hid hs
      have HY := Lib.hid hyv
      have hlo : ((putL x wd).take k).length = k := by rw [List.length_take, putL_length]; omega
      have HLO := Lib.hid hlo
      have hbs := hB.size
      clear hs hlo hy hyv hi
      go_wp2_with (at_builtin; refine wpList_append_lit rfl (.tmp 13) (.tmp 19) 28 rfl w.heap.size Tryz.underlying28 info_u8 _ ((putL x wd).take k) y _ rfl rfl ?hyv ho ?hlen ?hbase ?_)
      case hyv =>
        rw [HY.out, show (256 : Nat) ^ i = 2 ^ (8 * i) by rw [Nat.pow_mul]]
        congr 1
      case hlen => rw [HLO.out]; omega
      case hbase => exact hbs
      intro v' w' ho' hg'
      have ho2 : OwnBytes w' w.heap.size 5 v' ((putL x wd).take (k + 1)) := by rw [HS.out]; exact ho'
      have HO2 := Lib.hid ho2
      have hB2 := hB.trans (hg'.below ho hbs)
      clear ho2 ho' hg' ho
      go_wp2_with fail
      go_roundw
      case rel => exact ⟨k + 1, by omega, congrArg (Value.int .i64) (by omega), HO2.out, hB2⟩
      case measure => simp [intOf] <;> omega
    · obtain rfl : k = wd := by omega
      rw [List.take_of_length_le (by rw [putL_length]; exact Nat.le_refl _)] at ho
      have HO := Lib.hid ho
      have hneg : (k : Int) - 1 - (k : Int) = -1 := by omega
      rw [hneg]
      clear ho
      go_wp2_with fail
      go_ret
      exact ⟨_, rfl, HO.out, hB⟩
theorem MkTo.at_ {B : Nat} {w w' : World} {u : Value} {l : List UInt8} (h : OwnBytes w' w.heap.size 5 u l) (hb : B ≤ w.heap.size) : OwnBytes w' B 5 u l := ⟨ownsRow_base h.row (fun i hi => by have h1 := (h.row.lt i hi).1; omega)⟩
set_option maxRecDepth 20000 in
set_option maxHeartbeats 4000000 in
theorem rspanned_any (c n wd : Nat) (hk : 0 ≤ kindC c) (h12 : 12 ≤ c / 16) (hwc : wOf c = wd) (hn : (n : Int) ≤ 1000000000000) (w : World) (q : Option Addr) (m cc : Nat) (bl : List UInt8) (hb : BytesIn w q m cc bl) (hm : (m : Int) ≤ 1000000000000) :
    Calls Tryz.prog 66 #[.int .i64 (c : Nat), .int .i64 (n : Nat), .slice q m cc] w (MkB w w.heap.size (putL (wd + m) wd ++ (putL n wd ++ bl)) (decide (wd = 4 ∨ (n ≤ 255 ∧ wd + m ≤ 255)))) := by
  obtain ⟨D, hD⟩ : ∃ D, decide (wd = 4 ∨ (n ≤ 255 ∧ wd + m ≤ 255)) = D := ⟨_, rfl⟩
  rw [hD]
  have HDD := Lib.hid hD
  have hwd : wd = 1 ∨ wd = 4 := by unfold wOf at hwc; split at hwc <;> omega
  have hwdI : (wd : Int) ≤ 4 := by omega
  have hc := fun W => rwide_any c W hk (by omega)
  rw [hwc] at hc
  have HC := Lib.hid hc
  have hl := hb.len
  have HB := Lib.hid (And.intro hb hl)
  have HD := Lib.hid hwd
  clear hb hk h12 hl hwc hc hwd hD
  go_enter Tryz.func66, Tryz.ntmps66
  go_wp2_with fail
  refine (HC.out _).mono ?_
  rintro e w1 ⟨rfl, rfl⟩
  have hp := rword_any w (wd + m) wd (by omega) (by have := HD.out; omega)
  rw [show ((wd + m : Nat) : Int) = (wd : Int) + (m : Int) from by omega] at hp
  have HP := Lib.hid hp
  clear hp
  go_wp2_with fail
  refine HP.out.mono ?_
  rintro e w1 ⟨u1, rfl, ho1, hb1⟩
  have HO1 := Lib.hid (And.intro ho1 (And.intro hb1 hb1.size))
  have hp := rword_any w1 n wd (by omega) (by have := HD.out; omega)
  have HP2 := Lib.hid hp
  clear ho1 hb1 hp
  go_wp2_with fail
  refine HP2.out.mono ?_
  rintro e w2 ⟨u2, rfl, ho2, hb2⟩
  obtain ⟨p2, c2, hu2, hy2⟩ := ho2.bytes
  rw [putL_length] at hu2 hy2
  subst hu2
  have HW2 := Lib.hid (And.intro (HO1.out.2.1.trans (hb2.mono HO1.out.2.2)) (Nat.le_trans HO1.out.2.2 hb2.size))
  have HY2 := Lib.hid hy2
  have HO2 := Lib.hid (HO1.out.1.of_below hb2)
  clear ho2 hb2 hy2
  go_upto_region 6 with (first
    | (at_builtin; refine wpList_append_bytesF rfl (.tmp 21) (.tmp 25) 28 rfl w.heap.size Tryz.underlying28 info_u8 _ (putL (wd + m) wd) (putL n wd) _ wd _ rfl rfl HO2.out HY2.out (by rw [putL_length]; omega) HW2.out.2 ?_; intro u3 w3 ho3 hg3; have HO3 := Lib.hid ho3; have HW3 := Lib.hid (And.intro (HW2.out.1.trans (hg3.below HO2.out HW2.out.2)) (Nat.le_trans HW2.out.2 hg3.size)); clear ho3 hg3)
    | (at_builtin; refine wpList_append_bytesF rfl (.tmp 27) (.tmp 28) 28 rfl w.heap.size Tryz.underlying28 info_u8 _ _ bl _ m cc rfl rfl HO3.out (HB.out.1.below HW3.out.1) (by rw [List.length_append, putL_length, putL_length]; omega) HW3.out.2 ?_; intro u4 w4 ho4 hg4; have HO4 := Lib.hid ho4; have HW4 := Lib.hid (HW3.out.1.trans (hg4.below HO3.out HW3.out.2)); clear ho4 hg4))
  have he : OwnBytes w4 w.heap.size 5 u4 (putL (wd + m) wd ++ (putL n wd ++ bl)) := by rw [← List.append_assoc]; exact HO4.out
  obtain ⟨p5, n5, c5, hu5, hy5⟩ := he.ex
  subst hu5
  have HE := Lib.hid hy5
  clear he hy5
  by_cases h4 : wd = 4
  · have e4 : ((wd : Int) == 4) = true := by simp [h4]
    have H4 := Lib.hid h4
    clear h4
    go_wp2_with fail
    go_ret2
    refine ⟨_, _, _, ?_, HE.out, HW4.out⟩
    rw [show D = true by rw [← HDD.out]; simp [H4.out]]
    rfl
  · have e4 : ((wd : Int) == 4) = false := by simp; omega
    have H4 := Lib.hid h4
    clear h4
    by_cases h1 : (n : Int) ≤ 255
    · by_cases h2 : (wd : Int) + (m : Int) ≤ 255
      · go_wp2_with fail
        go_ret2
        refine ⟨_, _, _, ?_, HE.out, HW4.out⟩
        rw [show D = true by rw [← HDD.out]; have := H4.out; simp; omega]
        rfl
      · go_wp2_with fail
        go_ret2
        refine ⟨_, _, _, ?_, HE.out, HW4.out⟩
        rw [show D = false by rw [← HDD.out]; have := H4.out; simp; omega]
        rfl
    · go_wp2_with fail
      go_ret2
      refine ⟨_, _, _, ?_, HE.out, HW4.out⟩
      rw [show D = false by rw [← HDD.out]; have := H4.out; simp; omega]
      rfl
end Go.Proofs.YtnnnfhobbnjmfaaGreatDoor
