/-
  The contracts of longshoreref05's word and Seal. Conditions: the bytes lie in memory.
  What FrameSeals keeps: frames sealed, lent bytes, the book. No conditions.
-/
import Derived.Test.YtofdpccjpodbhaaOpensM
import Derived.Test.YtofdpccjpodbhaaMg08
import Derived.Deep.RegionLaw
namespace Go.Proofs.Ytofdpccjpodbhaa
open Go.RowKit
set_option linter.unusedVariables false

theorem putL_snoc5 (n wd k : Nat) (h : k < wd) : (putL n wd).take (k + 1) = (putL n wd).take k ++ [UInt8.ofNat (n / 256 ^ (wd - 1 - k) % 256)] := by
  rw [take_succ_getD _ _ (by rw [putL_length]; exact h)]
  congr 2
  simp [putL, List.getD_eq_getElem?_getD, h, byteAt]

set_option maxHeartbeats 1000000 in
theorem word_any (w : World) (x wd : Nat) (hx : x < 4294967296) (h8 : wd ≤ 4) :
    Calls Try.prog 40 #[.int .i64 x, .int .i64 wd] w fun e w' => ∃ v, e = .returned v ∧ OwnBytes w' w.heap.size 5 v (putL x wd) ∧ Below w.heap.size w w' := by
  go_enter Try.func40, Try.ntmps40
  go_wp2_with fail
  go_loopw [5, 6] (fun s5 s6 wr => ∃ k : Nat, k ≤ wd ∧ s6 = .int .i64 ((wd : Int) - 1 - k) ∧ OwnBytes wr w.heap.size 5 s5 ((putL x wd).take k) ∧ Below w.heap.size w wr) (fun _ s6 _ => (intOf s6 + 1).toNat)
  case atStart => exact ⟨0, by omega, by simp, OwnBytes.nil _ _ _, Below.refl _ _⟩
  case round =>
    obtain ⟨k, hk, rfl, ho, hB⟩ := hrel
    by_cases hlt : k < wd
    · obtain ⟨i, hi⟩ : ∃ i, wd - 1 - k = i := ⟨_, rfl⟩
      have hi' : (wd : Int) - 1 - (k : Int) = (i : Int) := by omega
      rw [hi']
      have hi3 : i ≤ 3 := by omega
      have hs := putL_snoc5 x wd k hlt
      rw [hi] at hs
      obtain ⟨y, hy⟩ : ∃ y, UInt8.ofNat (x / 256 ^ i % 256) = y := ⟨_, rfl⟩
      have hyv : (y.toNat : Int) = ((x / 256 ^ i % 256 : Nat) : Int) := by rw [← hy]; simp
      rw [hy] at hs
      have HS := Lib.hid hs
      have HY := Lib.hid hyv
      have hlo : ((putL x wd).take k).length = k := by rw [List.length_take, putL_length]; omega
      have HLO := Lib.hid hlo
      have hbs := hB.size
      clear hs hlo hy hyv hi
      go_wp2_with (at_builtin; refine wpList_append_grew' rfl (.tmp 13) (.tmp 19) 22 rfl w.heap.size 5 Try.underlying22 info_u8 _ ((putL x wd).take k) y _ rfl rfl ?hyv ho ?hlen ?hbase ?_)
      case hyv =>
        rw [HY.out, show (256 : Nat) ^ i = 2 ^ (8 * i) by rw [Nat.pow_mul]]
        congr 1
      case hlen => rw [HLO.out]; omega
      case hbase => exact hbs
      intro v' w' ho' hg' hf'
      have ho2 : OwnBytes w' w.heap.size 5 v' ((putL x wd).take (k + 1)) := by rw [HS.out]; exact ho'
      have HO2 := Lib.hid ho2
      have hB2 := hB.grown hg' hB.size (fun k hk => (ho.row.lt k hk).1)
      clear ho2 ho' hg' hf' ho
      go_wp2_with fail
      go_roundw
      case rel => exact ⟨k + 1, by omega, congrArg (Value.int .i64) (by omega), HO2.out, hB2⟩
      case measure => simp [intOf] <;> omega
    · obtain rfl : k = wd := by omega
      rw [List.take_of_length_le (by rw [putL_length]; exact Nat.le_refl _)] at ho
      have HO := Lib.hid ho
      have hneg : (k : Int) - 1 - (k : Int) = -1 := by omega
      rw [hneg]
      clear ho
      go_wp2_with fail
      go_ret
      exact ⟨_, rfl, HO.out, hB⟩

set_option maxHeartbeats 2000000 in
theorem rseal_bad (w : World) (T C : Int) (ea ba : Option Addr) (ne ce nb cb : Nat) (hz : ne ≤ 140737488355328 ∧ nb ≤ 140737488355328) (h : sealE T C ne nb ≠ 0) :
    Calls Try.prog 16 #[.agg #[.int .i64 T, .int .i64 C, .slice ea ne ce, .slice ba nb cb]] w fun e w' => e = .returned (.tuple #[.slice none 0 0, .int .i64 (sealE T C ne nb)]) ∧ Below w.heap.size w w' := by
  obtain ⟨hz1, hz2⟩ := hz
  have hB : Below w.heap.size w (w.alloc (.cells #[.int .i64 T, .int .i64 C, .slice ea ne ce, .slice ba nb cb] 24)) := (Below.refl _ _).alloc (Nat.le_refl _) _
  by_cases hT : T ≠ 0 ∧ T ≠ 1
  · have h1 : (T != 0) = true := by simpa using hT.1
    have h2 : (T != 1) = true := by simpa using hT.2
    have he : sealE T C ne nb = 53 := by unfold sealE; rw [if_pos hT]
    rw [he]
    clear hT h he
    go_enter Try.func16, Try.ntmps16
    go_wp2_with fail
    go_ret2
    exact ⟨rfl, hB⟩
  have ht : ((T != 0) = false ∧ (T == 1) = false) ∨ ((T != 0) = true ∧ (T != 1) = false ∧ (T == 1) = true) := by
    by_cases h0 : T = 0
    · exact .inl ⟨by simp [h0], by simp [h0]⟩
    · have : T = 1 := by omega
      exact .inr ⟨by simp [this], by simp [this], by simp [this]⟩
  by_cases hC : C < 0 ∨ 65535 < C ∨ (T = 1 ∧ C ≠ 0)
  · have he : sealE T C ne nb = 54 := by unfold sealE; rw [if_neg hT, if_pos hC]
    rw [he]
    have hcase : C < 0 ∨ (¬ C < 0 ∧ 65536 ≤ C) ∨ (¬ C < 0 ∧ ¬ 65536 ≤ C ∧ (T == 1) = true ∧ (C != 0) = true) := by
      by_cases h1 : C < 0
      · exact .inl h1
      · by_cases h2 : 65535 < C
        · exact .inr (.inl ⟨h1, h2⟩)
        · rcases hC with h3 | h3 | ⟨h3, h4⟩
          · exact absurd h3 h1
          · exact absurd h3 h2
          · exact .inr (.inr ⟨h1, by omega, by simp [h3], by simpa using h4⟩)
    clear hC hT h he
    go_enter Try.func16, Try.ntmps16
    rcases hcase with h1 | ⟨h1, h2⟩ | ⟨h1, h2, h3, h4⟩
    · rcases ht with ⟨t1, t2⟩ | ⟨t1, t2, t3⟩ <;>
      · go_wp2_with fail
        go_ret2
        exact ⟨rfl, hB⟩
    · rcases ht with ⟨t1, t2⟩ | ⟨t1, t2, t3⟩ <;>
      · go_wp2_with fail
        go_ret2
        exact ⟨rfl, hB⟩
    · rcases ht with ⟨t1, t2⟩ | ⟨t1, t2, t3⟩
      · rw [h3] at t2; simp at t2
      · clear t3
        go_wp2_with fail
        go_ret2
        exact ⟨rfl, hB⟩
  have c1 : ¬ C < 0 := by omega
  have c2 : ¬ 65536 ≤ C := by omega
  have c3 : ((T != 0) = false ∧ (T == 1) = false) ∨ ((T != 0) = true ∧ (T != 1) = false ∧ (T == 1) = true ∧ (C != 0) = false) := by
    rcases ht with h1 | ⟨h1, h2, h3⟩
    · exact .inl h1
    · refine .inr ⟨h1, h2, h3, ?_⟩
      have h3' : T = 1 := by simpa using h3
      have : C = 0 := by omega
      simp [this]
  clear ht
  by_cases hE : ne % 4 ≠ 0 ∨ 1012 < ne
  · have he : sealE T C ne nb = 52 := by unfold sealE; rw [if_neg hT, if_neg hC, if_pos hE]
    rw [he]
    clear hC hT h he
    have hcase : (((ne : Int) % 4) != 0) = true ∨ ((((ne : Int) % 4) != 0) = false ∧ 1012 < ne) := by
      by_cases h1 : ne % 4 = 0
      · exact .inr ⟨by have : (ne : Int) % 4 = 0 := by omega
                       simp [this], by omega⟩
      · exact .inl (by simp; omega)
    go_enter Try.func16, Try.ntmps16
    rcases hcase with h1 | ⟨h1, h2⟩ <;> rcases c3 with ⟨h3, h4⟩ | ⟨h3, h4, h5, h6⟩ <;>
    · go_wp2_with fail
      go_ret2
      exact ⟨rfl, hB⟩
  have hE1 : (((ne : Int) % 4) != 0) = false := by
    have : (ne : Int) % 4 = 0 := by omega
    simp [this]
  have hE2 : ne ≤ 1012 := by omega
  have hL : 1048576 < 8 + ne + nb := by
    by_cases hL : 1048576 < 8 + ne + nb
    · exact hL
    · exfalso; apply h; unfold sealE; rw [if_neg hT, if_neg hC, if_neg hE, if_neg hL]
  have he : sealE T C ne nb = 2 := by unfold sealE; rw [if_neg hT, if_neg hC, if_neg hE, if_pos hL]
  rw [he]
  clear hC hT h he hE
  go_enter Try.func16, Try.ntmps16
  rcases c3 with ⟨h3, h4⟩ | ⟨h3, h4, h5, h6⟩ <;>
  · go_wp2_with fail
    go_ret2
    exact ⟨rfl, hB⟩

set_option maxHeartbeats 4000000 in
set_option maxRecDepth 20000 in
theorem rseal_ok (w : World) (T C : Int) (ea ba : Option Addr) (ne ce nb cb : Nat) (ext body : List UInt8) (h1 : BytesIn w ea ne ce ext) (h2 : BytesIn w ba nb cb body)
    (hT : T = 0 ∨ T = 1) (hC0 : 0 ≤ C) (hC : C ≤ 65535) (hTC : T = 1 → C = 0) (hE : ne % 4 = 0) (hE2 : ne ≤ 1012) (hL : 8 + ne + nb ≤ 1048576) :
    Calls Try.prog 16 #[.agg #[.int .i64 T, .int .i64 C, .slice ea ne ce, .slice ba nb cb]] w fun e w' => ∃ v, e = .returned (.tuple #[v, .int .i64 0]) ∧ OwnBytes w' w.heap.size 5 v (sealB T C ext body) ∧ Below w.heap.size w w' := by
  have hB : Below w.heap.size w (w.alloc (.cells #[.int .i64 T, .int .i64 C, .slice ea ne ce, .slice ba nb cb] 24)) := (Below.refl _ _).alloc (Nat.le_refl _) _
  have c1 : ¬ C < 0 := by omega
  have c2 : ¬ 65536 ≤ C := by omega
  have c3 : ((T != 0) = false ∧ (T == 1) = false) ∨ ((T != 0) = true ∧ (T != 1) = false ∧ (T == 1) = true ∧ (C != 0) = false) := by
    rcases hT with e | e
    · exact .inl ⟨by simp [e], by simp [e]⟩
    · exact .inr ⟨by simp [e], by simp [e], by simp [e], by simp [hTC e]⟩
  have hE1 : (((ne : Int) % 4) != 0) = false := by
    have : (ne : Int) % 4 = 0 := by omega
    simp [this]
  obtain ⟨N, hN⟩ : ∃ N, 8 + ne + nb = N := ⟨_, rfl⟩
  have hN' : (8 : Int) + (ne : Int) + (nb : Int) = (N : Int) := by omega
  have hNm : ¬ 1048576 < (N : Int) := by omega
  have HN := Lib.hid hN
  have HH1 := Lib.hid h1
  have HH2 := Lib.hid h2
  clear hE hTC hL hN h1 h2
  go_enter Try.func16, Try.ntmps16
  go_upto_region 2 with fail
  have q0 : (w.alloc (.cells #[.int .i64 T, .int .i64 C, .slice ea ne ce, .slice ba nb cb] 24)).heap[w.heap.size]? = some (.cells #[.int .i64 T, .int .i64 C, .slice ea ne ce, .slice ba nb cb] 24 (0, 0)) := heap_alloc_new _ _
  have hsz : (w.alloc (.cells #[.int .i64 T, .int .i64 C, .slice ea ne ce, .slice ba nb cb] 24)).heap.size = w.heap.size + 1 := by simp
  generalize (w.alloc (.cells #[.int .i64 T, .int .i64 C, .slice ea ne ce, .slice ba nb cb] 24)) = w1 at *
  have d0 : w1.cell? ⟨w.heap.size, 0, none⟩ = some (.int .i64 T) := by simp [World.cell?, q0]
  have d1 : w1.cell? ⟨w.heap.size, 1, none⟩ = some (.int .i64 C) := by simp [World.cell?, q0]
  have d2 : w1.cell? ⟨w.heap.size, 2, none⟩ = some (.slice ea ne ce) := by simp [World.cell?, q0]
  have d3 : w1.cell? ⟨w.heap.size, 3, none⟩ = some (.slice ba nb cb) := by simp [World.cell?, q0]
  have DD : ∀ w', Below w1.heap.size w1 w' → w'.cell? ⟨w.heap.size, 0, none⟩ = some (.int .i64 T) ∧ w'.cell? ⟨w.heap.size, 1, none⟩ = some (.int .i64 C) ∧ w'.cell? ⟨w.heap.size, 2, none⟩ = some (.slice ea ne ce) ∧ w'.cell? ⟨w.heap.size, 3, none⟩ = some (.slice ba nb cb) := fun w' hb => by
    have hh := (hb.block w.heap.size (by omega)).trans q0
    refine ⟨?_, ?_, ?_, ?_⟩ <;> simp [World.cell?, hh]
  have HDD := Lib.hid DD
  have HB := Lib.hid hB
  clear DD q0 hB
  have hT0 : 0 ≤ T ∧ T ≤ 1 := by omega
  obtain ⟨t, rfl⟩ := Int.eq_ofNat_of_zero_le hT0.1
  obtain ⟨ch, rfl⟩ := Int.eq_ofNat_of_zero_le hC0
  have ht1 : t ≤ 1 := by omega
  have hch : ch ≤ 65535 := by omega
  have HT := Lib.hid hT
  clear hT hT0
  rcases c3 with ⟨h3, h4⟩ | ⟨h3, h4, h5, h6⟩
  all_goals
    go_upto_region 10 with fail
    have hw := word_any w1 N 4 (by omega) (by decide)
    go_wp2_with fail
    refine hw.mono ?_
    rintro e w2 ⟨v, rfl, ho, hb⟩
    obtain ⟨e0, e1, e2, e3⟩ := HDD.out w2 hb
    have hs2 := hb.size
    have HB2 := Lib.hid hb
    have hrow := ho.row
    rw [putL_length] at hrow
    clear hw d0 d1 d2 d3 h3 h4 hb ho
    go_upto_region 11 with fail
    have hm8 : (8 : Int) ≤ 8 + (ne : Int) := by omega
    go_wp2_with (at_builtin; refine wpList_append_two rfl (.tmp 59) (.tmp 69) 22 rfl w1.heap.size 5 (.int .u8 0) 1 Try.underlying22 info_u8 rfl v 4 _ _ _ rfl rfl rfl rfl hrow ?h63 ?hbytes hs2 ?_)
    case h63 => unfold maxLen; omega
    case hbytes => omega
    intro v3 w3 hr3 hg3
    have hv1 : (8 + (ne : Int)) / 4 = ((UInt8.ofNat ((8 + ne) / 4)).toNat : Int) := by rw [UInt8.toNat_ofNat', Nat.mod_eq_of_lt (by omega)]; omega
    have hv2 : (t : Int) = ((UInt8.ofNat t).toNat : Int) := by rw [UInt8.toNat_ofNat', Nat.mod_eq_of_lt (by omega)]
    have ho3 : OwnBytes w3 (w.heap.size + 1) 5 v3 (putL N 4 ++ [UInt8.ofNat ((8 + ne) / 4), UInt8.ofNat t]) := by
      refine ⟨?_⟩
      rw [List.length_append, putL_length, List.map_append]
      rw [hv1, hv2] at hr3
      exact hr3
    obtain ⟨L3, hL3⟩ : ∃ L, putL N 4 ++ [UInt8.ofNat ((8 + ne) / 4), UInt8.ofNat t] = L := ⟨_, rfl⟩
    rw [hL3] at ho3
    have hl3 : L3.length = 6 := by rw [← hL3, List.length_append, putL_length]; rfl
    have HL3 := Lib.hid hL3
    have hB3 := HB2.out.grown hg3 HB2.out.size (fun k hk => (hrow.lt k hk).1)
    obtain ⟨e0, e1, e2, e3⟩ := HDD.out w3 hB3
    have hw := word_any w3 ch 2 (by omega) (by decide)
    have HO3 := Lib.hid ho3
    have HB3 := Lib.hid hB3
    clear hv1 hv2 ho3 hB3 hL3 hr3 hg3 hrow hs2 hm8
    go_wp2_with fail
    refine hw.mono ?_
    rintro e w4 ⟨v4, rfl, ho4, hb4⟩
    obtain ⟨p4, c4, rfl, hy4⟩ := ho4.bytes
    rw [putL_length] at hy4 ⊢
    have hB4 := HB3.out.trans (hb4.mono HB3.out.size)
    have ho3 := HO3.out.of_below hb4
    have hs4 : w.heap.size + 1 ≤ w4.heap.size := by have := hB4.size; omega
    have HB4 := Lib.hid hB4
    have HO34 := Lib.hid ho3
    clear hw ho4 hb4 hB4 HB3 HO3 e0 e1 e2 e3
    go_wp2_with (at_builtin; refine wpList_append_bytes rfl (.tmp 71) (.tmp 74) 22 rfl (w.heap.size + 1) 5 Try.underlying22 info_u8 v3 L3 (putL ch 2) p4 2 c4 rfl rfl ho3 hy4 ?hl4 hs4 ?_)
    case hl4 => omega
    intro v5 w5 ho5 hg5
    have hB5 := HB4.out.grown hg5 HB4.out.size (fun k hk => by have := (HO34.out.row.lt k hk).1; omega)
    obtain ⟨e0, e1, e2, e3⟩ := HDD.out w5 hB5
    have hx5 := HH1.out.below (HB.out.trans (hB5.mono (by omega)))
    have hs5 : w.heap.size + 1 ≤ w5.heap.size := by have := hB5.size; omega
    obtain ⟨L5, hL5⟩ : ∃ L, L3 ++ putL ch 2 = L := ⟨_, rfl⟩
    rw [hL5] at ho5
    have hl5 : L5.length = 8 := by rw [← hL5, List.length_append, putL_length, hl3]
    have HL5 := Lib.hid hL5
    have HB5 := Lib.hid hB5
    have HO5 := Lib.hid ho5
    clear ho3 hg5 hB5 hy4 HB4 HO34 hL5 hs4
    go_wp2_with (at_builtin; refine wpList_append_bytes rfl (.tmp 76) (.tmp 78) 22 rfl (w.heap.size + 1) 5 Try.underlying22 info_u8 v5 L5 ext ea ne ce rfl rfl ho5 hx5 ?hl5 hs5 ?_)
    case hl5 => omega
    intro v6 w6 ho6 hg6
    have hB6 := HB5.out.grown hg6 HB5.out.size (fun k hk => by have := (HO5.out.row.lt k hk).1; omega)
    obtain ⟨e0, e1, e2, e3⟩ := HDD.out w6 hB6
    have hx6 := HH2.out.below (HB.out.trans (hB6.mono (by omega)))
    have hs6 : w.heap.size + 1 ≤ w6.heap.size := by have := hB6.size; omega
    have hl6 : (L5 ++ ext).length = 8 + ne := by rw [List.length_append, hl5, HH1.out.len]
    have HB6 := Lib.hid hB6
    have HO6 := Lib.hid ho6
    clear ho5 hg6 hB6 hx5 HB5 HO5 hs5
    go_wp2_with (at_builtin; refine wpList_append_bytes rfl (.tmp 80) (.tmp 82) 22 rfl (w.heap.size + 1) 5 Try.underlying22 info_u8 v6 (L5 ++ ext) body ba nb cb rfl rfl ho6 hx6 ?hl6 hs6 ?_)
    case hl6 => rw [hl6]; have := HN.out; omega
    intro v7 w7 ho7 hg7
    have hB7 := HB.out.trans ((HB6.out.grown hg7 HB6.out.size (fun k hk => by have := (HO6.out.row.lt k hk).1; omega)).mono (by omega))
    have hfin : OwnBytes w7 w.heap.size 5 v7 (sealB t ch ext body) := by
      have e1 : sealB t ch ext body = L5 ++ ext ++ body := by
        unfold sealB
        rw [HH1.out.len, HH2.out.len, HN.out, Int.toNat_natCast, Int.toNat_natCast, HL3.out, HL5.out]
      rw [e1, List.append_assoc]
      exact ⟨row_mono5 ho7.row (Nat.le_succ _)⟩
    have HF := Lib.hid hfin
    have HB7 := Lib.hid hB7
    clear ho6 hg7 hB7 hx6 HB6 HO6 hs6 hfin ho7
    go_wp2_with fail
    go_ret2
    exact ⟨_, rfl, HF.out, HB7.out⟩
end Go.Proofs.Ytofdpccjpodbhaa

namespace Go.Proofs.Ytofdpccjpodbhaa
open Go.RowKit
set_option linter.unusedVariables false

theorem info_errno5 : (Try.prog.info? 33).map (fun i => (i.zero, i.size, i.bytes)) = some (some (.int .i64 0), 1, 8) := by kernel_rfl

theorem sealE_zero5 {T C : Int} {ne nb : Nat} (h : sealE T C ne nb = 0) : (T = 0 ∨ T = 1) ∧ 0 ≤ C ∧ C ≤ 65535 ∧ (T = 1 → C = 0) ∧ ne % 4 = 0 ∧ ne ≤ 1012 ∧ 8 + ne + nb ≤ 1048576 := by
  unfold sealE at h
  by_cases h1 : T ≠ 0 ∧ T ≠ 1
  · rw [if_pos h1] at h; simp at h
  rw [if_neg h1] at h
  by_cases h2 : C < 0 ∨ 65535 < C ∨ (T = 1 ∧ C ≠ 0)
  · rw [if_pos h2] at h; simp at h
  rw [if_neg h2] at h
  by_cases h3 : ne % 4 ≠ 0 ∨ 1012 < ne
  · rw [if_pos h3] at h; simp at h
  rw [if_neg h3] at h
  by_cases h4 : 1048576 < 8 + ne + nb
  · rw [if_pos h4] at h; simp at h
  omega

theorem seal_any (w : World) (T C : Int) (ea ba : Option Addr) (ne ce nb cb : Nat) (ext body : List UInt8) (h1 : BytesIn w ea ne ce ext) (h2 : BytesIn w ba nb cb body) (z1 : ne ≤ 1048576) (z2 : nb ≤ 1048576) :
    Calls Try.prog 14 #[.agg #[.int .i64 T, .int .i64 C, .slice ea ne ce, .slice ba nb cb]] w fun e w' => ∃ p k c, e = .returned (.tuple #[.slice p k c, .int .i64 (sealE T C ne nb)]) ∧ Below w.heap.size w w' ∧ OwnBytes w' w.heap.size 5 (.slice p k c) (sealS T C ext body) := by
  have e1 := h1.len
  have e2 := h2.len
  by_cases he : sealE T C ne nb = 0
  · obtain ⟨q1, q2, q3, q4, q5, q6, q7⟩ := sealE_zero5 he
    refine (seal_ok w T C ea ba ne ce nb cb ext body h1 h2 q1 q2 q3 q4 q5 q6 q7).mono fun e w' hh => ?_
    obtain ⟨g, he', hg, hb, hk⟩ := hh
    rw [he]
    refine ⟨_, _, _, he', hb, ?_⟩
    unfold sealS
    rw [e1, e2, if_pos he]
    exact hk.own hg (by rw [sealB_length, e1, e2]) (by unfold maxLen; omega)
  · refine (seal_bad w T C ea ba ne ce nb cb ⟨by omega, by omega⟩ he).mono fun e w' hh => ?_
    refine ⟨none, 0, 0, hh.1, hh.2, ?_⟩
    unfold sealS
    rw [e1, e2, if_neg he]
    exact OwnBytes.nil _ _ _

theorem rseal_any (w : World) (T C : Int) (ea ba : Option Addr) (ne ce nb cb : Nat) (ext body : List UInt8) (h1 : BytesIn w ea ne ce ext) (h2 : BytesIn w ba nb cb body) (z1 : ne ≤ 1048576) (z2 : nb ≤ 1048576) :
    Calls Try.prog 16 #[.agg #[.int .i64 T, .int .i64 C, .slice ea ne ce, .slice ba nb cb]] w fun e w' => ∃ p k c, e = .returned (.tuple #[.slice p k c, .int .i64 (sealE T C ne nb)]) ∧ Below w.heap.size w w' ∧ OwnBytes w' w.heap.size 5 (.slice p k c) (sealS T C ext body) := by
  have e1 := h1.len
  have e2 := h2.len
  by_cases he : sealE T C ne nb = 0
  · obtain ⟨q1, q2, q3, q4, q5, q6, q7⟩ := sealE_zero5 he
    refine (rseal_ok w T C ea ba ne ce nb cb ext body h1 h2 q1 q2 q3 q4 q5 q6 q7).mono fun e w' hh => ?_
    obtain ⟨v, he', ho, hb⟩ := hh
    obtain ⟨p, c, rfl, _⟩ := ho.bytes
    rw [he]
    refine ⟨_, _, _, he', hb, ?_⟩
    unfold sealS
    rw [e1, e2, if_pos he]
    exact ho
  · refine (rseal_bad w T C ea ba ne ce nb cb ⟨by omega, by omega⟩ he).mono fun e w' hh => ?_
    refine ⟨none, 0, 0, hh.1, hh.2, ?_⟩
    unfold sealS
    rw [e1, e2, if_neg he]
    exact OwnBytes.nil _ _ _

theorem sealS_le (T C : Int) (ext body : List UInt8) : (sealS T C ext body).length ≤ 1048576 := by
  unfold sealS
  by_cases he : sealE T C ext.length body.length = 0
  · rw [if_pos he, sealB_length]
    have := sealE_zero5 he
    omega
  · rw [if_neg he]; exact Nat.zero_le _

theorem step_store_row5 {P : Program} {w : World} {ops : Array Oper} {o : Oper} {a : Act} {K : Act → World → Prop} {Q : Exit → Act → World → Prop} {E : Prop} (hgd : o.guard = none) (ty : TypeId) (x y : Operand) (ho : o.op = .store ty x y)
    (g : Nat) (cells : Array Value) (hx : a.eval x = .pointer (some ⟨g, 0, none⟩)) (hy : a.eval y = .agg cells)
    (t : TypeId) (old : Array Value) (hg : w.heap[g]? = some (.cells old t (0, 0))) (hi : (P.info? ty).map (·.size) = some cells.size)
    (hold : old.size = cells.size) (h1 : cells.all (·.oneCell') = true) (h : K (a.put o.dst undef) (w.setRow g cells)) :
    if Region.wanted o (yielded ops a.tmps) = true then Oper.wp P o a w K Q else E := by
  have hw : Region.wanted o (yielded ops a.tmps) = true := by simp [Region.wanted, hgd]
  rw [if_pos hw]
  exact wp_store_row ty x y ho g cells hx hy t old hg hi hold h1 h

/-- lent bytes, as they lie -/
structure LentAt (w : World) (g n cap : Nat) (l : List UInt8) : Prop where
  ex : ∃ L, Lent w g L ∧ L.length = cap ∧ L.take (n + 9) = l ++ spareL
  len : l.length = n
  le : n + 9 ≤ cap
  cap : cap ≤ maxLen
theorem LentAt.lt {w : World} {g n cap : Nat} {l : List UInt8} (h : LentAt w g n cap l) : g < w.heap.size := by
  obtain ⟨L, h1, _⟩ := h.ex
  exact h1.lt
theorem LentAt.of_block {w w' : World} {g n cap : Nat} {l : List UInt8} (h : LentAt w g n cap l) (e : w'.heap[g]? = w.heap[g]?) : LentAt w' g n cap l := by
  obtain ⟨L, h1, h2⟩ := h.ex
  exact ⟨⟨L, h1.of_block e, h2⟩, h.len, h.le, h.cap⟩
theorem LentAt.below {w w' : World} {g n cap : Nat} {l : List UInt8} (h : LentAt w g n cap l) (hb : Below w.heap.size w w') : LentAt w' g n cap l := h.of_block (hb.block g h.lt)
theorem LentAt.bytes {w : World} {g n cap : Nat} {l : List UInt8} (h : LentAt w g n cap l) : BytesIn w (some ⟨g, 0, none⟩) n cap l := by
  obtain ⟨L, h1, h2, h3⟩ := h.ex
  have hle := h.le
  have hb := h1.bytes 0 n cap (by omega) (by omega) h.cap
  have htk : L.take n = l := by
    have := congrArg (List.take n) h3
    rw [List.take_take, Nat.min_eq_left (by omega), List.take_left' h.len] at this
    exact this
  rw [List.drop_zero, htk] at hb
  exact hb
theorem LentAt.copied {w w' : World} {g n cap : Nat} {l r L : List UInt8} (h : LentAt w g n cap l) (hL : Lent w g L) (hw : Lent w' g (r ++ L.drop n)) (hr : r.length = n) (hl : L.length = cap) (h3 : L.take (n + 9) = l ++ spareL) : LentAt w' g n cap r := by
  have hle := h.le
  have hdr : (L.drop n).take 9 = spareL := by
    have := congrArg (List.drop n) h3
    rw [List.drop_take, List.drop_left' h.len] at this
    rwa [show n + 9 - n = 9 by omega] at this
  refine ⟨⟨_, hw, by rw [List.length_append, hr, List.length_drop, hl]; omega, ?_⟩, hr, h.le, h.cap⟩
  rw [List.take_append, hr, List.take_of_length_le (by rw [hr]; omega), show n + 9 - n = 9 by omega, hdr]

/-- a frame's four cells -/
structure FrAt (w : World) (b : Nat) (T C : Int) (e v : Value) : Prop where
  c0 : w.cell? ⟨b, 0, none⟩ = some (.int .i64 T)
  c1 : w.cell? ⟨b, 1, none⟩ = some (.int .i64 C)
  c2 : w.cell? ⟨b, 2, none⟩ = some e
  c3 : w.cell? ⟨b, 3, none⟩ = some v
theorem FrAt.of_heap {w : World} {b : Nat} {T C : Int} {e v : Value} {t : Nat} {fr : Nat × Nat} (h : w.heap[b]? = some (.cells #[.int .i64 T, .int .i64 C, e, v] t fr)) : FrAt w b T C e v := by
  refine ⟨?_, ?_, ?_, ?_⟩ <;> simp [World.cell?, h]
theorem cell_of_block {w w' : World} {b i : Nat} (e : w'.heap[b]? = w.heap[b]?) : w'.cell? ⟨b, i, none⟩ = w.cell? ⟨b, i, none⟩ := by simp [World.cell?, e]
theorem FrAt.of_block {w w' : World} {b : Nat} {T C : Int} {e v : Value} (h : FrAt w b T C e v) (hb : w'.heap[b]? = w.heap[b]?) : FrAt w' b T C e v :=
  ⟨(cell_of_block hb).trans h.c0, (cell_of_block hb).trans h.c1, (cell_of_block hb).trans h.c2, (cell_of_block hb).trans h.c3⟩
theorem FrAt.lt {w : World} {b : Nat} {T C : Int} {e v : Value} (h : FrAt w b T C e v) : b < w.heap.size := by
  have h0 := h.c0
  simp only [World.cell?] at h0
  cases hh : w.heap[b]? with
  | none => rw [hh] at h0; simp at h0
  | some o => exact (Array.getElem?_eq_some_iff.1 hh).1
theorem FrAt.below {w w' : World} {b : Nat} {T C : Int} {e v : Value} (h : FrAt w b T C e v) (hb : Below w.heap.size w w') : FrAt w' b T C e v := h.of_block (hb.block b h.lt)

/-- x: a frame laid anew, its two rows lent -/
def XPost (w1 wx : World) (T C : Int) (ext body : List UInt8) (ne nb : Nat) (s : Value) : Prop :=
  ∃ x g1 c1 g2 c2, s = .pointer (some ⟨x, 0, none⟩) ∧ Below w1.heap.size w1 wx ∧ w1.heap.size ≤ x ∧ w1.heap.size ≤ g1 ∧ w1.heap.size ≤ g2 ∧ g1 ≠ g2 ∧ x ≠ g1 ∧ x ≠ g2 ∧
    FrAt wx x T C (.slice (some ⟨g1, 0, none⟩) ne c1) (.slice (some ⟨g2, 0, none⟩) nb c2) ∧ LentAt wx g1 ne c1 ext ∧ LentAt wx g2 nb c2 body
/-- t: a frame laid anew, its two rows turned -/
def TPost (w1 wx : World) (T C : Int) (ext body : List UInt8) (ne nb : Nat) (s : Value) : Prop :=
  ∃ x p1 c1 p2 c2, s = .pointer (some ⟨x, 0, none⟩) ∧ Below w1.heap.size w1 wx ∧ w1.heap.size ≤ x ∧
    FrAt wx x T C (.slice p1 ne c1) (.slice p2 nb c2) ∧ OwnBytes wx w1.heap.size 5 (.slice p1 ne c1) (turnB ext) ∧ OwnBytes wx w1.heap.size 5 (.slice p2 nb c2) (turnB body)

theorem lentAt_of {w w' : World} {e : Ending} {l : List UInt8} {n : Nat} (h : LentOut w l e w') (hn : l.length = n) : ∃ g cap, e = .returned (.slice (some ⟨g, 0, none⟩) n cap) ∧ w.heap.size ≤ g ∧ Below w.heap.size w w' ∧ LentAt w' g n cap l := by
  obtain ⟨g, cap, L, he, hg, hb, hL, hl, ht, hc, hm⟩ := h
  subst hn
  exact ⟨g, cap, he, hg, hb, ⟨L, hL, hl, ht⟩, rfl, hc, hm⟩

theorem set4_heap {w : World} {x t : Nat} {a b c d v0 v1 v2 v3 : Value} (h : w.heap[x]? = some (.cells #[a, b, c, d] t (0, 0))) :
    ((((w.setCell ⟨x, 0, none⟩ v0).setCell ⟨x, 1, none⟩ v1).setCell ⟨x, 2, none⟩ v2).setCell ⟨x, 3, none⟩ v3).heap[x]? = some (.cells #[v0, v1, v2, v3] t (0, 0)) := by
  have h1 := heap_setCell_same w x 0 _ _ v0 h
  have h2 := heap_setCell_same _ x 1 _ _ v1 h1
  have h3 := heap_setCell_same _ x 2 _ _ v2 h2
  have h4 := heap_setCell_same _ x 3 _ _ v3 h3
  simpa using h4
theorem set4_other {w : World} {x k : Nat} {v0 v1 v2 v3 : Value} (hk : k ≠ x) :
    ((((w.setCell ⟨x, 0, none⟩ v0).setCell ⟨x, 1, none⟩ v1).setCell ⟨x, 2, none⟩ v2).setCell ⟨x, 3, none⟩ v3).heap[k]? = w.heap[k]? :=
  (((heap_setCell_other _ ⟨x, 3, none⟩ k v3 hk).trans (heap_setCell_other _ ⟨x, 2, none⟩ k v2 hk)).trans (heap_setCell_other _ ⟨x, 1, none⟩ k v1 hk)).trans (heap_setCell_other _ ⟨x, 0, none⟩ k v0 hk)
theorem set4_below {B : Nat} {w0 w : World} {x : Nat} {v0 v1 v2 v3 : Value} (h : Below B w0 w) (hx : B ≤ x) :
    Below B w0 ((((w.setCell ⟨x, 0, none⟩ v0).setCell ⟨x, 1, none⟩ v1).setCell ⟨x, 2, none⟩ v2).setCell ⟨x, 3, none⟩ v3) :=
  (((h.setCell hx _).setCell hx _).setCell hx _).setCell hx _
theorem set4_grown {w : World} {x : Nat} {v0 v1 v2 v3 : Value} : w.grownBy ((((w.setCell ⟨x, 0, none⟩ v0).setCell ⟨x, 1, none⟩ v1).setCell ⟨x, 2, none⟩ v2).setCell ⟨x, 3, none⟩ v3) (some x) :=
  ⟨rfl, rfl, rfl, by simp [World.setCell], fun k hk hne => set4_other (fun e => hne (by rw [e]))⟩

theorem xpost_alloc {w1 wb : World} {T C : Int} {ext body : List UInt8} {ne nb g1 c1 g2 c2 : Nat} (hB : Below w1.heap.size w1 wb) (h1 : LentAt wb g1 ne c1 ext) (h2 : LentAt wb g2 nb c2 body) (hg1 : w1.heap.size ≤ g1) (hg2 : w1.heap.size ≤ g2) (hne : g1 ≠ g2) :
    XPost w1 (wb.alloc (.cells #[.int .i64 T, .int .i64 C, .slice (some ⟨g1, 0, none⟩) ne c1, .slice (some ⟨g2, 0, none⟩) nb c2] 24)) T C ext body ne nb (.pointer (some ⟨wb.heap.size, 0, none⟩)) := by
  have l1 := h1.lt
  have l2 := h2.lt
  exact ⟨_, g1, c1, g2, c2, rfl, hB.alloc hB.size _, hB.size, hg1, hg2, hne, by omega, by omega, FrAt.of_heap (heap_alloc_new _ _), h1.of_block (heap_alloc_old _ _ l1), h2.of_block (heap_alloc_old _ _ l2)⟩
theorem xpost_set {w1 wb : World} {T C : Int} {ext body : List UInt8} {ne nb g1 c1 g2 c2 x t : Nat} {a b c d : Value} (hB : Below w1.heap.size w1 wb) (hz : wb.heap[x]? = some (.cells #[a, b, c, d] t (0, 0))) (h1 : LentAt wb g1 ne c1 ext) (h2 : LentAt wb g2 nb c2 body) (hx : w1.heap.size ≤ x)
    (hg1 : w1.heap.size ≤ g1) (hg2 : w1.heap.size ≤ g2) (hne : g1 ≠ g2) (hx1 : x ≠ g1) (hx2 : x ≠ g2) :
    XPost w1 ((((wb.setCell ⟨x, 0, none⟩ (.int .i64 T)).setCell ⟨x, 1, none⟩ (.int .i64 C)).setCell ⟨x, 2, none⟩ (.slice (some ⟨g1, 0, none⟩) ne c1)).setCell ⟨x, 3, none⟩ (.slice (some ⟨g2, 0, none⟩) nb c2)) T C ext body ne nb (.pointer (some ⟨x, 0, none⟩)) :=
  ⟨x, g1, c1, g2, c2, rfl, set4_below hB hx, hx, hg1, hg2, hne, hx1, hx2, FrAt.of_heap (set4_heap hz), h1.of_block (set4_other (fun e => hx1 e.symm)), h2.of_block (set4_other (fun e => hx2 e.symm))⟩

theorem tpost_alloc {w1 wb : World} {T C : Int} {ext body : List UInt8} {ne nb c1 c2 : Nat} {p1 p2 : Option Addr} (hB : Below w1.heap.size w1 wb) (h1 : OwnBytes wb w1.heap.size 5 (.slice p1 ne c1) (turnB ext)) (h2 : OwnBytes wb w1.heap.size 5 (.slice p2 nb c2) (turnB body)) :
    TPost w1 (wb.alloc (.cells #[.int .i64 T, .int .i64 C, .slice p1 ne c1, .slice p2 nb c2] 24)) T C ext body ne nb (.pointer (some ⟨wb.heap.size, 0, none⟩)) := by
  have hb : Below wb.heap.size wb (wb.alloc (.cells #[.int .i64 T, .int .i64 C, .slice p1 ne c1, .slice p2 nb c2] 24)) := (Below.refl _ _).alloc (Nat.le_refl _) _
  exact ⟨_, p1, c1, p2, c2, rfl, hB.alloc hB.size _, hB.size, FrAt.of_heap (heap_alloc_new _ _), h1.of_below hb, h2.of_below hb⟩
theorem tpost_set {w1 wb : World} {T C : Int} {ext body : List UInt8} {ne nb c1 c2 x : Nat} {p1 p2 : Option Addr} {a b c d : Value} (hB : Below w1.heap.size w1 wb) (hz : wb.heap[x]? = some (.cells #[a, b, c, d] 24 (0, 0))) (hx : w1.heap.size ≤ x)
    (h1 : OwnBytes wb w1.heap.size 5 (.slice p1 ne c1) (turnB ext)) (h2 : OwnBytes wb w1.heap.size 5 (.slice p2 nb c2) (turnB body)) :
    TPost w1 ((((wb.setCell ⟨x, 0, none⟩ (.int .i64 T)).setCell ⟨x, 1, none⟩ (.int .i64 C)).setCell ⟨x, 2, none⟩ (.slice p1 ne c1)).setCell ⟨x, 3, none⟩ (.slice p2 nb c2)) T C ext body ne nb (.pointer (some ⟨x, 0, none⟩)) := by
  have off : ∀ {v : Value} {l : List UInt8}, OwnBytes wb w1.heap.size 5 v l → v.ownBlock = none ∨ v.ownBlock ≠ some x := fun h => by
    refine .inr (fun he => ?_)
    have := row_not_block5 h.row hz (by decide)
    exact this he.symm
  exact ⟨x, p1, c1, p2, c2, rfl, set4_below hB hx, hx, FrAt.of_heap (set4_heap hz), h1.kept set4_grown (off h1), h2.kept set4_grown (off h2)⟩
end Go.Proofs.Ytofdpccjpodbhaa
