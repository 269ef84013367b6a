/-
  The contracts of longshoreref05's word and Seal. Conditions: the bytes lie in memory.
-/
import Derived.Test.YtofdpccjpodbhaaOpensM
namespace Go.Proofs.Ytofdpccjpodbhaa
open Go.RowKit
set_option linter.unusedVariables false

theorem putL_snoc5 (n wd k : Nat) (h : k < wd) : (putL n wd).take (k + 1) = (putL n wd).take k ++ [UInt8.ofNat (n / 256 ^ (wd - 1 - k) % 256)] := by
  rw [take_succ_getD _ _ (by rw [putL_length]; exact h)]
  congr 2
  simp [putL, List.getD_eq_getElem?_getD, h, byteAt]

set_option maxHeartbeats 1000000 in
theorem word_any (w : World) (x wd : Nat) (hx : x < 4294967296) (h8 : wd ≤ 4) :
    Calls Try.prog 40 #[.int .i64 x, .int .i64 wd] w fun e w' => ∃ v, e = .returned v ∧ OwnBytes w' w.heap.size 5 v (putL x wd) ∧ Below w.heap.size w w' := by
  go_enter Try.func40, Try.ntmps40
  go_wp2_with fail
  go_loopw [5, 6] (fun s5 s6 wr => ∃ k : Nat, k ≤ wd ∧ s6 = .int .i64 ((wd : Int) - 1 - k) ∧ OwnBytes wr w.heap.size 5 s5 ((putL x wd).take k) ∧ Below w.heap.size w wr) (fun _ s6 _ => (intOf s6 + 1).toNat)
  case atStart => exact ⟨0, by omega, by simp, OwnBytes.nil _ _ _, Below.refl _ _⟩
  case round =>
    obtain ⟨k, hk, rfl, ho, hB⟩ := hrel
    by_cases hlt : k < wd
    · obtain ⟨i, hi⟩ : ∃ i, wd - 1 - k = i := ⟨_, rfl⟩
      have hi' : (wd : Int) - 1 - (k : Int) = (i : Int) := by omega
      rw [hi']
      have hi3 : i ≤ 3 := by omega
      have hs := putL_snoc5 x wd k hlt
      rw [hi] at hs
      obtain ⟨y, hy⟩ : ∃ y, UInt8.ofNat (x / 256 ^ i % 256) = y := ⟨_, rfl⟩
      have hyv : (y.toNat : Int) = ((x / 256 ^ i % 256 : Nat) : Int) := by rw [← hy]; simp
      rw [hy] at hs
      have HS := Lib.hid hs
      have HY := Lib.hid hyv
      have hlo : ((putL x wd).take k).length = k := by rw [List.length_take, putL_length]; omega
      have HLO := Lib.hid hlo
      have hbs := hB.size
      clear hs hlo hy hyv hi
      go_wp2_with (at_builtin; refine wpList_append_grew' rfl (.tmp 13) (.tmp 19) 22 rfl w.heap.size 5 Try.underlying22 info_u8 _ ((putL x wd).take k) y _ rfl rfl ?hyv ho ?hlen ?hbase ?_)
      case hyv =>
        rw [HY.out, show (256 : Nat) ^ i = 2 ^ (8 * i) by rw [Nat.pow_mul]]
        congr 1
      case hlen => rw [HLO.out]; omega
      case hbase => exact hbs
      intro v' w' ho' hg' hf'
      have ho2 : OwnBytes w' w.heap.size 5 v' ((putL x wd).take (k + 1)) := by rw [HS.out]; exact ho'
      have HO2 := Lib.hid ho2
      have hB2 := hB.grown hg' hB.size (fun k hk => (ho.row.lt k hk).1)
      clear ho2 ho' hg' hf' ho
      go_wp2_with fail
      go_roundw
      case rel => exact ⟨k + 1, by omega, congrArg (Value.int .i64) (by omega), HO2.out, hB2⟩
      case measure => simp [intOf] <;> omega
    · obtain rfl : k = wd := by omega
      rw [List.take_of_length_le (by rw [putL_length]; exact Nat.le_refl _)] at ho
      have HO := Lib.hid ho
      have hneg : (k : Int) - 1 - (k : Int) = -1 := by omega
      rw [hneg]
      clear ho
      go_wp2_with fail
      go_ret
      exact ⟨_, rfl, HO.out, hB⟩

set_option maxHeartbeats 2000000 in
theorem rseal_bad (w : World) (T C : Int) (ea ba : Option Addr) (ne ce nb cb : Nat) (hz : ne ≤ 140737488355328 ∧ nb ≤ 140737488355328) (h : sealE T C ne nb ≠ 0) :
    Calls Try.prog 16 #[.agg #[.int .i64 T, .int .i64 C, .slice ea ne ce, .slice ba nb cb]] w fun e w' => e = .returned (.tuple #[.slice none 0 0, .int .i64 (sealE T C ne nb)]) ∧ Below w.heap.size w w' := by
  obtain ⟨hz1, hz2⟩ := hz
  have hB : Below w.heap.size w (w.alloc (.cells #[.int .i64 T, .int .i64 C, .slice ea ne ce, .slice ba nb cb] 24)) := (Below.refl _ _).alloc (Nat.le_refl _) _
  by_cases hT : T ≠ 0 ∧ T ≠ 1
  · have h1 : (T != 0) = true := by simpa using hT.1
    have h2 : (T != 1) = true := by simpa using hT.2
    have he : sealE T C ne nb = 53 := by unfold sealE; rw [if_pos hT]
    rw [he]
    clear hT h he
    go_enter Try.func16, Try.ntmps16
    go_wp2_with fail
    go_ret2
    exact ⟨rfl, hB⟩
  have ht : ((T != 0) = false ∧ (T == 1) = false) ∨ ((T != 0) = true ∧ (T != 1) = false ∧ (T == 1) = true) := by
    by_cases h0 : T = 0
    · exact .inl ⟨by simp [h0], by simp [h0]⟩
    · have : T = 1 := by omega
      exact .inr ⟨by simp [this], by simp [this], by simp [this]⟩
  by_cases hC : C < 0 ∨ 65535 < C ∨ (T = 1 ∧ C ≠ 0)
  · have he : sealE T C ne nb = 54 := by unfold sealE; rw [if_neg hT, if_pos hC]
    rw [he]
    have hcase : C < 0 ∨ (¬ C < 0 ∧ 65536 ≤ C) ∨ (¬ C < 0 ∧ ¬ 65536 ≤ C ∧ (T == 1) = true ∧ (C != 0) = true) := by
      by_cases h1 : C < 0
      · exact .inl h1
      · by_cases h2 : 65535 < C
        · exact .inr (.inl ⟨h1, h2⟩)
        · rcases hC with h3 | h3 | ⟨h3, h4⟩
          · exact absurd h3 h1
          · exact absurd h3 h2
          · exact .inr (.inr ⟨h1, by omega, by simp [h3], by simpa using h4⟩)
    clear hC hT h he
    go_enter Try.func16, Try.ntmps16
    rcases hcase with h1 | ⟨h1, h2⟩ | ⟨h1, h2, h3, h4⟩
    · rcases ht with ⟨t1, t2⟩ | ⟨t1, t2, t3⟩ <;>
      · go_wp2_with fail
        go_ret2
        exact ⟨rfl, hB⟩
    · rcases ht with ⟨t1, t2⟩ | ⟨t1, t2, t3⟩ <;>
      · go_wp2_with fail
        go_ret2
        exact ⟨rfl, hB⟩
    · rcases ht with ⟨t1, t2⟩ | ⟨t1, t2, t3⟩
      · rw [h3] at t2; simp at t2
      · clear t3
        go_wp2_with fail
        go_ret2
        exact ⟨rfl, hB⟩
  have c1 : ¬ C < 0 := by omega
  have c2 : ¬ 65536 ≤ C := by omega
  have c3 : ((T != 0) = false ∧ (T == 1) = false) ∨ ((T != 0) = true ∧ (T != 1) = false ∧ (T == 1) = true ∧ (C != 0) = false) := by
    rcases ht with h1 | ⟨h1, h2, h3⟩
    · exact .inl h1
    · refine .inr ⟨h1, h2, h3, ?_⟩
      have h3' : T = 1 := by simpa using h3
      have : C = 0 := by omega
      simp [this]
  clear ht
  by_cases hE : ne % 4 ≠ 0 ∨ 1012 < ne
  · have he : sealE T C ne nb = 52 := by unfold sealE; rw [if_neg hT, if_neg hC, if_pos hE]
    rw [he]
    clear hC hT h he
    have hcase : (((ne : Int) % 4) != 0) = true ∨ ((((ne : Int) % 4) != 0) = false ∧ 1012 < ne) := by
      by_cases h1 : ne % 4 = 0
      · exact .inr ⟨by have : (ne : Int) % 4 = 0 := by omega
                       simp [this], by omega⟩
      · exact .inl (by simp; omega)
    go_enter Try.func16, Try.ntmps16
    rcases hcase with h1 | ⟨h1, h2⟩ <;> rcases c3 with ⟨h3, h4⟩ | ⟨h3, h4, h5, h6⟩ <;>
    · go_wp2_with fail
      go_ret2
      exact ⟨rfl, hB⟩
  have hE1 : (((ne : Int) % 4) != 0) = false := by
    have : (ne : Int) % 4 = 0 := by omega
    simp [this]
  have hE2 : ne ≤ 1012 := by omega
  have hL : 1048576 < 8 + ne + nb := by
    by_cases hL : 1048576 < 8 + ne + nb
    · exact hL
    · exfalso; apply h; unfold sealE; rw [if_neg hT, if_neg hC, if_neg hE, if_neg hL]
  have he : sealE T C ne nb = 2 := by unfold sealE; rw [if_neg hT, if_neg hC, if_neg hE, if_pos hL]
  rw [he]
  clear hC hT h he hE
  go_enter Try.func16, Try.ntmps16
  rcases c3 with ⟨h3, h4⟩ | ⟨h3, h4, h5, h6⟩ <;>
  · go_wp2_with fail
    go_ret2
    exact ⟨rfl, hB⟩

set_option maxHeartbeats 4000000 in
set_option maxRecDepth 20000 in
theorem rseal_ok (w : World) (T C : Int) (ea ba : Option Addr) (ne ce nb cb : Nat) (ext body : List UInt8) (h1 : BytesIn w ea ne ce ext) (h2 : BytesIn w ba nb cb body)
    (hT : T = 0 ∨ T = 1) (hC0 : 0 ≤ C) (hC : C ≤ 65535) (hTC : T = 1 → C = 0) (hE : ne % 4 = 0) (hE2 : ne ≤ 1012) (hL : 8 + ne + nb ≤ 1048576) :
    Calls Try.prog 16 #[.agg #[.int .i64 T, .int .i64 C, .slice ea ne ce, .slice ba nb cb]] w fun e w' => ∃ v, e = .returned (.tuple #[v, .int .i64 0]) ∧ OwnBytes w' w.heap.size 5 v (sealB T C ext body) ∧ Below w.heap.size w w' := by
  have hB : Below w.heap.size w (w.alloc (.cells #[.int .i64 T, .int .i64 C, .slice ea ne ce, .slice ba nb cb] 24)) := (Below.refl _ _).alloc (Nat.le_refl _) _
  have c1 : ¬ C < 0 := by omega
  have c2 : ¬ 65536 ≤ C := by omega
  have c3 : ((T != 0) = false ∧ (T == 1) = false) ∨ ((T != 0) = true ∧ (T != 1) = false ∧ (T == 1) = true ∧ (C != 0) = false) := by
    rcases hT with e | e
    · exact .inl ⟨by simp [e], by simp [e]⟩
    · exact .inr ⟨by simp [e], by simp [e], by simp [e], by simp [hTC e]⟩
  have hE1 : (((ne : Int) % 4) != 0) = false := by
    have : (ne : Int) % 4 = 0 := by omega
    simp [this]
  obtain ⟨N, hN⟩ : ∃ N, 8 + ne + nb = N := ⟨_, rfl⟩
  have hN' : (8 : Int) + (ne : Int) + (nb : Int) = (N : Int) := by omega
  have hNm : ¬ 1048576 < (N : Int) := by omega
  have HN := Lib.hid hN
  have HH1 := Lib.hid h1
  have HH2 := Lib.hid h2
  clear hE hTC hL hN h1 h2
  go_enter Try.func16, Try.ntmps16
  go_upto_region 2 with fail
  have q0 : (w.alloc (.cells #[.int .i64 T, .int .i64 C, .slice ea ne ce, .slice ba nb cb] 24)).heap[w.heap.size]? = some (.cells #[.int .i64 T, .int .i64 C, .slice ea ne ce, .slice ba nb cb] 24 (0, 0)) := heap_alloc_new _ _
  have hsz : (w.alloc (.cells #[.int .i64 T, .int .i64 C, .slice ea ne ce, .slice ba nb cb] 24)).heap.size = w.heap.size + 1 := by simp
  generalize (w.alloc (.cells #[.int .i64 T, .int .i64 C, .slice ea ne ce, .slice ba nb cb] 24)) = w1 at *
  have d0 : w1.cell? ⟨w.heap.size, 0, none⟩ = some (.int .i64 T) := by simp [World.cell?, q0]
  have d1 : w1.cell? ⟨w.heap.size, 1, none⟩ = some (.int .i64 C) := by simp [World.cell?, q0]
  have d2 : w1.cell? ⟨w.heap.size, 2, none⟩ = some (.slice ea ne ce) := by simp [World.cell?, q0]
  have d3 : w1.cell? ⟨w.heap.size, 3, none⟩ = some (.slice ba nb cb) := by simp [World.cell?, q0]
  have DD : ∀ w', Below w1.heap.size w1 w' → w'.cell? ⟨w.heap.size, 0, none⟩ = some (.int .i64 T) ∧ w'.cell? ⟨w.heap.size, 1, none⟩ = some (.int .i64 C) ∧ w'.cell? ⟨w.heap.size, 2, none⟩ = some (.slice ea ne ce) ∧ w'.cell? ⟨w.heap.size, 3, none⟩ = some (.slice ba nb cb) := fun w' hb => by
    have hh := (hb.block w.heap.size (by omega)).trans q0
    refine ⟨?_, ?_, ?_, ?_⟩ <;> simp [World.cell?, hh]
  have HDD := Lib.hid DD
  have HB := Lib.hid hB
  clear DD q0 hB
  have hT0 : 0 ≤ T ∧ T ≤ 1 := by omega
  obtain ⟨t, rfl⟩ := Int.eq_ofNat_of_zero_le hT0.1
  obtain ⟨ch, rfl⟩ := Int.eq_ofNat_of_zero_le hC0
  have ht1 : t ≤ 1 := by omega
  have hch : ch ≤ 65535 := by omega
  have HT := Lib.hid hT
  clear hT hT0
  rcases c3 with ⟨h3, h4⟩ | ⟨h3, h4, h5, h6⟩
  all_goals
    go_upto_region 10 with fail
    have hw := word_any w1 N 4 (by omega) (by decide)
    go_wp2_with fail
    refine hw.mono ?_
    rintro e w2 ⟨v, rfl, ho, hb⟩
    obtain ⟨e0, e1, e2, e3⟩ := HDD.out w2 hb
    have hs2 := hb.size
    have HB2 := Lib.hid hb
    have hrow := ho.row
    rw [putL_length] at hrow
    clear hw d0 d1 d2 d3 h3 h4 hb ho
    go_upto_region 11 with fail
    have hm8 : (8 : Int) ≤ 8 + (ne : Int) := by omega
    go_wp2_with (at_builtin; refine wpList_append_two rfl (.tmp 59) (.tmp 69) 22 rfl w1.heap.size 5 (.int .u8 0) 1 Try.underlying22 info_u8 rfl v 4 _ _ _ rfl rfl rfl rfl hrow ?h63 ?hbytes hs2 ?_)
    case h63 => unfold maxLen; omega
    case hbytes => omega
    intro v3 w3 hr3 hg3
    have hv1 : (8 + (ne : Int)) / 4 = ((UInt8.ofNat ((8 + ne) / 4)).toNat : Int) := by rw [UInt8.toNat_ofNat', Nat.mod_eq_of_lt (by omega)]; omega
    have hv2 : (t : Int) = ((UInt8.ofNat t).toNat : Int) := by rw [UInt8.toNat_ofNat', Nat.mod_eq_of_lt (by omega)]
    have ho3 : OwnBytes w3 (w.heap.size + 1) 5 v3 (putL N 4 ++ [UInt8.ofNat ((8 + ne) / 4), UInt8.ofNat t]) := by
      refine ⟨?_⟩
      rw [List.length_append, putL_length, List.map_append]
      rw [hv1, hv2] at hr3
      exact hr3
    obtain ⟨L3, hL3⟩ : ∃ L, putL N 4 ++ [UInt8.ofNat ((8 + ne) / 4), UInt8.ofNat t] = L := ⟨_, rfl⟩
    rw [hL3] at ho3
    have hl3 : L3.length = 6 := by rw [← hL3, List.length_append, putL_length]; rfl
    have HL3 := Lib.hid hL3
    have hB3 := HB2.out.grown hg3 HB2.out.size (fun k hk => (hrow.lt k hk).1)
    obtain ⟨e0, e1, e2, e3⟩ := HDD.out w3 hB3
    have hw := word_any w3 ch 2 (by omega) (by decide)
    have HO3 := Lib.hid ho3
    have HB3 := Lib.hid hB3
    clear hv1 hv2 ho3 hB3 hL3 hr3 hg3 hrow hs2 hm8
    go_wp2_with fail
    refine hw.mono ?_
    rintro e w4 ⟨v4, rfl, ho4, hb4⟩
    obtain ⟨p4, c4, rfl, hy4⟩ := ho4.bytes
    rw [putL_length] at hy4 ⊢
    have hB4 := HB3.out.trans (hb4.mono HB3.out.size)
    have ho3 := HO3.out.of_below hb4
    have hs4 : w.heap.size + 1 ≤ w4.heap.size := by have := hB4.size; omega
    have HB4 := Lib.hid hB4
    have HO34 := Lib.hid ho3
    clear hw ho4 hb4 hB4 HB3 HO3 e0 e1 e2 e3
    go_wp2_with (at_builtin; refine wpList_append_bytes rfl (.tmp 71) (.tmp 74) 22 rfl (w.heap.size + 1) 5 Try.underlying22 info_u8 v3 L3 (putL ch 2) p4 2 c4 rfl rfl ho3 hy4 ?hl4 hs4 ?_)
    case hl4 => omega
    intro v5 w5 ho5 hg5
    have hB5 := HB4.out.grown hg5 HB4.out.size (fun k hk => by have := (HO34.out.row.lt k hk).1; omega)
    obtain ⟨e0, e1, e2, e3⟩ := HDD.out w5 hB5
    have hx5 := HH1.out.below (HB.out.trans (hB5.mono (by omega)))
    have hs5 : w.heap.size + 1 ≤ w5.heap.size := by have := hB5.size; omega
    obtain ⟨L5, hL5⟩ : ∃ L, L3 ++ putL ch 2 = L := ⟨_, rfl⟩
    rw [hL5] at ho5
    have hl5 : L5.length = 8 := by rw [← hL5, List.length_append, putL_length, hl3]
    have HL5 := Lib.hid hL5
    have HB5 := Lib.hid hB5
    have HO5 := Lib.hid ho5
    clear ho3 hg5 hB5 hy4 HB4 HO34 hL5 hs4
    go_wp2_with (at_builtin; refine wpList_append_bytes rfl (.tmp 76) (.tmp 78) 22 rfl (w.heap.size + 1) 5 Try.underlying22 info_u8 v5 L5 ext ea ne ce rfl rfl ho5 hx5 ?hl5 hs5 ?_)
    case hl5 => omega
    intro v6 w6 ho6 hg6
    have hB6 := HB5.out.grown hg6 HB5.out.size (fun k hk => by have := (HO5.out.row.lt k hk).1; omega)
    obtain ⟨e0, e1, e2, e3⟩ := HDD.out w6 hB6
    have hx6 := HH2.out.below (HB.out.trans (hB6.mono (by omega)))
    have hs6 : w.heap.size + 1 ≤ w6.heap.size := by have := hB6.size; omega
    have hl6 : (L5 ++ ext).length = 8 + ne := by rw [List.length_append, hl5, HH1.out.len]
    have HB6 := Lib.hid hB6
    have HO6 := Lib.hid ho6
    clear ho5 hg6 hB6 hx5 HB5 HO5 hs5
    go_wp2_with (at_builtin; refine wpList_append_bytes rfl (.tmp 80) (.tmp 82) 22 rfl (w.heap.size + 1) 5 Try.underlying22 info_u8 v6 (L5 ++ ext) body ba nb cb rfl rfl ho6 hx6 ?hl6 hs6 ?_)
    case hl6 => rw [hl6]; have := HN.out; omega
    intro v7 w7 ho7 hg7
    have hB7 := HB.out.trans ((HB6.out.grown hg7 HB6.out.size (fun k hk => by have := (HO6.out.row.lt k hk).1; omega)).mono (by omega))
    have hfin : OwnBytes w7 w.heap.size 5 v7 (sealB t ch ext body) := by
      have e1 : sealB t ch ext body = L5 ++ ext ++ body := by
        unfold sealB
        rw [HH1.out.len, HH2.out.len, HN.out, Int.toNat_natCast, Int.toNat_natCast, HL3.out, HL5.out]
      rw [e1, List.append_assoc]
      exact ⟨row_mono5 ho7.row (Nat.le_succ _)⟩
    have HF := Lib.hid hfin
    have HB7 := Lib.hid hB7
    clear ho6 hg7 hB7 hx6 HB6 HO6 hs6 hfin ho7
    go_wp2_with fail
    go_ret2
    exact ⟨_, rfl, HF.out, HB7.out⟩
end Go.Proofs.Ytofdpccjpodbhaa
