/-
  The contract of frame.Seal where it writes the frame. Conditions: Ext and Body lie in memory.
  The contracts of frame.number, part and Open. Conditions: the bytes lie in memory and are not past 2^47 bytes.
-/
import Derived.Test.YtofdpccjpodbhaaMg04
namespace Go.Proofs.Ytofdpccjpodbhaa
open Go.RowKit
set_option linter.unusedVariables false

theorem copyL_take (cur src : List UInt8) (off : Nat) (h : off + src.length ≤ cur.length) : copyL cur src off src.length src.length = cur.take off ++ (src ++ cur.drop (off + src.length)) := by
  unfold copyL
  rw [List.take_length, Nat.min_self]

theorem copyL_mid (A X Y src : List UInt8) (h : X.length = src.length) : copyL (A ++ (X ++ Y)) src A.length src.length src.length = A ++ (src ++ Y) := by
  unfold copyL
  rw [List.take_length, Nat.min_self, List.take_left' rfl, ← List.append_assoc A X Y, List.drop_left' (by simp [h])]

/-- what the copies leave -/
theorem seal_list (c : Nat) (a b : UInt8) (ext body : List UInt8) :
    copyL (copyL (copyL (((copyL (List.replicate (8 + ext.length + body.length) 0) (putL (8 + ext.length + body.length) 4) 0 4 4).set 4 a).set 5 b) (putL c 2) 6 2 2) ext 8 ext.length ext.length) body (8 + ext.length) body.length body.length =
      putL (8 + ext.length + body.length) 4 ++ [a, b] ++ putL c 2 ++ ext ++ body := by
  obtain ⟨p, hp⟩ : ∃ p, putL (8 + ext.length + body.length) 4 = p := ⟨_, rfl⟩
  obtain ⟨q, hq⟩ : ∃ q, putL c 2 = q := ⟨_, rfl⟩
  have lp : p.length = 4 := by rw [← hp, putL_length]
  have lq : q.length = 2 := by rw [← hq, putL_length]
  rw [hp, hq]
  match p, lp, q, lq with
  | [p0, p1, p2, p3], _, [q0, q1], _ =>
    have e : List.replicate (8 + ext.length + body.length) (0 : UInt8) = [0, 0, 0, 0, 0, 0, 0, 0] ++ (List.replicate ext.length 0 ++ List.replicate body.length 0) := by
      rw [List.replicate_append_replicate, show 8 + ext.length + body.length = ext.length + body.length + 8 by omega]; rfl
    rw [e]
    have s1 : copyL (((copyL ([0, 0, 0, 0, 0, 0, 0, 0] ++ (List.replicate ext.length 0 ++ List.replicate body.length 0)) [p0, p1, p2, p3] 0 4 4).set 4 a).set 5 b) [q0, q1] 6 2 2 = [p0, p1, p2, p3, a, b, q0, q1] ++ (List.replicate ext.length 0 ++ List.replicate body.length 0) := by
      unfold copyL; rfl
    rw [s1]
    have s2 := copyL_mid [p0, p1, p2, p3, a, b, q0, q1] (List.replicate ext.length 0) (List.replicate body.length 0) ext (by simp)
    rw [show [p0, p1, p2, p3, a, b, q0, q1].length = 8 from rfl] at s2
    rw [s2]
    have s3 := copyL_mid ([p0, p1, p2, p3, a, b, q0, q1] ++ ext) (List.replicate body.length 0) [] body (by simp)
    rw [List.length_append, show [p0, p1, p2, p3, a, b, q0, q1].length = 8 from rfl] at s3
    rw [List.append_nil, List.append_nil, List.append_assoc] at s3
    rw [s3]
    simp

set_option maxHeartbeats 4000000 in
set_option maxRecDepth 20000 in
theorem seal_ok (w : World) (T C : Int) (ea ba : Option Addr) (ne ce nb cb : Nat) (ext body : List UInt8) (h1 : BytesIn w ea ne ce ext) (h2 : BytesIn w ba nb cb body)
    (hT : T = 0 ∨ T = 1) (hC0 : 0 ≤ C) (hC : C ≤ 65535) (hTC : T = 1 → C = 0) (hE : ne % 4 = 0) (hE2 : ne ≤ 1012) (hL : 8 + ne + nb ≤ 1048576) :
    Calls Try.prog 14 #[.agg #[.int .i64 T, .int .i64 C, .slice ea ne ce, .slice ba nb cb]] w fun e w' => ∃ g, e = .returned (.tuple #[.slice (some ⟨g, 0, none⟩) (8 + ne + nb) (8 + ne + nb), .int .i64 0]) ∧ w.heap.size ≤ g ∧ Below w.heap.size w w' ∧ Blk w' g 5 (sealB T C ext body) := by
  have hB : Below w.heap.size w (w.alloc (.cells #[.int .i64 T, .int .i64 C, .slice ea ne ce, .slice ba nb cb] 24)) := (Below.refl _ _).alloc (Nat.le_refl _) _
  have hd : decide (T = 0 ∨ T = 1) = true := by simp; omega
  have c1 : ¬ C < 0 := by omega
  have c2 : ¬ 65535 < C := by omega
  have c3 : (T == 1) = false ∨ (T == 1) = true ∧ (C != 0) = false := by
    rcases hT with e | e
    · exact .inl (by simp [e])
    · exact .inr ⟨by simp [e], by simp [hTC e]⟩
  have hE1 : (((ne : Int) % 4) != 0) = false := by
    have : (ne : Int) % 4 = 0 := by omega
    simp [this]
  obtain ⟨n, hn⟩ : ∃ n, 8 + ne + nb = n := ⟨_, rfl⟩
  have hn' : (8 : Int) + (ne : Int) + (nb : Int) = (n : Int) := by omega
  have hmk := run_make_row' (P := Try.prog) 22 5 (.int .u8 0) 1 Try.underlying22 info_u8 rfl .i64 .i64 n (by omega) (by omega)
  rw [hn]
  have HN := Lib.hid hn
  rw [← hn'] at hmk
  have HN' := Lib.hid hn'
  have HE := Lib.hid hE
  have HTT := Lib.hid hT
  have HTC := Lib.hid hTC
  have HC := Lib.hid hC0
  have HC2 := Lib.hid hC
  clear hn hn' hE hT hTC hC0 hC
  go_enter Try.func14, Try.ntmps14
  go_wp2_with fail
  refine (isType_any _ T).mono ?_
  rw [hd]
  rintro e w' ⟨rfl, rfl⟩
  go_upto_region 4 with fail
  go_cut [19] (fun s19 wx => w.alloc (.cells #[.int .i64 T, .int .i64 C, .slice ea ne ce, .slice ba nb cb] 24) = wx ∧ s19 = .bool false)
  case first =>
    clear hmk hd hB hL hE1 h1 h2 hE2 HN HN' HE HTT HTC
    rcases c3 with h3 | ⟨h3, h4⟩ <;>
    · go_wp2_with fail
      go_meet
      case rel => exact ⟨rfl, by simp; omega⟩
  case rest =>
    obtain ⟨rfl, rfl⟩ := hcut
    go_upto_region 11 with fail
    clear hmk
    rw [HN'.out]
    have hBk : Blk ((w.alloc (.cells #[.int .i64 T, .int .i64 C, .slice ea ne ce, .slice ba nb cb] 24)).alloc (.cells (madeCells #[.int .u8 0] n) 5)) (w.heap.size + 1) 5 (List.replicate n 0) := by
      have := Blk.made (w.alloc (.cells #[.int .i64 T, .int .i64 C, .slice ea ne ce, .slice ba nb cb] 24)) n 5
      simpa using this
    have hB2 : Below w.heap.size w ((w.alloc (.cells #[.int .i64 T, .int .i64 C, .slice ea ne ce, .slice ba nb cb] 24)).alloc (.cells (madeCells #[.int .u8 0] n) 5)) := hB.alloc (by simp) _
    have q0 : ((w.alloc (.cells #[.int .i64 T, .int .i64 C, .slice ea ne ce, .slice ba nb cb] 24)).alloc (.cells (madeCells #[.int .u8 0] n) 5)).cell? ⟨w.heap.size, 0, none⟩ = some (.int .i64 T) := by simp
    have q1 : ((w.alloc (.cells #[.int .i64 T, .int .i64 C, .slice ea ne ce, .slice ba nb cb] 24)).alloc (.cells (madeCells #[.int .u8 0] n) 5)).cell? ⟨w.heap.size, 1, none⟩ = some (.int .i64 C) := by simp
    have q2 : ((w.alloc (.cells #[.int .i64 T, .int .i64 C, .slice ea ne ce, .slice ba nb cb] 24)).alloc (.cells (madeCells #[.int .u8 0] n) 5)).cell? ⟨w.heap.size, 2, none⟩ = some (.slice ea ne ce) := by simp
    have q3 : ((w.alloc (.cells #[.int .i64 T, .int .i64 C, .slice ea ne ce, .slice ba nb cb] 24)).alloc (.cells (madeCells #[.int .u8 0] n) 5)).cell? ⟨w.heap.size, 3, none⟩ = some (.slice ba nb cb) := by simp
    have hsz1 : ((w.alloc (.cells #[.int .i64 T, .int .i64 C, .slice ea ne ce, .slice ba nb cb] 24)).alloc (.cells (madeCells #[.int .u8 0] n) 5)).heap.size = w.heap.size + 2 := by simp
    generalize ((w.alloc (.cells #[.int .i64 T, .int .i64 C, .slice ea ne ce, .slice ba nb cb] 24)).alloc (.cells (madeCells #[.int .u8 0] n) 5)) = w1 at *
    have HSZ := Lib.hid hsz1
    have hn8 : 8 ≤ n := by have := HN.out; omega
    have hnm : n ≤ 1048576 := by have := HN.out; omega
    clear hsz1 hB
    have hwr0 : IntKind.u64.wrap (n : Int) = (n : Int) := by unfold IntKind.wrap; simp [IntKind.signed, IntKind.bits]; omega
    have hwr := Lib.hid hwr0
    clear hwr0
    have h4n : (4 : Int) ≤ (n : Int) := by omega
    have hput : Calls Try.prog 39 #[.int .u64 n, .int .i64 4] w1.drew fun e w' => e = .returned (.slice (some ⟨w1.heap.size, 0, none⟩) 4 4) ∧ Below w1.heap.size w1 w' ∧ BytesIn w' (some ⟨w1.heap.size, 0, none⟩) 4 4 (putL n 4) :=
      (put_bytes n 4 w1.drew (by decide) (by decide) (by omega)).mono fun e w' ⟨x1, x2, x3⟩ => ⟨x1, ⟨x2.os, x2.tape, x2.output, x2.size, x2.block⟩, x3⟩
    go_region_law (first
      | (refine step_copy_bytes rfl (.tmp 56) (.tmp 59) 22 rfl 5 Try.underlying22 info_u8 (some ⟨w.heap.size + 1, 0, none⟩) (some ⟨w1.heap.size, 0, none⟩) 4 4 4 4 (by simp [Act.eval]) (by simp [Act.eval]) (w.heap.size + 1) 0 (List.replicate n 0) (putL n 4) (hBk.below hp1) hp2 (fun _ => rfl) (by simp; omega) ?_; intro w3 k3 b3 s3 o3)
      | (go_simp; go_at_call 39; rw [hwr.out]; (with_reducible refine hput.mono ?_); rintro e w2 ⟨rfl, hp1, hp2⟩))
    have hb13 : Below (w.heap.size + 1) w1 w3 := (hp1.mono (by have := HSZ.out; omega)).trans b3
    have hlen3 : (copyL (List.replicate n 0) (putL n 4) 0 4 4).length = n := by unfold copyL; simp [putL_length]; omega
    obtain ⟨L3, hL3⟩ : ∃ L, copyL (List.replicate n (0 : UInt8)) (putL n 4) 0 4 4 = L := ⟨_, rfl⟩
    rw [hL3] at k3 hlen3
    have HL3 := Lib.hid hL3
    have l0 : w.heap.size < w.heap.size + 1 := Nat.lt_succ_self _
    have r0 := (hb13.cell (p := ⟨w.heap.size, 0, none⟩) l0).trans q0
    have r1 := (hb13.cell (p := ⟨w.heap.size, 1, none⟩) l0).trans q1
    have r2 := (hb13.cell (p := ⟨w.heap.size, 2, none⟩) l0).trans q2
    have r3 := (hb13.cell (p := ⟨w.heap.size, 3, none⟩) l0).trans q3
    have f4 := k3.frozen 4
    have f5 := k3.frozen 5
    have x4 := k3.cell 4 (by omega)
    have x5 := k3.cell 5 (by omega)
    clear hL3 q0 q1 q2 q3 hput
    go_upto_region 14 with fail
    have k5 : Blk ((w3.setCell ⟨w.heap.size + 1, 4, none⟩ (.int .u8 ((8 + (ne : Int)) / 4))).setCell ⟨w.heap.size + 1, 5, none⟩ (.int .u8 (T % 256))) (w.heap.size + 1) 5 ((L3.set 4 (UInt8.ofNat ((8 + ne) / 4))).set 5 (UInt8.ofNat T.toNat)) := by
      have e4 : (((UInt8.ofNat ((8 + ne) / 4)).toNat : Nat) : Int) = (8 + (ne : Int)) / 4 := by
        have : (UInt8.ofNat ((8 + ne) / 4)).toNat = (8 + ne) / 4 % 256 := by simp
        omega
      have e5 : (((UInt8.ofNat T.toNat).toNat : Nat) : Int) = T % 256 := by
        have : (UInt8.ofNat T.toNat).toNat = T.toNat % 256 := by simp
        have := HTT.out
        omega
      have := (k3.set 4 (UInt8.ofNat ((8 + ne) / 4))).set 5 (UInt8.ofNat T.toNat)
      rw [e4, e5] at this
      exact this
    have hb15 : Below (w.heap.size + 1) w1 ((w3.setCell ⟨w.heap.size + 1, 4, none⟩ (.int .u8 ((8 + (ne : Int)) / 4))).setCell ⟨w.heap.size + 1, 5, none⟩ (.int .u8 (T % 256))) := (hb13.setCell (Nat.le_refl _) _).setCell (Nat.le_refl _) _
    generalize ((w3.setCell ⟨w.heap.size + 1, 4, none⟩ (.int .u8 ((8 + (ne : Int)) / 4))).setCell ⟨w.heap.size + 1, 5, none⟩ (.int .u8 (T % 256))) = w5 at *
    have hlen5 : ((L3.set 4 (UInt8.ofNat ((8 + ne) / 4))).set 5 (UInt8.ofNat T.toNat)).length = n := by simp [hlen3]
    obtain ⟨L5, hL5⟩ : ∃ L, (L3.set 4 (UInt8.ofNat ((8 + ne) / 4))).set 5 (UInt8.ofNat T.toNat) = L := ⟨_, rfl⟩
    rw [hL5] at k5 hlen5
    have HL5 := Lib.hid hL5
    have s1 : (w5.drew).cell? ⟨w.heap.size, 1, none⟩ = some (.int .i64 C) := (hb15.cell (p := ⟨w.heap.size, 1, none⟩) l0).trans ((hb13.cell (p := ⟨w.heap.size, 1, none⟩) l0).symm.trans r1)
    have t1 := s1
    have g0 := (hb13.cell (p := ⟨w.heap.size, 0, none⟩) l0).symm.trans r0
    have g1 := (hb13.cell (p := ⟨w.heap.size, 1, none⟩) l0).symm.trans r1
    have g2 := (hb13.cell (p := ⟨w.heap.size, 2, none⟩) l0).symm.trans r2
    have g3 := (hb13.cell (p := ⟨w.heap.size, 3, none⟩) l0).symm.trans r3
    clear hL5 r0 r1 r2 r3 f4 f5 x4 x5 k3 hb13 o3 s3 b3 hp1 hp2
    obtain ⟨c, rfl⟩ : ∃ c : Nat, C = c := ⟨C.toNat, by have := HC.out; omega⟩
    have hc5 := HC2.out
    have hwr0 : IntKind.u64.wrap (c : Int) = (c : Int) := by unfold IntKind.wrap; simp [IntKind.signed, IntKind.bits]; omega
    have hwr2 := Lib.hid hwr0
    clear hwr0
    have h8n : (8 : Int) ≤ (n : Int) := by omega
    have hput2 : Calls Try.prog 39 #[.int .u64 c, .int .i64 2] w5.drew fun e w' => e = .returned (.slice (some ⟨w5.heap.size, 0, none⟩) 2 2) ∧ Below w5.heap.size w5 w' ∧ BytesIn w' (some ⟨w5.heap.size, 0, none⟩) 2 2 (putL c 2) :=
      (put_bytes c 2 w5.drew (by decide) (by decide) (by omega)).mono fun e w' ⟨x1, x2, x3⟩ => ⟨x1, ⟨x2.os, x2.tape, x2.output, x2.size, x2.block⟩, x3⟩
    have hsz5 := hb15.size
    have u1 : ∀ w', Below w5.heap.size w5 w' → w'.cell? ⟨w.heap.size, 1, none⟩ = some (.int .i64 c) := fun w' hw => (hw.cell (p := ⟨w.heap.size, 1, none⟩) (by have := HSZ.out; show w.heap.size < _; omega)).trans s1
    have U1 := Lib.hid u1
    clear u1
    go_region_law (first
      | (refine step_copy_bytes rfl (.tmp 75) (.tmp 79) 22 rfl 5 Try.underlying22 info_u8 (some ⟨w.heap.size + 1, 6, none⟩) (some ⟨w5.heap.size, 0, none⟩) 2 2 2 2 (by simp [Act.eval]) (by simp [Act.eval]) (w.heap.size + 1) 6 L5 (putL c 2) (k5.below hp1) hp2 (fun _ => rfl) (by omega) ?_; intro w6 k6 b6 s6 o6)
      | (go_simp; go_at_call 39; rw [hwr2.out]; (with_reducible refine hput2.mono ?_); rintro e w2' ⟨rfl, hp1, hp2⟩))
    have hb16 : Below (w.heap.size + 1) w1 w6 := (hb15.trans (hp1.mono (by have := HSZ.out; omega))).trans b6
    have hlen6 : (copyL L5 (putL c 2) 6 2 2).length = n := by unfold copyL; simp [putL_length, hlen5]; omega
    obtain ⟨L6, hL6⟩ : ∃ L, copyL L5 (putL c 2) 6 2 2 = L := ⟨_, rfl⟩
    rw [hL6] at k6 hlen6
    have HL6 := Lib.hid hL6
    have v2 : w6.cell? ⟨w.heap.size, 2, none⟩ = some (.slice ea ne ce) := (hb16.cell (p := ⟨w.heap.size, 2, none⟩) l0).trans g2
    have v3 : ∀ w', Below (w.heap.size + 1) w6 w' → w'.cell? ⟨w.heap.size, 3, none⟩ = some (.slice ba nb cb) ∧ w'.cell? ⟨w.heap.size, 2, none⟩ = some (.slice ea ne ce) := fun w' hw => ⟨(hw.cell (p := ⟨w.heap.size, 3, none⟩) l0).trans ((hb16.cell (p := ⟨w.heap.size, 3, none⟩) l0).trans g3), (hw.cell (p := ⟨w.heap.size, 2, none⟩) l0).trans v2⟩
    have V3 := Lib.hid v3
    have hne : (8 : Int) + (ne : Int) ≤ (n : Int) := by have := HN.out; omega
    obtain ⟨m, hm⟩ : ∃ m : Nat, 8 + ne = m := ⟨_, rfl⟩
    have hw8 : IntKind.i64.wrap (8 + (ne : Int)) = (m : Int) := by
      have : (8 : Int) + (ne : Int) = (m : Int) := by omega
      rw [this]; unfold IntKind.wrap; simp [IntKind.signed, IntKind.bits]; omega
    have h8m : (8 : Int) ≤ (m : Int) := by omega
    have h8m' : 8 ≤ m := by omega
    have hmn : (m : Int) ≤ (n : Int) := by omega
    have hmn' : m ≤ n := by omega
    have HM := Lib.hid hm
    clear hm hne
    have hle1 := h1.le
    have hcap1 := h1.cap
    unfold maxLen at hcap1
    clear hL6 v3 hput2 t1 s1 g0 g1 g2 g3 hp1 hp2 o6 s6 b6
    go_upto_region 15 with fail
    go_still_tail 12, (by kernel_rfl)
    change wpList _ _ _ _ _ w6.drew
    have hk6 : Blk w6.drew (w.heap.size + 1) 5 L6 := ⟨k6.blk⟩
    have hbd : Below (w.heap.size + 1) w1 w6.drew := ⟨hb16.os, hb16.tape, hb16.output, hb16.size, hb16.block⟩
    have hx1 : BytesIn w6.drew ea ne ce ext := h1.below (hB2.trans (hbd.mono (Nat.le_succ _)))
    have hx3 := V3.out w6.drew ⟨rfl, rfl, rfl, Nat.le_refl _, fun _ _ => rfl⟩
    generalize w6.drew = wd at *
    refine wpList_copy_bytes rfl (.tmp 90) (.tmp 92) 22 rfl 5 Try.underlying22 info_u8 _ _ _ _ _ _ rfl rfl (w.heap.size + 1) 8 L6 ext hk6 hx1 ?hdp ?hfit ?_
    case hdp => intro h; rw [if_neg (by omega)]
    case hfit => omega
    intro w7 k7 b7 s7 o7
    have hb17 : Below (w.heap.size + 1) w1 w7 := hbd.trans b7
    have y2 := (b7.cell (p := ⟨w.heap.size, 2, none⟩) l0).trans hx3.2
    have y3 := (b7.cell (p := ⟨w.heap.size, 3, none⟩) l0).trans hx3.1
    obtain ⟨L7, hL7⟩ : ∃ L, copyL L6 ext 8 (m - 8) ne = L := ⟨_, rfl⟩
    have hlen7 : (copyL L6 ext 8 (m - 8) ne).length = n := by
      have := h1.len
      have := HM.out
      unfold copyL; simp [hlen6]; omega
    rw [hL7] at k7 hlen7
    have HL7 := Lib.hid hL7
    clear hL7 k6 hk6 hb16 hbd hx1 hx3 o7 s7 b7 V3
    go_upto_region 16 with fail
    go_still_tail 8, (by kernel_rfl)
    change wpList _ _ _ _ _ w7.drew
    have hk7 : Blk w7.drew (w.heap.size + 1) 5 L7 := ⟨k7.blk⟩
    have hbd : Below (w.heap.size + 1) w1 w7.drew := ⟨hb17.os, hb17.tape, hb17.output, hb17.size, hb17.block⟩
    have hx2 : BytesIn w7.drew ba nb cb body := h2.below (hB2.trans (hbd.mono (Nat.le_succ _)))
    generalize w7.drew = wd at *
    have hnm2 : n - m = nb := by have := HN.out; have := HM.out; omega
    refine wpList_copy_bytes rfl (.tmp 99) (.tmp 101) 22 rfl 5 Try.underlying22 info_u8 _ _ _ _ _ _ rfl rfl (w.heap.size + 1) m L7 body hk7 hx2 ?hdp2 ?hfit2 ?_
    case hdp2 => intro h; rw [if_neg (by omega)]
    case hfit2 => omega
    intro w8 k8 b8 s8 o8
    have hb18 : Below w.heap.size w w8 := hB2.trans ((hbd.trans b8).mono (Nat.le_succ _))
    have hfin : Blk w8 (w.heap.size + 1) 5 (sealB T (c : Int) ext body) := by
      have := k8
      have e1 := h1.len
      have e2 := h2.len
      have e3 := HM.out
      rw [hnm2, ← HL7.out, ← HL6.out, ← HL5.out, ← HL3.out, ← e3, show 8 + ne - 8 = ne by omega] at this
      rw [show n = 8 + ne + nb by have := HN.out; omega, ← e1, ← e2, seal_list] at this
      unfold sealB
      rw [Int.toNat_natCast]
      exact this
    have HF := Lib.hid hfin
    clear hfin k8 o8 s8
    go_wp2_with fail
    all_goals
      go_ret2
      exact ⟨w.heap.size + 1, rfl, Nat.le_succ _, hb18, HF.out⟩
end Go.Proofs.Ytofdpccjpodbhaa

namespace Go.Proofs.Ytofdpccjpodbhaa
open Go.RowKit
set_option linter.unusedVariables false

theorem number_ok (w : World) (a : Option Addr) (n c : Nat) (l : List UInt8) (h : BytesIn w a n c l) (at_ wd : Nat) (h1 : 1 ≤ wd) (h8 : wd ≤ 4) (hat : at_ + wd ≤ n) :
    Calls Try.prog 42 #[.slice a n c, .int .i64 at_, .int .i64 wd] w fun e w' => e = .returned (.int .i64 (beVal ((l.drop at_).take wd))) ∧ w = w' := by
  have hg := get_ok w a n c l h at_ wd h1 (by omega) hat
  have hv : beVal ((l.drop at_).take wd) < 4294967296 := by
    have h0 := beVal_lt ((l.drop at_).take wd)
    have h2 : 256 ^ ((l.drop at_).take wd).length ≤ 256 ^ 4 := Nat.pow_le_pow_right (by omega) (by rw [List.length_take]; omega)
    omega
  obtain ⟨x, hx⟩ : ∃ x, beVal ((l.drop at_).take wd) = x := ⟨_, rfl⟩
  rw [hx] at hg hv ⊢
  clear hx
  go_enter Try.func42, Try.ntmps42
  go_wp2_with fail
  refine hg.mono ?_
  rintro e w1 ⟨rfl, rfl⟩
  go_wp2_with fail
  go_ret
  exact ⟨rfl, rfl⟩

theorem BytesIn.cut {w : World} {a : Option Addr} {n c : Nat} {l : List UInt8} (h : BytesIn w a n c l) (A k c' : Nat) (h1 : A + k ≤ n) (h2 : k ≤ c') (h3 : A + c' ≤ c) (P : Prop) [Decidable P] (hP : P → c' = 0) :
    BytesIn w (if P then a else Option.map (fun x => x.add A) a) k c' ((l.drop A).take k) := by
  have hlen := h.len
  have hcap := h.cap
  unfold maxLen at hcap
  refine ⟨by rw [List.length_take, List.length_drop]; omega, h2, by unfold maxLen; omega, fun h0 => ?_⟩
  have hnP : ¬ P := fun hp => by have := hP hp; omega
  obtain ⟨b, o, e, hb, hc⟩ := h.at_ (by omega)
  refine ⟨b, o + A, ?_, hb, fun i hi => ?_⟩
  · rw [if_neg hnP, e]
    simp [Addr.add]
  · rw [Nat.add_assoc, hc (A + i) (by omega)]
    congr 3
    simp [List.getD_eq_getElem?_getD, List.getElem?_drop, hi]

set_option maxRecDepth 20000 in
theorem part_ok (w : World) (a : Option Addr) (n c : Nat) (l : List UInt8) (h : BytesIn w a n c l) (hz : n ≤ 140737488355328) (A E : Nat) (h1 : A ≤ E) (h2 : E ≤ n) :
    Calls Try.prog 43 #[.slice a n c, .int .i64 A, .int .i64 E] w fun e w' => ∃ g, e = .returned (.slice (some ⟨g, 0, none⟩) (E - A) (E - A)) ∧ w.heap.size ≤ g ∧ Below w.heap.size w w' ∧ Blk w' g 5 ((l.drop A).take (E - A)) := by
  have hle := h.le
  have hcap := h.cap
  unfold maxLen at hcap
  obtain ⟨m, hm⟩ : ∃ m, E - A = m := ⟨_, rfl⟩
  rw [hm]
  have HM := Lib.hid hm
  have hmn : m ≤ 140737488355328 := by omega
  clear hm
  go_enter Try.func43, Try.ntmps43
  go_upto_region 2 with fail
  have hcut := h.cut A (E - A) (E - A) (by omega) (Nat.le_refl _) (by omega) (E = A) (by omega)
  obtain ⟨ra, hra⟩ : ∃ ra, (if E = A then a else Option.map (fun x => x.add A) a) = ra := ⟨_, rfl⟩
  rw [hra] at hcut ⊢
  rw [HM.out] at hcut ⊢
  clear hra
  have hmk := run_make_row' (P := Try.prog) 22 5 (.int .u8 0) 1 Try.underlying22 info_u8 rfl .i64 .i64 m (by omega) (by omega)
  go_upto_region 3 with fail
  clear hmk
  have hB := Blk.made w m 5
  have hb : Below w.heap.size w (w.alloc (.cells (madeCells #[.int .u8 0] m) 5)) := (Below.refl _ _).alloc (Nat.le_refl _) _
  generalize (w.alloc (.cells (madeCells #[.int .u8 0] m) 5)) = w1 at *
  go_wp2_with (refine wpList_copy_bytes rfl (.tmp 17) (.tmp 18) 22 rfl 5 Try.underlying22 info_u8 _ _ _ _ _ _ rfl rfl w.heap.size 0 _ _ hB (hcut.below hb) (fun _ => rfl) ?hfit ?_)
  case hfit => simp
  intro w2 hB2 hb2 _ _
  have hll := hcut.len
  have e2 : copyL (List.replicate m (0 : UInt8)) ((l.drop A).take m) 0 m m = (l.drop A).take m := by
    unfold copyL
    rw [List.take_zero, List.nil_append, List.take_of_length_le (by omega), List.drop_replicate, Nat.min_self, show m - (0 + m) = 0 by omega]; simp
  rw [e2] at hB2
  go_wp2_with fail
  go_ret
  exact ⟨w.heap.size, rfl, Nat.le_refl _, hb.trans hb2, hB2⟩

/-- type, channel, ext, body, place, error -/
def openR (b : List UInt8) (at_ most : Int) : Nat × Nat × List UInt8 × List UInt8 × Int × Int :=
  if at_ < 0 ∨ (b.length : Int) < at_ ∨ most < 512 ∨ 1048576 < most then (0, 0, [], [], 0, 1)
  else
    let L := b.drop at_.toNat
    if L.length < 4 then (0, 0, [], [], 0, 10)
    else
      let size := beVal (L.take 4)
      if size < 8 ∨ most < size then (0, 0, [], [], 0, 51)
      else if L.length < 5 then (0, 0, [], [], 0, 10)
      else
        let off := 4 * (L.getD 4 0).toNat
        if off < 8 ∨ size < off then (0, 0, [], [], 0, 52)
        else if L.length < 6 then (0, 0, [], [], 0, 10)
        else
          let kind := (L.getD 5 0).toNat
          if 1 < kind then (0, 0, [], [], 0, 53)
          else if L.length < size then (0, 0, [], [], 0, 10)
          else (kind, if kind = 0 then beVal ((L.drop 6).take 2) else 0, (L.drop 8).take (off - 8), (L.drop off).take (size - off), at_ + size, 0)

theorem open_arg (w : World) (a : Option Addr) (n c : Nat) (l : List UInt8) (at_ most : Int) (h : BytesIn w a n c l) (hz : n ≤ 140737488355328) (hb : at_ < 0 ∨ (n : Int) < at_ ∨ most < 512 ∨ 1048576 < most) :
    Calls Try.prog 18 #[.slice a n c, .int .i64 at_, .int .i64 most] w fun e w' => e = .returned (.tuple #[.agg #[.int .i64 0, .int .i64 0, .slice none 0 0, .slice none 0 0], .int .i64 0, .int .i64 1]) ∧ Below w.heap.size w w' := by
  have hcase : at_ < 0 ∨ (¬ at_ < 0 ∧ (n : Int) < at_) ∨ (¬ at_ < 0 ∧ ¬ (n : Int) < at_ ∧ most < 512) ∨ (¬ at_ < 0 ∧ ¬ (n : Int) < at_ ∧ ¬ most < 512 ∧ 1048576 < most) := by omega
  clear hb
  go_enter Try.func18, Try.ntmps18
  rcases hcase with h1 | ⟨h1, h2⟩ | ⟨h1, h2, h3⟩ | ⟨h1, h2, h3, h4⟩ <;>
  · go_wp2_with fail
    go_returns
    exact ⟨rfl, (Below.refl _ _).alloc (Nat.le_refl _) _⟩
end Go.Proofs.Ytofdpccjpodbhaa
