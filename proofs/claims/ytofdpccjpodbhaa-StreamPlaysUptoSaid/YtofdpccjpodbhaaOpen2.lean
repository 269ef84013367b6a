/-
  The contract of frame.Open at any bytes. Conditions: the bytes lie in memory and are not past 2^47 bytes.
-/
import Derived.Test.YtofdpccjpodbhaaMg05
namespace Go.Proofs.Ytofdpccjpodbhaa
open Go.RowKit
set_option linter.unusedVariables false

theorem Blk.own {w : World} {g T B n : Nat} {l : List UInt8} (h : Blk w g T l) (hB : B ≤ g) (hn : l.length = n) (hl : n ≤ maxLen) : OwnBytes w B T (.slice (some ⟨g, 0, none⟩) n n) l := by
  subst hn
  refine ⟨by simp, .inr ⟨g, l.length, _, rfl, hB, h.blk, Nat.le_refl _, hl, by simp, ?_⟩⟩
  rw [Nat.mul_one]
  exact List.take_of_length_le (by simp)

/-- two rows lie apart -/
def Apart (u v : Value) : Prop := u.ownBlock = none ∨ v.ownBlock = none ∨ u.ownBlock ≠ v.ownBlock

/-- a frame as it comes out, its place, its error -/
def OpenPost (w : World) (r : Nat × Nat × List UInt8 × List UInt8 × Int × Int) (e : Ending) (w' : World) : Prop :=
  ∃ ea ne ce ba nb cb, e = .returned (.tuple #[.agg #[.int .i64 r.1, .int .i64 r.2.1, .slice ea ne ce, .slice ba nb cb], .int .i64 r.2.2.2.2.1, .int .i64 r.2.2.2.2.2]) ∧ Below w.heap.size w w' ∧
    OwnBytes w' w.heap.size 5 (.slice ea ne ce) r.2.2.1 ∧ OwnBytes w' w.heap.size 5 (.slice ba nb cb) r.2.2.2.1 ∧ Apart (.slice ea ne ce) (.slice ba nb cb)

theorem OpenPost.err {w w' : World} {E : Int} (hb : Below w.heap.size w w') {e : Ending} (he : e = .returned (.tuple #[.agg #[.int .i64 0, .int .i64 0, .slice none 0 0, .slice none 0 0], .int .i64 0, .int .i64 E])) : OpenPost w (0, 0, [], [], 0, E) e w' :=
  ⟨none, 0, 0, none, 0, 0, he, hb, OwnBytes.nil _ _ _, OwnBytes.nil _ _ _, .inl rfl⟩

set_option maxHeartbeats 4000000 in
set_option maxRecDepth 20000 in
theorem open_in (w : World) (a : Option Addr) (n c : Nat) (l : List UInt8) (A : Nat) (M : Nat) (h : BytesIn w a n c l) (hz : n ≤ 140737488355328) (hA : A ≤ n) (hM : 512 ≤ M) (hM2 : M ≤ 1048576) :
    Calls Try.prog 18 #[.slice a n c, .int .i64 A, .int .i64 M] w (OpenPost w (openR l A M)) := by
  have hle := h.le
  have hcap := h.cap
  have hlen := h.len
  unfold maxLen at hcap
  obtain ⟨L, hL⟩ : ∃ L, l.drop A = L := ⟨_, rfl⟩
  obtain ⟨k, hk⟩ : ∃ k, n - A = k := ⟨_, rfl⟩
  have hLl : L.length = k := by rw [← hL, List.length_drop]; omega
  have hO : openR l A M = (if k < 4 then (0, 0, [], [], 0, 10)
    else
      let size := beVal (L.take 4)
      if size < 8 ∨ (M : Int) < size then (0, 0, [], [], 0, 51)
      else if k < 5 then (0, 0, [], [], 0, 10)
      else
        let off := 4 * (L.getD 4 0).toNat
        if off < 8 ∨ size < off then (0, 0, [], [], 0, 52)
        else if k < 6 then (0, 0, [], [], 0, 10)
        else
          let kind := (L.getD 5 0).toNat
          if 1 < kind then (0, 0, [], [], 0, 53)
          else if k < size then (0, 0, [], [], 0, 10)
          else (kind, if kind = 0 then beVal ((L.drop 6).take 2) else 0, (L.drop 8).take (off - 8), (L.drop off).take (size - off), (A : Int) + size, 0)) := by
    unfold openR
    rw [if_neg (by omega), Int.toNat_natCast, hL]
    simp only [hLl]
  have HO := Lib.hid hO
  have HL := Lib.hid hL
  have HLL := Lib.hid hLl
  have HK := Lib.hid hk
  have hB : Below w.heap.size w (w.alloc (.cells #[.int .i64 0, .int .i64 0, .slice none 0 0, .slice none 0 0] 24)) := (Below.refl _ _).alloc (Nat.le_refl _) _
  have m1 : (512 : Int) ≤ (M : Int) := by omega
  have m2 : (M : Int) ≤ 1048576 := by omega
  have m3 : ¬ n < A := by omega
  clear hO hL hLl hk hlen
  go_enter Try.func18, Try.ntmps18
  go_upto_region 4 with fail
  have hcut := h.cut A (n - A) (c - A) (by omega) (by omega) (by omega) (c = A) (by omega)
  rw [HL.out, HK.out, List.take_of_length_le (by rw [HLL.out]; exact Nat.le_refl _)] at hcut
  obtain ⟨ra, hra⟩ : ∃ ra, (if c = A then a else Option.map (fun x => x.add A) a) = ra := ⟨_, rfl⟩
  rw [hra] at hcut ⊢
  rw [HK.out]
  have hr := hcut.below hB
  have HR := Lib.hid hcut
  clear hra hcut
  have hkn : k ≤ 140737488355328 := by have := HK.out; omega
  by_cases k4 : k < 4
  · have hfin : openR l A M = (0, 0, [], [], 0, 10) := by rw [HO.out, if_pos k4]
    have HF := Lib.hid hfin
    have k4' : (k : Int) < 4 := by omega
    clear hfin HO
    go_wp2_with fail
    go_returns
    rw [HF.out]
    exact .err hB rfl
  have hn4 := number_ok _ _ _ _ _ hr 0 4 (by decide) (by decide) (by omega)
  rw [List.drop_zero] at hn4
  obtain ⟨S, hS⟩ : ∃ S, beVal (L.take 4) = S := ⟨_, rfl⟩
  rw [hS] at hn4
  have HS := Lib.hid hS
  have hSl : S < 4294967296 := by
    have h0 := beVal_lt (L.take 4)
    have h2 : 256 ^ (L.take 4).length ≤ 256 ^ 4 := Nat.pow_le_pow_right (by omega) (by rw [List.length_take]; omega)
    omega
  have hkk : ¬ (k : Int) < 4 := by omega
  clear hS
  go_upto_region 6 with fail
  go_wp2_with fail
  refine hn4.mono ?_
  rintro e w1 ⟨rfl, rfl⟩
  by_cases s1 : S < 8 ∨ M < S
  · have hfin : openR l A M = (0, 0, [], [], 0, 51) := by
      rw [HO.out, if_neg k4, HS.out]
      exact if_pos (by omega)
    have HF := Lib.hid hfin
    have hc : (S : Int) < 8 ∨ (¬ (S : Int) < 8 ∧ (M : Int) < (S : Int)) := by omega
    clear hfin HO hn4 s1
    rcases hc with h1 | ⟨h1, h2⟩ <;>
    · go_wp2_with fail
      go_returns
      rw [HF.out]
      exact .err hB rfl
  have s2 : ¬ (S : Int) < 8 := by omega
  have s3 : ¬ (M : Int) < (S : Int) := by omega
  clear hn4
  by_cases k5 : k < 5
  · have hfin : openR l A M = (0, 0, [], [], 0, 10) := by
      rw [HO.out, if_neg k4, HS.out]
      exact (if_neg (by omega)).trans (if_pos k5)
    have HF := Lib.hid hfin
    have k5' : (k : Int) < 5 := by omega
    clear hfin HO s1
    go_wp2_with fail
    go_returns
    rw [HF.out]
    exact .err hB rfl
  have k5' : ¬ (k : Int) < 5 := by omega
  have hn1 := number_ok _ _ _ _ _ hr 4 1 (by decide) (by decide) (by omega)
  obtain ⟨y, hy⟩ : ∃ y, L.getD 4 0 = y := ⟨_, rfl⟩
  have e1 : beVal ((L.drop 4).take 1) = y.toNat := by
    have := take_succ_getD (L.drop 4) 0 (by rw [List.length_drop, HLL.out]; omega)
    rw [this, beVal_snoc, List.take_zero, ← hy]
    simp [beVal, List.getD_eq_getElem?_getD, List.getElem?_drop]
  rw [e1] at hn1
  have hyl := y.toNat_lt
  have HY := Lib.hid hy
  clear hy e1
  go_upto_region 11 with fail
  go_wp2_with fail
  refine hn1.mono ?_
  rintro e w1 ⟨rfl, rfl⟩
  obtain ⟨q, hq⟩ : ∃ q, y.toNat = q := ⟨_, rfl⟩
  rw [hq] at hyl hn1 ⊢
  have HQ := Lib.hid hq
  clear hq hn1
  by_cases o1 : 4 * q < 8 ∨ S < 4 * q
  · have hfin : openR l A M = (0, 0, [], [], 0, 52) := by
      rw [HO.out, if_neg k4, HS.out, HY.out, HQ.out]
      exact (if_neg (by omega)).trans ((if_neg k5).trans (if_pos o1))
    have HF := Lib.hid hfin
    have hc : 4 * (q : Int) < 8 ∨ (¬ 4 * (q : Int) < 8 ∧ (S : Int) < 4 * (q : Int)) := by omega
    clear hfin HO o1 s1
    rcases hc with h1 | ⟨h1, h2⟩ <;>
    · go_wp2_with fail
      go_returns
      rw [HF.out]
      exact .err hB rfl
  have o2 : ¬ 4 * (q : Int) < 8 := by omega
  have o3 : ¬ (S : Int) < 4 * (q : Int) := by omega
  by_cases k6 : k < 6
  · have hfin : openR l A M = (0, 0, [], [], 0, 10) := by
      rw [HO.out, if_neg k4, HS.out, HY.out, HQ.out]
      exact (if_neg (by omega)).trans ((if_neg k5).trans ((if_neg o1).trans (if_pos k6)))
    have HF := Lib.hid hfin
    have k6' : (k : Int) < 6 := by omega
    clear hfin HO o1 s1
    go_wp2_with fail
    go_returns
    rw [HF.out]
    exact .err hB rfl
  have k6' : ¬ (k : Int) < 6 := by omega
  have hn5 := number_ok _ _ _ _ _ hr 5 1 (by decide) (by decide) (by omega)
  obtain ⟨z, hz2⟩ : ∃ z, L.getD 5 0 = z := ⟨_, rfl⟩
  have e1 : beVal ((L.drop 5).take 1) = z.toNat := by
    have := take_succ_getD (L.drop 5) 0 (by rw [List.length_drop, HLL.out]; omega)
    rw [this, beVal_snoc, List.take_zero, ← hz2]
    simp [beVal, List.getD_eq_getElem?_getD, List.getElem?_drop]
  rw [e1] at hn5
  have hzl := z.toNat_lt
  have HZ := Lib.hid hz2
  clear hz2 e1
  obtain ⟨t, ht⟩ : ∃ t, z.toNat = t := ⟨_, rfl⟩
  rw [ht] at hzl hn5
  have HT := Lib.hid ht
  clear ht
  go_upto_region 16 with fail
  go_wp2_with fail
  refine hn5.mono ?_
  rintro e w1 ⟨rfl, rfl⟩
  clear hn5
  have hB2 : Below w.heap.size w ((w.alloc (.cells #[.int .i64 0, .int .i64 0, .slice none 0 0, .slice none 0 0] 24)).alloc (.cells #[.int .i64 t, .int .i64 0, .slice none 0 0, .slice none 0 0] 24)) := hB.alloc (by simp) _
  go_upto_region 17 with fail
  have hres : ((w.alloc (.cells #[.int .i64 0, .int .i64 0, .slice none 0 0, .slice none 0 0] 24)).alloc (.cells #[.int .i64 t, .int .i64 0, .slice none 0 0, .slice none 0 0] 24)).heap[w.heap.size]? = some (.cells #[.int .i64 0, .int .i64 0, .slice none 0 0, .slice none 0 0] 24 (0, 0)) := by
    exact (heap_alloc_old _ _ (by simp)).trans (heap_alloc_new _ _)
  have hfr : ((w.alloc (.cells #[.int .i64 0, .int .i64 0, .slice none 0 0, .slice none 0 0] 24)).alloc (.cells #[.int .i64 t, .int .i64 0, .slice none 0 0, .slice none 0 0] 24)).heap[w.heap.size + 1]? = some (.cells #[.int .i64 t, .int .i64 0, .slice none 0 0, .slice none 0 0] 24 (0, 0)) := by
    have := heap_alloc_new (w.alloc (.cells #[.int .i64 0, .int .i64 0, .slice none 0 0, .slice none 0 0] 24)) (.cells #[.int .i64 t, .int .i64 0, .slice none 0 0, .slice none 0 0] 24)
    simpa using this
  generalize ((w.alloc (.cells #[.int .i64 0, .int .i64 0, .slice none 0 0, .slice none 0 0] 24)).alloc (.cells #[.int .i64 t, .int .i64 0, .slice none 0 0, .slice none 0 0] 24)) = w2 at *
  have hr2 := HR.out.below hB2
  have c0 : w2.cell? ⟨w.heap.size + 1, 0, none⟩ = some (.int .i64 t) := by simp [World.cell?, hfr]
  have hty := isType_any w2 (t : Int)
  have hd : decide ((t : Int) = 0 ∨ (t : Int) = 1) = decide (t ≤ 1) := by congr 1; apply propext; omega
  rw [hd] at hty
  have z0 : w2.cell? ⟨w.heap.size, 0, none⟩ = some (.int .i64 0) := by simp [World.cell?, hres]
  have z1 : w2.cell? ⟨w.heap.size, 1, none⟩ = some (.int .i64 0) := by simp [World.cell?, hres]
  have z2 : w2.cell? ⟨w.heap.size, 2, none⟩ = some (.slice none 0 0) := by simp [World.cell?, hres]
  have z3 : w2.cell? ⟨w.heap.size, 3, none⟩ = some (.slice none 0 0) := by simp [World.cell?, hres]
  clear hr hd
  by_cases t1 : 1 < t
  · have hfin : openR l A M = (0, 0, [], [], 0, 53) := by
      rw [HO.out, if_neg k4, HS.out, HY.out, HQ.out, HZ.out, HT.out]
      exact (if_neg (by omega)).trans ((if_neg k5).trans ((if_neg o1).trans ((if_neg k6).trans (if_pos t1))))
    have HF := Lib.hid hfin
    rw [decide_eq_false (by omega)] at hty
    clear hfin HO o1 s1
    go_wp2_with fail
    refine hty.mono ?_
    rintro e w3 ⟨rfl, rfl⟩
    go_wp2_with (refine wpList_store_row rfl 24 (.tmp 6) _ rfl w.heap.size _ rfl rfl 24 _ hres (by as_aux_lemma => kernel_rfl) (by as_aux_lemma => kernel_rfl) (by as_aux_lemma => kernel_rfl) ?_)
    have hB4 := below_setRow hB2 (Nat.le_refl _) #[.int .i64 0, .int .i64 0, .slice none 0 0, .slice none 0 0]
    have hh := setRow_heap w2 w.heap.size _ #[.int .i64 0, .int .i64 0, .slice none 0 0, .slice none 0 0] _ _ hres
    generalize w2.setRow w.heap.size #[.int .i64 0, .int .i64 0, .slice none 0 0, .slice none 0 0] = w4 at *
    have y0 : w4.cell? ⟨w.heap.size, 0, none⟩ = some (.int .i64 0) := by simp [World.cell?, hh]
    have y1 : w4.cell? ⟨w.heap.size, 1, none⟩ = some (.int .i64 0) := by simp [World.cell?, hh]
    have y2 : w4.cell? ⟨w.heap.size, 2, none⟩ = some (.slice none 0 0) := by simp [World.cell?, hh]
    have y3 : w4.cell? ⟨w.heap.size, 3, none⟩ = some (.slice none 0 0) := by simp [World.cell?, hh]
    refine bodyPost_ret (by simp [results, Try.results18, go_sem, y0, y1, y2, y3]; try rfl) rfl ?_
    rw [HF.out]
    exact .err hB4 rfl
  rw [decide_eq_true (by omega)] at hty
  go_upto_region 17 with fail
  go_wp2_with fail
  refine hty.mono ?_
  rintro e w3 ⟨rfl, rfl⟩
  clear hty
  by_cases k7 : k < S
  · have hfin : openR l A M = (0, 0, [], [], 0, 10) := by
      rw [HO.out, if_neg k4, HS.out, HY.out, HQ.out, HZ.out, HT.out]
      exact (if_neg (by omega)).trans ((if_neg k5).trans ((if_neg o1).trans ((if_neg k6).trans ((if_neg t1).trans (if_pos k7)))))
    have HF := Lib.hid hfin
    have k7' : (k : Int) < (S : Int) := by omega
    clear hfin HO o1 s1
    go_wp2_with (refine wpList_store_row rfl 24 (.tmp 6) _ rfl w.heap.size _ rfl rfl 24 _ hres (by as_aux_lemma => kernel_rfl) (by as_aux_lemma => kernel_rfl) (by as_aux_lemma => kernel_rfl) ?_)
    have hB4 := below_setRow hB2 (Nat.le_refl _) #[.int .i64 0, .int .i64 0, .slice none 0 0, .slice none 0 0]
    have hh := setRow_heap w2 w.heap.size _ #[.int .i64 0, .int .i64 0, .slice none 0 0, .slice none 0 0] _ _ hres
    generalize w2.setRow w.heap.size #[.int .i64 0, .int .i64 0, .slice none 0 0, .slice none 0 0] = w4 at *
    have y0 : w4.cell? ⟨w.heap.size, 0, none⟩ = some (.int .i64 0) := by simp [World.cell?, hh]
    have y1 : w4.cell? ⟨w.heap.size, 1, none⟩ = some (.int .i64 0) := by simp [World.cell?, hh]
    have y2 : w4.cell? ⟨w.heap.size, 2, none⟩ = some (.slice none 0 0) := by simp [World.cell?, hh]
    have y3 : w4.cell? ⟨w.heap.size, 3, none⟩ = some (.slice none 0 0) := by simp [World.cell?, hh]
    refine bodyPost_ret (by simp [results, Try.results18, go_sem, y0, y1, y2, y3]; try rfl) rfl ?_
    rw [HF.out]
    exact .err hB4 rfl
  have k7' : ¬ (k : Int) < (S : Int) := by omega
  obtain ⟨C, hC⟩ : ∃ C, (if t = 0 then beVal ((L.drop 6).take 2) else 0) = C := ⟨_, rfl⟩
  have hfin : openR l A M = (t, C, (L.drop 8).take (4 * q - 8), (L.drop (4 * q)).take (S - 4 * q), (A : Int) + S, 0) := by
    rw [HO.out, if_neg k4, HS.out, HY.out, HQ.out, HZ.out, HT.out, ← hC]
    exact (if_neg (by omega)).trans ((if_neg k5).trans ((if_neg o1).trans ((if_neg k6).trans ((if_neg t1).trans (if_neg k7)))))
  have HF := Lib.hid hfin
  clear hfin HO z0 z1 z2 z3
  have hk8 : 4 * q ≤ S := by omega
  have hk9 : 8 ≤ 4 * q := by omega
  have hk10 : S ≤ k := by omega
  clear o1 s1 k4 k5 k6 k7
  have f1 : w2.frozen? ⟨w.heap.size + 1, 1, none⟩ = false := by simp [World.frozen?, hfr]
  have c1 : w2.cell? ⟨w.heap.size + 1, 1, none⟩ = some (.int .i64 0) := by simp [World.cell?, hfr]
  by_cases t0 : t = 0
  · subst t0
    have hn6 := number_ok w2 _ _ _ _ hr2 6 2 (by decide) (by decide) (by omega)
    rw [if_pos rfl] at hC
    rw [hC] at hn6
    have HC := Lib.hid hC
    clear hC
    go_upto_region 22 with fail
    go_wp2_with fail
    refine hn6.mono ?_
    rintro e w3 ⟨rfl, rfl⟩
    clear hn6
    go_upto_region 23 with fail
    have hB5 : Below w.heap.size w (w2.setCell ⟨w.heap.size + 1, 1, none⟩ (.int .i64 C)) := hB2.setCell (by show w.heap.size ≤ w.heap.size + 1; omega) _
    have hfr5 := heap_setCell_same w2 (w.heap.size + 1) 1 _ _ (.int .i64 C) hfr
    have hres5 := (heap_setCell_other w2 ⟨w.heap.size + 1, 1, none⟩ w.heap.size (.int .i64 C) (by show w.heap.size ≠ w.heap.size + 1; omega)).trans hres
    simp only [List.setIfInBounds_toArray, List.set] at hfr5
    generalize (w2.setCell ⟨w.heap.size + 1, 1, none⟩ (.int .i64 C)) = w5 at *
    clear hfr hres c0 c1 f1 hB2 hr2
    have s5 : w.heap.size + 2 ≤ w5.heap.size := by have := (Array.getElem?_eq_some_iff.1 hfr5).1; omega
    obtain ⟨o, ho⟩ : ∃ o, 4 * q = o := ⟨_, rfl⟩
    have ho' : 4 * (q : Int) = (o : Int) := by omega
    rw [ho'] at o2 o3
    rw [ho'] 
    rw [ho] at hk8 hk9
    have HO := Lib.hid ho
    clear ho ho'
    obtain ⟨x1, hx1⟩ : ∃ x, o - 8 = x := ⟨_, rfl⟩
    obtain ⟨x2, hx2⟩ : ∃ x, S - o = x := ⟨_, rfl⟩
    have hp1 := part_ok w5 _ _ _ _ (HR.out.below hB5) hkn 8 o hk9 (by omega)
    rw [hx1] at hp1
    have HX1 := Lib.hid hx1
    have HX2 := Lib.hid hx2
    clear hx1 hx2
    go_wp2_with fail
    refine hp1.mono ?_
    rintro e w6 ⟨g1, rfl, hg1, hb6, hk1⟩
    clear hp1
    have hfr6 := (hb6.block (w.heap.size + 1) (by omega)).trans hfr5
    have hres6 := (hb6.block w.heap.size (by omega)).trans hres5
    have hB6 : Below w.heap.size w w6 := hB5.trans (hb6.mono (by omega))
    have p2 : w6.cell? ⟨w.heap.size + 1, 2, none⟩ = some (.slice none 0 0) := by simp [World.cell?, hfr6]
    have p2' : w6.frozen? ⟨w.heap.size + 1, 2, none⟩ = false := by simp [World.frozen?, hfr6]
    clear hfr5 hres5 hb6
    go_upto_region 24 with fail
    have hfr7 := heap_setCell_same w6 (w.heap.size + 1) 2 _ _ (.slice (some ⟨g1, 0, none⟩) x1 x1) hfr6
    have hres7 := (heap_setCell_other w6 ⟨w.heap.size + 1, 2, none⟩ w.heap.size (.slice (some ⟨g1, 0, none⟩) x1 x1) (by show w.heap.size ≠ w.heap.size + 1; omega)).trans hres6
    have hk17 : Blk (w6.setCell ⟨w.heap.size + 1, 2, none⟩ (.slice (some ⟨g1, 0, none⟩) x1 x1)) g1 _ _ := hk1.of_block (heap_setCell_other w6 _ _ _ (by show g1 ≠ w.heap.size + 1; omega))
    have hB7 : Below w.heap.size w (w6.setCell ⟨w.heap.size + 1, 2, none⟩ (.slice (some ⟨g1, 0, none⟩) x1 x1)) := hB6.setCell (by show w.heap.size ≤ w.heap.size + 1; omega) _
    simp only [List.setIfInBounds_toArray, List.set] at hfr7
    generalize (w6.setCell ⟨w.heap.size + 1, 2, none⟩ (.slice (some ⟨g1, 0, none⟩) x1 x1)) = w7 at *
    clear p2 p2' hfr6 hres6 hk1 hB6
    have s7 : w.heap.size + 2 ≤ w7.heap.size := by have := (Array.getElem?_eq_some_iff.1 hfr7).1; omega
    have hp2 := part_ok w7 _ _ _ _ (HR.out.below hB7) hkn o S hk8 hk10
    rw [HX2.out] at hp2
    have hg1l := hk17.lt
    go_wp2_with fail
    refine hp2.mono ?_
    rintro e w8 ⟨g2, rfl, hg2, hb8, hk2⟩
    clear hp2
    have hfr8 := (hb8.block (w.heap.size + 1) (by omega)).trans hfr7
    have hres8 := (hb8.block w.heap.size (by omega)).trans hres7
    have hB8 : Below w.heap.size w w8 := hB7.trans (hb8.mono (by omega))
    have hk18 := hk17.below hb8
    have p2 : w8.cell? ⟨w.heap.size + 1, 3, none⟩ = some (.slice none 0 0) := by simp [World.cell?, hfr8]
    have p2' : w8.frozen? ⟨w.heap.size + 1, 3, none⟩ = false := by simp [World.frozen?, hfr8]
    clear hfr7 hres7 hb8 hk17
    go_upto_region 25 with fail
    have hfr9 := heap_setCell_same w8 (w.heap.size + 1) 3 _ _ (.slice (some ⟨g2, 0, none⟩) x2 x2) hfr8
    have hres9 := (heap_setCell_other w8 ⟨w.heap.size + 1, 3, none⟩ w.heap.size (.slice (some ⟨g2, 0, none⟩) x2 x2) (by show w.heap.size ≠ w.heap.size + 1; omega)).trans hres8
    have hk19 : Blk (w8.setCell ⟨w.heap.size + 1, 3, none⟩ (.slice (some ⟨g2, 0, none⟩) x2 x2)) g1 _ _ := hk18.of_block (heap_setCell_other w8 _ _ _ (by show g1 ≠ w.heap.size + 1; omega))
    have hk29 : Blk (w8.setCell ⟨w.heap.size + 1, 3, none⟩ (.slice (some ⟨g2, 0, none⟩) x2 x2)) g2 _ _ := hk2.of_block (heap_setCell_other w8 _ _ _ (by show g2 ≠ w.heap.size + 1; omega))
    have hB9 : Below w.heap.size w (w8.setCell ⟨w.heap.size + 1, 3, none⟩ (.slice (some ⟨g2, 0, none⟩) x2 x2)) := hB8.setCell (by show w.heap.size ≤ w.heap.size + 1; omega) _
    simp only [List.setIfInBounds_toArray, List.set] at hfr9
    generalize (w8.setCell ⟨w.heap.size + 1, 3, none⟩ (.slice (some ⟨g2, 0, none⟩) x2 x2)) = w9 at *
    clear p2 p2' hfr8 hres8 hk18 hB8 hk2
    have d0 : w9.cell? ⟨w.heap.size + 1, 0, none⟩ = some (.int .i64 0) := by simp [World.cell?, hfr9]
    have d1 : w9.cell? ⟨w.heap.size + 1, 1, none⟩ = some (.int .i64 C) := by simp [World.cell?, hfr9]
    have d2 : w9.cell? ⟨w.heap.size + 1, 2, none⟩ = some (.slice (some ⟨g1, 0, none⟩) x1 x1) := by simp [World.cell?, hfr9]
    have d3 : w9.cell? ⟨w.heap.size + 1, 3, none⟩ = some (.slice (some ⟨g2, 0, none⟩) x2 x2) := by simp [World.cell?, hfr9]
    go_wp2_with (refine wpList_store_row rfl 24 (.tmp 6) _ rfl w.heap.size _ rfl rfl 24 _ hres9 (by as_aux_lemma => kernel_rfl) (by as_aux_lemma => kernel_rfl) (by as_aux_lemma => kernel_rfl) ?_)
    have hBX := below_setRow hB9 (Nat.le_refl _) #[.int .i64 0, .int .i64 C, .slice (some ⟨g1, 0, none⟩) x1 x1, .slice (some ⟨g2, 0, none⟩) x2 x2]
    have hh := setRow_heap w9 w.heap.size _ #[.int .i64 0, .int .i64 C, .slice (some ⟨g1, 0, none⟩) x1 x1, .slice (some ⟨g2, 0, none⟩) x2 x2] _ _ hres9
    have hk1X := hk19.of_block (setRow_other w9 w.heap.size g1 #[.int .i64 0, .int .i64 C, .slice (some ⟨g1, 0, none⟩) x1 x1, .slice (some ⟨g2, 0, none⟩) x2 x2] (by omega))
    have hk2X := hk29.of_block (setRow_other w9 w.heap.size g2 #[.int .i64 0, .int .i64 C, .slice (some ⟨g1, 0, none⟩) x1 x1, .slice (some ⟨g2, 0, none⟩) x2 x2] (by omega))
    generalize (w9.setRow w.heap.size #[.int .i64 0, .int .i64 C, .slice (some ⟨g1, 0, none⟩) x1 x1, .slice (some ⟨g2, 0, none⟩) x2 x2]) = wX at *
    have y0 : wX.cell? ⟨w.heap.size, 0, none⟩ = some (.int .i64 0) := by simp [World.cell?, hh]
    have y1 : wX.cell? ⟨w.heap.size, 1, none⟩ = some (.int .i64 C) := by simp [World.cell?, hh]
    have y2 : wX.cell? ⟨w.heap.size, 2, none⟩ = some (.slice (some ⟨g1, 0, none⟩) x1 x1) := by simp [World.cell?, hh]
    have y3 : wX.cell? ⟨w.heap.size, 3, none⟩ = some (.slice (some ⟨g2, 0, none⟩) x2 x2) := by simp [World.cell?, hh]
    refine bodyPost_ret (by simp [results, Try.results18, go_sem, y0, y1, y2, y3]; try rfl) rfl ?_
    have hx1 := HX1.out
    have hx2 := HX2.out
    have hLL := HLL.out
    rw [HF.out, HO.out]
    rw [HX1.out, HX2.out]
    refine ⟨_, _, _, _, _, _, rfl, hBX, hk1X.own (by omega) (by rw [List.length_take, List.length_drop]; omega) (by unfold maxLen; omega), hk2X.own (by omega) (by rw [List.length_take, List.length_drop]; omega) (by unfold maxLen; omega), .inr (.inr ?_)⟩
    show some g1 ≠ some g2
    intro he
    simp only [Option.some.injEq] at he
    omega
  · have t1' : t = 1 := by omega
    subst t1'
    rw [if_neg (by decide)] at hC
    subst hC
    go_upto_region 23 with fail
    have hB5 := hB2
    have hfr5 := hfr
    have hres5 := hres
    generalize w2 = w5 at *
    clear hfr hres c0 c1 f1 hB2 hr2
    have s5 : w.heap.size + 2 ≤ w5.heap.size := by have := (Array.getElem?_eq_some_iff.1 hfr5).1; omega
    obtain ⟨o, ho⟩ : ∃ o, 4 * q = o := ⟨_, rfl⟩
    have ho' : 4 * (q : Int) = (o : Int) := by omega
    rw [ho'] at o2 o3
    rw [ho'] 
    rw [ho] at hk8 hk9
    have HO := Lib.hid ho
    clear ho ho'
    obtain ⟨x1, hx1⟩ : ∃ x, o - 8 = x := ⟨_, rfl⟩
    obtain ⟨x2, hx2⟩ : ∃ x, S - o = x := ⟨_, rfl⟩
    have hp1 := part_ok w5 _ _ _ _ (HR.out.below hB5) hkn 8 o hk9 (by omega)
    rw [hx1] at hp1
    have HX1 := Lib.hid hx1
    have HX2 := Lib.hid hx2
    clear hx1 hx2
    go_wp2_with fail
    refine hp1.mono ?_
    rintro e w6 ⟨g1, rfl, hg1, hb6, hk1⟩
    clear hp1
    have hfr6 := (hb6.block (w.heap.size + 1) (by omega)).trans hfr5
    have hres6 := (hb6.block w.heap.size (by omega)).trans hres5
    have hB6 : Below w.heap.size w w6 := hB5.trans (hb6.mono (by omega))
    have p2 : w6.cell? ⟨w.heap.size + 1, 2, none⟩ = some (.slice none 0 0) := by simp [World.cell?, hfr6]
    have p2' : w6.frozen? ⟨w.heap.size + 1, 2, none⟩ = false := by simp [World.frozen?, hfr6]
    clear hfr5 hres5 hb6
    go_upto_region 24 with fail
    have hfr7 := heap_setCell_same w6 (w.heap.size + 1) 2 _ _ (.slice (some ⟨g1, 0, none⟩) x1 x1) hfr6
    have hres7 := (heap_setCell_other w6 ⟨w.heap.size + 1, 2, none⟩ w.heap.size (.slice (some ⟨g1, 0, none⟩) x1 x1) (by show w.heap.size ≠ w.heap.size + 1; omega)).trans hres6
    have hk17 : Blk (w6.setCell ⟨w.heap.size + 1, 2, none⟩ (.slice (some ⟨g1, 0, none⟩) x1 x1)) g1 _ _ := hk1.of_block (heap_setCell_other w6 _ _ _ (by show g1 ≠ w.heap.size + 1; omega))
    have hB7 : Below w.heap.size w (w6.setCell ⟨w.heap.size + 1, 2, none⟩ (.slice (some ⟨g1, 0, none⟩) x1 x1)) := hB6.setCell (by show w.heap.size ≤ w.heap.size + 1; omega) _
    simp only [List.setIfInBounds_toArray, List.set] at hfr7
    generalize (w6.setCell ⟨w.heap.size + 1, 2, none⟩ (.slice (some ⟨g1, 0, none⟩) x1 x1)) = w7 at *
    clear p2 p2' hfr6 hres6 hk1 hB6
    have s7 : w.heap.size + 2 ≤ w7.heap.size := by have := (Array.getElem?_eq_some_iff.1 hfr7).1; omega
    have hp2 := part_ok w7 _ _ _ _ (HR.out.below hB7) hkn o S hk8 hk10
    rw [HX2.out] at hp2
    have hg1l := hk17.lt
    go_wp2_with fail
    refine hp2.mono ?_
    rintro e w8 ⟨g2, rfl, hg2, hb8, hk2⟩
    clear hp2
    have hfr8 := (hb8.block (w.heap.size + 1) (by omega)).trans hfr7
    have hres8 := (hb8.block w.heap.size (by omega)).trans hres7
    have hB8 : Below w.heap.size w w8 := hB7.trans (hb8.mono (by omega))
    have hk18 := hk17.below hb8
    have p2 : w8.cell? ⟨w.heap.size + 1, 3, none⟩ = some (.slice none 0 0) := by simp [World.cell?, hfr8]
    have p2' : w8.frozen? ⟨w.heap.size + 1, 3, none⟩ = false := by simp [World.frozen?, hfr8]
    clear hfr7 hres7 hb8 hk17
    go_upto_region 25 with fail
    have hfr9 := heap_setCell_same w8 (w.heap.size + 1) 3 _ _ (.slice (some ⟨g2, 0, none⟩) x2 x2) hfr8
    have hres9 := (heap_setCell_other w8 ⟨w.heap.size + 1, 3, none⟩ w.heap.size (.slice (some ⟨g2, 0, none⟩) x2 x2) (by show w.heap.size ≠ w.heap.size + 1; omega)).trans hres8
    have hk19 : Blk (w8.setCell ⟨w.heap.size + 1, 3, none⟩ (.slice (some ⟨g2, 0, none⟩) x2 x2)) g1 _ _ := hk18.of_block (heap_setCell_other w8 _ _ _ (by show g1 ≠ w.heap.size + 1; omega))
    have hk29 : Blk (w8.setCell ⟨w.heap.size + 1, 3, none⟩ (.slice (some ⟨g2, 0, none⟩) x2 x2)) g2 _ _ := hk2.of_block (heap_setCell_other w8 _ _ _ (by show g2 ≠ w.heap.size + 1; omega))
    have hB9 : Below w.heap.size w (w8.setCell ⟨w.heap.size + 1, 3, none⟩ (.slice (some ⟨g2, 0, none⟩) x2 x2)) := hB8.setCell (by show w.heap.size ≤ w.heap.size + 1; omega) _
    simp only [List.setIfInBounds_toArray, List.set] at hfr9
    generalize (w8.setCell ⟨w.heap.size + 1, 3, none⟩ (.slice (some ⟨g2, 0, none⟩) x2 x2)) = w9 at *
    clear p2 p2' hfr8 hres8 hk18 hB8 hk2
    have d0 : w9.cell? ⟨w.heap.size + 1, 0, none⟩ = some (.int .i64 1) := by simp [World.cell?, hfr9]
    have d1 : w9.cell? ⟨w.heap.size + 1, 1, none⟩ = some (.int .i64 0) := by simp [World.cell?, hfr9]
    have d2 : w9.cell? ⟨w.heap.size + 1, 2, none⟩ = some (.slice (some ⟨g1, 0, none⟩) x1 x1) := by simp [World.cell?, hfr9]
    have d3 : w9.cell? ⟨w.heap.size + 1, 3, none⟩ = some (.slice (some ⟨g2, 0, none⟩) x2 x2) := by simp [World.cell?, hfr9]
    go_wp2_with (refine wpList_store_row rfl 24 (.tmp 6) _ rfl w.heap.size _ rfl rfl 24 _ hres9 (by as_aux_lemma => kernel_rfl) (by as_aux_lemma => kernel_rfl) (by as_aux_lemma => kernel_rfl) ?_)
    have hBX := below_setRow hB9 (Nat.le_refl _) #[.int .i64 1, .int .i64 0, .slice (some ⟨g1, 0, none⟩) x1 x1, .slice (some ⟨g2, 0, none⟩) x2 x2]
    have hh := setRow_heap w9 w.heap.size _ #[.int .i64 1, .int .i64 0, .slice (some ⟨g1, 0, none⟩) x1 x1, .slice (some ⟨g2, 0, none⟩) x2 x2] _ _ hres9
    have hk1X := hk19.of_block (setRow_other w9 w.heap.size g1 #[.int .i64 1, .int .i64 0, .slice (some ⟨g1, 0, none⟩) x1 x1, .slice (some ⟨g2, 0, none⟩) x2 x2] (by omega))
    have hk2X := hk29.of_block (setRow_other w9 w.heap.size g2 #[.int .i64 1, .int .i64 0, .slice (some ⟨g1, 0, none⟩) x1 x1, .slice (some ⟨g2, 0, none⟩) x2 x2] (by omega))
    generalize (w9.setRow w.heap.size #[.int .i64 1, .int .i64 0, .slice (some ⟨g1, 0, none⟩) x1 x1, .slice (some ⟨g2, 0, none⟩) x2 x2]) = wX at *
    have y0 : wX.cell? ⟨w.heap.size, 0, none⟩ = some (.int .i64 1) := by simp [World.cell?, hh]
    have y1 : wX.cell? ⟨w.heap.size, 1, none⟩ = some (.int .i64 0) := by simp [World.cell?, hh]
    have y2 : wX.cell? ⟨w.heap.size, 2, none⟩ = some (.slice (some ⟨g1, 0, none⟩) x1 x1) := by simp [World.cell?, hh]
    have y3 : wX.cell? ⟨w.heap.size, 3, none⟩ = some (.slice (some ⟨g2, 0, none⟩) x2 x2) := by simp [World.cell?, hh]
    refine bodyPost_ret (by simp [results, Try.results18, go_sem, y0, y1, y2, y3]; try rfl) rfl ?_
    have hx1 := HX1.out
    have hx2 := HX2.out
    have hLL := HLL.out
    rw [HF.out, HO.out]
    rw [HX1.out, HX2.out]
    refine ⟨_, _, _, _, _, _, rfl, hBX, hk1X.own (by omega) (by rw [List.length_take, List.length_drop]; omega) (by unfold maxLen; omega), hk2X.own (by omega) (by rw [List.length_take, List.length_drop]; omega) (by unfold maxLen; omega), .inr (.inr ?_)⟩
    show some g1 ≠ some g2
    intro he
    simp only [Option.some.injEq] at he
    omega

theorem open_any (w : World) (a : Option Addr) (n c : Nat) (l : List UInt8) (at_ most : Int) (h : BytesIn w a n c l) (hz : n ≤ 140737488355328) :
    Calls Try.prog 18 #[.slice a n c, .int .i64 at_, .int .i64 most] w (OpenPost w (openR l at_ most)) := by
  by_cases hb : at_ < 0 ∨ (n : Int) < at_ ∨ most < 512 ∨ 1048576 < most
  · refine (open_arg w a n c l at_ most h hz hb).mono fun e w' hh => ?_
    unfold openR
    rw [if_pos (by rw [h.len]; exact hb)]
    exact .err hh.2 hh.1
  · obtain ⟨A, rfl⟩ := Int.eq_ofNat_of_zero_le (show 0 ≤ at_ by omega)
    obtain ⟨M, rfl⟩ := Int.eq_ofNat_of_zero_le (show 0 ≤ most by omega)
    exact open_in w a n c l A M h hz (by omega) (by omega) (by omega)
end Go.Proofs.Ytofdpccjpodbhaa
