/-
  The contract of longshoreref05.Open at any bytes. Conditions: the bytes lie in memory and are not past 2^47 bytes.
-/
import Derived.Test.YtofdpccjpodbhaaMg09
import Derived.Test.YtofdpccjpodbhaaOpen2
import Derived.Test.YtofdpccjpodbhaaMg03
import Derived.Deep.DeepCutAuto
import Derived.Deep.RegionLaw
import Derived.StillTailTactics
namespace Go.Proofs.Ytofdpccjpodbhaa
open Go.RowKit
set_option linter.unusedVariables false

theorem wp_append_bytes {P : Program} {w : World} {o : Oper} {a : Act} {K : Act → World → Prop} {Q : Exit → Act → World → Prop} (s x : Operand) (t : TypeId) (ho : o.op = .call { callee := .builtin .append, args := #[s, x], argTypes := #[t, t] })
    (B e : Nat) (ht : P.underlying t = some (.slice e)) (hinfo : (P.info? e).map (fun i => (i.zero, i.size, i.bytes)) = some (some (.int .u8 0), 1, 1))
    (v : Value) (l r : List UInt8) (xa : Option Addr) (n c : Nat)
    (hs : a.eval s = v) (hx : a.eval x = .slice xa n c) (hown : OwnBytes w B e v l) (hr : BytesIn w xa n c r)
    (hlen : l.length + n ≤ 140737488355328) (hbase : B ≤ w.heap.size)
    (h : ∀ v' w', OwnBytes w' B e v' (l ++ r) → w.grownBy w' v.ownBlock → K (a.put o.dst v') w') :
    o.wp P a w K Q := by
  obtain ⟨v', w', h1, h2, h3⟩ := run_append_bytes (P := P) w B t o.type e ht hinfo v l r xa n c hown hr hlen hbase
  unfold Oper.wp
  simp only [execOp, ho, resolve, invoke, builtin, Sem.run_bind, Sem.run_pure, Result.andThen_ok, List.map_toArray, List.map_cons, List.map_nil, hs, hx, h1]
  exact h v' w' h2 h3

theorem step_append_bytes {P : Program} {w : World} {ops : Array Oper} {o : Oper} {a : Act} {K : Act → World → Prop} {Q : Exit → Act → World → Prop} {E : Prop} (hgd : o.guard = none) (s x : Operand) (t : TypeId) (ho : o.op = .call { callee := .builtin .append, args := #[s, x], argTypes := #[t, t] })
    (B e : Nat) (ht : P.underlying t = some (.slice e)) (hinfo : (P.info? e).map (fun i => (i.zero, i.size, i.bytes)) = some (some (.int .u8 0), 1, 1))
    (v : Value) (l r : List UInt8) (xa : Option Addr) (n c : Nat)
    (hs : a.eval s = v) (hx : a.eval x = .slice xa n c) (hown : OwnBytes w B e v l) (hr : BytesIn w xa n c r)
    (hlen : l.length + n ≤ 140737488355328) (hbase : B ≤ w.heap.size)
    (h : ∀ v' w', OwnBytes w' B e v' (l ++ r) → w.grownBy w' v.ownBlock → K (a.put o.dst v') w') :
    if Region.wanted o (yielded ops a.tmps) = true then Oper.wp P o a w K Q else E := by
  have hw : Region.wanted o (yielded ops a.tmps) = true := by simp [Region.wanted, hgd]
  rw [if_pos hw]
  exact wp_append_bytes s x t ho B e ht hinfo v l r xa n c hs hx hown hr hlen hbase h

/-- a frame as it comes out, its place, its error -/
def ROpenPost (w : World) (r : Nat × Nat × List UInt8 × List UInt8 × Int × Int) (e : Ending) (w' : World) : Prop :=
  ∃ ea ne ce ba nb cb, e = .returned (.tuple #[.agg #[.int .i64 r.1, .int .i64 r.2.1, .slice ea ne ce, .slice ba nb cb], .int .i64 r.2.2.2.2.1, .int .i64 r.2.2.2.2.2]) ∧ Below w.heap.size w w' ∧
    BytesIn w' ea ne ce r.2.2.1 ∧ BytesIn w' ba nb cb r.2.2.2.1

theorem BytesIn.cut2 {w : World} {b o n c : Nat} {l : List UInt8} (h : BytesIn w (some ⟨b, o, none⟩) n c l) (A k : Nat) (h1 : A + k ≤ n) :
    BytesIn w (if c = A then some ⟨b, o, none⟩ else some ⟨b, o + A, none⟩) k (c - A) ((l.drop A).take k) := by
  have hle := h.le
  have := h.cut A k (c - A) h1 (by omega) (by omega) (c = A) (by omega)
  rcases Nat.eq_zero_or_pos A with h0 | h0
  · subst h0; simpa [Addr.add] using this
  · have hA : A ≠ 0 := by omega
    simpa [Addr.add, hA] using this

theorem OwnBytes.aside {w : World} {B T b j : Nat} {v u : Value} {l : List UInt8} (h : OwnBytes w B T v l) (hb : b < B) : OwnBytes (w.setCell ⟨b, j, none⟩ u) B T v l := by
  refine h.kept (setCell_grown w b j u) ?_
  cases hv : v.ownBlock with
  | none => exact .inl rfl
  | some g =>
    refine .inr (fun he => ?_)
    simp only [Option.some.injEq] at he
    have := (h.row.lt g hv).1
    omega

theorem OwnBytes.off {w : World} {B T b : Nat} {v : Value} {l : List UInt8} (h : OwnBytes w B T v l) (hb : b < B) : v.ownBlock = none ∨ v.ownBlock ≠ some b := by
  cases hv : v.ownBlock with
  | none => exact .inl rfl
  | some g =>
    refine .inr (fun he => ?_)
    simp only [Option.some.injEq] at he
    have := (h.row.lt g hv).1
    omega

theorem setRow_grown (w : World) (b : Nat) (cs : Array Value) : w.grownBy (w.setRow b cs) (some b) :=
  ⟨rfl, rfl, rfl, by simp [World.setRow], fun k hk hne => setRow_other w b k _ (fun e => hne (by rw [e]))⟩

theorem OwnBytes.lower {w : World} {B B' T : Nat} {v : Value} {l : List UInt8} (h : OwnBytes w B T v l) (hb : B' ≤ B) : OwnBytes w B' T v l := by
  refine ⟨⟨h.row.1, ?_⟩⟩
  rcases h.row.2 with h2 | ⟨g, cap, cur, e1, hg, r⟩
  · exact .inl h2
  · exact .inr ⟨g, cap, cur, e1, Nat.le_trans hb hg, r⟩

theorem ropen_arg (w : World) (a : Option Addr) (n c : Nat) (l : List UInt8) (at_ most : Int) (h : BytesIn w a n c l) (hz : n ≤ 140737488355328) (hb : at_ < 0 ∨ (n : Int) < at_ ∨ most < 512 ∨ 1048576 < most) :
    Calls Try.prog 19 #[.slice a n c, .int .i64 at_, .int .i64 most] w fun e w' => e = .returned (.tuple #[.agg #[.int .i64 0, .int .i64 0, .slice none 0 0, .slice none 0 0], .int .i64 0, .int .i64 1]) ∧ Below w.heap.size w w' := by
  have hcase : at_ < 0 ∨ (¬ at_ < 0 ∧ (n : Int) < at_) ∨ (¬ at_ < 0 ∧ ¬ (n : Int) < at_ ∧ most < 512) ∨ (¬ at_ < 0 ∧ ¬ (n : Int) < at_ ∧ ¬ most < 512 ∧ 1048576 < most) := by omega
  clear hb
  go_enter Try.func19, Try.ntmps19
  rcases hcase with h1 | ⟨h1, h2⟩ | ⟨h1, h2, h3⟩ | ⟨h1, h2, h3, h4⟩ <;>
  · go_wp2_with fail
    go_returns
    exact ⟨rfl, (Below.refl _ _).alloc (Nat.le_refl _) _⟩

set_option maxHeartbeats 4000000 in
set_option maxRecDepth 20000 in
theorem ropen_in (w : World) (a : Option Addr) (n c : Nat) (l : List UInt8) (A : Nat) (M : Nat) (h : BytesIn w a n c l) (hz : n ≤ 140737488355328) (hA : A ≤ n) (hM : 512 ≤ M) (hM2 : M ≤ 1048576) :
    Calls Try.prog 19 #[.slice a n c, .int .i64 A, .int .i64 M] w (OpenPost w (openR l A M)) := by
  have hle := h.le
  have hcap := h.cap
  have hlen := h.len
  unfold maxLen at hcap
  obtain ⟨L, hL⟩ : ∃ L, l.drop A = L := ⟨_, rfl⟩
  obtain ⟨k, hk⟩ : ∃ k, n - A = k := ⟨_, rfl⟩
  have hLl : L.length = k := by rw [← hL, List.length_drop]; omega
  have hO : openR l A M = (if k < 4 then (0, 0, [], [], 0, 10)
    else
      let size := beVal (L.take 4)
      if size < 8 ∨ (M : Int) < size then (0, 0, [], [], 0, 51)
      else if k < 5 then (0, 0, [], [], 0, 10)
      else
        let off := 4 * (L.getD 4 0).toNat
        if off < 8 ∨ size < off then (0, 0, [], [], 0, 52)
        else if k < 6 then (0, 0, [], [], 0, 10)
        else
          let kind := (L.getD 5 0).toNat
          if 1 < kind then (0, 0, [], [], 0, 53)
          else if k < size then (0, 0, [], [], 0, 10)
          else (kind, if kind = 0 then beVal ((L.drop 6).take 2) else 0, (L.drop 8).take (off - 8), (L.drop off).take (size - off), (A : Int) + size, 0)) := by
    unfold openR
    rw [if_neg (by omega), Int.toNat_natCast, hL]
    simp only [hLl]
  have HO := Lib.hid hO
  have HL := Lib.hid hL
  have HLL := Lib.hid hLl
  have HK := Lib.hid hk
  have HLEN := Lib.hid hlen
  have hB : Below w.heap.size w (w.alloc (.cells #[.int .i64 0, .int .i64 0, .slice none 0 0, .slice none 0 0] 24)) := (Below.refl _ _).alloc (Nat.le_refl _) _
  have m1 : (512 : Int) ≤ (M : Int) := by omega
  have m2 : (M : Int) ≤ 1048576 := by omega
  have m3 : ¬ n < A := by omega
  clear hO hL hLl hk hlen
  go_enter Try.func19, Try.ntmps19
  go_upto_region 4 with fail
  have hnk : (n : Int) - (A : Int) = (k : Int) := by have := HK.out; omega
  rw [hnk]
  have HNK := Lib.hid hnk
  clear hnk
  have hkn : k ≤ 140737488355328 := by have := HK.out; omega
  by_cases k4 : k < 4
  · have hfin : openR l A M = (0, 0, [], [], 0, 10) := by rw [HO.out, if_pos k4]
    have HF := Lib.hid hfin
    have k4' : (k : Int) < 4 := by omega
    clear hfin HO
    go_wp2_with fail
    go_returns
    rw [HF.out]
    exact .err hB rfl
  have hr := h.below hB
  have hn4 := rnumber_ok _ _ _ _ _ hr hz A 4 (by decide) (by decide) (by have := HK.out; omega)
  rw [HL.out] at hn4
  obtain ⟨b, o, rfl, hbw, hcc⟩ := h.at_ (by have := HK.out; omega)
  have HCC := Lib.hid hcc
  obtain ⟨S, hS⟩ : ∃ S, beVal (L.take 4) = S := ⟨_, rfl⟩
  rw [hS] at hn4
  have HS := Lib.hid hS
  have hSl : S < 4294967296 := by
    have h0 := beVal_lt (L.take 4)
    have h2 : 256 ^ (L.take 4).length ≤ 256 ^ 4 := Nat.pow_le_pow_right (by omega) (by rw [List.length_take]; omega)
    omega
  have hkk : ¬ (k : Int) < 4 := by omega
  clear hS hcc
  go_upto_region 6 with fail
  go_wp2_with fail
  refine hn4.mono ?_
  rintro e w1 ⟨rfl, rfl⟩
  by_cases s1 : S < 8 ∨ M < S
  · have hfin : openR l A M = (0, 0, [], [], 0, 51) := by
      rw [HO.out, if_neg k4, HS.out]
      exact if_pos (by omega)
    have HF := Lib.hid hfin
    have hc : (S : Int) < 8 ∨ (¬ (S : Int) < 8 ∧ (M : Int) < (S : Int)) := by omega
    clear hfin HO hn4 s1
    rcases hc with h1 | ⟨h1, h2⟩ <;>
    · go_wp2_with fail
      go_returns
      rw [HF.out]
      exact .err hB rfl
  have s2 : ¬ (S : Int) < 8 := by omega
  have s3 : ¬ (M : Int) < (S : Int) := by omega
  clear hn4
  by_cases k5 : k < 5
  · have hfin : openR l A M = (0, 0, [], [], 0, 10) := by
      rw [HO.out, if_neg k4, HS.out]
      exact (if_neg (by omega)).trans (if_pos k5)
    have HF := Lib.hid hfin
    have k5' : (k : Int) < 5 := by omega
    clear hfin HO s1
    go_wp2_with fail
    go_returns
    rw [HF.out]
    exact .err hB rfl
  have k5' : ¬ (k : Int) < 5 := by omega
  obtain ⟨y, hy⟩ : ∃ y, L.getD 4 0 = y := ⟨_, rfl⟩
  have hc4 := (hB.cell (p := ⟨b, o + (A + 4), none⟩) hbw).trans (HCC.out (A + 4) (by have := HK.out; omega))
  have e1 : l.getD (A + 4) 0 = y := by
    rw [← hy, ← HL.out]
    simp [List.getD_eq_getElem?_getD, List.getElem?_drop]
  rw [e1] at hc4
  have hyl := y.toNat_lt
  have HY := Lib.hid hy
  have hA4 : A + 4 < n := by have := HK.out; omega
  obtain ⟨q, hq⟩ : ∃ q, y.toNat = q := ⟨_, rfl⟩
  rw [hq] at hyl hc4
  have HQ := Lib.hid hq
  clear hy e1 hq
  go_upto_region 12 with fail
  clear hc4
  by_cases o1 : 4 * q < 8 ∨ S < 4 * q
  · have hfin : openR l A M = (0, 0, [], [], 0, 52) := by
      rw [HO.out, if_neg k4, HS.out, HY.out, HQ.out]
      exact (if_neg (by omega)).trans ((if_neg k5).trans (if_pos o1))
    have HF := Lib.hid hfin
    have hc : 4 * (q : Int) < 8 ∨ (¬ 4 * (q : Int) < 8 ∧ (S : Int) < 4 * (q : Int)) := by omega
    clear hfin HO o1 s1
    rcases hc with h1 | ⟨h1, h2⟩ <;>
    · go_wp2_with fail
      go_returns
      rw [HF.out]
      exact .err hB rfl
  have o2 : ¬ 4 * (q : Int) < 8 := by omega
  have o3 : ¬ (S : Int) < 4 * (q : Int) := by omega
  by_cases k6 : k < 6
  · have hfin : openR l A M = (0, 0, [], [], 0, 10) := by
      rw [HO.out, if_neg k4, HS.out, HY.out, HQ.out]
      exact (if_neg (by omega)).trans ((if_neg k5).trans ((if_neg o1).trans (if_pos k6)))
    have HF := Lib.hid hfin
    have k6' : (k : Int) < 6 := by omega
    clear hfin HO o1 s1
    go_wp2_with fail
    go_returns
    rw [HF.out]
    exact .err hB rfl
  have k6' : ¬ (k : Int) < 6 := by omega
  obtain ⟨z, hz2⟩ : ∃ z, L.getD 5 0 = z := ⟨_, rfl⟩
  have hc5 := (hB.cell (p := ⟨b, o + (A + 5), none⟩) hbw).trans (HCC.out (A + 5) (by have := HK.out; omega))
  have e1 : l.getD (A + 5) 0 = z := by
    rw [← hz2, ← HL.out]
    simp [List.getD_eq_getElem?_getD, List.getElem?_drop]
  rw [e1] at hc5
  have hzl := z.toNat_lt
  have HZ := Lib.hid hz2
  have hA5 : A + 5 < n := by have := HK.out; omega
  obtain ⟨t, ht⟩ : ∃ t, z.toNat = t := ⟨_, rfl⟩
  rw [ht] at hzl hc5
  have HT := Lib.hid ht
  clear hz2 e1 ht
  go_upto_region 17 with fail
  clear hc5
  by_cases t1 : 1 < t
  · have hfin : openR l A M = (0, 0, [], [], 0, 53) := by
      rw [HO.out, if_neg k4, HS.out, HY.out, HQ.out, HZ.out, HT.out]
      exact (if_neg (by omega)).trans ((if_neg k5).trans ((if_neg o1).trans ((if_neg k6).trans (if_pos t1))))
    have HF := Lib.hid hfin
    have t1' : 1 < (t : Int) := by omega
    clear hfin HO o1 s1
    go_wp2_with fail
    go_returns
    rw [HF.out]
    exact .err hB rfl
  have t1' : ¬ 1 < (t : Int) := by omega
  by_cases k7 : k < S
  · have hfin : openR l A M = (0, 0, [], [], 0, 10) := by
      rw [HO.out, if_neg k4, HS.out, HY.out, HQ.out, HZ.out, HT.out]
      exact (if_neg (by omega)).trans ((if_neg k5).trans ((if_neg o1).trans ((if_neg k6).trans ((if_neg t1).trans (if_pos k7)))))
    have HF := Lib.hid hfin
    have k7' : (k : Int) < (S : Int) := by omega
    clear hfin HO o1 s1
    go_wp2_with fail
    go_returns
    rw [HF.out]
    exact .err hB rfl
  have k7' : ¬ (k : Int) < (S : Int) := by omega
  obtain ⟨C, hC⟩ : ∃ C, (if t = 0 then beVal ((L.drop 6).take 2) else 0) = C := ⟨_, rfl⟩
  have hfin : openR l A M = (t, C, (L.drop 8).take (4 * q - 8), (L.drop (4 * q)).take (S - 4 * q), (A : Int) + S, 0) := by
    rw [HO.out, if_neg k4, HS.out, HY.out, HQ.out, HZ.out, HT.out, ← hC]
    exact (if_neg (by omega)).trans ((if_neg k5).trans ((if_neg o1).trans ((if_neg k6).trans ((if_neg t1).trans (if_neg k7)))))
  have HF := Lib.hid hfin
  have hk8 : 4 * q ≤ S := by omega
  have hk9 : 8 ≤ 4 * q := by omega
  have hk10 : S ≤ k := by omega
  clear hfin HO o1 s1 k4 k5 k6 k7
  have hB2 : Below w.heap.size w ((w.alloc (.cells #[.int .i64 0, .int .i64 0, .slice none 0 0, .slice none 0 0] 24)).alloc (.cells #[.int .i64 t, .int .i64 0, .slice none 0 0, .slice none 0 0] 24)) := hB.alloc (by simp) _
  go_upto_if 86 with fail
  have hres : ((w.alloc (.cells #[.int .i64 0, .int .i64 0, .slice none 0 0, .slice none 0 0] 24)).alloc (.cells #[.int .i64 t, .int .i64 0, .slice none 0 0, .slice none 0 0] 24)).heap[w.heap.size]? = some (.cells #[.int .i64 0, .int .i64 0, .slice none 0 0, .slice none 0 0] 24 (0, 0)) := by
    exact (heap_alloc_old _ _ (by simp)).trans (heap_alloc_new _ _)
  have hfr : ((w.alloc (.cells #[.int .i64 0, .int .i64 0, .slice none 0 0, .slice none 0 0] 24)).alloc (.cells #[.int .i64 t, .int .i64 0, .slice none 0 0, .slice none 0 0] 24)).heap[w.heap.size + 1]? = some (.cells #[.int .i64 t, .int .i64 0, .slice none 0 0, .slice none 0 0] 24 (0, 0)) := by
    have := heap_alloc_new (w.alloc (.cells #[.int .i64 0, .int .i64 0, .slice none 0 0, .slice none 0 0] 24)) (.cells #[.int .i64 t, .int .i64 0, .slice none 0 0, .slice none 0 0] 24)
    simpa using this
  generalize ((w.alloc (.cells #[.int .i64 0, .int .i64 0, .slice none 0 0, .slice none 0 0] 24)).alloc (.cells #[.int .i64 t, .int .i64 0, .slice none 0 0, .slice none 0 0] 24)) = w2 at *
  have hr2 := h.below hB2
  go_cut [12] (fun s12 wx => s12 = .int .i64 t ∧ Below w.heap.size w wx ∧ wx.heap[w.heap.size]? = some (.cells #[.int .i64 0, .int .i64 0, .slice none 0 0, .slice none 0 0] 24 (0, 0)) ∧ wx.heap[w.heap.size + 1]? = some (.cells #[.int .i64 t, .int .i64 C, .slice none 0 0, .slice none 0 0] 24 (0, 0)))
  case first =>
    have f1 : w2.frozen? ⟨w.heap.size + 1, 1, none⟩ = false := by simp [World.frozen?, hfr]
    have c1 : w2.cell? ⟨w.heap.size + 1, 1, none⟩ = some (.int .i64 0) := by simp [World.cell?, hfr]
    by_cases t0 : t = 0
    · subst t0
      have hn6 := rnumber_ok w2 _ _ _ _ hr2 hz (A + 6) 2 (by decide) (by decide) (by have := HK.out; omega)
      rw [if_pos rfl] at hC
      have e6 : (l.drop (A + 6)) = L.drop 6 := by rw [← HL.out, List.drop_drop]
      rw [e6, hC] at hn6
      have hA6 : ((A + 6 : Nat) : Int) = (A : Int) + 6 := by omega
      rw [hA6] at hn6
      clear hC e6 hA6
      go_wp2_with fail
      refine hn6.mono ?_
      rintro e w3 ⟨rfl, rfl⟩
      clear hn6
      go_wp2_with fail
      go_meet
      case rel =>
        have hfr5 := heap_setCell_same w2 (w.heap.size + 1) 1 _ _ (.int .i64 C) hfr
        have hres5 := (heap_setCell_other w2 ⟨w.heap.size + 1, 1, none⟩ w.heap.size (.int .i64 C) (by show w.heap.size ≠ w.heap.size + 1; omega)).trans hres
        exact ⟨rfl, hB2.setCell (by show w.heap.size ≤ w.heap.size + 1; omega) _, hres5, hfr5⟩
    · have t2 : ¬ (t : Int) = 0 := by omega
      rw [if_neg t0] at hC
      subst hC
      go_wp2_with fail
      go_meet
      case rel => exact ⟨rfl, hB2, hres, hfr⟩
  case rest =>
    obtain ⟨rfl, hB5, hres5, hfr5⟩ := hcut
    clear hres hfr hr2 hB2 hr hB hC t1 t1' HCC s2 s3 o2 k6' k7' hkk k5' m1 m2 m3
    obtain ⟨f, hf⟩ : ∃ f, 4 * q = f := ⟨_, rfl⟩
    have hf' : 4 * (q : Int) = (f : Int) := by omega
    rw [hf] at hk8 hk9
    rw [hf'] at o3 ⊢
    have hFF := Lib.hid hf
    obtain ⟨i1, hi1⟩ : ∃ i, A + 8 = i := ⟨_, rfl⟩
    obtain ⟨i2, hi2⟩ : ∃ i, A + f = i := ⟨_, rfl⟩
    obtain ⟨i3, hi3⟩ : ∃ i, A + S = i := ⟨_, rfl⟩
    have hkA := HK.out
    have W1 : IntKind.i64.wrap ((A : Int) + 8) = (i1 : Int) := by
      have : (A : Int) + 8 = (i1 : Int) := by omega
      rw [this]; unfold IntKind.wrap; simp [IntKind.signed, IntKind.bits]; omega
    have W2 : IntKind.i64.wrap ((A : Int) + (f : Int)) = (i2 : Int) := by
      have : (A : Int) + (f : Int) = (i2 : Int) := by omega
      rw [this]; unfold IntKind.wrap; simp [IntKind.signed, IntKind.bits]; omega
    have W3 : IntKind.i64.wrap ((A : Int) + (S : Int)) = (i3 : Int) := by
      have : (A : Int) + (S : Int) = (i3 : Int) := by omega
      rw [this]; unfold IntKind.wrap; simp [IntKind.signed, IntKind.bits]; omega
    have b1 : i1 ≤ i2 := by omega
    have b2 : i2 ≤ i3 := by omega
    have b3 : i3 ≤ n := by omega
    have b4 : i2 ≤ c := by omega
    have b5 : i3 ≤ c := by omega
    have c1 : (i1 : Int) ≤ (i2 : Int) := by omega
    have c2 : (i2 : Int) ≤ (i3 : Int) := by omega
    have c3 : (i3 : Int) ≤ (n : Int) := by omega
    have c4 : (i2 : Int) ≤ (c : Int) := by omega
    have c5 : (i3 : Int) ≤ (c : Int) := by omega
    have I1 := Lib.hid hi1
    have I2 := Lib.hid hi2
    have I3 := Lib.hid hi3
    clear hi1 hi2 hi3 hkA hf hf' hk8 hk9 hk10 hA4 hA5 hyl hSl o3
    have p2 : wc.cell? ⟨w.heap.size + 1, 2, none⟩ = some (.slice none 0 0) := by simp [World.cell?, hfr5]
    have p2' : wc.frozen? ⟨w.heap.size + 1, 2, none⟩ = false := by simp [World.frozen?, hfr5]
    go_upto_region 24 with fail
    go_still_tail 9, (by kernel_rfl)
    change wpList _ _ _ _ _ wc.drew
    have hBd : Below w.heap.size w wc.drew := ⟨hB5.os, hB5.tape, hB5.output, hB5.size, hB5.block⟩
    have hsz : wc.drew.heap.size = wc.heap.size := rfl
    have hfr6 : wc.drew.heap[w.heap.size + 1]? = _ := hfr5
    have hres6 : wc.drew.heap[w.heap.size]? = _ := hres5
    generalize wc.drew = wd at *
    clear p2 p2' hfr5 hres5 hB5
    have s6 : w.heap.size + 2 ≤ wd.heap.size := by have := (Array.getElem?_eq_some_iff.1 hfr6).1; omega
    have hsl1 := (h.below hBd).cut2 i1 (i2 - i1) (by omega)
    obtain ⟨ra1, hra1⟩ : ∃ ra, (if c = i1 then some (⟨b, o, none⟩ : Addr) else some ⟨b, o + i1, none⟩) = ra := ⟨_, rfl⟩
    rw [hra1] at hsl1 ⊢
    clear hra1
    refine wpList_append_bytes rfl (.tmp 93) (.tmp 100) 22 rfl (w.heap.size + 2) 5 Try.underlying22 info_u8 (.slice none 0 0) [] ((l.drop i1).take (i2 - i1)) _ _ _ rfl rfl (OwnBytes.nil _ _ _) hsl1 ?hlen s6 ?_
    case hlen => simp; omega
    intro v1 w7 ho7 hg7
    rw [List.nil_append] at ho7
    obtain ⟨x1, d1, rfl, _⟩ := ho7.bytes
    have hl1 : ((l.drop i1).take (i2 - i1)).length = i2 - i1 := by rw [List.length_take, List.length_drop, HLEN.out]; omega
    rw [hl1] at ho7 ⊢
    obtain ⟨e1, he1⟩ : ∃ e, i2 - i1 = e := ⟨_, rfl⟩
    rw [he1] at ho7 ⊢
    have hs7 := hg7.size
    have hB7 : Below w.heap.size w w7 := hBd.trans ⟨hg7.os, hg7.tape, hg7.output, by omega, fun k hk => hg7.block k (by omega) (by simp [Value.ownBlock])⟩
    have hfr7 := (hg7.block (w.heap.size + 1) (by omega) (by simp [Value.ownBlock])).trans hfr6
    have hres7 := (hg7.block w.heap.size (by omega) (by simp [Value.ownBlock])).trans hres6
    have p2 : w7.cell? ⟨w.heap.size + 1, 2, none⟩ = some (.slice none 0 0) := by simp [World.cell?, hfr7]
    have p2' : w7.frozen? ⟨w.heap.size + 1, 2, none⟩ = false := by simp [World.frozen?, hfr7]
    have E1 := Lib.hid he1
    clear hsl1 hg7 hBd hfr6 hres6 he1 hl1
    go_upto_region 25 with fail
    have hfr8 := heap_setCell_same w7 (w.heap.size + 1) 2 _ _ (.slice x1 e1 d1) hfr7
    have hres8 := (heap_setCell_other w7 ⟨w.heap.size + 1, 2, none⟩ w.heap.size (.slice x1 e1 d1) (by show w.heap.size ≠ w.heap.size + 1; omega)).trans hres7
    have hB8 : Below w.heap.size w (w7.setCell ⟨w.heap.size + 1, 2, none⟩ (.slice x1 e1 d1)) := hB7.setCell (by show w.heap.size ≤ w.heap.size + 1; omega) _
    have ho8 : OwnBytes (w7.setCell ⟨w.heap.size + 1, 2, none⟩ (.slice x1 e1 d1)) _ _ _ _ := ho7.aside (by omega)
    simp only [List.setIfInBounds_toArray, List.set] at hfr8
    generalize (w7.setCell ⟨w.heap.size + 1, 2, none⟩ (.slice x1 e1 d1)) = w8 at *
    have p3 : w8.cell? ⟨w.heap.size + 1, 3, none⟩ = some (.slice none 0 0) := by simp [World.cell?, hfr8]
    have p3' : w8.frozen? ⟨w.heap.size + 1, 3, none⟩ = false := by simp [World.frozen?, hfr8]
    clear p2 p2' hfr7 hres7 hB7 ho7 hs7 s6 hsz
    have s8 : w.heap.size + 2 ≤ w8.heap.size := by have := (Array.getElem?_eq_some_iff.1 hfr8).1; omega
    go_still_tail 10, (by kernel_rfl)
    change wpList _ _ _ _ _ w8.drew
    have hBd : Below w.heap.size w w8.drew := ⟨hB8.os, hB8.tape, hB8.output, hB8.size, hB8.block⟩
    have hsz : w8.drew.heap.size = w8.heap.size := rfl
    have hfr9 : w8.drew.heap[w.heap.size + 1]? = _ := hfr8
    have hres9 : w8.drew.heap[w.heap.size]? = _ := hres8
    have ho9 : OwnBytes w8.drew _ _ _ _ := ho8.of_below ⟨rfl, rfl, rfl, Nat.le_refl _, fun _ _ => rfl⟩
    have HAP : Hid (∀ g, (Value.slice x1 e1 d1).ownBlock = some g → g < w8.drew.heap.size) := Lib.hid fun g hg => by
      rcases ho9.row.2 with ⟨hz, _⟩ | ⟨g', cap, cur, hz, _, hh, _⟩
      · rw [hz] at hg; simp [Value.ownBlock] at hg
      · rw [hz] at hg
        simp only [Value.ownBlock, Option.some.injEq] at hg
        subst hg
        exact (Array.getElem?_eq_some_iff.1 hh).1
    have hws9 : w.heap.size ≤ w8.drew.heap.size := hBd.size
    generalize w8.drew = we at *
    clear p3 p3' hfr8 hres8 hB8 ho8
    have hsl2 := (h.below hBd).cut2 i2 (i3 - i2) (by omega)
    obtain ⟨ra2, hra2⟩ : ∃ ra, (if c = i2 then some (⟨b, o, none⟩ : Addr) else some ⟨b, o + i2, none⟩) = ra := ⟨_, rfl⟩
    rw [hra2] at hsl2 ⊢
    clear hra2
    refine wpList_append_bytes rfl (.tmp 104) (.tmp 112) 22 rfl we.heap.size 5 Try.underlying22 info_u8 (.slice none 0 0) [] ((l.drop i2).take (i3 - i2)) _ _ _ rfl rfl (OwnBytes.nil _ _ _) hsl2 ?hlen2 (Nat.le_refl _) ?_
    case hlen2 => simp; omega
    intro v2 wf hof hgf
    rw [List.nil_append] at hof
    obtain ⟨x2, d2, rfl, _⟩ := hof.bytes
    have hl2 : ((l.drop i2).take (i3 - i2)).length = i3 - i2 := by rw [List.length_take, List.length_drop, HLEN.out]; omega
    rw [hl2] at hof ⊢
    obtain ⟨e2, he2⟩ : ∃ e, i3 - i2 = e := ⟨_, rfl⟩
    rw [he2] at hof ⊢
    have hsf := hgf.size
    have hBf : Below w.heap.size w wf := hBd.trans ⟨hgf.os, hgf.tape, hgf.output, by omega, fun k hk => hgf.block k (by omega) (by simp [Value.ownBlock])⟩
    have hfrf := (hgf.block (w.heap.size + 1) (by omega) (by simp [Value.ownBlock])).trans hfr9
    have hresf := (hgf.block w.heap.size (by omega) (by simp [Value.ownBlock])).trans hres9
    have hof1 := ho9.kept hgf (by
      cases hv : (Value.slice x1 e1 d1).ownBlock with
      | none => exact .inl rfl
      | some g => exact .inr (by simp [Value.ownBlock]))
    have p2 : wf.cell? ⟨w.heap.size + 1, 3, none⟩ = some (.slice none 0 0) := by simp [World.cell?, hfrf]
    have p2' : wf.frozen? ⟨w.heap.size + 1, 3, none⟩ = false := by simp [World.frozen?, hfrf]
    have E2 := Lib.hid he2
    clear hsl2 hgf hBd hfr9 hres9 he2 hl2 ho9
    go_upto_region 26 with fail
    have hfrg := heap_setCell_same wf (w.heap.size + 1) 3 _ _ (.slice x2 e2 d2) hfrf
    have hresg := (heap_setCell_other wf ⟨w.heap.size + 1, 3, none⟩ w.heap.size (.slice x2 e2 d2) (by show w.heap.size ≠ w.heap.size + 1; omega)).trans hresf
    have hBg : Below w.heap.size w (wf.setCell ⟨w.heap.size + 1, 3, none⟩ (.slice x2 e2 d2)) := hBf.setCell (by show w.heap.size ≤ w.heap.size + 1; omega) _
    have hog1 : OwnBytes (wf.setCell ⟨w.heap.size + 1, 3, none⟩ (.slice x2 e2 d2)) _ _ _ _ := hof1.aside (by omega)
    have hog2 : OwnBytes (wf.setCell ⟨w.heap.size + 1, 3, none⟩ (.slice x2 e2 d2)) _ _ _ _ := hof.aside (by omega)
    simp only [List.setIfInBounds_toArray, List.set] at hfrg
    generalize (wf.setCell ⟨w.heap.size + 1, 3, none⟩ (.slice x2 e2 d2)) = wg at *
    clear p2 p2' hfrf hresf hBf hof hof1
    have d0 : wg.cell? ⟨w.heap.size + 1, 0, none⟩ = some (.int .i64 t) := by simp [World.cell?, hfrg]
    have d1' : wg.cell? ⟨w.heap.size + 1, 1, none⟩ = some (.int .i64 C) := by simp [World.cell?, hfrg]
    have d2' : wg.cell? ⟨w.heap.size + 1, 2, none⟩ = some (.slice x1 e1 d1) := by simp [World.cell?, hfrg]
    have d3' : wg.cell? ⟨w.heap.size + 1, 3, none⟩ = some (.slice x2 e2 d2) := by simp [World.cell?, hfrg]
    go_wp2_with (refine wpList_store_row rfl 24 (.tmp 6) _ rfl w.heap.size _ rfl rfl 24 _ hresg (by as_aux_lemma => kernel_rfl) (by as_aux_lemma => kernel_rfl) (by as_aux_lemma => kernel_rfl) ?_)
    have hBX := below_setRow hBg (Nat.le_refl _) #[.int .i64 t, .int .i64 C, .slice x1 e1 d1, .slice x2 e2 d2]
    have hh := setRow_heap wg w.heap.size _ #[.int .i64 t, .int .i64 C, .slice x1 e1 d1, .slice x2 e2 d2] _ _ hresg
    have hx1 := hog1.kept (setRow_grown wg w.heap.size #[.int .i64 t, .int .i64 C, .slice x1 e1 d1, .slice x2 e2 d2]) (hog1.off (by omega))
    have hx2 := hog2.kept (setRow_grown wg w.heap.size #[.int .i64 t, .int .i64 C, .slice x1 e1 d1, .slice x2 e2 d2]) (hog2.off (by omega))
    generalize (wg.setRow w.heap.size #[.int .i64 t, .int .i64 C, .slice x1 e1 d1, .slice x2 e2 d2]) = wX at *
    have y0 : wX.cell? ⟨w.heap.size, 0, none⟩ = some (.int .i64 t) := by simp [World.cell?, hh]
    have y1 : wX.cell? ⟨w.heap.size, 1, none⟩ = some (.int .i64 C) := by simp [World.cell?, hh]
    have y2 : wX.cell? ⟨w.heap.size, 2, none⟩ = some (.slice x1 e1 d1) := by simp [World.cell?, hh]
    have y3 : wX.cell? ⟨w.heap.size, 3, none⟩ = some (.slice x2 e2 d2) := by simp [World.cell?, hh]
    have hi13 : (i3 : Int) = (A : Int) + (S : Int) := by have := I3.out; omega
    refine bodyPost_ret (by simp [results, Try.results19, go_sem, y0, y1, y2, y3]; try rfl) rfl ?_
    have g1 : (L.drop 8).take (4 * q - 8) = (l.drop i1).take e1 := by
      have e1 := E1.out
      have e2 := I1.out
      have e3 := I2.out
      rw [← HL.out, List.drop_drop, hFF.out, I1.out]
      congr 1
      omega
    have g2 : (L.drop (4 * q)).take (S - 4 * q) = (l.drop i2).take e2 := by
      have e1 := E2.out
      have e2 := I2.out
      have e3 := I3.out
      rw [← HL.out, hFF.out, List.drop_drop, I2.out]
      congr 1
      omega
    rw [HF.out, ← hi13, g1, g2]
    refine ⟨x1, e1, d1, x2, e2, d2, rfl, hBX, hx1.lower (by omega), hx2.lower (by omega), ?_⟩
    rcases hx2.row.2 with ⟨hz, _⟩ | ⟨g', cap, cur, hz, hgb, _⟩
    · rw [hz]; exact .inr (.inl rfl)
    · refine .inr (.inr fun hq => ?_)
      rw [hz] at hq
      have := HAP.out g' hq
      omega

theorem ropen2_any (w : World) (a : Option Addr) (n c : Nat) (l : List UInt8) (at_ most : Int) (h : BytesIn w a n c l) (hz : n ≤ 140737488355328) :
    Calls Try.prog 19 #[.slice a n c, .int .i64 at_, .int .i64 most] w (OpenPost w (openR l at_ most)) := by
  by_cases hb : at_ < 0 ∨ (n : Int) < at_ ∨ most < 512 ∨ 1048576 < most
  · refine (ropen_arg w a n c l at_ most h hz hb).mono fun e w' hh => ?_
    unfold openR
    rw [if_pos (by rw [h.len]; exact hb)]
    exact .err hh.2 hh.1
  · obtain ⟨A, rfl⟩ := Int.eq_ofNat_of_zero_le (show 0 ≤ at_ by omega)
    obtain ⟨M, rfl⟩ := Int.eq_ofNat_of_zero_le (show 0 ≤ most by omega)
    exact ropen_in w a n c l A M h hz (by omega) (by omega) (by omega)

theorem ropen_any (w : World) (a : Option Addr) (n c : Nat) (l : List UInt8) (at_ most : Int) (h : BytesIn w a n c l) (hz : n ≤ 140737488355328) :
    Calls Try.prog 19 #[.slice a n c, .int .i64 at_, .int .i64 most] w (ROpenPost w (openR l at_ most)) := by
  refine (ropen2_any w a n c l at_ most h hz).mono ?_
  rintro e w' ⟨ea, ne, ce, ba, nb, cb, he, hb, h1, h2, _⟩
  exact ⟨ea, ne, ce, ba, nb, cb, he, hb, h1.slice.2, h2.slice.2⟩
end Go.Proofs.Ytofdpccjpodbhaa
