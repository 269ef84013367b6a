/-
  The walk of OctetPuts, the contract of the reference's Put. Conditions: the decoder's tables stand; a uint64, an int is one.
-/
import Derived.Test.YtabemlpkajhglaaDoorBookO
import Derived.Test.YtabemlpkajhglaaDoorLive
import Derived.Test.YtabemlpkajhglaaDoorMem
namespace Go.Proofs.YtabemlpkajhglaaDoor
open Go.RowKit
set_option linter.unusedVariables false

/-- what Put answers, for every width -/
def putS (n : Nat) (wd : Int) : List UInt8 := if 1 ≤ wd ∧ wd ≤ 8 then putL n wd.toNat else []
theorem putS_len (n : Nat) (wd : Int) : (putS n wd).length ≤ 8 := by
  unfold putS
  split
  · rw [putL_length]; omega
  · simp

theorem own_of_row {w : World} {b T n B : Nat} {l : List UInt8} {f : Nat → Value} (h : w.rowIs b T n f) (hB : B ≤ b) (hl : l.length = n) (hn : n ≤ maxLen) (hf : ∀ i, i < n → f i = .int .u8 ((l.getD i 0).toNat : Int)) : OwnBytes w B T (.slice (some ⟨b, 0, none⟩) n n) l := by
  obtain ⟨c, h1, h2, h3⟩ := h
  refine ⟨⟨by simp, .inr ⟨b, n, c, by rw [hl], hB, h1, by omega, hn, by omega, ?_⟩⟩⟩
  apply List.ext_getElem
  · simp; omega
  · intro i hi1 hi2
    have hi : i < n := by simp at hi2; omega
    have := h3 i hi
    rw [hf i hi] at this
    rw [Array.getElem?_eq_getElem (by omega)] at this
    simp only [Option.some.injEq] at this
    simp only [List.getElem_take, Array.getElem_toList, List.getElem_map]
    rw [this]
    simp [byteV, List.getD_eq_getElem?_getD, hl, hi]

theorem put_all (n : Nat) (wd : Int) (w : World) (hn : n < 18446744073709551616) :
    Calls Tryd.prog 13 #[.int .u64 n, .int .i64 wd] w fun e w' => ∃ p k c, e = .returned (.slice p k c) ∧ Below w.heap.size w w' ∧ OwnBytes w' w.heap.size 5 (.slice p k c) (putS n wd) := by
  by_cases h : 1 ≤ wd ∧ wd ≤ 8
  · obtain ⟨k, rfl⟩ : ∃ k : Nat, wd = k := ⟨wd.toNat, by omega⟩
    refine (put_ok n k w (by omega) (by omega) hn).mono ?_
    rintro e w' ⟨rfl, hb, hr⟩
    refine ⟨_, _, _, rfl, hb, ?_⟩
    unfold putS
    rw [if_pos h, Int.toNat_natCast]
    exact own_of_row hr (Nat.le_refl _) (putL_length n k) (by unfold maxLen; omega) fun i hi => by rw [putL_getD n k i hi]
  · refine (put_arg n wd w (by omega)).mono ?_
    rintro e w' ⟨rfl, rfl⟩
    refine ⟨_, _, _, rfl, Below.refl _ _, ?_⟩
    unfold putS
    rw [if_neg h]
    exact OwnBytes.nil _ _ _

theorem putL_snoc (n wd k : Nat) (h : k < wd) : (putL n wd).take (k + 1) = (putL n wd).take k ++ [UInt8.ofNat (n / 256 ^ (wd - 1 - k) % 256)] := by
  rw [take_succ_getD _ _ (by rw [putL_length]; exact h)]
  congr 2
  simp [putL, List.getD_eq_getElem?_getD, h, byteAt]

set_option maxHeartbeats 1000000 in
theorem refPut_all (n : Nat) (wd : Int) (w : World) (hn : n < 18446744073709551616) :
    Calls Tryd.prog 14 #[.int .u64 n, .int .i64 wd] w fun e w' => ∃ p k c, e = .returned (.slice p k c) ∧ Below w.heap.size w w' ∧ OwnBytes w' w.heap.size 5 (.slice p k c) (putS n wd) := by
  by_cases h1 : wd < 1
  · go_enter Tryd.func14, Tryd.ntmps14
    go_wp2
    go_ret
    refine ⟨_, _, _, rfl, Below.refl _ _, ?_⟩
    unfold putS
    rw [if_neg (by omega)]
    exact OwnBytes.nil _ _ _
  by_cases h8 : 8 < wd
  · go_enter Tryd.func14, Tryd.ntmps14
    go_wp2
    go_ret
    refine ⟨_, _, _, rfl, Below.refl _ _, ?_⟩
    unfold putS
    rw [if_neg (by omega)]
    exact OwnBytes.nil _ _ _
  obtain ⟨d, rfl⟩ : ∃ d : Nat, wd = d := ⟨wd.toNat, by omega⟩
  have hd1 : 1 ≤ d := by omega
  have hd8 : d ≤ 8 := by omega
  have hputS : putS n d = putL n d := by unfold putS; rw [if_pos (by omega), Int.toNat_natCast]
  rw [hputS]
  clear hputS
  go_enter Tryd.func14, Tryd.ntmps14
  go_wp2_with fail
  go_loopw [5, 6] (fun s5 s6 wr => ∃ r : Nat, r ≤ d ∧ s6 = .int .i64 ((r : Int) - 1) ∧ OwnBytes wr w.heap.size 5 s5 ((putL n d).take (d - r)) ∧ Below w.heap.size w wr) (fun _ s6 _ => (intOf s6 + 1).toNat)
  case atStart => exact ⟨d, by omega, rfl, by rw [Nat.sub_self]; exact OwnBytes.nil _ _ _, Below.refl _ _⟩
  case round =>
    obtain ⟨r, hr, rfl, hO, hB⟩ := hrel
    cases r with
    | zero =>
      rw [Nat.sub_zero, List.take_of_length_le (by rw [putL_length]; omega)] at hO
      obtain ⟨p, c, rfl, _⟩ := hO.bytes
      go_wp2_with fail
      go_ret
      exact ⟨_, _, _, rfl, hB, hO⟩
    | succ e =>
      have HO := Lib.hid hO
      clear hO
      have he : ((e + 1 : Nat) : Int) - 1 = (e : Int) := by omega
      rw [he]
      go_wp2_with fail
      go_loop [7, 8] (fun s7 s8 => ∃ t : Nat, t ≤ e ∧ s8 = .int .i64 t ∧ s7 = .int .u64 (n / 256 ^ t : Nat)) (fun _ s8 => e - (intOf s8).toNat)
      case atStart => exact ⟨0, by omega, rfl, by simp⟩
      case round =>
        obtain ⟨t, ht, rfl, rfl⟩ := hrel
        have hle : n / 256 ^ t < 18446744073709551616 := Nat.lt_of_le_of_lt (Nat.div_le_self _ _) hn
        by_cases htt : t < e
        · obtain ⟨m, hm⟩ : ∃ m, n / 256 ^ t = m := ⟨_, rfl⟩
          have HM := Lib.hid hm
          rw [hm] at hle ⊢
          clear hm
          go_wp2
          go_round
          case rel => exact ⟨t + 1, by omega, by go_num, by rw [Nat.pow_succ, ← Nat.div_div_eq_div_mul, HM.out]; go_num⟩
          case measure => simp [intOf]; omega
        · obtain rfl : t = e := by omega
          have hs := putL_snoc n d (d - (t + 1)) (by omega)
          rw [show d - 1 - (d - (t + 1)) = t by omega, show d - (t + 1) + 1 = d - t by omega] at hs
          obtain ⟨m, hm⟩ : ∃ m, n / 256 ^ t = m := ⟨_, rfl⟩
          rw [hm] at hle hs ⊢
          have HS := Lib.hid hs
          clear hm hs
          have hown := HO.out
          go_wp2_with (at_builtin; refine wpList_append_grew' rfl (.tmp 30) (.tmp 34) 24 rfl w.heap.size 5 Tryd.underlying24 info_u8 _ ((putL n d).take (d - (t + 1))) (UInt8.ofNat (m % 256)) _ rfl rfl ?hyv hown ?hlen ?hbase ?_)
          case hlen => omega
          case hbase => exact hB.size
          intro v' w' ho' hg' hf'
          have ho2 : OwnBytes w' w.heap.size 5 v' ((putL n d).take (d - t)) := by rw [HS.out]; exact ho'
          have HO2 := Lib.hid ho2
          have hB2 := hB.grown hg' hB.size (fun k hk => (hown.row.lt k hk).1)
          clear ho2 ho' hg' hf' hown
          go_wp2_with fail
          go_roundw
          case rel => exact ⟨t, by omega, by go_num, HO2.out, hB2⟩
          case measure => simp [intOf]

theorem OwnBytes.only {w w' : World} {B T : Nat} {v : Value} {l : List UInt8} {vs : List Value} (h : OwnBytes w B T v l) (ho : OnlyRows vs w w') (hne : ∀ u ∈ vs, v.ownBlock = none ∨ u.ownBlock ≠ v.ownBlock) : OwnBytes w' B T v l := by
  obtain ⟨h1, h2⟩ := h.row
  refine ⟨h1, ?_⟩
  rcases h2 with h2 | ⟨g, cap, cur, e, hg, hh, r⟩
  · exact .inl h2
  · refine .inr ⟨g, cap, cur, e, hg, ?_, r⟩
    rw [ho.block g (Array.getElem?_eq_some_iff.1 hh).1 (fun u hu he => ?_)]
    · exact hh
    · rcases hne u hu with h3 | h3
      · rw [e] at h3; simp [Value.ownBlock] at h3
      · rw [e] at h3; exact h3 he
/-- what Take leaves as it was -/
def Took (w w' : World) (bp : Nat) (vl : Value) : Prop := w.heap.size ≤ w'.heap.size ∧ (∀ k, k < w.heap.size → k ≠ bp → some k ≠ vl.ownBlock → w'.heap[k]? = w.heap[k]?) ∧ w'.os = w.os ∧ w'.tape = w.tape ∧ w'.output = w.output
theorem OwnBytes.took {w w' : World} {B B' bp : Nat} {v vl : Value} {l : List UInt8} {vs : List Value} (h : OwnBytes w B 5 v l) (hk : BookIs w B' bp vl vs) (ht : Took w w' bp vl) : OwnBytes w' B 5 v l := by
  have hb := apart_of_cells h hk.at_ (by decide)
  have hr := apart_of_type h hk.row (by decide)
  obtain ⟨h1, h2⟩ := h.row
  refine ⟨h1, ?_⟩
  rcases h2 with h2 | ⟨g, cap, cur, e, hg, hh, r⟩
  · exact .inl h2
  · refine .inr ⟨g, cap, cur, e, hg, ?_, r⟩
    subst e
    rw [ht.2.1 g (Array.getElem?_eq_some_iff.1 hh).1 (fun he => hb (by rw [← he]; rfl)) (fun he => ?_)]
    · exact hh
    · rcases hr with h3 | h3
      · simp [Value.ownBlock] at h3
      · exact h3 he
theorem Took.below {w w' : World} {B B' bp : Nat} {vl : Value} {vs : List Value} (ht : Took w w' bp vl) (hk : BookIs w B' bp vl vs) (h1 : B ≤ bp) (h2 : B ≤ B') (h3 : B ≤ w.heap.size) : Below B w w' := by
  obtain ⟨t1, t2, t3, t4, t5⟩ := ht
  refine ⟨t3, t4, t5, t1, fun k hkk => t2 k (by omega) (by omega) (fun he => ?_)⟩
  have := (hk.row.lt k he.symm).1
  omega
theorem take_took (w : World) (B bp : Nat) (vl : Value) (vs : List Value) (p : Option Addr) (n c : Nat) (hbk : BookIs w B bp vl vs) (hB : B ≤ w.heap.size) (hsz : vs.length ≤ 1000000) :
    Calls Tryd.prog 16 #[.pointer (some ⟨bp, 0, none⟩), .slice p n c] w fun e w' => e = .returned (.tuple #[]) ∧ ∃ vl', BookIs w' B bp vl' (vs ++ [.slice p n c]) ∧ Took w w' bp vl :=
  take_any w B bp vl vs p n c hbk hB hsz
/-- rows made one after another lie apart -/
theorem own_apart {w w' : World} {B B' T T' : Nat} {u v : Value} {l r : List UInt8} (hu : OwnBytes w B T u l) (hv : OwnBytes w' B' T' v r) (h : w.heap.size ≤ B') : v.ownBlock = none ∨ u.ownBlock ≠ v.ownBlock := by
  cases hb : v.ownBlock with
  | none => exact .inl rfl
  | some g =>
    refine .inr (fun he => ?_)
    have h1 := (hu.row.lt g he).2
    have h2 := (hv.row.lt g hb).1
    omega

theorem OwnBytes.slice {w : World} {B T n c : Nat} {p : Option Addr} {l : List UInt8} (h : OwnBytes w B T (.slice p n c) l) : l.length = n ∧ BytesIn w p n c l := by
  obtain ⟨a, c', e, hb⟩ := h.bytes
  simp only [Value.slice.injEq] at e
  obtain ⟨rfl, rfl, rfl⟩ := e
  exact ⟨rfl, hb⟩
theorem row_mono {w : World} {B B' T k n : Nat} {v : Value} {xs : List Value} (h : w.ownsRow B T k v n xs) (hb : B' ≤ B) : w.ownsRow B' T k v n xs := by
  obtain ⟨h1, h2⟩ := h
  refine ⟨h1, ?_⟩
  rcases h2 with h2 | ⟨g, cap, cur, e, hg, r⟩
  · exact .inl h2
  · exact .inr ⟨g, cap, cur, e, by omega, r⟩
theorem BookIs.new (w : World) : BookIs (w.alloc (.cells #[.slice none 0 0] 30)) w.heap.size w.heap.size (.slice none 0 0) [] :=
  ⟨heap_alloc_new _ _, World.ownsRow_nil _ _ _ _⟩

set_option maxHeartbeats 4000000 in
theorem puts_walk (w : World) (hT : Tabs w) (n other : Nat) (wd : Int) (hn : n < 18446744073709551616) (ho : other < 18446744073709551616) :
    Calls Tryd.prog 4 #[.int .u64 n, .int .i64 wd, .int .u64 other] w fun e w' => e = .returned (.bool true) ∧ Below w.heap.size w w' := by
  go_enter Tryd.func4, Tryd.ntmps4
  go_wp2_with fail
  refine (live_any w hT).mono ?_
  rintro e w1 ⟨rfl, hb1⟩
  go_wp2_with fail
  refine (put_all n wd w1 hn).mono ?_
  rintro e w2 ⟨pa, ka, ca, rfl, hb2, oa⟩
  go_wp2_with fail
  refine (refPut_all n wd w2 hn).mono ?_
  rintro e w3 ⟨pw, kw, cw, rfl, hb3, ow⟩
  go_wp2_with fail
  refine (put_all other wd w3 ho).mono ?_
  rintro e w4 ⟨pb, kb, cb, rfl, hb4, ob⟩
  go_wp2_with fail
  refine (put_all n wd w4 hn).mono ?_
  rintro e w5 ⟨pc, kc, cc, rfl, hb5, oc⟩
  go_wp2_with fail
  refine (refPut_all other wd w5 ho).mono ?_
  rintro e w6 ⟨pd, kd, cd, rfl, hb6, od⟩
  have sA := hb2.size
  have sB := hb3.size
  have sC := hb4.size
  have sD := hb5.size
  have sE := hb6.size
  have a_b := own_apart oa ob (by omega)
  have a_c := own_apart oa oc (by omega)
  have b_c := own_apart ob oc (by omega)
  have a_w := own_apart oa ow (by omega)
  have w_b := own_apart ow ob (by omega)
  have w_c := own_apart ow oc (by omega)
  have oa6 := ((((oa.of_below hb3).of_below (hb4.mono (Nat.le_refl _))).of_below hb5).of_below hb6)
  have ow6 := (((ow.of_below hb4).of_below hb5).of_below hb6)
  have ob6 := ((ob.of_below hb5).of_below hb6)
  have oc6 := (oc.of_below hb6)
  obtain ⟨l1, hl1⟩ : ∃ l, putS n wd = l := ⟨_, rfl⟩
  obtain ⟨l2, hl2⟩ : ∃ l, putS other wd = l := ⟨_, rfl⟩
  have z1 := putS_len n wd
  have z2 := putS_len other wd
  rw [hl1] at oa6 ow6 oc6 z1
  rw [hl2] at ob6 od z2
  have hl1h := Lib.hid hl1
  clear hl1 hl2 oa ow ob oc
  have f1 := same_true w6 pa pw ka ca kw cw l1 oa6.slice.2 ow6.slice.2
  go_wp2_with fail
  refine f1.mono ?_
  rintro e w7 ⟨rfl, hb7⟩
  have oa7 := oa6.of_below hb7
  have ow7 := ow6.of_below hb7
  have ob7 := ob6.of_below hb7
  have oc7 := oc6.of_below hb7
  have od7 := od.of_below hb7
  have f2 := same_true w7 pb pd kb cb kd cd l2 ob7.slice.2 od7.slice.2
  clear f1 oa6 ow6 ob6 oc6
  go_wp2_with fail
  refine f2.mono ?_
  rintro e w8 ⟨rfl, hb8⟩
  have oa8 := oa7.of_below hb8
  have ow8 := ow7.of_below hb8
  have ob8 := ob7.of_below hb8
  have oc8 := oc7.of_below hb8
  have f3 := same_true w8 pc pw kc cc kw cw l1 oc8.slice.2 ow8.slice.2
  clear f2 oa7 ow7 ob7 oc7 od7 od
  go_wp2_with fail
  refine f3.mono ?_
  rintro e w9 ⟨rfl, hb9⟩
  have oa9 := oa8.of_below hb9
  have ow9 := ow8.of_below hb9
  have ob9 := ob8.of_below hb9
  have oc9 := oc8.of_below hb9
  have hS : Below w.heap.size w w9 := by
    have e1 := hb1.size
    have e7 := hb7.size
    have e8 := hb8.size
    exact (((((((hb1.trans (hb2.mono (by omega))).trans (hb3.mono (by omega))).trans (hb4.mono (by omega))).trans (hb5.mono (by omega))).trans (hb6.mono (by omega))).trans (hb7.mono (by omega))).trans (hb8.mono (by omega))).trans (hb9.mono (by omega))
  have hlow : w.heap.size ≤ w1.heap.size := hb1.size
  clear f3 oa8 ow8 ob8 oc8 hb2 hb3 hb4 hb5 hb6 hb7 hb8 hb9 hb1
  have k0 := BookIs.new w9
  have hal : Below w9.heap.size w9 (w9.alloc (.cells #[.slice none 0 0] 30)) := (Below.refl _ _).alloc (Nat.le_refl _) _
  have oaA := oa9.of_below hal
  have owA := ow9.of_below hal
  have obA := ob9.of_below hal
  have ocA := oc9.of_below hal
  have hsz9 : w9.heap.size ≤ (w9.alloc (.cells #[.slice none 0 0] 30)).heap.size := by simp
  have hSA : Below w.heap.size w (w9.alloc (.cells #[.slice none 0 0] 30)) := hS.trans (hal.mono hS.size)
  clear oa9 ow9 ob9 oc9 hal
  go_wp2_with fail
  generalize (w9.alloc (.cells #[.slice none 0 0] 30)) = wA at *
  refine (take_took wA w9.heap.size w9.heap.size (.slice none 0 0) [] pa ka ca k0 hsz9 (by simp)).mono ?_
  rintro e wB ⟨rfl, v1, k1, t1⟩
  have oaB := oaA.took k0 t1
  have owB := owA.took k0 t1
  have obB := obA.took k0 t1
  have ocB := ocA.took k0 t1
  have hSB : Below w.heap.size w wB := hSA.trans (t1.below k0 hS.size hS.size hSA.size)
  have hszB : w9.heap.size ≤ wB.heap.size := Nat.le_trans hsz9 t1.1
  clear oaA owA obA ocA k0 t1 hsz9
  go_wp2_with fail
  refine (take_took wB w9.heap.size w9.heap.size v1 _ pb kb cb k1 hszB (by simp)).mono ?_
  rintro e wC ⟨rfl, v2, k2, t2⟩
  have oaC := oaB.took k1 t2
  have owC := owB.took k1 t2
  have obC := obB.took k1 t2
  have ocC := ocB.took k1 t2
  have hSC : Below w.heap.size w wC := hSB.trans (t2.below k1 hS.size hS.size hSB.size)
  have hszC : w9.heap.size ≤ wC.heap.size := Nat.le_trans hszB t2.1
  clear oaB owB obB ocB k1 t2 hszB
  go_wp2_with fail
  refine (take_took wC w9.heap.size w9.heap.size v2 _ pc kc cc k2 hszC (by simp)).mono ?_
  rintro e wD ⟨rfl, v3, k3, t3⟩
  have oaD := oaC.took k2 t3
  have owD := owC.took k2 t3
  have obD := obC.took k2 t3
  have ocD := ocC.took k2 t3
  have hSD : Below w.heap.size w wD := hSC.trans (t3.below k2 hS.size hS.size hSC.size)
  have hszD : w9.heap.size ≤ wD.heap.size := Nat.le_trans hszC t3.1
  clear oaC owC obC ocC k2 t3 hszC
  simp only [List.nil_append, List.cons_append] at k3
  have hrows : ∀ v ∈ [Value.slice pa ka ca, .slice pb kb cb, .slice pc kc cc], ∃ l, l.length ≤ 8 ∧ OwnBytes wD w.heap.size 5 v l := fun v hv => by
    simp only [List.mem_cons, List.not_mem_nil, or_false] at hv
    rcases hv with rfl | rfl | rfl
    · exact ⟨_, z1, ⟨row_mono oaD.row hlow⟩⟩
    · exact ⟨_, z2, ⟨row_mono obD.row (by omega)⟩⟩
    · exact ⟨_, z1, ⟨row_mono ocD.row (by omega)⟩⟩
  have hdist : Distinct [Value.slice pa ka ca, .slice pb kb cb, .slice pc kc cc] := by
    have sy : ∀ {u v : Value}, (v.ownBlock = none ∨ u.ownBlock ≠ v.ownBlock) → (u.ownBlock = none ∨ u.ownBlock ≠ v.ownBlock) ∧ (v.ownBlock = none ∨ v.ownBlock ≠ u.ownBlock) := fun {u v} h => by
      rcases h with h | h
      · refine ⟨?_, .inl h⟩
        rw [h]
        cases hu : u.ownBlock with
        | none => exact .inl rfl
        | some g => exact .inr (fun h => by cases h)
      · exact ⟨.inr h, .inr (fun he => h he.symm)⟩
    intro i j hi hj hij
    simp only [List.length_cons, List.length_nil] at hi hj
    match i, j, hi, hj, hij with
    | 0, 1, _, _, _ => exact (sy a_b).1
    | 0, 2, _, _, _ => exact (sy a_c).1
    | 1, 0, _, _, _ => exact (sy a_b).2
    | 1, 2, _, _, _ => exact (sy b_c).1
    | 2, 0, _, _, _ => exact (sy a_c).2
    | 2, 1, _, _, _ => exact (sy b_c).2
    | (i + 3), _, hi, _, _ => exact absurd hi (by omega)
    | _, (j + 3), _, hj, _ => exact absurd hj (by omega)
    | 0, 0, _, _, h => exact absurd rfl h
    | 1, 1, _, _, h => exact absurd rfl h
    | 2, 2, _, _, h => exact absurd rfl h
  have hk3 : BookIs wD 0 w9.heap.size v3 [Value.slice pa ka ca, .slice pb kb cb, .slice pc kc cc] := ⟨k3.at_, row_mono k3.row (Nat.zero_le _)⟩
  have hown := owned_any wD 0 w9.heap.size v3 [Value.slice pa ka ca, .slice pb kb cb, .slice pc kc cc] (fun j => ((match j with | 0 => ka | 1 => kb | _ => kc) : Nat)) hk3 (Nat.zero_le _) hdist (fun j hj => by
    simp only [List.length_cons, List.length_nil] at hj
    match j, hj with
    | 0, _ => exact ⟨l1, oaD.slice.1, ⟨row_mono oaD.row (Nat.zero_le _)⟩⟩
    | 1, _ => exact ⟨l2, obD.slice.1, ⟨row_mono obD.row (Nat.zero_le _)⟩⟩
    | 2, _ => exact ⟨l1, ocD.slice.1, ⟨row_mono ocD.row (Nat.zero_le _)⟩⟩
    | (j + 3), h => exact absurd h (by omega)) (by simp) (fun j => by
    have := oaD.slice.1
    have := obD.slice.1
    have := ocD.slice.1
    match j with
    | 0 => simp only; omega
    | 1 => simp only; omega
    | (j + 2) => simp only; omega)
  go_wp2_with fail
  refine hown.mono ?_
  rintro e wE ⟨rfl, honly⟩
  have owE := owD.only honly (fun u hu => by
    simp only [List.mem_cons, List.not_mem_nil, or_false] at hu
    rcases hu with rfl | rfl | rfl
    · exact a_w
    · rcases w_b with h | h
      · rw [h]
        cases hu : (Value.slice pw kw cw).ownBlock with
        | none => exact .inl rfl
        | some g => exact .inr (fun h => by cases h)
      · exact .inr (fun he => h he.symm)
    · rcases w_c with h | h
      · rw [h]
        cases hu : (Value.slice pw kw cw).ownBlock with
        | none => exact .inl rfl
        | some g => exact .inr (fun h => by cases h)
      · exact .inr (fun he => h he.symm))
  have hSE : Below w.heap.size w wE := hSD.trans (honly.below hSD.size (fun v hv k hk => by
    obtain ⟨l, _, hl⟩ := hrows v hv
    exact (hl.row.lt k hk).1))
  clear hown oaD owD obD ocD hrows hdist hk3 k3 honly
  go_wp2_with fail
  refine (put_all n wd wE hn).mono ?_
  rintro e wF ⟨pe, ke, ce, rfl, hbF, oe⟩
  rw [hl1h.out] at oe
  have owF := owE.of_below hbF
  have f4 := same_true wF pe pw ke ce kw cw l1 oe.slice.2 owF.slice.2
  go_wp2_with fail
  refine f4.mono ?_
  rintro e wG ⟨rfl, hbG⟩
  go_wp2_with fail
  go_ret
  exact ⟨rfl, (hSE.trans (hbF.mono hSE.size)).trans (hbG.mono (by have := hSE.size; have := hbF.size; omega))⟩
end Go.Proofs.YtabemlpkajhglaaDoor
