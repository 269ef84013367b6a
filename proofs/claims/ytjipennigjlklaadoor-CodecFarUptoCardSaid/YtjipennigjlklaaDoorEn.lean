/-
  The codec's reader: twice. Conditions: the list lies in memory, and each of its values may be.
-/
import Derived.Test.YtjipennigjlklaaDoorEm
import Derived.Test.YtjipennigjlklaaDoorMg40
import Derived.Maps.OwnSet
import Derived.Maps.OwnOps
namespace Go.Proofs.YtjipennigjlklaaDoor
open Go.RowKit Go.Maps
set_option linter.unusedVariables false
set_option maxHeartbeats 4000000

attribute [local go_sem] Oper.semAt_some

/-! ### a set of texts, each told 1 -/
def holdT (v : Value) : Option (DataW Value × List MemPlace) := some (.held v, [])
def keyL (s : ByteArray) : Lit := .string s.data.toList
structure SetIs (D : DataW Value) (ks : List ByteArray) : Prop where
  tidy : Maps.Tidy D
  has : ∀ s, Maps.has D (keyL s) = true ↔ s ∈ ks
  at_ : ∀ s ∈ ks, ∀ z, D.atKey (keyL s) z = .held (.int .i64 1)
  size : Maps.size D = ks.length
theorem keyL_ne {s t : ByteArray} (h : s ≠ t) : keyL s ≠ keyL t := fun e => h (by
  unfold keyL at e
  injection e with e
  cases s; cases t
  simp only [ByteArray.mk.injEq]
  simpa using e)
theorem keyL_is (s : ByteArray) : WideAt.IsKeyLit (keyL s) := trivial
theorem SetIs.nil : SetIs (.map []) [] := ⟨Maps.tidy_empty, fun i => ⟨fun h => by simp [Maps.has] at h, fun h => by simp at h⟩, fun p hp => by simp at hp, rfl⟩
theorem SetIs.put {D : DataW Value} {ks : List ByteArray} (h : SetIs D ks) {s : ByteArray} (hn : s ∉ ks) : SetIs (D.put (keyL s) (.held (.int .i64 1))) (ks ++ [s]) := by
  have hh : Maps.has D (keyL s) = false := by
    cases q : Maps.has D (keyL s) with
    | false => rfl
    | true => exact absurd ((h.has s).1 q) hn
  refine ⟨h.tidy.put (keyL_is s) _, fun t => ?_, fun t ht z => ?_, ?_⟩
  · by_cases e : t = s
    · subst e
      rw [Maps.has_put_same h.tidy.isMap (keyL_is _)]
      simp
    · rw [Maps.has_put_other (keyL_ne e), h.has]
      simp [e]
  · rcases List.mem_append.1 ht with hu | hu
    · rw [Maps.atKey_put_other (keyL_ne (fun e => by subst e; exact hn hu))]
      exact h.at_ t hu z
    · obtain rfl : t = s := by simpa using hu
      exact Maps.atKey_put_same h.tidy.isMap (keyL_is _) _ _
  · rw [Maps.size_put h.tidy, hh, h.size]
    simp
def SetOf (w : World) (m : Nat) (ks : List ByteArray) : Prop := ∃ D, w.ownsMap Tryd.prog 9 holdT m ks.length D ∧ SetIs D ks
theorem SetOf.lt {w : World} {m : Nat} {ks : List ByteArray} (h : SetOf w m ks) : m < w.heap.size := by obtain ⟨D, h1, _⟩ := h; exact h1.lt
theorem SetOf.same {w w' : World} {m : Nat} {ks : List ByteArray} (h : SetOf w m ks) (e : w'.heap[m]? = w.heap[m]?) : SetOf w' m ks := by
  obtain ⟨D, ⟨es, clock, hb, r⟩, h2⟩ := h
  exact ⟨D, ⟨es, clock, e.trans hb, r⟩, h2⟩
theorem SetOf.made (w : World) : SetOf (w.alloc (.map #[] 0)) w.heap.size [] := ⟨_, World.ownsMap_made _ _ _ _, SetIs.nil⟩
theorem ownsMap_fitT {P : Program} {k : TypeId} {R : Value → Option (DataW Value × List MemPlace)} {w : World} {b n : Nat} {D : DataW Value} (h : w.ownsMap P k R b n D) : w.ownsMap P k R b (Maps.size D) D := by
  obtain ⟨es, clock, hb, F, hs, rfl⟩ := h
  exact ⟨es, clock, hb, F, by simp [Maps.size, length_sorted], rfl⟩
theorem keyOf_text {s : ByteArray} (hs : s.size ≤ maxLen) : keyOf Tryd.prog 9 (.string s) = some (keyL s) := WideMaps.keyOf_string_mk Tryd.underlying9 hs
theorem zero_intT (w : World) : (zeroValue 3).run Tryd.prog w = .ok (.int .i64 0) w := by kernel_rfl
theorem SetOf.get {w : World} {m : Nat} {ks : List ByteArray} (h : SetOf w m ks) {s : ByteArray} (hs : s.size ≤ maxLen) :
    (s ∈ ks → (Instr.lookup 102 (.map (some m)) (.string s) false).run Tryd.prog w = .ok (.int .i64 1) w) ∧ (s ∉ ks → (Instr.lookup 102 (.map (some m)) (.string s) false).run Tryd.prog w = .ok (.int .i64 0) w) := by
  obtain ⟨D, h1, h2⟩ := h
  obtain ⟨v, ps, hr, hv⟩ := h1.lookup (string_keyed Tryd.underlying9) Tryd.underlying102 (z := .int .i64 0) (zero_intT w) (show holdT (.int .i64 0) = some (.held (.int .i64 0), []) from rfl) (keyOf_text hs)
  rw [hr]
  simp only [holdT, Option.some.injEq, Prod.mk.injEq] at hv
  refine ⟨fun hm => ?_, fun hm => ?_⟩
  · rw [h2.at_ s hm] at hv
    rw [DataW.held.inj hv.1]
  · rw [Maps.atKey_of_not_has (by cases q : Maps.has D (keyL s) with
        | false => rfl
        | true => exact absurd ((h2.has s).1 q) hm)] at hv
    rw [DataW.held.inj hv.1]
theorem SetOf.put {w : World} {m : Nat} {ks : List ByteArray} (h : SetOf w m ks) {s : ByteArray} (hs : s.size ≤ maxLen) (hn : s ∉ ks) (hl : ks.length < maxLen) :
    ∃ w', (Instr.mapUpdate 102 (.map (some m)) (.string s) (.int .i64 1)).run Tryd.prog w = .ok () w' ∧ SetOf w' m (ks ++ [s]) ∧ w.grownBy w' (some m) := by
  obtain ⟨D, h1, h2⟩ := h
  obtain ⟨w', hr, h3, h4⟩ := h1.update (string_keyed Tryd.underlying9) Tryd.underlying102 hl (keyOf_text hs) (show holdT (.int .i64 1) = some (.held (.int .i64 1), []) from rfl)
  refine ⟨w', hr, ⟨_, ?_, h2.put hn⟩, h4⟩
  have h5 := ownsMap_fitT h3
  rw [(h2.put hn).size] at h5
  exact h5

/-! ### keys -/
def keyB (v : V) : ByteArray := ⟨(putV v).toArray⟩
theorem keyB_size (v : V) : (keyB v).size = (putV v).length := rfl
structure Okk (v : V) : Prop where
  right : Right v
  dep : v.dep ≤ 32
  wt : v.wt ≤ 4294967295
  len : (putV v).length ≤ 4294967295
theorem keyB_inj {v w : V} (hv : Okk v) (hw : Okk w) (h : keyB v = keyB w) : v = w := by
  refine put_inj2 hv.right hv.dep hv.wt hv.len hw.right hw.dep hw.wt hw.len ?_
  unfold keyB at h
  simp only [ByteArray.mk.injEq] at h
  have := congrArg Array.toList h
  simpa using this
def TwTo (l : List V) (w : World) (e : Ending) (w' : World) : Prop := (∃ b : Bool, e = .returned (.bool b) ∧ (b = true ↔ ¬ (evens l).Nodup)) ∧ Below w.heap.size w w'
theorem evens_mem : ∀ {l : List V} {x : V}, x ∈ evens l → x ∈ l
  | [a], x, h => by simpa [evens] using h
  | a :: b :: r, x, h => by
    rw [evens] at h
    rcases List.mem_cons.1 h with rfl | h
    · simp
    · exact List.mem_cons_of_mem _ (List.mem_cons_of_mem _ (evens_mem h))
set_option maxRecDepth 20000 in
theorem twice_any (l : List V) (hok : ∀ x ∈ l, Okk x) (hlen : l.length ≤ 4294967296) (w : World) (B : Nat) (s : Value) (F : Nat → Prop) (hv : VO w B (V.mk 22 0 ⟨#[]⟩ l 0) s F) :
    Calls Tryd.prog 64 #[s] w fun e w' => TwTo l w e w' := by
  have hmm := @run_makeMap Tryd.prog
  have hvi := hv.vin
  obtain ⟨p, cs, hs, h1, h2, h3⟩ := hvi.slice
  obtain ⟨N, hN⟩ : ∃ N, l.length = N := ⟨_, rfl⟩
  rw [show (V.mk 22 0 ⟨#[]⟩ l 0).list.length = N from hN] at hs h1 h3
  subst hs
  have hNb : (N : Int) ≤ 4294967296 := by omega
  have hEl : (evens l).length = (N + 1) / 2 := by rw [evens_len, hN]
  have HV := Lib.hid (And.intro hvi (And.intro hN h3))
  have HOK := Lib.hid hok
  have HEL := Lib.hid hEl
  have HNB := Lib.hid (show N ≤ 4294967296 by rw [← hN]; exact hlen)
  clear hv hvi hN h1 h2 h3 hok hlen hEl
  go_enter Tryd.func64, Tryd.ntmps64
  go_upto_region 2 with fail
  have hb0 : Below w.heap.size w (w.alloc (.map #[] 0)) := (Below.refl _ _).alloc (Nat.le_refl _) _
  have hs0 := SetOf.made w
  generalize w.alloc (.map #[] 0) = w0 at *
  obtain ⟨m, hm⟩ : ∃ m, w.heap.size = m := ⟨_, rfl⟩
  rw [hm] at hs0 ⊢
  have HB0 := Lib.hid (And.intro hm (And.intro hb0 hs0))
  clear hb0 hs0 hm hmm
  go_wp2_with fail
  go_loopw [4] (fun v4 wr => ∃ j i : Nat, i = 2 * j ∧ j ≤ (evens l).length ∧ v4 = .int .i64 i ∧ SetOf wr m (((evens l).take j).map keyB) ∧ (((evens l).take j).map keyB).Nodup ∧ Below w.heap.size w wr) (fun v4 _ => (N + 1) - (intOf v4).toNat)
  case atStart => exact ⟨0, 0, rfl, Nat.zero_le _, rfl, by simpa using HB0.out.2.2, by simp, HB0.out.2.1⟩
  case round =>
    obtain ⟨j, i, hij, hjE, rfl, hset, hnd, hb⟩ := hrel
    have HS := Lib.hid (And.intro hset (And.intro hnd (And.intro hb (And.intro hij hjE))))
    clear hset hnd hb hij hjE
    by_cases hlt : (i : Int) < N
    · have hiN : i < N := by omega
      have HIN := Lib.hid hiN
      have ka : i < (V.mk 22 0 ⟨#[]⟩ l 0).list.length := by rw [show (V.mk 22 0 ⟨#[]⟩ l 0).list.length = N from HV.out.2.1]; exact hiN
      have hjl : j < (evens l).length := by rw [HEL.out]; have := HS.out.2.2.2.1; omega
      have hEj : (evens l)[j]? = some (l[i]'ka) := by
        have h0 := HS.out.2.2.2.1
        subst h0
        rw [List.getElem?_eq_getElem hjl, evens_get l j ka hjl]
      obtain ⟨b, o, rfl⟩ := HV.out.2.2 (by omega)
      obtain ⟨t, hct, hvx⟩ := HV.out.1.part rfl ka
      have hvx' : VIn w (l[i]'ka) t := hvx
      obtain ⟨px, nx, hsx, _⟩ := hvx'.slice
      have hky := HOK.out _ (List.getElem_mem ka)
      have hky' : Okk (l[i]'ka) := hky
      obtain ⟨c0, c1, c2, c3, c4⟩ := part_cells (rangeAt_rd hct (rd_below HS.out.2.2.1))
      have HE := Lib.hid (And.intro hjl hEj)
      have hee : (V.mk 22 0 ⟨#[]⟩ l 0).list[i] = l[i]'ka := rfl
      rw [hee] at c0 c1 c2 c4
      clear hct hvx hky hee
      generalize hy : l[i]'ka = y at *
      obtain ⟨ny, hny⟩ : ∃ ny, y.list.length = ny := ⟨_, rfl⟩
      rw [hny] at hsx
      subst hsx
      have hput := (both_on y).2 hky'.right (by have := hky'.wt; omega) wr wr _ (.slice none 0 0) [] (hvx'.blw HS.out.2.2.1) (Below.refl _ _) (OwnBytes.nil _ _ _) (by have := hky'.wt; simp only [List.length_nil]; omega)
      have HP := Lib.hid hput
      have HY := Lib.hid (And.intro hky' hy)
      clear hput hky' hvx' hy hjl hEj hny hiN
      go_wp2_with fail
      refine HP.out.mono ?_
      rintro e w2 ⟨u, rfl, hou, hgw⟩
      have hb2 := hgw.below (OwnBytes.nil wr wr.heap.size 5) (Nat.le_refl _)
      rw [List.nil_append] at hou
      have hms : m < wr.heap.size := HS.out.1.lt
      have hset2 := HS.out.1.same (hb2.block m hms)
      obtain ⟨pu, nu, cu, rfl⟩ : ∃ pu nu cu, u = .slice pu nu cu := by obtain ⟨a, c, e, _⟩ := hou.bytes; exact ⟨a, _, c, e⟩
      have hcv : (convert 28 9 (.slice pu nu cu)).run Tryd.prog w2 = .ok (.string (keyB y)) w2 := run_string_bytes w2 _ _ 5 Tryd.underlying28 Tryd.underlying5 Tryd.underlying9 _ _ _ _ hou.sl.2
      have hkz : (keyB y).size ≤ maxLen := by rw [keyB_size]; have := HY.out.1.len; unfold maxLen; omega
      have hlk := hset2.get hkz
      have HB2 := Lib.hid (And.intro (HS.out.2.2.1.trans (hb2.mono HS.out.2.2.1.size)) hset2)
      have HKZ := Lib.hid hkz
      clear hou hgw hb2 hset2 hkz hms c0 c1 c2 c3 c4
      by_cases hin : keyB y ∈ ((evens l).take j).map keyB
      · have hlk := hlk.1 hin
        have HIN2 := Lib.hid (show ¬ (evens l).Nodup from fun hn => by
          obtain ⟨x, hx, hxk⟩ := List.mem_map.1 hin
          have hx2 := List.mem_of_mem_take hx
          have e := keyB_inj (HOK.out x (evens_mem hx2)) HY.out.1 hxk
          subst e
          obtain ⟨i2, hi2, hi3⟩ := List.getElem_of_mem hx
          rw [List.length_take] at hi2
          rw [List.getElem_take] at hi3
          obtain ⟨hj1, hj2⟩ := List.getElem?_eq_some_iff.1 HE.out.2
          have := (List.getElem_inj (h₀ := by omega) (h₁ := hj1) hn).1 (hi3.trans hj2.symm)
          omega)
        clear hin
        go_wp2_with fail
        go_ret
        exact ⟨⟨true, rfl, by simp [HIN2.out]⟩, HB2.out.1⟩
      · have hlk := hlk.2 hin
        obtain ⟨w3, hup, hset3, hgr⟩ := HB2.out.2.put HKZ.out hin (by rw [List.length_map, List.length_take]; have := HE.out.1; have := HEL.out; have := HNB.out; unfold maxLen; omega)
        have HS3 := Lib.hid (And.intro hset3 (And.intro hgr hin))
        clear hset3 hgr hin
        go_wp2_with fail
        have htk : ((evens l).take (j + 1)).map keyB = ((evens l).take j).map keyB ++ [keyB y] := by
          rw [List.take_add_one, HE.out.2, Option.toList_some, List.map_append]; rfl
        go_roundw
        case rel =>
          refine ⟨j + 1, i + 2, by have := HS.out.2.2.2.1; omega, HE.out.1, by go_num, by rw [htk]; exact HS3.out.1, ?_, HB2.out.1.grown HS3.out.2.1 HB2.out.1.size (fun q hq => by cases hq; exact Nat.le_of_eq HB0.out.1)⟩
          rw [htk, List.nodup_append]
          refine ⟨HS.out.2.1, by simp, fun a ha b hb e => ?_⟩
          simp only [List.mem_cons, List.not_mem_nil, or_false] at hb
          subst hb e
          exact HS3.out.2.2 ha
        case measure => have := HIN.out; simp [intOf]; omega
    · have HEN := Lib.hid (show (evens l).Nodup by
        have h1 := HS.out.2.1
        have h2 := HS.out.2.2.2
        have h3 := HEL.out
        rw [List.take_of_length_le (by omega)] at h1
        exact List.Pairwise.of_map keyB (fun a b h e => h (congrArg keyB e)) h1)
      go_wp2_with fail
      go_ret
      exact ⟨⟨false, rfl, by simp [HEN.out]⟩, HS.out.2.2.1⟩
end Go.Proofs.YtjipennigjlklaaDoor
