/-
  The reference's used, numbered, way, Local. Conditions: its session lies in memory.
  An append of one element onto a row that one owns: in place, or in a new block. It speaks of no program. Conditions: the row is no longer than Go bears.
  The reference's session as one predicate; its Deliver, Arrive. Conditions: its session lies in memory.
-/
import Derived.Test.YtbkimebmoafbnaaMg12
import Derived.Test.YtbkimebmoafbnaaMg08
import Derived.Test.YtbkimebmoafbnaaMg01
import Derived.Laws.AppendOwn
import Derived.Lib.OwnKind
namespace Go.Proofs.Ytbkimebmoafbnaa
open Go.RowKit Go.Maps
set_option linter.unusedVariables false

theorem int_rd {W : World} {B n : Nat} {v : Value} {l : List Int} (h : W.ownsRow B 3 1 v n (l.map encZ)) (hn : l.length = n) : ∃ p c, v = .slice p n c ∧ n ≤ c ∧ c ≤ maxLen ∧ (0 < n → ∃ g, p = some ⟨g, 0, none⟩ ∧ ∀ k (hk : k < l.length), W.cell? ⟨g, k, none⟩ = some (.int .i64 l[k])) := by
  subst hn
  rcases h.2 with ⟨rfl, h0⟩ | ⟨g, cap, cur, rfl, hB, hb, h1, h2, _, h4⟩
  · exact ⟨none, 0, by rw [h0], by omega, Nat.zero_le _, fun q => by omega⟩
  · refine ⟨_, cap, rfl, h1, h2, fun _ => ⟨g, rfl, fun k hk => ?_⟩⟩
    rw [cell_of_row _ _ _ _ _ _ hb]
    have h5 : (cur.toList.take (l.length * 1))[k]? = some (.int .i64 l[k]) := by rw [h4, List.getElem?_map, List.getElem?_eq_getElem hk]; rfl
    rw [List.getElem?_take_of_lt (by omega), Array.getElem?_toList] at h5
    exact h5

theorem pairRow_get : ∀ (L : List (Int × Int)) (k : Nat) (hk : k < L.length) (j : Nat), j < 2 → (pairRow L)[k * 2 + j]? = ([Value.int .i64 L[k].1, .int .i64 L[k].2])[j]? := by
  intro L
  induction L with
  | nil => intro k hk; simp at hk
  | cons a t ih =>
    intro k hk j hj
    show ([Value.int .i64 a.1, .int .i64 a.2] ++ pairRow t)[k * 2 + j]? = _
    cases k with
    | zero =>
      rw [List.getElem?_append_left (by simp; omega)]
      simp
    | succ k =>
      rw [List.getElem?_append_right (by simp; omega)]
      have := ih k (by simpa using hk) j hj
      simp only [List.getElem_cons_succ] at this ⊢
      rw [← this]
      congr 1
      simp
      omega

theorem pair_rd {W : World} {B n : Nat} {v : Value} {l : List (Int × Int)} (h : W.ownsRow B 111 2 v n (pairRow l)) (hn : l.length = n) : ∃ p c, v = .slice p n c ∧ n ≤ c ∧ c ≤ maxLen ∧ (0 < n → ∃ g, p = some ⟨g, 0, none⟩ ∧ ∀ k (hk : k < l.length), W.cell? ⟨g, k * 2, none⟩ = some (.int .i64 l[k].1) ∧ W.cell? ⟨g, k * 2 + 1, none⟩ = some (.int .i64 l[k].2)) := by
  subst hn
  rcases h.2 with ⟨rfl, h0⟩ | ⟨g, cap, cur, rfl, hB, hb, h1, h2, _, h4⟩
  · exact ⟨none, 0, by rw [h0], by omega, Nat.zero_le _, fun q => by omega⟩
  · refine ⟨_, cap, rfl, h1, h2, fun _ => ⟨g, rfl, fun k hk => ?_⟩⟩
    have hc : ∀ j, j < 2 → W.cell? ⟨g, k * 2 + j, none⟩ = ([Value.int .i64 l[k].1, .int .i64 l[k].2])[j]? := fun j hj => by
      rw [cell_of_row _ _ _ _ _ _ hb, ← pairRow_get l k hk j hj, ← h4, List.getElem?_take_of_lt (by omega), Array.getElem?_toList]
    exact ⟨hc 0 (by omega), hc 1 (by omega)⟩

theorem not_in_take {l : List Int} {k : Nat} {n : Int} (hk : k < l.length) (h : ∀ i (hi : i < l.length), i < k → l[i] ≠ n) (hn : l[k] ≠ n) : ∀ i (hi : i < l.length), i < k + 1 → l[i] ≠ n := by
  intro i hi hik
  by_cases e : i = k
  · subst e; exact hn
  · exact h i hi (by omega)
theorem not_mem_all {l : List Int} {n : Int} (h : ∀ i (hi : i < l.length), i < l.length → l[i] ≠ n) : n ∉ l := by
  intro hm
  obtain ⟨i, hi, e⟩ := List.mem_iff_getElem.1 hm
  exact h i hi hi e

set_option maxRecDepth 20000 in
theorem rused_any (w : World) (r B : Nat) (s : SS) (hs : List Int) (rs : List (Int × Int)) (vh vr vs va : Value) (n : Int) (h : RIn w r B s hs rs vh vr vs va) :
    Calls Try.prog 63 #[.pointer (some ⟨r, 0, none⟩), .int .i64 n] w fun e w' => e = .returned (.bool (decide (n ∈ hs))) ∧ w' = w := by
  obtain ⟨N, hN⟩ : ∃ N, hs.length = N := ⟨_, rfl⟩
  have hv := h.vh
  rw [hN] at hv
  obtain ⟨p, c, rfl, h1, h2, hc⟩ := int_rd hv hN
  unfold maxLen at h2
  have c13 : w.cell? ⟨r, 13, none⟩ = some (.slice p N c) := h.cs 13 _ rfl
  have HC := Lib.hid hc
  have HN := Lib.hid hN
  obtain ⟨d, hd⟩ : ∃ d, decide (n ∈ hs) = d := ⟨_, rfl⟩
  have HD := Lib.hid hd
  rw [hd]
  clear h hv hc hN hd
  go_enter Try.func63, Try.ntmps63
  go_wp2_with fail
  go_loopw [5] (fun v wr => ∃ k : Nat, k ≤ N ∧ v = .int .i64 k ∧ wr = w ∧ ∀ i (hi : i < hs.length), i < k → hs[i] ≠ n) (fun v _ => N - (intOf v).toNat)
  case atStart => exact ⟨0, Nat.zero_le _, rfl, rfl, fun i _ h => by omega⟩
  case round =>
    obtain ⟨k, hk, rfl, rfl, hno⟩ := hrel
    have HNO := Lib.hid hno
    clear hno
    by_cases hkN : (k : Int) < N
    · have hk' : k < N := by omega
      obtain ⟨g, rfl, hcell⟩ := HC.out (by omega)
      have hkl : k < hs.length := by rw [HN.out]; exact hk'
      have ck := hcell k hkl
      obtain ⟨x, hx⟩ : ∃ x, hs[k] = x := ⟨_, rfl⟩
      have HX := Lib.hid hx
      rw [hx] at ck
      clear hcell hx
      by_cases hxn : x = n
      · have HE := Lib.hid (show d = true by rw [← HD.out]; exact decide_eq_true (by rw [← hxn, ← HX.out]; exact List.getElem_mem _))
        go_wp2_with fail
        go_ret
        exact ⟨by rw [HE.out]; rfl, by first | rfl | trivial⟩
      · have HE := Lib.hid (not_in_take hkl HNO.out (by rw [HX.out]; exact hxn))
        go_wp2_with fail
        go_roundw
        case rel => exact ⟨k + 1, by omega, by go_num, by first | rfl | trivial, HE.out⟩
        case measure => simp [intOf]; omega
    · have HE := Lib.hid (show d = false by rw [← HD.out]; exact decide_eq_false (not_mem_all (fun i hi _ => HNO.out i hi (by have := HN.out; omega))))
      go_wp2_with fail
      go_ret
      exact ⟨by rw [HE.out]; rfl, by first | rfl | trivial⟩

set_option maxRecDepth 20000 in
theorem numbered_any (w : World) (p : Option Addr) (c : Nat) (L : List Pnd) (N : Nat) (id : Int) (hN : L.length = N) (h : PndRd w p c L) :
    Calls Try.prog 64 #[.slice p N c, .int .i64 id] w fun e w' => e = .returned (.bool (decide (id ∈ L.map Pnd.id))) ∧ w' = w := by
  obtain ⟨i1, i2, i3⟩ := h.info hN
  have HC := Lib.hid h
  have HN := Lib.hid hN
  obtain ⟨d, hd⟩ : ∃ d, decide (id ∈ L.map Pnd.id) = d := ⟨_, rfl⟩
  have HD := Lib.hid hd
  rw [hd]
  clear h hN hd
  go_enter Try.func64, Try.ntmps64
  go_wp2_with fail
  go_loopw [5] (fun v wr => ∃ k : Nat, k ≤ N ∧ v = .int .i64 k ∧ wr = w ∧ ∀ i (hi : i < (L.map Pnd.id).length), i < k → (L.map Pnd.id)[i] ≠ id) (fun v _ => N - (intOf v).toNat)
  case atStart => exact ⟨0, Nat.zero_le _, rfl, rfl, fun i _ h => by omega⟩
  case round =>
    obtain ⟨k, hk, rfl, rfl, hno⟩ := hrel
    have HNO := Lib.hid hno
    clear hno
    by_cases hkN : (k : Int) < N
    · have hk' : k < N := by omega
      obtain ⟨g, rfl⟩ := i3 (by omega)
      have hkl : k < L.length := by rw [HN.out]; exact hk'
      obtain ⟨ck, _, _⟩ := HC.out.cell g rfl k hkl
      obtain ⟨x, hx⟩ : ∃ x, L[k].id = x := ⟨_, rfl⟩
      have HX := Lib.hid hx
      rw [hx] at ck
      clear hx
      by_cases hxn : x = id
      · have HE := Lib.hid (show d = true by rw [← HD.out]; exact decide_eq_true (by rw [← hxn, ← HX.out]; exact List.mem_map.2 ⟨_, List.getElem_mem _, rfl⟩))
        go_wp2_with fail
        go_ret
        exact ⟨by rw [HE.out]; rfl, by first | rfl | trivial⟩
      · have HE := Lib.hid (not_in_take (l := L.map Pnd.id) (k := k) (by simpa using hkl) HNO.out (by simp only [List.getElem_map]; rw [HX.out]; exact hxn))
        go_wp2_with fail
        go_roundw
        case rel => exact ⟨k + 1, by omega, by go_num, by first | rfl | trivial, HE.out⟩
        case measure => simp [intOf]; omega
    · have HE := Lib.hid (show d = false by rw [← HD.out]; exact decide_eq_false (not_mem_all (fun i hi _ => HNO.out i hi (by have := HN.out; simp at hi; omega))))
      go_wp2_with fail
      go_ret
      exact ⟨by rw [HE.out]; rfl, by first | rfl | trivial⟩

theorem rway_any (w : World) (r B : Nat) (s : SS) (hs : List Int) (rs : List (Int × Int)) (vh vr vs va : Value) (sending : Bool) (h : RIn w r B s hs rs vh vr vs va) :
    Calls Try.prog 67 #[.pointer (some ⟨r, 0, none⟩), .bool sending] w fun e w' => ∃ p c, e = .returned (.slice p (s.way sending).length c) ∧ PndRd w p c (s.way sending) ∧ (if sending then vs else va) = .slice p (s.way sending).length c ∧ w' = w := by
  obtain ⟨ps, cs, rfl, hps, _⟩ := PndRd.of_row h.vs
  obtain ⟨pa, ca, rfl, hpa, _⟩ := PndRd.of_row h.va
  have c15 : w.cell? ⟨r, 15, none⟩ = some (.slice ps s.snd.length cs) := h.cs 15 _ rfl
  have c16 : w.cell? ⟨r, 16, none⟩ = some (.slice pa s.arr.length ca) := h.cs 16 _ rfl
  have HP := Lib.hid (And.intro hps hpa)
  clear h hps hpa
  cases sending
  · obtain ⟨n, hn⟩ : ∃ n, s.arr.length = n := ⟨_, rfl⟩
    rw [hn] at c16
    have HN := Lib.hid hn
    clear hn
    go_enter Try.func67, Try.ntmps67
    go_wp2_with fail
    go_ret
    exact ⟨pa, ca, by rw [show (s.way false).length = n from HN.out]; rfl, HP.out.2, by first | rfl | exact ⟨rfl, rfl, rfl⟩, by first | rfl | trivial⟩
  · obtain ⟨n, hn⟩ : ∃ n, s.snd.length = n := ⟨_, rfl⟩
    rw [hn] at c15
    have HN := Lib.hid hn
    clear hn
    go_enter Try.func67, Try.ntmps67
    go_wp2_with fail
    go_ret
    exact ⟨ps, cs, by rw [show (s.way true).length = n from HN.out]; rfl, HP.out.1, by first | rfl | exact ⟨rfl, rfl, rfl⟩, by first | rfl | trivial⟩
end Go.Proofs.Ytbkimebmoafbnaa

namespace Go.Proofs.Ytbkimebmoafbnaa
open Go.RowKit
set_option linter.unusedVariables false

/-- what an append of one element does -/
def App1 (w w' : World) (base e size n : Nat) (v v' : Value) (xs : List Value) : Prop :=
  (∃ g cap, v = .slice (some ⟨g, 0, none⟩) n cap ∧ v' = .slice (some ⟨g, 0, none⟩) (n + 1) cap ∧ n + 1 ≤ cap ∧ cap ≤ maxLen ∧ w'.ownsRow base e size v' (n + 1) xs ∧ w.grownBy w' (some g)) ∨
  (∃ cap, v' = .slice (some ⟨w.heap.size, 0, none⟩) (n + 1) cap ∧ n + 1 ≤ cap ∧ cap ≤ maxLen ∧ w'.ownsRow w.heap.size e size v' (n + 1) xs ∧ w.grownBy w' none)

section
variable {P : Program}

theorem new_row (w : World) (e : TypeId) (z : Value) (size : Nat) (hzs : z.cells.size = size) (ys : List Value) (k cap : Nat) (hl : ys.length = k * size) (hk : k ≤ cap) (hc : cap ≤ maxLen) :
    (w.drew.alloc (.cells (ys.toArray ++ Builtin.zeroCells z.cells (cap - k)) e)).ownsRow w.heap.size e size (.slice (some ⟨w.heap.size, 0, none⟩) k cap) k ys ∧ w.grownBy (w.drew.alloc (.cells (ys.toArray ++ Builtin.zeroCells z.cells (cap - k)) e)) none := by
  refine ⟨⟨hl, .inr ⟨w.heap.size, cap, _, rfl, Nat.le_refl _, _root_.Go.heap_alloc_new w.drew _, hk, hc, ?_, ?_⟩⟩, ⟨rfl, rfl, rfl, by simp, fun j hj _ => Below.heap_alloc w.drew _ j hj⟩⟩
  · rw [Array.size_append, List.size_toArray, size_zeroCells, hzs, hl, ← Nat.add_mul]
    congr 1
    omega
  · rw [Array.toList_append, ← hl]
    exact List.take_left

theorem run_append_two (w : World) (base : Nat) (t ty e : TypeId) (i : TypeInfo) (z : Value) (size bytes : Nat) (ht : P.underlying t = some (.slice e)) (hi : P.info? e = some i) (hz : i.zero = some z)
    (hsize : i.size = size) (hby : i.bytes = bytes) (hzs : z.cells.size = size)
    (v : Value) (n : Nat) (xs : List Value) (hown : w.ownsRow base e size v n xs) (a : Addr) (c : Nat) (news : List Value) (hl : news.length = size) (hnews : ∀ j u, news[j]? = some u → w.cell? (a.add j) = some u) (h1 : ∀ u ∈ news, u.oneCell' = true)
    (h63 : n + 1 ≤ maxLen) (hbytes : (n + 1) * bytes ≤ 140737488355328) :
    ∃ v' w', (Builtin.append_ #[t, t] ty #[v, .slice (some a) 1 c]).run P w = .ok v' w' ∧ App1 w w' base e size n v v' (xs ++ news) := by
  have h64 : n + 1 ≤ 9223372036854775807 := by unfold maxLen at h63; omega
  have hl1 : news.length = 1 * i.size := by rw [hl, hsize, Nat.one_mul]
  have hys : (xs ++ news).length = (n + 1) * size := by rw [List.length_append, hown.1, hl, Nat.succ_mul]
  rcases hown.2 with ⟨rfl, rfl⟩ | ⟨g, cap, cur, rfl, hB, hb, hn, hc, hz2, htk⟩
  · have hx : xs = [] := List.eq_nil_of_length_eq_zero (by have := hown.1; simpa using this)
    subst hx
    have hr := run_append_nil (P := P) w t ty e i z ht hi hz a 1 c news hl1 hnews (by omega) (by omega) (by rw [hby]; omega)
    refine ⟨_, _, hr, .inr ⟨_, rfl, grownCap_ge w 1 0 e, grownCap_le_maxLen w 1 0 e h63, ?_⟩⟩
    have hnr := new_row w e z size hzs news 1 (grownCap w 1 0 e) (by rw [hl, Nat.one_mul]) (grownCap_ge w 1 0 e) (grownCap_le_maxLen w 1 0 e h63)
    exact hnr
  · by_cases hroom : n + 1 ≤ cap
    · have hfit : n * i.size + news.length ≤ cur.size := by
        rw [hl, hsize, hz2, ← Nat.succ_mul]
        exact Nat.mul_le_mul_right _ hroom
      have hr := run_append_room (P := P) w t ty e i ht hi g n cap cur hb a 1 c news hl1 hnews h1 hroom hfit
      refine ⟨_, _, hr, .inl ⟨g, cap, rfl, rfl, hroom, hc, ⟨hys, .inr ⟨g, cap, _, rfl, hB, setRow_heap w g cur _ e _ hb, hroom, hc, ?_, ?_⟩⟩, ⟨rfl, rfl, rfl, by simp, fun k _ hk => setRow_other w g k _ (fun e => hk (by rw [e]))⟩⟩⟩
      · simp only [List.size_toArray, List.length_append, List.length_take, List.length_drop, Array.length_toList, hsize]
        rw [hsize] at hfit
        omega
      · rw [hsize, htk]
        have : (n + 1) * size = (xs ++ news).length := hys.symm
        rw [this]
        exact List.take_left
    · have holds : ∀ j u, xs[j]? = some u → w.cell? ((⟨g, 0, none⟩ : Addr).add j) = some u := hown.cells (g := g) rfl
      have hr := run_append_grow (P := P) w t ty e i z ht hi hz ⟨g, 0, none⟩ n cap xs (by rw [hsize]; exact hown.1) holds a 1 c news hl1 hnews (by omega) (by omega) (growslice_fits (by omega) (by rw [hby]; exact hbytes))
      refine ⟨_, _, hr, .inr ⟨_, rfl, grownCap_ge w (n + 1) cap e, grownCap_le_maxLen w (n + 1) cap e h63, ?_⟩⟩
      have hnr := new_row w e z size hzs (xs ++ news) (n + 1) (grownCap w (n + 1) cap e) hys (grownCap_ge w (n + 1) cap e) (grownCap_le_maxLen w (n + 1) cap e h63)
      rw [← List.append_toArray xs news] at hnr
      exact hnr

theorem wpList_append_two (w : World) {ops : Array Oper} {rest : List Oper} {o : Oper} {a : Act} {Q : Exit → Act → World → Prop} (hgd : o.guard = none) (s x : Operand) (t : TypeId)
    (ho : o.op = .call { callee := .builtin .append, args := #[s, x], argTypes := #[t, t] }) (base : Nat) (e : TypeId) (i : TypeInfo) (z : Value) (size bytes : Nat) (ht : P.underlying t = some (.slice e)) (hi : P.info? e = some i) (hz : i.zero = some z)
    (hsize : i.size = size) (hby : i.bytes = bytes) (hzs : z.cells.size = size) (v : Value) (n : Nat) (xs : List Value) (hs : a.eval s = v) (hown : w.ownsRow base e size v n xs)
    (ad : Addr) (c : Nat) (news : List Value) (hx : a.eval x = .slice (some ad) 1 c) (hl : news.length = size) (hnews : ∀ j u, news[j]? = some u → w.cell? (ad.add j) = some u) (h1 : ∀ u ∈ news, u.oneCell' = true)
    (h63 : n + 1 ≤ maxLen) (hbytes : (n + 1) * bytes ≤ 140737488355328)
    (h : ∀ v' w', App1 w w' base e size n v v' (xs ++ news) → wpList P ops Q rest (a.put o.dst v') w') : wpList P ops Q (o :: rest) a w := by
  refine wpList_plain hgd fun K hK => ?_
  obtain ⟨v', w', hr, h2⟩ := run_append_two w base t o.type e i z size bytes ht hi hz hsize hby hzs v n xs hown ad c news hl hnews h1 h63 hbytes
  unfold Oper.wp execOp
  simp only [ho, resolve, invoke, builtin, Sem.run_bind, Sem.run_pure, Result.andThen_ok, List.map_toArray, List.map_cons, List.map_nil, hs, hx, hr]
  exact hK _ _ (h v' w' h2)
end

theorem App1.slice {w w' : World} {base e size n : Nat} {v v' : Value} {xs : List Value} (h : App1 w w' base e size n v v' xs) : ∃ p c, v' = .slice p (n + 1) c := by
  rcases h with ⟨g, cap, _, h, _⟩ | ⟨cap, h, _⟩
  · exact ⟨_, _, h⟩
  · exact ⟨_, _, h⟩
theorem App1.owns {w w' : World} {base e size n : Nat} {v v' : Value} {xs : List Value} (h : App1 w w' base e size n v v' xs) (hb : base ≤ w.heap.size) : w'.ownsRow base e size v' (n + 1) xs := by
  rcases h with ⟨g, cap, _, _, _, _, h, _⟩ | ⟨cap, _, _, _, h, _⟩
  · exact h
  · refine ⟨h.1, ?_⟩
    rcases h.2 with hn | ⟨g, cap, cur, hv, hbg, rest⟩
    · exact .inl hn
    · exact .inr ⟨g, cap, cur, hv, Nat.le_trans hb hbg, rest⟩
theorem App1.grown {w w' : World} {base e size n : Nat} {v v' : Value} {xs : List Value} (h : App1 w w' base e size n v v' xs) : w.grownBy w' v.ownBlock := by
  rcases h with ⟨g, cap, rfl, _, _, _, _, h⟩ | ⟨cap, _, _, _, _, h⟩
  · exact h
  · exact ⟨h.os, h.tape, h.output, h.size, fun j hj _ => h.block j hj (by simp)⟩
theorem App1.own {w w' : World} {base e size n : Nat} {v v' : Value} {xs : List Value} (h : App1 w w' base e size n v v' xs) {j : Nat} (hj : v'.ownBlock = some j) : v.ownBlock = some j ∨ j = w.heap.size := by
  rcases h with ⟨g, cap, rfl, rfl, _⟩ | ⟨cap, rfl, _⟩
  · exact .inl hj
  · simp only [Value.ownBlock, Option.some.injEq] at hj
    exact .inr hj.symm
end Go.Proofs.Ytbkimebmoafbnaa

namespace Go.Proofs.Ytbkimebmoafbnaa
open Go.RowKit Go.Maps
set_option linter.unusedVariables false

/-- the reference's session, its rows apart -/
structure RX (w : World) (r B : Nat) (s : SS) (hs : List Int) (rs : List (Int × Int)) (vh vr vs va : Value) : Prop where
  inn : RIn w r B s hs rs vh vr vs va
  dj : ∀ j, vs.ownBlock = some j → va.ownBlock ≠ some j

/-- what an operation of its turns -/
structure RMv (r : Nat) (vh vr vs va : Value) (w w' : World) : Prop where
  os : w'.os = w.os
  tape : w'.tape = w.tape
  output : w'.output = w.output
  size : w.heap.size ≤ w'.heap.size
  block : ∀ j, j < w.heap.size → ¬ RBlk r vh vr vs va j → w'.heap[j]? = w.heap[j]?

def RTo (w w' : World) (r B : Nat) (s : SS) (hs : List Int) (rs : List (Int × Int)) (vh vr vs va : Value) : Prop :=
  ∃ vh' vr' vs' va', RX w' r B s hs rs vh' vr' vs' va' ∧ (∀ j, RBlk r vh' vr' vs' va' j → RBlk r vh vr vs va j ∨ w.heap.size ≤ j) ∧ RMv r vh vr vs va w w'

variable {w w' : World} {r B : Nat} {s s' : SS} {hs : List Int} {rs : List (Int × Int)} {vh vr vs va : Value}

theorem RMv.of_row (g : w.grownBy w' (some r)) : RMv r vh vr vs va w w' := ⟨g.os, g.tape, g.output, g.size, fun j hj hn => g.block j hj (fun e => hn (.inl (Option.some.inj e)))⟩
theorem RTo.of_row (h : RX w r B s hs rs vh vr vs va) (h' : RIn w' r B s' hs rs vh vr vs va) (g : w.grownBy w' (some r)) : RTo w w' r B s' hs rs vh vr vs va :=
  ⟨vh, vr, vs, va, ⟨h', h.dj⟩, fun j hj => .inl hj, RMv.of_row g⟩
theorem RX.below (h : RX w r B s hs rs vh vr vs va) (hb : Below w.heap.size w w') : RX w' r B s hs rs vh vr vs va := ⟨h.inn.below hb, h.dj⟩

theorem own_kind {base e size n : Nat} {v : Value} {xs : List Value} (h : w.ownsRow base e size v n xs) {g : Nat} (hg : v.ownBlock = some g) : ∃ c fz, w.heap[g]? = some (.cells c e fz) := Go.Lib.ownsRow_kind h g hg
theorem kind_ne {b1 e1 z1 n1 b2 e2 z2 n2 : Nat} {v1 v2 : Value} {x1 x2 : List Value} (h1 : w.ownsRow b1 e1 z1 v1 n1 x1) (h2 : w.ownsRow b2 e2 z2 v2 n2 x2) (he : e1 ≠ e2) {j : Nat} (hj : v1.ownBlock = some j) : v2.ownBlock ≠ some j := by
  intro hj2
  obtain ⟨c1, f1, k1⟩ := own_kind h1 hj
  obtain ⟨c2, f2, k2⟩ := own_kind h2 hj2
  rw [k1] at k2
  simp only [Option.some.injEq, Obj.cells.injEq] at k2
  exact he k2.2.1

/-- a delivery more that is sent -/
theorem RX.pushS (h : RX w r B s hs rs vh vr vs va) {w1 w2 : World} {v' : Value} {p : Pnd} (hb1 : Below w.heap.size w w1) (ha : App1 w1 w2 B 59 3 s.snd.length vs v' (pndRow s.snd ++ pndRow [p])) :
    RTo w (w2.setCell ⟨r, 15, none⟩ v') r B (s.put p false) hs rs vh vr vs va := by
  have h1 := h.below hb1
  have hg := ha.grown
  have hno : ∀ {b e z n : Nat} {v : Value} {x : List Value}, w1.ownsRow b e z v n x → (∀ j, vs.ownBlock = some j → v.ownBlock ≠ some j) → r < b → (w2.setCell ⟨r, 15, none⟩ v').ownsRow b e z v n x := fun hv hd hrb => ownsRow_same' hv (fun j hj => (set_far (by have := (hv.lt j hj).1; omega)).trans (hg.block j (hv.lt j hj).2 (fun e => hd j e.symm hj)))
  have hrow : w2.heap[r]? = _ := (hg.block r (h1.inn.blt r (.inl rfl)) (fun e => by have := (h1.inn.vs.lt r e.symm).1; have := h.inn.lt; omega)).trans h1.inn.row
  have hown := ha.owns h1.inn.le
  refine ⟨vh, vr, v', va, ⟨⟨?_, hno h1.inn.vh (fun j hj => kind_ne h1.inn.vs h1.inn.vh (by decide) hj) h.inn.lt, hno h1.inn.vr (fun j hj => kind_ne h1.inn.vs h1.inn.vr (by decide) hj) h.inn.lt, ?_, hno h1.inn.va h.dj h.inn.lt, h.inn.lt, ?_, SS.put_ok h.inn.ok _ _⟩, ?_⟩, ?_, ⟨?_, ?_, ?_, ?_, ?_⟩⟩
  · rw [heap_setCell_same _ r 15 _ _ _ hrow]
    simp [rcells, SS.put]
  · have : (s.put p false).snd = s.snd ++ [p] := rfl
    rw [this, List.length_append, List.length_singleton, show pndRow (s.snd ++ [p]) = pndRow s.snd ++ pndRow [p] from by simp [pndRow]]
    exact ownsRow_same' hown (fun j hj => set_far (by have := (hown.lt j hj).1; have := h.inn.lt; omega))
  · have := h1.inn.le; have := hg.size; simp [World.setCell]; omega
  · intro j hj hj2
    rcases ha.own hj with q | q
    · exact h.dj j q hj2
    · have := (h1.inn.va.lt j hj2).2; omega
  · rintro j (q | q | q | q | q)
    · exact .inl (.inl q)
    · exact .inl (.inr (.inl q))
    · exact .inl (.inr (.inr (.inl q)))
    · rcases ha.own q with q | q
      · exact .inl (.inr (.inr (.inr (.inl q))))
      · exact .inr (by have := hb1.size; omega)
    · exact .inl (.inr (.inr (.inr (.inr q))))
  · exact hg.os.trans hb1.os
  · exact hg.tape.trans hb1.tape
  · exact hg.output.trans hb1.output
  · have := hb1.size; have := hg.size; simp [World.setCell]; omega
  · intro j hj hn
    exact (set_far (fun e => hn (.inl e))).trans ((hg.block j (Nat.lt_of_lt_of_le hj hb1.size) (fun e => hn (.inr (.inr (.inr (.inl e.symm)))))).trans (hb1.block j hj))

/-- a delivery more that came -/
theorem RX.pushA (h : RX w r B s hs rs vh vr vs va) {w1 w2 : World} {v' : Value} {p : Pnd} (hb1 : Below w.heap.size w w1) (ha : App1 w1 w2 B 59 3 s.arr.length va v' (pndRow s.arr ++ pndRow [p])) :
    RTo w (w2.setCell ⟨r, 16, none⟩ v') r B (s.putA p false) hs rs vh vr vs va := by
  have h1 := h.below hb1
  have hg := ha.grown
  have hno : ∀ {b e z n : Nat} {v : Value} {x : List Value}, w1.ownsRow b e z v n x → (∀ j, va.ownBlock = some j → v.ownBlock ≠ some j) → r < b → (w2.setCell ⟨r, 16, none⟩ v').ownsRow b e z v n x := fun hv hd hrb => ownsRow_same' hv (fun j hj => (set_far (by have := (hv.lt j hj).1; omega)).trans (hg.block j (hv.lt j hj).2 (fun e => hd j e.symm hj)))
  have hrow : w2.heap[r]? = _ := (hg.block r (h1.inn.blt r (.inl rfl)) (fun e => by have := (h1.inn.va.lt r e.symm).1; have := h.inn.lt; omega)).trans h1.inn.row
  have hown := ha.owns h1.inn.le
  refine ⟨vh, vr, vs, v', ⟨⟨?_, hno h1.inn.vh (fun j hj => kind_ne h1.inn.va h1.inn.vh (by decide) hj) h.inn.lt, hno h1.inn.vr (fun j hj => kind_ne h1.inn.va h1.inn.vr (by decide) hj) h.inn.lt, hno h1.inn.vs (fun j hj hj2 => h.dj j hj2 hj) h.inn.lt, ?_, h.inn.lt, ?_, SS.putA_ok h.inn.ok _ _⟩, ?_⟩, ?_, ⟨?_, ?_, ?_, ?_, ?_⟩⟩
  · rw [heap_setCell_same _ r 16 _ _ _ hrow]
    simp [rcells, SS.putA]
  · have : (s.putA p false).arr = s.arr ++ [p] := rfl
    rw [this, List.length_append, List.length_singleton, show pndRow (s.arr ++ [p]) = pndRow s.arr ++ pndRow [p] from by simp [pndRow]]
    exact ownsRow_same' hown (fun j hj => set_far (by have := (hown.lt j hj).1; have := h.inn.lt; omega))
  · have := h1.inn.le; have := hg.size; simp [World.setCell]; omega
  · intro j hj hj2
    rcases ha.own hj2 with q | q
    · exact h.dj j hj q
    · have := (h1.inn.vs.lt j hj).2; omega
  · rintro j (q | q | q | q | q)
    · exact .inl (.inl q)
    · exact .inl (.inr (.inl q))
    · exact .inl (.inr (.inr (.inl q)))
    · exact .inl (.inr (.inr (.inr (.inl q))))
    · rcases ha.own q with q | q
      · exact .inl (.inr (.inr (.inr (.inr q))))
      · exact .inr (by have := hb1.size; omega)
  · exact hg.os.trans hb1.os
  · exact hg.tape.trans hb1.tape
  · exact hg.output.trans hb1.output
  · have := hb1.size; have := hg.size; simp [World.setCell]; omega
  · intro j hj hn
    exact (set_far (fun e => hn (.inl e))).trans ((hg.block j (Nat.lt_of_lt_of_le hj hb1.size) (fun e => hn (.inr (.inr (.inr (.inr e.symm)))))).trans (hb1.block j hj))
end Go.Proofs.Ytbkimebmoafbnaa
