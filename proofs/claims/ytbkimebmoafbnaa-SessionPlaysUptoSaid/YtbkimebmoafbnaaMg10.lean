/-
  Ranging over a map whose elements are held; a session's Local, forget, Free. Conditions: the session lies in memory.
  A session's Free, Remote. Conditions: the session lies in memory.
-/
import Derived.Test.YtbkimebmoafbnaaSsQ
import Derived.Maps.RangeWalk
namespace Go.Proofs.Ytbkimebmoafbnaa
open Go.RowKit Go.Maps
set_option linter.unusedVariables false

theorem keyedI : Keyed Try.prog 3 := int_keyed Try.underlying3

/-- a loop's step over a map whose elements are held -/
theorem wpList_next_hold {w : World} {ops : Array Oper} {rest : List Oper} {o : Oper} {a : Act} {Q : Exit → Act → World → Prop} (hg : o.guard = none) (it : Operand) (hop : o.op = Op.next it false)
    (b r n : Nat) (D : DataW Value) (left : Lit → Bool) (cnt : Nat) (hit : a.eval it = .pointer (some ⟨r, 0, none⟩)) (h : w.ranges Try.prog 3 holdV b r n D left cnt)
    (hDone : (∀ kl, left kl = false) → wpList Try.prog ops Q rest (a.put o.dst (.tuple #[.bool false])) w)
    (hMore : ∀ (x : Int) (c : Value) (w' : World) (cnt' : Nat), IsI64 x → left (.int .i64 x) = true → (∀ zd, D.atKey (.int .i64 x) zd = .held c) → w'.ranges Try.prog 3 holdV b r n D (fun z => left z && !z.sameKey (.int .i64 x)) cnt' → cnt' < cnt →
      w.grownBy w' (some r) → (Instr.entry (.pointer (some ⟨r, 0, none⟩))).run Try.prog w' = .ok (.tuple #[.int .i64 x, c]) w' → wpList Try.prog ops Q rest (a.put o.dst (.tuple #[.bool true, .int .i64 x, c])) w') :
    wpList Try.prog ops Q (o :: rest) a w := by
  refine wpList_next_ranges w hg it hop 3 keyedI holdV (Value.int .i64) (fun c : Value => c) (fun key kl hkey => by obtain ⟨x, rfl, _⟩ := Maps.keyOf_int_inv Try.underlying3 hkey; exact ⟨x, rfl⟩) (fun v y hv => ⟨v, rfl⟩) b r n D left cnt hit h (fun _ => hDone) ?_
  intro x c kl y w' cnt' hk hl hv hat hr hlt hgw _ hen
  obtain ⟨x', hx, rfl, hwf⟩ := Maps.keyOf_int_inv Try.underlying3 hk
  obtain rfl : x = x' := by injection hx
  simp only [holdV, Option.some.injEq] at hv
  subst hv
  exact hMore x c w' cnt' (bd_i64 hwf) hl hat hr hlt hgw hen

theorem grow0 {w w' : World} (h : Below w.heap.size w w') (row : Option Nat) : w.grownBy w' row := ⟨h.os, h.tape, h.output, h.size, fun i hi _ => h.block i hi⟩
theorem grown_new {w w' : World} {r : Nat} (h : w.grownBy w' (some r)) (n : Nat) (hn : n ≤ w.heap.size) (hr : n ≤ r) : Below n w w' := ⟨h.os, h.tape, h.output, h.size, fun i hi => h.block i (Nat.lt_of_lt_of_le hi hn) (fun e => by cases e; omega)⟩

theorem held_of {D : DataW Value} {l : List (Int × Value)} (h : MapIs D l) {x : Int} {c : Value} (hx : x ∈ keysL l) (hat : ∀ zd, D.atKey (.int .i64 x) zd = .held c) : (x, c) ∈ l := by
  obtain ⟨p, hp, rfl⟩ := List.mem_map.1 hx
  have := (h.at_ p hp (.held c)).symm.trans (hat _)
  injection this with this
  subst this
  exact hp
theorem keys_one {l : List (Int × Value)} (hnd : (keysL l).Nodup) {p q : Int × Value} (hp : p ∈ l) (hq : q ∈ l) (e : p.1 = q.1) : p = q := by
  obtain ⟨i, hi, rfl⟩ := List.mem_iff_getElem.1 hp
  obtain ⟨j, hj, rfl⟩ := List.mem_iff_getElem.1 hq
  have := (List.getElem_inj (h₀ := by simpa [keysL] using hi) (h₁ := by simpa [keysL] using hj) hnd).1 (by simpa [keysL] using e)
  simp [this]
theorem same_key (x y : Int) : (Lit.int .i64 x).sameKey (.int .i64 y) = decide (x = y) := by simp [Lit.sameKey]

theorem mem_rems {l : List (Int × Int)} {p : Int × Int} (h : p ∈ l) : (p.1, Value.int .i64 p.2) ∈ rems l := List.mem_map.2 ⟨p, h, rfl⟩

/-- Local -/
theorem local_any (w : World) (K : SK) (s : SS) (remote : Int) (h : SesIn w K s) :
    Calls Try.prog 26 #[.pointer (some ⟨K.b, 0, none⟩), .int .i64 remote] w fun e w' => ∃ (hd : Int) (is : Bool), e = .returned (.tuple #[.int .i64 hd, .bool is]) ∧ (is = true → 0 ≤ remote ∧ (hd, remote) ∈ s.rem) ∧ (is = false → hd = 0 ∧ (0 ≤ remote → ∀ p ∈ s.rem, p.2 ≠ remote)) ∧ Below w.heap.size w w' := by
  have c13 : w.cell? ⟨K.b, 13, none⟩ = some (.map (some K.mR)) := h.cs 13 _ rfl
  obtain ⟨D, hown, hD⟩ := h.rem
  have HD := Lib.hid hD
  obtain ⟨m, hm⟩ : ∃ m, K.mR = m := ⟨_, rfl⟩
  rw [hm] at c13 hown
  obtain ⟨x0, hx0⟩ : ∃ x0, w.heap.size = x0 := ⟨_, rfl⟩
  have HX := Lib.hid hx0
  clear h hD hm
  go_enter Try.func26, Try.ntmps26
  go_wp2_with (at_range; refine wpList_range_own _ rfl _ 81 rfl 3 3 keyedI Try.underlying81 holdV m _ D rfl hown ?_; intro w0 hrg0 hg0 hs0)
  go_frame
  rw [hx0] at hrg0 ⊢
  have hb0 : Below x0 w w0 := by rw [← hx0]; exact ⟨hg0.os, hg0.tape, hg0.output, hg0.size, fun i hi => hg0.block i hi (by simp)⟩
  clear hown c13 hg0 hs0
  go_loopw [6, 7] (fun _ _ wr => ∃ (left : Lit → Bool) (cnt : Nat), wr.ranges Try.prog 3 holdV m x0 (rems s.rem).length D left cnt ∧ (∀ i : Int, left (.int .i64 i) = true → i ∈ keysL (rems s.rem)) ∧ (∀ p ∈ s.rem, left (.int .i64 p.1) = false → 0 ≤ remote → p.2 ≠ remote) ∧ Below x0 w wr) (fun _ _ wr => wr.rangeLeft m x0)
  case atStart => exact ⟨_, _, hrg0, fun i hi => by rw [HD.out.has] at hi; simpa using hi, fun p hp hq => by rw [HD.out.has] at hq; exact absurd (mem_keys (mem_rems hp)) (by simpa using hq), hb0⟩
  case round =>
    obtain ⟨left, cnt, hrg, hin, hno, hb⟩ := hrel
    go_wp2_with (at_next; refine wpList_next_hold rfl _ rfl m x0 _ _ _ _ rfl hrg ?_ ?_)
    · intro hl0
      have HNO := Lib.hid hno
      have HB := Lib.hid hb
      clear hno hb hin hrg
      go_wp2_with fail
      go_ret2
      exact ⟨0, false, rfl, fun e => (by cases e), fun _ => ⟨rfl, fun h0 p hp => HNO.out p hp (hl0 _) h0⟩, HX.out ▸ HB.out⟩
    · intro x c w1 cnt1 hwx hlx hat hrg1 hlt hg1 hen
      have hmem := held_of HD.out (hin x hlx) hat
      obtain ⟨q, hq, he⟩ := List.mem_map.1 hmem
      obtain ⟨qx, qc⟩ := q
      simp only [Prod.mk.injEq] at he
      obtain ⟨rfl, rfl⟩ := he
      have hb1 : Below x0 w w1 := hb.trans (grown_new hg1 x0 (by have := hb.size; rw [← HX.out]; exact this) (Nat.le_refl _))
      have HM := Lib.hid (And.intro hmem hq)
      have HB := Lib.hid hb1
      have HIN := Lib.hid hin
      have HNO := Lib.hid hno
      have HRG := Lib.hid (And.intro hrg hrg1)
      have HLT := Lib.hid hlt
      clear hmem hq hb1 hb hin hno hrg hrg1 hlt hat hlx hg1
      by_cases he : qc = remote
      · by_cases h0 : 0 ≤ remote
        · subst he
          go_wp2_with fail
          go_ret2
          exact ⟨qx, true, rfl, fun _ => ⟨h0, HM.out.2⟩, fun e => (by cases e), HX.out ▸ HB.out⟩
        · go_wp2_with fail
          go_roundw
          case rel => exact ⟨_, cnt1, HRG.out.2, fun i hi => HIN.out i (by simp at hi; exact hi.1), fun p hp hq h0' => absurd h0' h0, HB.out⟩
          case measure => rw [HRG.out.2.left_eq, HRG.out.1.left_eq]; exact HLT.out
      · go_wp2_with fail
        go_roundw
        case rel =>
          refine ⟨_, cnt1, HRG.out.2, fun i hi => HIN.out i (by simp at hi; exact hi.1), fun p hp hq h0' => ?_, HB.out⟩
          by_cases e : p.1 = qx
          · have := keys_one HD.out.nd (mem_rems hp) HM.out.1 e
            have e2 : p.2 = qc := by injection (congrArg Prod.snd this)
            rw [e2]
            exact he
          · rw [same_key] at hq
            simp [e] at hq
            exact HNO.out p hp hq h0'
        case measure => rw [HRG.out.2.left_eq, HRG.out.1.left_eq]; exact HLT.out

/-! ### forget -/
theorem free1_any (w : World) (id h0 h n : Int) (tag : ByteArray) (bx : Nat) (hx : w.cell? ⟨bx, 0, none⟩ = some (.int .i64 n)) :
    Calls Try.prog 42 #[.int .i64 id, .agg #[.int .i64 h0, .int .i64 h, .string tag], .pointer (some ⟨bx, 0, none⟩)] w fun e w' => e = .returned (.bool (decide (h = n))) ∧ Below w.heap.size w w' := by
  go_enter Try.func42, Try.ntmps42
  go_upto_region 1 with fail
  have hb : Below w.heap.size w (w.alloc (.cells #[.int .i64 h0, .int .i64 h, .string tag] 59)) := (Below.refl _ w).alloc (Nat.le_refl _) _
  have cx := bs_cell hb hx
  have r0 : (w.alloc (.cells #[.int .i64 h0, .int .i64 h, .string tag] 59)).heap[w.heap.size]? = some (.cells #[.int .i64 h0, .int .i64 h, .string tag] 59 (0, 0)) := _root_.Go.heap_alloc_new _ _
  generalize (w.alloc (.cells #[.int .i64 h0, .int .i64 h, .string tag] 59)) = w1 at *
  have c1 : w1.cell? ⟨w.heap.size, 1, none⟩ = some (.int .i64 h) := (cell_of_row _ _ 1 _ _ _ r0).trans rfl
  have HB := Lib.hid hb
  clear hb hx r0
  go_wp2_with fail
  go_ret
  exact ⟨by first | rfl | (simp; rfl), HB.out⟩

/-- what is there while the loop is under way -/
def curOf (l : List Pnd) (n : Int) (left : Lit → Bool) : List Pnd := l.filter fun p => decide (p.h ≠ n) || left (.int .i64 p.id)
theorem pnd_one {l : List Pnd} (hnd : (l.map Pnd.id).Nodup) {p q : Pnd} (hp : p ∈ l) (hq : q ∈ l) (e : p.id = q.id) : p = q := by
  obtain ⟨i, hi, rfl⟩ := List.mem_iff_getElem.1 hp
  obtain ⟨j, hj, rfl⟩ := List.mem_iff_getElem.1 hq
  have := (List.getElem_inj (h₀ := by simpa using hi) (h₁ := by simpa using hj) hnd).1 (by simpa using e)
  simp [this]
theorem cur_start {l : List Pnd} {n : Int} {left : Lit → Bool} (h : ∀ p ∈ l, left (.int .i64 p.id) = true) : curOf l n left = l := List.filter_eq_self.2 (fun p hp => by rw [h p hp, Bool.or_true])
theorem cur_end {l : List Pnd} {n : Int} {left : Lit → Bool} (h : ∀ k, left k = false) : curOf l n left = l.filter fun p => decide (p.h ≠ n) := List.filter_congr (fun p hp => by rw [h, Bool.or_false])
theorem cur_struck {l : List Pnd} (hnd : (l.map Pnd.id).Nodup) {q : Pnd} (hq : q ∈ l) {left : Lit → Bool} : curOf l q.h (fun z => left z && !z.sameKey (.int .i64 q.id)) = (curOf l q.h left).filter fun p => decide (p.id ≠ q.id) := by
  unfold curOf
  rw [List.filter_filter]
  refine List.filter_congr (fun p hp => ?_)
  show (decide (p.h ≠ q.h) || (left (.int .i64 p.id) && !(Lit.int .i64 p.id).sameKey (.int .i64 q.id))) = _
  rw [same_key]
  by_cases e : p.id = q.id
  · obtain rfl := pnd_one hnd hp hq e
    simp
  · simp [e]
theorem cur_stays {l : List Pnd} (hnd : (l.map Pnd.id).Nodup) {q : Pnd} (hq : q ∈ l) {n : Int} (hn : q.h ≠ n) {left : Lit → Bool} : curOf l n (fun z => left z && !z.sameKey (.int .i64 q.id)) = curOf l n left := by
  unfold curOf
  refine List.filter_congr (fun p hp => ?_)
  show (decide (p.h ≠ n) || (left (.int .i64 p.id) && !(Lit.int .i64 p.id).sameKey (.int .i64 q.id))) = _
  rw [same_key]
  by_cases e : p.id = q.id
  · obtain rfl := pnd_one hnd hp hq e
    simp [hn]
  · simp [e]

theorem MapIs.cut {D : DataW Value} {l : List (Int × Value)} (h : MapIs D l) {n : Nat} {w : World} {m : Nat} (hown : w.ownsMap Try.prog 3 holdV m n D) : MapOf w m l := by
  refine ⟨D, ?_, h⟩
  have := ownsMap_fit hown
  rw [h.size] at this
  exact this

set_option maxRecDepth 20000 in
set_option maxHeartbeats 4000000 in
theorem forgets_any (w : World) (t m : Nat) (l : List Pnd) (n : Int) (bx : Nat) (ht : w.heap[t]? = some (.cells #[.map (some m)] 92 (0, 0))) (hm : MapOf w m (pend l)) (hx : w.heap[bx]? = some (.cells #[.int .i64 n] 3 (0, 0))) :
    Calls Try.prog 43 #[.pointer (some ⟨t, 0, none⟩), .func (.func 42) #[] #[.pointer (some ⟨bx, 0, none⟩)]] w fun e w' => e = .returned (.tuple #[]) ∧ MapOf w' m (pend (l.filter fun p => decide (p.h ≠ n))) ∧ w.grownBy w' (some m) := by
  have ct : w.cell? ⟨t, 0, none⟩ = some (.map (some m)) := (cell_of_row _ _ 0 _ _ _ ht).trans rfl
  have hmt : t ≠ m := fun e => by obtain ⟨es, ck, hb⟩ := hm.obj; rw [← e, ht] at hb; cases hb
  have hmx : bx ≠ m := fun e => by obtain ⟨es, ck, hb⟩ := hm.obj; rw [← e, hx] at hb; cases hb
  have HT := Lib.hid (And.intro ht (And.intro hx (And.intro hmt hmx)))
  obtain ⟨D, hown, hD⟩ := hm
  have hnd : (l.map Pnd.id).Nodup := by rw [← keys_pend]; exact hD.nd
  have HND := Lib.hid hnd
  have HD := Lib.hid hD
  have HX := Lib.hid (Eq.refl w.heap.size)
  clear hD ht hx hmt hmx hnd
  go_enter Try.func43, Try.ntmps43
  go_wp2_with (at_range; refine wpList_range_own _ rfl _ 90 rfl 3 59 keyedI Try.underlying90 holdV m _ D rfl hown ?_; intro w0 hrg0 hg0 hs0)
  obtain ⟨x0, hx0⟩ : ∃ x0, w.heap.size = x0 := ⟨_, rfl⟩
  have HX0 := Lib.hid hx0
  rw [hx0] at hrg0 ⊢
  clear hown ct hs0 HX hx0
  go_loopw [4] (fun _ wr => ∃ (left : Lit → Bool) (cnt : Nat) (D' : DataW Value), wr.ranges Try.prog 3 holdV m x0 (pend l).length D' left cnt ∧ MapIs D' (pend (curOf l n left)) ∧ (∀ i : Int, left (.int .i64 i) = true → i ∈ l.map Pnd.id) ∧ w.grownBy wr (some m)) (fun _ wr => wr.rangeLeft m x0)
  case atStart =>
    refine ⟨_, _, D, hrg0, ?_, fun i hi => ?_, hg0.but _⟩
    · rw [cur_start (fun p hp => by rw [HD.out.has, keys_pend]; simpa using ⟨p, hp, rfl⟩)]
      exact HD.out
    · rw [HD.out.has, keys_pend] at hi
      simpa using hi
  case round =>
    obtain ⟨left, cnt, D', hrg, hD', hin, hgw⟩ := hrel
    go_wp2_with (at_next; refine wpList_next_hold rfl _ rfl m x0 _ _ _ _ rfl hrg ?_ ?_)
    · intro hl0
      rw [cur_end hl0] at hD'
      have HE := Lib.hid (And.intro (hD'.cut hrg.owns) hgw)
      clear hrg hD' hin hgw
      go_wp2_with fail
      go_end0
      exact ⟨rfl, HE.out.1, HE.out.2⟩
    · intro x c w1 cnt1 hwx hlx hat hrg1 hlt hg1 hen
      have hxl := hin x hlx
      have hxc : x ∈ keysL (pend (curOf l n left)) := by
        rw [keys_pend]
        obtain ⟨p, hp, rfl⟩ := List.mem_map.1 hxl
        exact List.mem_map.2 ⟨p, List.mem_filter.2 ⟨hp, by rw [hlx, Bool.or_true]⟩, rfl⟩
      have hmem := held_of hD' hxc hat
      obtain ⟨q, hq, he⟩ := List.mem_map.1 hmem
      have hql : q ∈ l := (List.mem_filter.1 hq).1
      obtain ⟨qi, qh, qt⟩ := q
      simp only [Pnd.val, Prod.mk.injEq] at he
      obtain ⟨rfl, rfl⟩ := he
      have hgw1 : w.grownBy w1 (some m) := hgw.andThen hg1 (fun j hj => by cases hj; exact Or.inl (by rw [HX0.out]; exact Nat.le_refl _))
      have HR := Lib.hid (And.intro hrg (And.intro hrg1 hlt))
      have HQ := Lib.hid (And.intro hql (And.intro hD' hin))
      have HG := Lib.hid hgw1
      clear hxl hxc hmem hq hql hlx hat hD' hin hgw hgw1 hrg hlt hrg1 hg1
      go_upto_region 3 with fail
      have hb2 : Below w1.heap.size w1 (w1.alloc (.cells #[.int .i64 qi, .int .i64 qh, .string qt] 59)) := (Below.refl _ _).alloc (Nat.le_refl _) _
      have r2 : (w1.alloc (.cells #[.int .i64 qi, .int .i64 qh, .string qt] 59)).heap[w1.heap.size]? = some (.cells #[.int .i64 qi, .int .i64 qh, .string qt] 59 (0, 0)) := _root_.Go.heap_alloc_new _ _
      generalize (w1.alloc (.cells #[.int .i64 qi, .int .i64 qh, .string qt] 59)) = w2 at *
      obtain ⟨y, hy⟩ : ∃ y, w1.heap.size = y := ⟨_, rfl⟩
      have hgw2 : w.grownBy w2 (some m) := HG.out.andThen (grow0 hb2 none) (fun j hj => by cases hj)
      have HR2 := Lib.hid (HR.out.2.1.kept (grow0 hb2 none) (by simp) (by simp))
      have hbx : w2.heap[bx]? = _ := (hgw2.block bx (Array.getElem?_eq_some_iff.1 HT.out.2.1).1 (fun e => HT.out.2.2.2 (Option.some.inj e))).trans HT.out.2.1
      have hcall := free1_any w2 qi qi qh n qt bx ((cell_of_row _ _ 0 _ _ _ hbx).trans rfl)
      rw [hy] at r2 ⊢
      have y0 : w2.cell? ⟨y, 0, none⟩ = some (.int .i64 qi) := (cell_of_row _ _ 0 _ _ _ r2).trans rfl
      have y1 : w2.cell? ⟨y, 1, none⟩ = some (.int .i64 qh) := (cell_of_row _ _ 1 _ _ _ r2).trans rfl
      have y2 : w2.cell? ⟨y, 2, none⟩ = some (.string qt) := (cell_of_row _ _ 2 _ _ _ r2).trans rfl
      have HG2 := Lib.hid hgw2
      clear hb2 r2 hy hgw2 hbx
      by_cases hqn : qh = n
      · rw [decide_eq_true hqn] at hcall
        have HQN := Lib.hid hqn
        clear hqn
        go_wp2_with fail
        refine hcall.mono ?_
        clear hcall y0 y1 y2
        rintro e w3 ⟨rfl, hb3⟩
        have hgw3 : w.grownBy w3 (some m) := HG2.out.andThen (grow0 hb3 none) (fun j hj => by cases hj)
        have hrg3 := HR2.out.kept (grow0 hb3 none) (by simp) (by simp)
        have ht3 := (hgw3.block t (Array.getElem?_eq_some_iff.1 HT.out.1).1 (fun e => HT.out.2.2.1 (Option.some.inj e))).trans HT.out.1
        have ct : w3.cell? ⟨t, 0, none⟩ = some (.map (some m)) := (cell_of_row _ _ 0 _ _ _ ht3).trans rfl
        have HG3 := Lib.hid hgw3
        clear hb3 hgw3 ht3
        go_wp2_with (at_delete; refine wpList_delete_ranges _ rfl _ _ 90 3 rfl 59 keyedI Try.underlying90 holdV m x0 _ _ _ _ rfl hrg3 _ _ rfl (keyOf_i64 hwx) ?_; intro w4 cnt4 hrg4 hle hturn; go_frame)
        rw [strike_twice] at hrg4
        go_roundw
        case rel =>
          refine ⟨_, cnt4, _, hrg4, ?_, fun i hi => HQ.out.2.2 i (by simp at hi; exact hi.1), HG3.out.andThen hturn.grown (fun j hj => by cases hj; exact Or.inr rfl)⟩
          have h1 := HQ.out.2.1.del qi
          rw [pend_del] at h1
          have h2 := cur_struck HND.out HQ.out.1 (left := left)
          simp only at h2
          rw [← HQN.out, h2, HQN.out]
          exact h1
        case measure => rw [hrg4.left_eq, HR.out.1.left_eq]; have := HR.out.2.2; omega
      · rw [decide_eq_false hqn] at hcall
        have HQN := Lib.hid hqn
        clear hqn
        go_wp2_with fail
        refine hcall.mono ?_
        clear hcall y0 y1 y2
        rintro e w3 ⟨rfl, hb3⟩
        have hgw3 : w.grownBy w3 (some m) := HG2.out.andThen (grow0 hb3 none) (fun j hj => by cases hj)
        have hrg3 := HR2.out.kept (grow0 hb3 none) (by simp) (by simp)
        have HG3 := Lib.hid hgw3
        clear hb3 hgw3
        go_wp2_with fail
        go_roundw
        case rel =>
          refine ⟨_, cnt1, _, hrg3, ?_, fun i hi => HQ.out.2.2 i (by simp at hi; exact hi.1), HG3.out⟩
          have h2 := cur_stays HND.out HQ.out.1 (n := n) HQN.out (left := left)
          simp only at h2
          rw [h2]
          exact HQ.out.2.1
        case measure => rw [hrg3.left_eq, HR.out.1.left_eq]; exact HR.out.2.2
end Go.Proofs.Ytbkimebmoafbnaa

namespace Go.Proofs.Ytbkimebmoafbnaa
open Go.RowKit Go.Maps
set_option linter.unusedVariables false

/-- without a handle, and what is its -/
def SS.free (s : SS) (n : Int) : SS := { s with rem := s.rem.filter (fun p => decide (p.1 ≠ n)), snd := s.snd.filter (fun p => decide (p.h ≠ n)), arr := s.arr.filter (fun p => decide (p.h ≠ n)) }
theorem SS.free_ok {s : SS} (h : s.ok) (n : Int) : (s.free n).ok := ⟨h.first, h.no, h.ow, h.ni, h.iw, h.ri, h.ro, h.nd, h.hm, h.rh⟩
def freeS (s : SS) (n : Int) : SS × Int := if n ∈ s.rem.map Prod.fst then (s.free n, 0) else (s, 132)
theorem rems_del (l : List (Int × Int)) (n : Int) : (rems l).filter (fun p => decide (p.1 ≠ n)) = rems (l.filter fun p => decide (p.1 ≠ n)) := by
  unfold rems
  rw [List.filter_map]
  rfl

set_option maxRecDepth 20000 in
set_option maxHeartbeats 4000000 in
theorem free_any (w : World) (K : SK) (s : SS) (n : Int) (h : SesIn w K s) (hn : IsI64 n) :
    Calls Try.prog 25 #[.pointer (some ⟨K.b, 0, none⟩), .int .i64 n] w fun e w' => e = .returned (.int .i64 (freeS s n).2) ∧ SesIn w' K (freeS s n).1 ∧ SMv K w w' := by
  obtain ⟨D, hD⟩ : ∃ D, freeS s n = D := ⟨_, rfl⟩
  rw [hD]
  have HD := Lib.hid hD
  have H := Lib.hid h
  clear h hD
  go_enter Try.func25, Try.ntmps25
  go_upto_region 1 with fail
  have hb1 : Below w.heap.size w (w.alloc (.cells #[.int .i64 n] 3)) := (Below.refl _ _).alloc (Nat.le_refl _) _
  have r1 : (w.alloc (.cells #[.int .i64 n] 3)).heap[w.heap.size]? = some (.cells #[.int .i64 n] 3 (0, 0)) := _root_.Go.heap_alloc_new _ _
  generalize (w.alloc (.cells #[.int .i64 n] 3)) = w1 at *
  obtain ⟨x, hx⟩ : ∃ x, w.heap.size = x := ⟨_, rfl⟩
  have hs1 := H.out.below hb1
  have hu := used_any w1 K s n hs1 hn
  rw [keys_rems] at hu
  rw [hx] at r1 ⊢
  have cx : w1.cell? ⟨x, 0, none⟩ = some (.int .i64 n) := (cell_of_row _ _ 0 _ _ _ r1).trans rfl
  have hkx : ∀ j, K.has j → j ≠ x := fun j hj => by have := H.out.lt j hj; omega
  have HX := Lib.hid (And.intro r1 hkx)
  have HS1 := Lib.hid hs1
  have HM1 := Lib.hid (SMv.of_below (K := K) hb1)
  have c13 : w1.cell? ⟨K.b, 13, none⟩ = some (.map (some K.mR)) := hs1.cs 13 _ rfl
  clear hb1 r1 hs1 hkx hx
  by_cases h1 : n ∈ s.rem.map Prod.fst
  · rw [decide_eq_true h1] at hu
    have hd : D = (s.free n, 0) := by rw [← HD.out, freeS, if_pos h1]
    subst hd
    clear h1
    go_wp2_with fail
    refine hu.mono ?_
    clear hu
    rintro e w2 ⟨rfl, rfl⟩
    go_upto_region 3 with fail
    go_still_tail 5, (by kernel_rfl)
    change wpList _ _ _ _ _ w2.drew
    have hs2 : SesIn w2.drew K s := HS1.out.keep (fun _ _ => rfl)
    have hm2 : SMv K w w2.drew := HM1.out.trans ⟨rfl, rfl, rfl, Nat.le_refl _, fun _ _ _ => rfl⟩
    have hx2 : w2.drew.heap[x]? = some (.cells #[.int .i64 n] 3 (0, 0)) := HX.out.1
    generalize w2.drew = w3 at *
    obtain ⟨w4, hdel, hm4, hg4⟩ := hs2.rem.del Try.underlying81 hn 0
    rw [rems_del] at hm4
    have hs4 : SesIn w4 K { s with rem := s.rem.filter (fun p => decide (p.1 ≠ n)) } := hs2.turnR hm4 hg4 rfl rfl rfl ⟨hs2.ok.first, hs2.ok.no, hs2.ok.ow, hs2.ok.ni, hs2.ok.iw, hs2.ok.ri, hs2.ok.ro, hs2.ok.nd, hs2.ok.hm, hs2.ok.rh⟩
    have hx4 := (hg4.block x (Array.getElem?_eq_some_iff.1 hx2).1 (fun e => HX.out.2 K.mR (.inr (.inr (.inr (.inl rfl)))) (Option.some.inj e).symm)).trans hx2
    have HM4 := Lib.hid (hm2.trans (SMv.of_grown (K := K) hg4 (.inr (.inr (.inr (.inl rfl))))))
    have HS4 := Lib.hid hs4
    have hfo := forgets_any w4 K.tS K.mS s.snd n x hs4.rowS hs4.snd hx4
    have c14 : w4.cell? ⟨K.b, 14, none⟩ = some (.pointer (some ⟨K.tS, 0, none⟩)) := hs4.cs 14 _ rfl
    have HX4 := Lib.hid hx4
    clear hs2 hm2 hx2 hm4 hg4 hs4 hx4 cx c13
    go_wp2_with fail
    refine hfo.mono ?_
    clear hfo hdel c14
    rintro e w5 ⟨rfl, hm5, hg5⟩
    have hs5 : SesIn w5 K { s with rem := s.rem.filter (fun p => decide (p.1 ≠ n)), snd := s.snd.filter (fun p => decide (p.h ≠ n)) } := HS4.out.turnS hm5 hg5 rfl rfl rfl ⟨HS4.out.ok.first, HS4.out.ok.no, HS4.out.ok.ow, HS4.out.ok.ni, HS4.out.ok.iw, HS4.out.ok.ri, HS4.out.ok.ro, HS4.out.ok.nd, HS4.out.ok.hm, HS4.out.ok.rh⟩
    have hx5 := (hg5.block x (Array.getElem?_eq_some_iff.1 HX4.out).1 (fun e => HX.out.2 K.mS (.inr (.inr (.inr (.inr (.inl rfl))))) (Option.some.inj e).symm)).trans HX4.out
    have HM5 := Lib.hid (HM4.out.trans (SMv.of_grown (K := K) hg5 (.inr (.inr (.inr (.inr (.inl rfl)))))))
    have HS5 := Lib.hid hs5
    have hfo := forgets_any w5 K.tA K.mA s.arr n x hs5.rowA hs5.arr hx5
    have c15 : w5.cell? ⟨K.b, 15, none⟩ = some (.pointer (some ⟨K.tA, 0, none⟩)) := hs5.cs 15 _ rfl
    clear hm5 hg5 hs5 hx5
    go_wp2_with fail
    refine hfo.mono ?_
    clear hfo c15
    rintro e w6 ⟨rfl, hm6, hg6⟩
    have HS6 := Lib.hid (HS5.out.turnA (s' := s.free n) hm6 hg6 rfl rfl rfl (SS.free_ok H.out.ok n))
    have HM6 := Lib.hid (HM5.out.trans (SMv.of_grown (K := K) hg6 (.inr (.inr (.inr (.inr (.inr rfl)))))))
    clear hm6 hg6
    go_wp2_with fail
    go_ret
    exact ⟨rfl, HS6.out, HM6.out⟩
  · rw [decide_eq_false h1] at hu
    have hd : D = (s, 132) := by rw [← HD.out, freeS, if_neg h1]
    subst hd
    clear h1
    go_wp2_with fail
    refine hu.mono ?_
    clear hu
    rintro e w2 ⟨rfl, rfl⟩
    go_wp2_with fail
    go_ret
    exact ⟨rfl, HS1.out, HM1.out⟩

theorem SesIn.rem_nd {w : World} {K : SK} {s : SS} (h : SesIn w K s) : (keysL (rems s.rem)).Nodup := by obtain ⟨D, _, hD⟩ := h.rem; exact hD.nd

/-- a handle bound to the peer's -/
def SS.bind (s : SS) (remote n : Int) : SS := { s with rem := s.rem.map fun p => if p.1 = n then (n, remote) else p }
theorem SS.bind_ok {s : SS} (h : s.ok) (r n : Int) : (s.bind r n).ok := ⟨h.first, h.no, h.ow, h.ni, h.iw, h.ri, h.ro, h.nd, h.hm, h.rh⟩
/-- what Remote refuses -/
def remBad (s : SS) (remote n : Int) : Prop := remote < 0 ∨ s.hm < remote ∨ (∃ p ∈ s.rem, p.2 = remote) ∨ n ∉ s.rem.map Prod.fst ∨ ∃ p ∈ s.rem, p.1 = n ∧ 0 ≤ p.2
theorem rems_set (l : List (Int × Int)) (n r : Int) : (rems l).map (fun p => if p.1 = n then (n, .int .i64 r) else p) = rems (l.map fun p => if p.1 = n then (n, r) else p) := by
  unfold rems
  rw [List.map_map, List.map_map]
  refine List.map_congr_left (fun p _ => ?_)
  simp only [Function.comp]
  split <;> rfl

set_option maxRecDepth 20000 in
set_option maxHeartbeats 4000000 in
theorem remote_any (w : World) (K : SK) (s : SS) (remote n : Int) (h : SesIn w K s) (hn : IsI64 n) (hl : s.rem.length < maxLen) :
    Calls Try.prog 27 #[.pointer (some ⟨K.b, 0, none⟩), .int .i64 remote, .int .i64 n] w fun e w' => (remBad s remote n ∧ e = .returned (.int .i64 132) ∧ SesIn w' K s ∧ SMv K w w') ∨ (¬ remBad s remote n ∧ e = .returned (.int .i64 0) ∧ SesIn w' K (s.bind remote n) ∧ SMv K w w') := by
  have hlo := local_any w K s remote h
  have H := Lib.hid h
  have HL := Lib.hid hl
  clear h hl
  go_enter Try.func27, Try.ntmps27
  go_wp2_with fail
  refine hlo.mono ?_
  clear hlo
  rintro e w1 ⟨hd, is, rfl, hyes, hno, hb1⟩
  have hs1 := H.out.below hb1
  have HS1 := Lib.hid hs1
  have HM1 := Lib.hid (SMv.of_below (K := K) hb1)
  have c11 : w1.cell? ⟨K.b, 11, none⟩ = some (.int .i64 s.hm) := hs1.cs 11 _ rfl
  have c13 : w1.cell? ⟨K.b, 13, none⟩ = some (.map (some K.mR)) := hs1.cs 13 _ rfl
  have hu := used_any w1 K s n hs1 hn
  rw [keys_rems] at hu
  obtain ⟨v, hlk, hv⟩ := hs1.rem.get Try.underlying81 (zero_int w1) hn
  obtain ⟨va, rfl⟩ := rems_val hv
  have HV := Lib.hid hv
  have HYES := Lib.hid hyes
  have HNO := Lib.hid hno
  clear hb1 hs1 hv hyes hno
  by_cases h1 : 0 ≤ remote
  · by_cases h2 : remote ≤ s.hm
    · cases is
      · by_cases h4 : n ∈ s.rem.map Prod.fst
        · rw [decide_eq_true h4] at hu
          have H4 := Lib.hid h4
          clear h4
          have hva : ∃ p ∈ s.rem, p.1 = n ∧ p.2 = va := by
            rcases HV.out with hv | ⟨hv, _⟩
            · obtain ⟨p, hp, he⟩ := List.mem_map.1 hv
              exact ⟨p, hp, congrArg Prod.fst he, by have := congrArg Prod.snd he; simp only [Value.int.injEq] at this; exact this.2⟩
            · rw [keys_rems] at hv
              exact absurd H4.out hv
          have HVA := Lib.hid hva
          clear hva
          by_cases h5 : 0 ≤ va
          · go_wp2_with fail
            refine hu.mono ?_
            clear hu
            rintro e w2 ⟨rfl, rfl⟩
            go_wp2_with fail
            go_ret
            refine .inl ⟨?_, rfl, HS1.out, HM1.out⟩
            obtain ⟨p, hp, e1, e2⟩ := HVA.out
            exact .inr (.inr (.inr (.inr ⟨p, hp, e1, by omega⟩)))
          · obtain ⟨w3, hup, hm3, hg3⟩ := HS1.out.rem.set Try.underlying81 (i := n) (by rw [keys_rems]; exact H4.out) (by have := HL.out; simpa [rems] using this) (.int .i64 remote)
            rw [rems_set] at hm3
            have HE := Lib.hid (And.intro (HS1.out.turnR (s' := s.bind remote n) hm3 hg3 rfl rfl rfl (SS.bind_ok HS1.out.ok _ _)) (HM1.out.trans (SMv.of_grown (K := K) hg3 (.inr (.inr (.inr (.inl rfl)))))))
            clear hm3 hg3
            go_wp2_with fail
            refine hu.mono ?_
            clear hu
            rintro e w2 ⟨rfl, rfl⟩
            go_wp2_with fail
            go_ret
            refine .inr ⟨?_, rfl, HE.out.1, HE.out.2⟩
            rintro (q | q | ⟨p, hp, q⟩ | q | ⟨p, hp, e1, q⟩)
            · omega
            · omega
            · exact (HNO.out trivial).2 h1 p hp q
            · exact q H4.out
            · obtain ⟨p', hp', e1', e2⟩ := HVA.out
              have := keys_one HS1.out.rem_nd (mem_rems hp) (mem_rems hp') (e1.trans e1'.symm)
              have e3 : p.2 = p'.2 := by injection (congrArg Prod.snd this)
              omega
        · rw [decide_eq_false h4] at hu
          have H4 := Lib.hid h4
          clear h4
          go_wp2_with fail
          refine hu.mono ?_
          clear hu
          rintro e w2 ⟨rfl, rfl⟩
          go_wp2_with fail
          go_ret
          exact .inl ⟨.inr (.inr (.inr (.inl H4.out))), rfl, HS1.out, HM1.out⟩
      · go_wp2_with fail
        go_ret
        exact .inl ⟨.inr (.inr (.inl ⟨_, (HYES.out trivial).2, rfl⟩)), rfl, HS1.out, HM1.out⟩
    · go_wp2_with fail
      go_ret
      exact .inl ⟨.inr (.inl (by omega)), rfl, HS1.out, HM1.out⟩
  · go_wp2_with fail
    go_ret
    exact .inl ⟨.inl (by omega), rfl, HS1.out, HM1.out⟩
end Go.Proofs.Ytbkimebmoafbnaa
