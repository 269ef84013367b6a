/-
  The parts told are counted exactly. Conditions: the value lies in memory.
  A value turned, as a new one. Conditions: the value lies in memory and is no greater than a million.
-/
import Derived.Test.YtakbgekamjpibaaDoorNh
import Derived.Test.YtakbgekamjpibaaDoorNa
namespace Go.Proofs.YtakbgekamjpibaaDoor
open Go.RowKit
set_option linter.unusedVariables false

attribute [local go_sem] Oper.semAt_some

mutual
/-- the sum of the depths of all that stands in a value -/
def V.tl : V → Int → Int
  | .mk _ _ _ l _, d => d + tls l (d + 1)
def tls : List V → Int → Int
  | [], _ => 0
  | v :: r, d => v.tl d + tls r d
end
theorem V.tl_eq (v : V) (d : Int) : v.tl d = d + tls v.list (d + 1) := by cases v; rw [V.tl]; rfl
theorem tls_append (l r : List V) (d : Int) : tls (l ++ r) d = tls l d + tls r d := by
  induction l with
  | nil => simp [tls]
  | cons a t ih => simp only [List.cons_append, tls, ih]; omega
theorem tls_take (l : List V) (d : Int) {i : Nat} (h : i < l.length) : tls (l.take (i + 1)) d = tls (l.take i) d + l[i].tl d := by
  rw [List.take_add_one, List.getElem?_eq_getElem h, Option.toList_some, tls_append]
  simp [tls]

/-- the parts of all that is told -/
def cost : List (Int × V) → Nat
  | [] => 0
  | x :: r => x.2.sz + cost r
theorem cost_append (l r : List (Int × V)) : cost (l ++ r) = cost l + cost r := by
  induction l with
  | nil => simp [cost]
  | cons a t ih => simp only [List.cons_append, cost, ih]; omega
theorem cost_take (l : List (Int × V)) (i : Nat) : cost (l.take i) ≤ cost l := by
  have := cost_append (l.take i) (l.drop i)
  rw [List.take_append_drop] at this
  omega
theorem cost_take1 {l : List (Int × V)} {i : Nat} {x : Int × V} (h : l[i]? = some x) : cost (l.take (i + 1)) = cost (l.take i) + x.2.sz := by
  rw [List.take_add_one, h, Option.toList_some, cost_append]
  simp [cost]
theorem cost_len (l : List (Int × V)) : l.length ≤ cost l := by
  induction l with
  | nil => exact Nat.le_refl _
  | cons a t ih => have := a.2.sz_pos; simp only [List.length_cons, cost]; omega
theorem pres_cost (l : List V) (ih : ∀ v ∈ l, ∀ d : Int, v.tl d = (cost (v.pre d) : Int) + (d - 1) * (v.sz : Int)) (d : Int) : tls l d = (cost (pres l d) : Int) + (d - 1) * (szs l : Int) := by
  induction l with
  | nil => simp [tls, pres, cost, szs]
  | cons a r hr =>
    have h1 := ih a (List.mem_cons_self ..) d
    have h2 := hr (fun v hv => ih v (List.mem_cons_of_mem _ hv))
    rw [tls, pres, szs, cost_append, h1, h2]
    push_cast
    rw [Int.mul_add]
    omega
theorem pre_cost : ∀ (v : V) (d : Int), v.tl d = (cost (v.pre d) : Int) + (d - 1) * (v.sz : Int) := by
  refine V.ind (fun v ih d => ?_)
  have h := pres_cost v.list ih (d + 1)
  rw [v.tl_eq, v.pre_eq, h, cost, v.sz_eq]
  have e : (d - 1) * ((1 + szs v.list : Nat) : Int) = (d - 1) + (d - 1) * (szs v.list : Int) := by push_cast; rw [Int.mul_add]; omega
  have e2 : (d + 1 - 1) * (szs v.list : Int) = (d - 1) * (szs v.list : Int) + (szs v.list : Int) := by
    rw [show d + 1 - 1 = (d - 1) + 1 by omega, Int.add_mul]; omega
  rw [e, e2]
  push_cast
  omega
theorem cost_tl (v : V) : (cost (v.pre 1) : Int) = v.tl 1 := by
  have := pre_cost v 1
  simp at this
  omega

set_option maxRecDepth 20000 in
set_option maxHeartbeats 4000000 in
theorem tale2_any : ∀ (v : V) (w : World) (s : Value) (d n : Int), VIn w v s → 1 ≤ d → d + v.dep ≤ 200002 → 0 ≤ n → n ≤ 100000 →
    Calls Tryd.prog 50 #[.agg #[.int .i64 v.kind, .int .u64 v.num, .string v.text, s, .int .i64 v.elem], .int .i64 d, .int .i64 n] w fun e w' => (∃ m, e = .returned (.int .i64 m) ∧ 0 ≤ m ∧ m ≤ 300002 ∧ (m ≤ 100000 → n + v.tl d ≤ m)) ∧ Below w.heap.size w w' := by
  refine V.ind (fun v ih w s d n h hd1 hdd hn0 hn1 => ?_)
  obtain ⟨p, c, hs, h1, h2, h3⟩ := h.slice
  obtain ⟨N, hN⟩ : ∃ N, v.list.length = N := ⟨_, rfl⟩
  have hvd := (dep_bd v).1
  rw [hN] at hs h1 h3
  subst hs
  unfold maxLen at h2
  have HI := Lib.hid ih
  have HN := Lib.hid (And.intro hN hdd)
  have HV := Lib.hid h
  have hd2 : d ≤ 200002 := by omega
  clear ih h hN hdd hvd
  go_enter Tryd.func50, Tryd.ntmps50
  go_upto_region 1 with fail
  have hb0 : Below w.heap.size w (w.alloc (.cells #[.int .i64 v.kind, .int .u64 v.num, .string v.text, (.slice p N c), .int .i64 v.elem] 25)) := ((Below.refl _ _).alloc (Nat.le_refl _) _)
  have ox : (w.alloc (.cells #[.int .i64 v.kind, .int .u64 v.num, .string v.text, (.slice p N c), .int .i64 v.elem] 25)).heap[w.heap.size]? = some (.cells #[.int .i64 v.kind, .int .u64 v.num, .string v.text, (.slice p N c), .int .i64 v.elem] 25 (0, 0)) := _root_.Go.heap_alloc_new _ _
  generalize (w.alloc (.cells #[.int .i64 v.kind, .int .u64 v.num, .string v.text, (.slice p N c), .int .i64 v.elem] 25)) = w0 at *
  obtain ⟨x, hx⟩ : ∃ x, w.heap.size = x := ⟨_, rfl⟩
  rw [hx] at ox ⊢
  have HB0 := Lib.hid hb0
  have x3 : w0.cell? ⟨x, 3, none⟩ = some (.slice p N c) := (cell_of_row _ _ 3 _ _ _ ox).trans rfl
  clear hb0 ox hx
  go_wp2_with fail
  go_loopw [2, 7] (fun v2 v7 wr => ∃ (k : Nat) (m : Int), k ≤ N ∧ v7 = .int .i64 k ∧ v2 = .int .i64 m ∧ 0 ≤ m ∧ m ≤ 300002 ∧ Hid (m ≤ 100000 → n + d + tls (v.list.take k) (d + 1) ≤ m) ∧ Below w0.heap.size w0 wr) (fun _ v7 _ => N - (intOf v7).toNat)
  case atStart => exact ⟨0, _, Nat.zero_le _, rfl, rfl, by omega, by omega, Lib.hid (by rw [List.take_zero, tls]; omega), Below.refl _ _⟩
  case round =>
    obtain ⟨k, m, hk, rfl, rfl, hm0, hm1, HM, hb⟩ := hrel
    have HR := Lib.hid hb
    have x3 := bs_cellV hb x3
    clear hb
    by_cases hkN : (k : Int) < N
    · by_cases hmm : m ≤ 100000
      · have hk' : k < v.list.length := by rw [HN.out.1]; omega
        obtain ⟨b, o, rfl⟩ := h3 (by omega)
        have hB := HB0.out.trans (HR.out.mono HB0.out.size)
        obtain ⟨t, ht, hin⟩ := (HV.out.blw hB).part rfl hk'
        obtain ⟨c0, c1, c2, c3, c4⟩ := part_cells ht
        have hc := HI.out _ (List.getElem_mem hk') wr t (d + 1) m hin (by omega) (by have h1 := dep_part (List.getElem_mem hk'); have h2 := HN.out.2; omega) hm0 hmm
        have htk : tls (v.list.take (k + 1)) (d + 1) = tls (v.list.take k) (d + 1) + (v.list[k]).tl (d + 1) := tls_take _ _ hk'
        generalize v.list[k] = y at *
        have HTK := Lib.hid htk
        clear htk
        have HC := Lib.hid hc
        clear hB ht hin hc
        go_wp2_with fail
        refine HC.out.mono ?_
        clear c0 c1 c2 c3 c4
        rintro e w1 ⟨⟨m2, rfl, h20, h21, h22⟩, hb1⟩
        have HM2 : Hid (m2 ≤ 100000 → n + d + tls (v.list.take (k + 1)) (d + 1) ≤ m2) := Lib.hid (fun q => by have h1 := HM.out hmm; have h2 := h22 q; rw [HTK.out]; omega)
        clear h22
        have HB1 := Lib.hid (HR.out.trans (hb1.mono HR.out.size))
        clear hb1
        go_wp2_with fail
        go_roundw
        case rel => exact ⟨k + 1, m2, by omega, by go_num, rfl, h20, h21, HM2, HB1.out⟩
        case measure => simp [intOf]; omega
      · go_wp2_with fail
        go_ret
        exact ⟨⟨m, rfl, hm0, hm1, fun q => absurd hmm (by omega)⟩, HB0.out.trans (HR.out.mono HB0.out.size)⟩
    · have hkN2 : k = N := by omega
      have HE : Hid (m ≤ 100000 → n + v.tl d ≤ m) := Lib.hid (fun q => by
        have := HM.out q
        rw [hkN2, List.take_of_length_le (by rw [HN.out.1]; exact Nat.le_refl _)] at this
        rw [v.tl_eq]; omega)
      by_cases hmm : m ≤ 100000
      all_goals
        go_wp2_with fail
        go_ret
        exact ⟨⟨m, rfl, hm0, hm1, HE.out⟩, HB0.out.trans (HR.out.mono HB0.out.size)⟩

set_option maxRecDepth 20000 in
set_option maxHeartbeats 4000000 in
theorem long2_any (v : V) (w : World) (s : Value) (h : VIn w v s) (hwt : v.wt ≤ 100000) :
    Calls Tryd.prog 23 #[.agg #[.int .i64 v.kind, .int .u64 v.num, .string v.text, s, .int .i64 v.elem]] w fun e w' => (∃ q : Bool, e = .returned (.bool q) ∧ (q = false → v.tl 1 ≤ 100000)) ∧ Below w.heap.size w w' := by
  obtain ⟨p, c, hs, _⟩ := h.slice
  obtain ⟨N, hN⟩ : ∃ N, v.list.length = N := ⟨_, rfl⟩
  rw [hN] at hs
  subst hs
  have hvd := dep_bd v
  have HV := Lib.hid h
  have HVD := Lib.hid (show (1 : Int) + v.dep ≤ 200002 by omega)
  clear h hN hvd
  go_enter Tryd.func23, Tryd.ntmps23
  go_upto_region 1 with fail
  have hb0 : Below w.heap.size w (w.alloc (.cells #[.int .i64 v.kind, .int .u64 v.num, .string v.text, (.slice p N c), .int .i64 v.elem] 25)) := ((Below.refl _ _).alloc (Nat.le_refl _) _)
  have ox : (w.alloc (.cells #[.int .i64 v.kind, .int .u64 v.num, .string v.text, (.slice p N c), .int .i64 v.elem] 25)).heap[w.heap.size]? = some (.cells #[.int .i64 v.kind, .int .u64 v.num, .string v.text, (.slice p N c), .int .i64 v.elem] 25 (0, 0)) := _root_.Go.heap_alloc_new _ _
  generalize (w.alloc (.cells #[.int .i64 v.kind, .int .u64 v.num, .string v.text, (.slice p N c), .int .i64 v.elem] 25)) = w0 at *
  obtain ⟨x, hx⟩ : ∃ x, w.heap.size = x := ⟨_, rfl⟩
  rw [hx] at ox ⊢
  have x0 : w0.cell? ⟨x, 0, none⟩ = some (.int .i64 v.kind) := (cell_of_row _ _ 0 _ _ _ ox).trans rfl
  have x1 : w0.cell? ⟨x, 1, none⟩ = some (.int .u64 v.num) := (cell_of_row _ _ 1 _ _ _ ox).trans rfl
  have x2 : w0.cell? ⟨x, 2, none⟩ = some (.string v.text) := (cell_of_row _ _ 2 _ _ _ ox).trans rfl
  have x3 : w0.cell? ⟨x, 3, none⟩ = some (.slice p N c) := (cell_of_row _ _ 3 _ _ _ ox).trans rfl
  have x4 : w0.cell? ⟨x, 4, none⟩ = some (.int .i64 v.elem) := (cell_of_row _ _ 4 _ _ _ ox).trans rfl
  have hc := tale2_any v w0 _ 1 0 (HV.out.blw hb0) (by omega) HVD.out (by omega) (by omega)
  have HC := Lib.hid hc
  have HB0 := Lib.hid hb0
  clear hb0 ox hx hc
  go_wp2_with fail
  refine HC.out.mono ?_
  clear x0 x1 x2 x3 x4
  rintro e w1 ⟨⟨m, rfl, h0, h1, h2⟩, hb1⟩
  have HM := Lib.hid h2
  clear h2
  have HB1 := Lib.hid (HB0.out.trans (hb1.mono HB0.out.size))
  clear hb1
  by_cases hm : 100000 < m
  · go_wp2_with fail
    go_ret
    exact ⟨⟨_, rfl, fun q => by simp at q⟩, HB1.out⟩
  · go_wp2_with fail
    go_ret
    exact ⟨⟨_, rfl, fun _ => by have := HM.out (by omega); omega⟩, HB1.out⟩


end Go.Proofs.YtakbgekamjpibaaDoor

namespace Go.Proofs.YtakbgekamjpibaaDoor
open Go.RowKit
set_option linter.unusedVariables false

attribute [local go_sem] Oper.semAt_some

def OutT (w : World) (a : V) (e : Ending) (w' : World) : Prop := ∃ t F, e = .returned (.agg #[.int .i64 a.kind, .int .u64 (xor1 a.num), .string a.text, t, .int .i64 a.elem]) ∧ VO w' w.heap.size a.turned t F ∧ Below w.heap.size w w'
def turnedOn (a : V) : Prop := ∀ (w : World) (s : Value), VIn w a s → a.wt ≤ 1000000 → Calls Tryd.prog 16 #[.agg #[.int .i64 a.kind, .int .u64 a.num, .string a.text, s, .int .i64 a.elem]] w (OutT w a)

set_option maxRecDepth 20000 in
set_option maxHeartbeats 4000000 in
theorem turned_on : ∀ a : V, turnedOn a := by
  refine V.ind (fun a ih w s h hwt => ?_)
  obtain ⟨p, c, hs, h1, h2, h3⟩ := h.slice
  obtain ⟨N, hN⟩ : ∃ N, a.list.length = N := ⟨_, rfl⟩
  have hNw := len_le_wts a.list
  have hwl : wts a.list ≤ 1000000 := by have := a.wt_eq; omega
  rw [hN] at hs h1 h3 hNw
  subst hs
  unfold maxLen at h2
  have hNb : N ≤ 1000000 := by omega
  have HI := Lib.hid ih
  have HN := Lib.hid (And.intro hN hwl)
  have HV := Lib.hid h
  obtain ⟨i0, hi, hz0, hz1, hz2⟩ := info_partsV info_val
  clear ih h hN hNw hwt hwl
  go_enter Tryd.func16, Tryd.ntmps16
  go_upto_region 1 with fail
  have hb0 : Below w.heap.size w ((w.alloc (.cells #[.int .i64 a.kind, .int .u64 a.num, .string a.text, (.slice p N c), .int .i64 a.elem] 25)).alloc (.cells #[.int .i64 0, .int .u64 0, .string ⟨#[]⟩, .slice none 0 0, .int .i64 0] 25)) := ((Below.refl _ _).alloc (Nat.le_refl _) _).alloc (by simp) _
  have ox : ((w.alloc (.cells #[.int .i64 a.kind, .int .u64 a.num, .string a.text, (.slice p N c), .int .i64 a.elem] 25)).alloc (.cells #[.int .i64 0, .int .u64 0, .string ⟨#[]⟩, .slice none 0 0, .int .i64 0] 25)).heap[w.heap.size]? = some (.cells #[.int .i64 a.kind, .int .u64 a.num, .string a.text, (.slice p N c), .int .i64 a.elem] 25 (0, 0)) := (_root_.Go.heap_alloc_old _ _ (by simp)).trans (_root_.Go.heap_alloc_new _ _)
  have oy : ((w.alloc (.cells #[.int .i64 a.kind, .int .u64 a.num, .string a.text, (.slice p N c), .int .i64 a.elem] 25)).alloc (.cells #[.int .i64 0, .int .u64 0, .string ⟨#[]⟩, .slice none 0 0, .int .i64 0] 25)).heap[w.heap.size + 1]? = some (.cells #[.int .i64 0, .int .u64 0, .string ⟨#[]⟩, .slice none 0 0, .int .i64 0] 25 (0, 0)) := by have := _root_.Go.heap_alloc_new (w.alloc (.cells #[.int .i64 a.kind, .int .u64 a.num, .string a.text, (.slice p N c), .int .i64 a.elem] 25)) (.cells #[.int .i64 0, .int .u64 0, .string ⟨#[]⟩, .slice none 0 0, .int .i64 0] 25); rwa [World.size_alloc] at this
  generalize ((w.alloc (.cells #[.int .i64 a.kind, .int .u64 a.num, .string a.text, (.slice p N c), .int .i64 a.elem] 25)).alloc (.cells #[.int .i64 0, .int .u64 0, .string ⟨#[]⟩, .slice none 0 0, .int .i64 0] 25)) = wa at *
  obtain ⟨x, hx⟩ : ∃ x, w.heap.size = x := ⟨_, rfl⟩
  rw [hx] at ox oy ⊢
  obtain ⟨y, hy⟩ : ∃ y, x + 1 = y := ⟨_, rfl⟩
  rw [hy] at oy ⊢
  have hxy : x ≠ y := by omega
  have hyx : y ≠ x := by omega
  have x1 : wa.cell? ⟨x, 1, none⟩ = some (.int .u64 a.num) := (cell_of_row _ _ 1 _ _ _ ox).trans rfl
  have fx : wa.frozen? ⟨x, 1, none⟩ = false := by simp [World.frozen?, ox]
  have hxs := (Array.getElem?_eq_some_iff.1 ox).1
  have hys := (Array.getElem?_eq_some_iff.1 oy).1
  have ox2 : (wa.setCell ⟨x, 1, none⟩ (.int .u64 (xor1 a.num))).heap[x]? = some (.cells #[.int .i64 a.kind, .int .u64 (xor1 a.num), .string a.text, (.slice p N c), .int .i64 a.elem] 25 (0, 0)) := heap_setCell_same wa x 1 _ _ (.int .u64 (xor1 a.num)) ox
  have oy2 : (wa.setCell ⟨x, 1, none⟩ (.int .u64 (xor1 a.num))).heap[y]? = some (.cells #[.int .i64 0, .int .u64 0, .string ⟨#[]⟩, .slice none 0 0, .int .i64 0] 25 (0, 0)) := (set_farV hyx).trans oy
  have hb1 := hb0.setCell (p := ⟨x, 1, none⟩) (show w.heap.size ≤ x by omega) (.int .u64 (xor1 a.num))
  have hsz : (wa.setCell ⟨x, 1, none⟩ (.int .u64 (xor1 a.num))).heap.size = wa.heap.size := by simp
  rw [← hsz] at hxs hys
  have H0 := Lib.hid (And.intro hb1 (And.intro ox2 (And.intro oy2 (And.intro (show x < (wa.setCell ⟨x, 1, none⟩ (.int .u64 (xor1 a.num))).heap.size ∧ y < (wa.setCell ⟨x, 1, none⟩ (.int .u64 (xor1 a.num))).heap.size from ⟨hxs, hys⟩) (And.intro hx hy)))))
  clear hb0 hb1 ox oy hx hy ox2 oy2 hxs hys hsz
  go_upto_region 2 with fail
  change Code.wp _ _ _ _ (wa.setCell ⟨x, 1, none⟩ (.int .u64 (xor1 a.num)))
  generalize wa.setCell ⟨x, 1, none⟩ (.int .u64 (xor1 a.num)) = w0 at *
  clear x1 fx
  obtain ⟨B, hB⟩ : ∃ B, w0.heap.size = B := ⟨_, rfl⟩
  have HB := Lib.hid hB
  clear hB
  go_wp2_with fail
  go_loopw [3, 4] (fun v3 v4 wr => ∃ (k : Nat) (t : Value) (F : Nat → Prop), k ≤ N ∧ v4 = .int .i64 k ∧ v3 = t ∧ VO wr B (a.with ((a.list.map V.turned).take k)) t F ∧ Below B w0 wr) (fun _ v4 _ => N - (intOf v4).toNat)
  case atStart => exact ⟨0, _, _, Nat.zero_le _, rfl, rfl, VO.nil w0 _ (HV.out.wf.with_ _) (by rw [List.take_zero]; rfl), Below.refl _ _⟩
  case round =>
    obtain ⟨k, t, F, hk', rfl, rfl, hvo, hbw⟩ := hrel
    have hbz := hbw.size
    rw [HB.out] at hbz
    have hbw2 : Below w0.heap.size w0 wr := by rw [HB.out]; exact hbw
    have HR := Lib.hid (And.intro hvo (And.intro hbw hbw2))
    have oxr := (hbw2.block x H0.out.2.2.2.1.1).trans H0.out.2.1
    have x3 : wr.cell? ⟨x, 3, none⟩ = some (.slice p N c) := (cell_of_row _ _ 3 _ _ _ oxr).trans rfl
    have HX := Lib.hid oxr
    clear hvo hbw hbw2 oxr
    by_cases hkN : (k : Int) < N
    · have ka : k < a.list.length := by rw [HN.out.1]; omega
      obtain ⟨b1, o1, rfl⟩ := h3 (by omega)
      obtain ⟨ta, hta, hia⟩ := ((HV.out.blw H0.out.1).blw HR.out.2.2).part rfl ka
      obtain ⟨pa, ca, hsa, hj0⟩ := hia.slice
      clear hj0
      subst hsa
      obtain ⟨c0, c1, c2, c3, c4⟩ := part_cells hta
      have htk : (a.list.map V.turned).take (k + 1) = (a.list.map V.turned).take k ++ [a.list[k].turned] := by rw [List.take_add_one, List.getElem?_map, List.getElem?_eq_getElem ka]; rfl
      have htl : ((a.list.map V.turned).take k).length = k := by rw [List.length_take, List.length_map]; omega
      obtain ⟨ya, hya⟩ : ∃ ya, a.list[k] = ya := ⟨_, rfl⟩
      have HIK := Lib.hid (HI.out _ (List.getElem_mem ka))
      have hyw : ya.wt ≤ 1000000 := by have := wts_mem (List.getElem_mem ka); rw [hya] at this; have := HN.out.2; omega
      rw [hya] at c0 c1 c2 c3 c4 hia HIK htk
      obtain ⟨na, hna⟩ : ∃ na, ya.list.length = na := ⟨_, rfl⟩
      rw [hna] at c3 hia
      rw [V.turned_eq] at htk
      have HP := Lib.hid (And.intro hia (And.intro htk (And.intro htl hyw)))
      clear hta hia hya htk htl hyw
      have hc := HIK.out wr _ HP.out.1 HP.out.2.2.2
      have HC := Lib.hid hc
      clear hc HIK
      go_wp2_with fail
      refine HC.out.mono ?_
      clear c0 c1 c2 c3 c4 x3
      rintro e w1a ⟨t2, F2, rfl, hvo2, hb2⟩
      rw [V.turned_eq] at hvo2
      obtain ⟨p2, c2, hs2, hj1, hj2⟩ := hvo2.slice
      rw [show (V.mk ya.kind (xor1 ya.num) ya.text (ya.list.map V.turned) ya.elem).list.length = na by show (ya.list.map V.turned).length = na; rw [List.length_map, hna]] at hs2
      clear hj1 hj2
      subst hs2
      have HVO := Lib.hid (And.intro hvo2 hb2)
      clear hvo2 hb2
      go_upto_region 7 with (refine wpList_store_rowTo rfl 25 (.tmp 5) (.tmp 22) rfl rfl w1a.heap.size #[.int .i64 ya.kind, .int .u64 (xor1 ya.num), .string ya.text, (.slice p2 na c2), .int .i64 ya.elem] rfl rfl 25 #[.int .i64 0, .int .u64 0, .string ⟨#[]⟩, .slice none 0 0, .int .i64 0] (_root_.Go.heap_alloc_new w1a _) (by as_aux_lemma => kernel_rfl) (by as_aux_lemma => kernel_rfl) (by simp [Value.oneCell']) ?_)
      have hb_w2 : Below w1a.heap.size w1a ((w1a.alloc (.cells #[.int .i64 0, .int .u64 0, .string ⟨#[]⟩, .slice none 0 0, .int .i64 0] 25)).setRow w1a.heap.size #[.int .i64 ya.kind, .int .u64 (xor1 ya.num), .string ya.text, (.slice p2 na c2), .int .i64 ya.elem]) := below_setRow ((Below.refl _ _).alloc (Nat.le_refl _) _) (Nat.le_refl _) _
      have of := setRow_heap (w1a.alloc (.cells #[.int .i64 0, .int .u64 0, .string ⟨#[]⟩, .slice none 0 0, .int .i64 0] 25)) w1a.heap.size _ #[.int .i64 ya.kind, .int .u64 (xor1 ya.num), .string ya.text, (.slice p2 na c2), .int .i64 ya.elem] _ _ (_root_.Go.heap_alloc_new w1a _)
      change Code.wp _ _ _ _ ((w1a.alloc (.cells #[.int .i64 0, .int .u64 0, .string ⟨#[]⟩, .slice none 0 0, .int .i64 0] 25)).setRow w1a.heap.size #[.int .i64 ya.kind, .int .u64 (xor1 ya.num), .string ya.text, (.slice p2 na c2), .int .i64 ya.elem])
      generalize ((w1a.alloc (.cells #[.int .i64 0, .int .u64 0, .string ⟨#[]⟩, .slice none 0 0, .int .i64 0] 25)).setRow w1a.heap.size #[.int .i64 ya.kind, .int .u64 (xor1 ya.num), .string ya.text, (.slice p2 na c2), .int .i64 ya.elem]) = w2 at *
      obtain ⟨f, hx_f⟩ : ∃ x, w1a.heap.size = x := ⟨_, rfl⟩
      rw [hx_f] at of ⊢
      clear hx_f
      have f0 : w2.cell? ⟨f, 0, none⟩ = some (.int .i64 ya.kind) := (cell_of_row _ _ 0 _ _ _ of).trans rfl
      have f1 : w2.cell? ⟨f, 1, none⟩ = some (.int .u64 (xor1 ya.num)) := (cell_of_row _ _ 1 _ _ _ of).trans rfl
      have f2 : w2.cell? ⟨f, 2, none⟩ = some (.string ya.text) := (cell_of_row _ _ 2 _ _ _ of).trans rfl
      have f3 : w2.cell? ⟨f, 3, none⟩ = some (.slice p2 na c2) := (cell_of_row _ _ 3 _ _ _ of).trans rfl
      have f4 : w2.cell? ⟨f, 4, none⟩ = some (.int .i64 ya.elem) := (cell_of_row _ _ 4 _ _ _ of).trans rfl
      have hvo2 := HVO.out.1.blw hb_w2
      have hbb := HVO.out.2.trans (hb_w2.mono HVO.out.2.size)
      clear hb_w2 of
      have hpush := VO.push (l := (a.list.map V.turned).take k) (x := .mk ya.kind (xor1 ya.num) ya.text (ya.list.map V.turned) ya.elem) ((HR.out.1.blw hbb).blw ((Below.refl _ _).alloc (Nat.le_refl _) (.cells #[.int .i64 ya.kind, .int .u64 (xor1 ya.num), .string ya.text, (.slice p2 na c2), .int .i64 ya.elem] 25))) ((hvo2.mono hbz).blw ((Below.refl _ _).alloc (Nat.le_refl _) _)) (fun b q q2 => by
        have := (HR.out.1.lt b q).2
        have := (hvo2.lt b q2).1
        omega) (by have := hbb.size; simp; omega)
      obtain ⟨xs, hrow, hpu⟩ := hpush
      rw [HP.out.2.2.1] at hrow hpu
      have HRW := Lib.hid hrow
      have HPU := Lib.hid hpu
      have HBB := Lib.hid hbb
      have hbbz := hbb.size
      clear hrow hpu hbb hvo2
      go_wp2_with (first
        | (at_builtin; refine wpList_append_two _ rfl (.tmp 23) (.tmp 25) 23 rfl B 25 i0 _ 5 64 Tryd.underlying23 hi hz0 hz1 hz2 rfl _ _ _ rfl HRW.out ⟨w2.heap.size, 0, none⟩ 1 [.int .i64 ya.kind, .int .u64 (xor1 ya.num), .string ya.text, .slice p2 na c2, .int .i64 ya.elem] rfl rfl (fun j u hj => cell_of_newrow hj) (by simp [Value.oneCell']) (by unfold maxLen; omega) (by omega) ?_; intro v' w9 hA; have HA := Lib.hid hA; clear hA))
      obtain ⟨F', hF1, _⟩ := HPU.out w9 v' HA.out
      have hgr := HA.out.grown
      have HF := Lib.hid hF1
      have HB9 : Hid (Below B w0 w9) := Lib.hid ((((HR.out.2.1.trans (HBB.out.mono hbz)).alloc (by omega) _)).grown hgr (by simp; omega) (fun j hj => (HRW.out.lt j hj).1))
      clear hF1 hgr f0 f1 f2 f3 f4
      go_roundw
      case rel => exact ⟨k + 1, _, F', by omega, by go_num, rfl, by rw [HP.out.2.1]; exact HF.out, HB9.out⟩
      case measure => simp [intOf]; omega
    · have hkN2 : k = N := by omega
      have hE := HR.out.1
      have hwt2 : a.with (a.list.map V.turned) = .mk a.kind a.num a.text (a.list.map V.turned) a.elem := rfl
      rw [hkN2, List.take_of_length_le (by rw [List.length_map, HN.out.1]; exact Nat.le_refl _), hwt2] at hE
      obtain ⟨pt, ct, hst, hj1, hj2⟩ := hE.slice
      rw [show (V.mk a.kind a.num a.text (a.list.map V.turned) a.elem).list.length = N by show (a.list.map V.turned).length = N; rw [List.length_map, HN.out.1]] at hst
      subst hst
      have hE2 : VO wr B a.turned (.slice pt N ct) F := by rw [V.turned_eq]; exact VO.as hE rfl (by have := HV.out.wf.turned; rwa [V.turned_eq] at this)
      clear hj1 hj2 hE hwt2
      have fx : wr.frozen? ⟨x, 3, none⟩ = false := by simp [World.frozen?, HX.out]
      have ox2 : (wr.setCell ⟨x, 3, none⟩ (.slice pt N ct)).heap[x]? = some (.cells #[.int .i64 a.kind, .int .u64 (xor1 a.num), .string a.text, (.slice pt N ct), .int .i64 a.elem] 25 (0, 0)) := heap_setCell_same wr x 3 _ _ (.slice pt N ct) HX.out
      have oy1 := (HR.out.2.2.block y H0.out.2.2.2.1.2).trans H0.out.2.2.1
      have oy2 : (wr.setCell ⟨x, 3, none⟩ (.slice pt N ct)).heap[y]? = some (.cells #[.int .i64 0, .int .u64 0, .string ⟨#[]⟩, .slice none 0 0, .int .i64 0] 25 (0, 0)) := (set_farV hyx).trans oy1
      have hxB : x < B ∧ y < B := by have := H0.out.2.2.2.1; rw [HB.out] at this; exact this
      have hwx : w.heap.size = x := H0.out.2.2.2.2.1
      have hwy : x + 1 = y := H0.out.2.2.2.2.2
      have hvo2 := hE2.keep (w' := wr.setCell ⟨x, 3, none⟩ (.slice pt N ct)) (fun b hb => set_farV (fun e => by have := (hE2.lt b hb).1; omega))
      have hbl := (H0.out.1.trans (HR.out.2.2.mono H0.out.1.size)).setCell (p := ⟨x, 3, none⟩) (show w.heap.size ≤ x by omega) (.slice pt N ct)
      have HYF := Lib.hid (show (∀ b, F b → b ≠ y) ∧ w.heap.size ≤ B ∧ w.heap.size ≤ y from ⟨fun b hb e => by have h1 := (hE2.lt b hb).1; omega, by omega, by omega⟩)
      clear hE2 oy1 hxB hwx hwy
      go_upto_region 9 with fail
      generalize wr.setCell ⟨x, 3, none⟩ (.slice pt N ct) = w2 at *
      have HVO := Lib.hid (And.intro hvo2 hbl)
      have HOY := Lib.hid oy2
      clear x3
      have x0 : w2.cell? ⟨x, 0, none⟩ = some (.int .i64 a.kind) := (cell_of_row _ _ 0 _ _ _ ox2).trans rfl
      have x1 : w2.cell? ⟨x, 1, none⟩ = some (.int .u64 (xor1 a.num)) := (cell_of_row _ _ 1 _ _ _ ox2).trans rfl
      have x2 : w2.cell? ⟨x, 2, none⟩ = some (.string a.text) := (cell_of_row _ _ 2 _ _ _ ox2).trans rfl
      have x3 : w2.cell? ⟨x, 3, none⟩ = some (.slice pt N ct) := (cell_of_row _ _ 3 _ _ _ ox2).trans rfl
      have x4 : w2.cell? ⟨x, 4, none⟩ = some (.int .i64 a.elem) := (cell_of_row _ _ 4 _ _ _ ox2).trans rfl
      clear hvo2 hbl ox2 fx
      go_wp2_with (refine wpList_store_rowTo rfl 25 (.tmp 2) (.tmp 29) rfl rfl y #[.int .i64 a.kind, .int .u64 (xor1 a.num), .string a.text, (.slice pt N ct), .int .i64 a.elem] rfl rfl 25 #[.int .i64 0, .int .u64 0, .string ⟨#[]⟩, .slice none 0 0, .int .i64 0] oy2 (by as_aux_lemma => kernel_rfl) (by as_aux_lemma => kernel_rfl) (by simp [Value.oneCell']) ?_)
      have hh := setRow_heap w2 y _ #[.int .i64 a.kind, .int .u64 (xor1 a.num), .string a.text, (.slice pt N ct), .int .i64 a.elem] _ _ HOY.out
      have hB := below_setRow HVO.out.2 HYF.out.2.2 #[.int .i64 a.kind, .int .u64 (xor1 a.num), .string a.text, (.slice pt N ct), .int .i64 a.elem]
      have hvo3 := (HVO.out.1.mono HYF.out.2.1).keep (w' := w2.setRow y #[.int .i64 a.kind, .int .u64 (xor1 a.num), .string a.text, (.slice pt N ct), .int .i64 a.elem]) (fun b hb => setRow_other w2 y b _ (fun e => HYF.out.1 b hb e))
      refine bodyPost_ret (results_cell_row (p := 2) (ty := 25) (by kernel_rfl) _ _ y 25 #[.int .i64 a.kind, .int .u64 (xor1 a.num), .string a.text, (.slice pt N ct), .int .i64 a.elem] (0, 0) _ rfl hh Tryd.underlying25 rfl (by as_aux_lemma => kernel_rfl)) rfl ?_
      exact ⟨_, F, rfl, hvo3, hB⟩

end Go.Proofs.YtakbgekamjpibaaDoor
