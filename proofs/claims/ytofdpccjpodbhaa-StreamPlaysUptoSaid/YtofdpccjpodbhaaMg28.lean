/-
  A list of items in memory, and appending one to it in a loop's body. Conditions: the list is the function's own.
  Contracts of longshoreref03's LentBytes and AsLentBytes. Conditions: the bytes lie in memory and are not past 2^20 bytes.
  A stream's items are no longer than what was held. It speaks of no code. No conditions.
-/
import Derived.Test.YtofdpccjpodbhaaStrC
import Derived.Test.YtofdpccjpodbhaaMg08
import Derived.Test.YtofdpccjpodbhaaMg04
import Derived.Test.YtofdpccjpodbhaaMg15
import Derived.Deep.OwnRows
import Derived.Laws.IdiomCopy
import Derived.Test.YtofdpccjpodbhaaStrT
namespace Go.Proofs.Ytofdpccjpodbhaa
open Go.RowKit
set_option linter.unusedVariables false

attribute [local go_sem] Oper.semAt_some

theorem append_grewN {P : Program} {w w' : World} {base t ty e size : Nat} {i : TypeInfo} {z v v' : Value} {bytes n : Nat} {xs ys : List Value} (ht : P.underlying t = some (.slice e)) (hi : P.info? e = some i) (hz : i.zero = some z)
    (hsize : i.size = size) (hby : i.bytes = bytes) (hown : w.ownsRow base e size v n xs)
    (a : Addr) (c : Nat) (hl : ys.length = size) (hnews : ∀ j u, ys[j]? = some u → w.cell? (a.add j) = some u) (h1 : ∀ u ∈ ys, u.oneCell' = true) (h63 : n + 1 ≤ maxLen) (hbytes : (n + 1) * bytes ≤ 140737488355328)
    (hr : (Builtin.append_ #[t, t] ty #[v, .slice (some a) 1 c]).run P w = .ok v' w') : Grew w w' v v' := by
  have hl1 : ys.length = 1 * i.size := by rw [hsize, hl, Nat.one_mul]
  have hm : n + 1 ≤ 9223372036854775807 := by unfold maxLen at h63; omega
  rcases hown.2 with ⟨rfl, rfl⟩ | ⟨g, cap, cur, rfl, hbg, hg, hnc, hcm, hcs, htake⟩
  · have hq := run_append_nil (P := P) w t ty e i z ht hi hz a 1 c ys hl1 hnews (by decide) (by decide) (by rw [hby]; omega)
    rw [hr] at hq
    simp only [Result.ok.injEq] at hq
    refine .inr ⟨w.heap.size, by rw [hq.1]; rfl, Nat.le_refl _, fun k hk => ?_⟩
    rw [hq.2]; exact Below.heap_alloc w.drew _ k hk
  · by_cases hroom : n + 1 ≤ cap
    · have hq := run_append_room (P := P) w t ty e i ht hi g n cap cur hg a 1 c ys hl1 hnews h1 hroom (by rw [hsize, hcs, hl]; have h9 := Nat.mul_le_mul_right size hroom; rw [Nat.add_mul, Nat.one_mul] at h9; exact h9)
      rw [hr] at hq
      simp only [Result.ok.injEq] at hq
      exact .inl ⟨g, n, cap, rfl, by rw [hq.1]⟩
    · have holds : ∀ j u, xs[j]? = some u → w.cell? ((⟨g, 0, none⟩ : Addr).add j) = some u := hown.cells (g := g) rfl
      have hq := run_append_grow (P := P) w t ty e i z ht hi hz ⟨g, 0, none⟩ n cap xs (by rw [hsize]; exact hown.1) holds a 1 c ys hl1 hnews (by omega) (by omega) (growslice_fits (by omega) (by rw [hby]; exact hbytes))
      rw [hr] at hq
      simp only [Result.ok.injEq] at hq
      refine .inr ⟨w.heap.size, by rw [hq.1]; rfl, Nat.le_refl _, fun k hk => ?_⟩
      rw [hq.2]; exact Below.heap_alloc w.drew _ k hk

/-- 'append(s, y)' of a struct of some cells, in the block that the statement has just laid, within a round -/
theorem wpListIn_append_struct {F : Fence} {nn : Nat} {P : Program} {wr : World} {ops : Array Oper} {rest : List Oper} {o : Oper} {a : Act} {Q : Exit → Act → World → Prop} (hgd : o.guard = none)
    (s x : Operand) (t : TypeId) (ho : o.op = .call { callee := .builtin .append, args := #[s, x], argTypes := #[t, t] })
    (B e : Nat) (z : Value) (size bytes : Nat) (ht : P.underlying t = some (.slice e)) (hinfo : (P.info? e).map (fun i => (i.zero, i.size, i.bytes)) = some (some z, size, bytes)) (hz1 : z.cells.size = size) (hpos : 0 < size)
    (v : Value) (n : Nat) (xs ys : List Value) (hyl : ys.length = size) (hy : ∀ u ∈ ys, u.oneCell' = true)
    (hs : a.eval s = v) (hx : a.eval x = .slice (some ⟨wr.heap.size, 0, none⟩) 1 1) (hown : wr.ownsRow B e size v n xs)
    (h63 : n + 1 ≤ maxLen) (hbytes : (n + 1) * bytes ≤ 140737488355328) (hbase : B ≤ wr.heap.size)
    (h : ∀ v' w', w'.ownsRow B e size v' (n + 1) (xs ++ ys) → wr.grownBy w' v.ownBlock → Grew wr w' v v' → wpListIn F nn P ops Q rest (a.put o.dst v') w') :
    wpListIn F nn P ops Q (o :: rest) a (wr.alloc (.cells ys.toArray e)) := by
  obtain ⟨i, hi, hzz⟩ := Option.map_eq_some_iff.1 hinfo
  simp only [Prod.mk.injEq] at hzz
  obtain ⟨hz, hsz, hb⟩ := hzz
  have hnews : ∀ j u, ys[j]? = some u → (wr.alloc (.cells ys.toArray e)).cell? ((⟨wr.heap.size, 0, none⟩ : Addr).add j) = some u := by
    intro j u hj
    have hadd : (⟨wr.heap.size, 0, none⟩ : Addr).add j = ⟨wr.heap.size, 0 + j, none⟩ := by unfold Addr.add; split <;> simp_all
    rw [hadd, Nat.zero_add]
    simp only [World.cell?, heap_alloc_new]
    simpa using hj
  refine wpListIn_plain hgd fun K hK => ?_
  obtain ⟨v', w', hr, h2, h3, h4⟩ := run_append_own (P := P) (wr.alloc (.cells ys.toArray e)) B t o.type e i z size bytes ht hi hz hsz hb hz1 hpos v n xs (hown.alloc _) ⟨wr.heap.size, 0, none⟩ 1 1 ys (by rw [hyl, Nat.one_mul]) hnews hy h63 hbytes (by simp; omega)
  have hf := append_grewN ht hi hz hsz hb (hown.alloc (.cells ys.toArray e)) ⟨wr.heap.size, 0, none⟩ 1 hyl hnews hy h63 hbytes hr
  have hg : wr.grownBy w' v.ownBlock :=
    ⟨h3.os, h3.tape, h3.output, Nat.le_trans (by simp) h3.size, fun k hk hne => (h3.block k (by simp; omega) hne).trans (Below.heap_alloc wr _ k hk)⟩
  have hf' : Grew wr w' v v' := by
    rcases hf with hf | ⟨g, hf1, hf2, hf3⟩
    · exact .inl hf
    · exact .inr ⟨g, hf1, by simp at hf2; omega, fun k hk => (hf3 k (by simp; omega)).trans (Below.heap_alloc wr _ k hk)⟩
  unfold Oper.wpIn
  refine ⟨?_, ?_⟩
  · simp [Oper.about, ho, resolve, Target.leads, Sem.run_pure]
  · rw [Oper.semAt_plain F _ _ (by rw [ho]; intro c hc'; cases hc')]
    simp only [execOp, ho, resolve, invoke, builtin, Sem.run_bind, Sem.run_pure, Result.andThen_ok, List.map_toArray, List.map_cons, List.map_nil, hs, hx, hr]
    exact hK _ _ (h v' w' h2 hg hf')

/-- an item's cells, with where its bytes lie -/
def itCells (p : Itm × Value × Value) : List Value := [.int .i64 p.1.kind, .int .i64 p.1.proto, .int .i64 p.1.T, .int .i64 p.1.ch, p.2.1, p.2.2]
def itRow (L : List (Itm × Value × Value)) : List Value := L.flatMap itCells

theorem ownsRow_same {w w' : World} {B T k n : Nat} {v : Value} {xs : List Value} (h : w.ownsRow B T k v n xs) (e : ∀ j, v.ownBlock = some j → w'.heap[j]? = w.heap[j]?) : w'.ownsRow B T k v n xs := by
  obtain ⟨h1, h2⟩ := h
  refine ⟨h1, ?_⟩
  rcases h2 with h2 | ⟨g, cap, cur, e1, hg, hh, r⟩
  · exact .inl h2
  · exact .inr ⟨g, cap, cur, e1, hg, (e g (by rw [e1]; rfl)).trans hh, r⟩

/-- a list of items: gO its variable's block; O: the blocks that it is made of -/
structure OutL (B gO : Nat) (L : List (Itm × Value × Value)) (O : Nat → Prop) (W : World) : Prop where
  cell : ∃ vl, W.heap[gO]? = some (.cells #[vl] 47 (0, 0)) ∧ W.ownsRow B 71 6 vl L.length (itRow L) ∧ ∀ j, vl.ownBlock = some j → O j
  its : ∀ p ∈ L, OwnBytes W B 5 p.2.1 p.1.ext ∧ OwnBytes W B 5 p.2.2 p.1.body ∧ (∀ j, p.2.1.ownBlock = some j → O j) ∧ ∀ j, p.2.2.ownBlock = some j → O j
  og : O gO

theorem OwnBytes.cells {w w' : World} {B T : Nat} {v : Value} {l : List UInt8} (h : OwnBytes w B T v l) (e : ∀ j cs fr, v.ownBlock = some j → w.heap[j]? = some (.cells cs T fr) → w'.heap[j]? = w.heap[j]?) : OwnBytes w' B T v l := by
  obtain ⟨h1, h2⟩ := h.row
  refine ⟨⟨h1, ?_⟩⟩
  rcases h2 with h2 | ⟨g, cap, cur, e1, hg, hh, r⟩
  · exact .inl h2
  · exact .inr ⟨g, cap, cur, e1, hg, (e g _ _ (by rw [e1]; rfl) hh).trans hh, r⟩

theorem ownsRow_cells {w w' : World} {B T k n : Nat} {v : Value} {xs : List Value} (h : w.ownsRow B T k v n xs) (e : ∀ j cs fr, v.ownBlock = some j → w.heap[j]? = some (.cells cs T fr) → w'.heap[j]? = w.heap[j]?) : w'.ownsRow B T k v n xs := by
  obtain ⟨h1, h2⟩ := h
  refine ⟨h1, ?_⟩
  rcases h2 with h2 | ⟨g, cap, cur, e1, hg, hh, r⟩
  · exact .inl h2
  · exact .inr ⟨g, cap, cur, e1, hg, (e g _ _ (by rw [e1]; rfl) hh).trans hh, r⟩

theorem OutL.keep {B gO : Nat} {L : List (Itm × Value × Value)} {O : Nat → Prop} {W W' : World} (h : OutL B gO L O W) (e : ∀ j cs t fr, O j → W.heap[j]? = some (.cells cs t fr) → W'.heap[j]? = W.heap[j]?) : OutL B gO L O W' := by
  obtain ⟨vl, h1, h2, h3⟩ := h.cell
  refine ⟨⟨vl, (e gO _ _ _ h.og h1).trans h1, ownsRow_cells h2 (fun j cs fr hj hh => e j _ _ _ (h3 j hj) hh), h3⟩, fun p hp => ?_, h.og⟩
  obtain ⟨q1, q2, q3, q4⟩ := h.its p hp
  exact ⟨q1.cells (fun j cs fr hj hh => e j _ _ _ (q3 j hj) hh), q2.cells (fun j cs fr hj hh => e j _ _ _ (q4 j hj) hh), q3, q4⟩

theorem feed_len (l : List UInt8) (s : SM) : (feed s l).2.length ≤ l.length := by
  induction l generalizing s with
  | nil => simp [feed]
  | cons c t ih =>
    have hc : feed s (c :: t) = feed s ([c] ++ t) := rfl
    rw [hc, feed_append]
    simp only [List.length_append, List.length_cons]
    have h1 : (feed s [c]).2.length ≤ 1 := by
      show (if (stepE s c).2.kind = 0 then ([] : List Itm) else [] ++ [(stepE s c).2]).length ≤ 1
      split <;> simp
    have := ih (feed s [c]).1
    omega
end Go.Proofs.Ytofdpccjpodbhaa

namespace Go.Proofs.Ytofdpccjpodbhaa
open Go.RowKit Go.Lib
set_option linter.unusedVariables false

/-- copy(dst, src), dst lent memory from its beginning, no shorter -/
theorem wpList_copy_lent2 {P : Program} {w : World} {ops : Array Oper} {rest : List Oper} {o : Oper} {a : Act} {Q : Exit → Act → World → Prop} (hgd : o.guard = none) (d s : Operand) (dT : TypeId)
    (ho : o.op = .call { callee := .builtin .copy, args := #[d, s], argTypes := #[dT, dT] }) (hu : P.underlying dT = some (.slice 5)) (hinfo : (P.info? 5).map (fun i => (i.zero, i.size, i.bytes)) = some (some (.int .u8 0), 1, 1))
    (sp : Option Addr) (dn n dCap sCap : Nat) (hdn : n ≤ dn) (b : Nat) (hd : a.eval d = .slice (some ⟨b, 0, none⟩) dn dCap) (hs : a.eval s = .slice sp n sCap)
    (L src : List UInt8) (hb : Lent w b L) (hsrc : BytesIn w sp n sCap src) (hfit : n ≤ L.length)
    (h : ∀ w', Lent w' b (src ++ L.drop n) → Below b w w' → w'.heap.size = w.heap.size → (∀ k, k ≠ b → w'.heap[k]? = w.heap[k]?) → wpList P ops Q rest (a.put o.dst (goInt (n : Int))) w') :
    wpList P ops Q (o :: rest) a w := by
  obtain ⟨i, hi, hzz⟩ := Option.map_eq_some_iff.1 hinfo
  simp only [Prod.mk.injEq] at hzz
  have hsz : (P.info? 5).map (·.size) = some 1 := by rw [hi]; simp [hzz.2.1]
  have hl := hsrc.len
  refine wpList_plain hgd fun K hK => ?_
  by_cases h0 : n = 0
  · subst h0
    have hrun := run_copy_none (P := P) w dT dT o.type 5 (some ⟨b, 0, none⟩) sp dn dCap 0 sCap hu hsz (by simp)
    obtain rfl : src = [] := List.eq_nil_of_length_eq_zero hl
    have := h w (by simpa using hb) (Below.refl _ _) rfl (fun _ _ => rfl)
    unfold Oper.wp
    simp [execOp, ho, resolve, invoke, builtin, hd, hs, hrun, Result.andThen]
    exact hK _ _ this
  · obtain ⟨sb, so, rfl, hsb, hcell⟩ := hsrc.at_ (by have := hsrc.le; omega)
    have hrun := run_copy_cells (P := P) w dT dT o.type 5 b 0 dn dCap ⟨sb, so, none⟩ n sCap (src.map byteV) hu hsz (by rw [List.length_map, hl]; exact (Nat.min_eq_left hdn).symm) (by
      intro j v hj
      have hadd : (⟨sb, so, none⟩ : Addr).add j = ⟨sb, so + j, none⟩ := by unfold Addr.add; split <;> simp_all
      have hjl : j < n := by
        have := (List.getElem?_eq_some_iff.1 hj).1
        rw [List.length_map, hl] at this
        exact this
      rw [hadd, hcell j hjl, ← hj, List.getElem?_map, List.getD_eq_getElem?_getD, List.getElem?_eq_getElem (by omega)]
      simp [byteV]) (by
      intro j hj
      rw [List.length_map, hl] at hj
      rw [Nat.zero_add, hb.cell j (by omega)]
      rfl) (by
      intro j hj
      rw [List.length_map, hl] at hj
      rw [Nat.zero_add]
      exact hb.frozen j (by omega)) (by
      intro v hv
      obtain ⟨x, _, rfl⟩ := List.mem_map.1 hv
      rfl)
    rw [List.length_map, hl] at hrun
    have hnew := Lent.setCells src L 0 w hb (by omega)
    rw [Nat.zero_add, hl, List.take_zero, List.nil_append] at hnew
    unfold Oper.wp
    simp only [execOp, ho, resolve, invoke, builtin, Sem.run_bind, Sem.run_pure, Result.andThen_ok, List.map_toArray, List.map_cons, List.map_nil, hd, hs, hrun]
    exact hK _ _ (h _ hnew (setCells_below b b (Nat.le_refl _) _ _ _) (setCells_size _ _ _ _) (fun k hk => setCells_other _ _ _ _ k hk))

/-- the marks behind -/
def markB : List UInt8 := [200, 201, 202, 203, 204, 205, 206, 207, 208]
theorem markB_getD (k : Nat) (h : k < 9) : markB.getD k 0 = UInt8.ofNat (200 + k) := by
  match k, h with
  | 0, _ => rfl
  | 1, _ => rfl
  | 2, _ => rfl
  | 3, _ => rfl
  | 4, _ => rfl
  | 5, _ => rfl
  | 6, _ => rfl
  | 7, _ => rfl
  | 8, _ => rfl
theorem markB_toNat (k : Nat) (h : k < 9) : ((markB.getD k 0).toNat : Int) = 200 + (k : Int) := by
  rw [markB_getD k h]
  simp only [UInt8.toNat_ofNat']
  omega

/-- as far as the k-th mark -/
def lentTo (l : List UInt8) (k : Nat) : List UInt8 := l ++ (markB.take k ++ List.replicate (9 - k) 0)
theorem lentTo_length (l : List UInt8) (k : Nat) (h : k ≤ 9) : (lentTo l k).length = l.length + 9 := by
  simp only [lentTo, List.length_append, List.length_take, List.length_replicate, show markB.length = 9 from rfl]
  omega
theorem lentTo_set (l : List UInt8) (k : Nat) (h : k < 9) : (lentTo l k).set (l.length + k) (UInt8.ofNat (200 + k)) = lentTo l (k + 1) := by
  unfold lentTo
  rw [List.set_append_right _ _ (by omega)]
  congr 1
  rw [show l.length + k - l.length = k by omega]
  match k, h with
  | 0, _ => rfl
  | 1, _ => rfl
  | 2, _ => rfl
  | 3, _ => rfl
  | 4, _ => rfl
  | 5, _ => rfl
  | 6, _ => rfl
  | 7, _ => rfl
  | 8, _ => rfl
theorem lentTo_all (l : List UInt8) : lentTo l 9 = l ++ markB := by simp [lentTo, markB]

/-- what LentBytes hands out -/
def LbOut (w : World) (l : List UInt8) (e : Ending) (w' : World) : Prop :=
  e = .returned (.slice (some ⟨w.heap.size, 0, none⟩) l.length (l.length + 9)) ∧ Below w.heap.size w w' ∧ w'.heap.size = w.heap.size + 1 ∧ Lent w' w.heap.size (l ++ markB)

theorem lentB_any (w : World) (a : Option Addr) (n c : Nat) (l : List UInt8) (h : BytesIn w a n c l) (hz : n ≤ 1048576) :
    Calls Try.prog 65 #[.slice a n c] w (LbOut w l) := by
  have hl := h.len
  have hcap := h.cap
  have hle := h.le
  unfold maxLen at hcap
  have hmk := run_make_row' (P := Try.prog) 22 5 (.int .u8 0) 1 Try.underlying22 info_u8 rfl .i64 .i64 (n + 9) (by omega) (by omega) w
  have a0 : (w.alloc (.cells (madeCells #[.int .u8 0] (n + 9)) 5)).heap[w.heap.size]? = some (.cells (madeCells #[.int .u8 0] (n + 9)) 5 (0, 0)) := heap_alloc_new _ _
  have hmc : madeCells #[.int .u8 0] (n + 9) = ((List.replicate (n + 9) (0 : UInt8)).map byteV).toArray := by
    apply Array.ext
    · simp [size_madeCells]
    · intro i h1 h2
      simp [madeCells, Nat.mod_one, byteV]
  have hL0 : Lent (w.alloc (.cells (madeCells #[.int .u8 0] (n + 9)) 5)) w.heap.size (List.replicate (n + 9) 0) := ⟨(0, 0), by rw [a0, hmc], .inl rfl⟩
  have hb1 : Below w.heap.size w (w.alloc (.cells (madeCells #[.int .u8 0] (n + 9)) 5)) := (Below.refl _ w).alloc (Nat.le_refl _) _
  have hz1 : (w.alloc (.cells (madeCells #[.int .u8 0] (n + 9)) 5)).heap.size = w.heap.size + 1 := by simp
  have hs1 := h.below hb1
  obtain ⟨g, hg⟩ : ∃ g, w.heap.size = g := ⟨_, rfl⟩
  unfold LbOut
  rw [hg] at hL0 hb1 hz1 hmk ⊢
  rw [hl]
  generalize (w.alloc (.cells (madeCells #[.int .u8 0] (n + 9)) 5)) = w1 at *
  generalize madeCells #[.int .u8 0] (n + 9) = mc at *
  have HL0 := Lib.hid hL0
  have HB1 := Lib.hid hb1
  have HS1 := Lib.hid hs1
  have HG := Lib.hid hg
  have HZ := Lib.hid hz1
  have HL := Lib.hid hl
  have hmk' : (Instr.makeSlice 22 (.int .i64 ((n : Int) + 9)) (.int .i64 ((n : Int) + 9))).run Try.prog w = .ok (.slice (some ⟨g, 0, none⟩) (n + 9) (n + 9)) w1 := hmk
  clear hL0 hb1 hs1 h a0 hmc hmk hg hz1 hl
  go_enter Try.func65, Try.ntmps65
  go_upto_region 2 with fail
  go_wp2_with (refine wpList_copy_lent2 rfl (.tmp 9) (.tmp 10) 22 rfl Try.underlying22 info_u8 a (n + 9) n (n + 9) c (by omega) g rfl rfl (List.replicate (n + 9) 0) l HL0.out HS1.out (by simp) ?_)
  intro w2 hl2 hb2 hz2 hk2
  have hl2' : Lent w2 g (lentTo l 0) := by
    have e : lentTo l 0 = l ++ [0, 0, 0, 0, 0, 0, 0, 0, 0] := by simp [lentTo]
    rw [e]
    first
      | exact hl2
      | simpa [show n + 9 - n = 9 by omega] using hl2
  have HL2 := Lib.hid hl2'
  have HB2 := Lib.hid (HB1.out.trans hb2)
  have HZ2 := Lib.hid (hz2.trans HZ.out)
  clear hl2 hb2 hz2 hk2 hl2' hmk' HL0 HB1 HS1 HZ
  go_wp2_with fail
  go_loopw [4] (fun i wr => ∃ k : Nat, k ≤ 9 ∧ i = .int .i64 ((n : Int) + (k : Int)) ∧ Lent wr g (lentTo l k) ∧ Below g w wr ∧ wr.heap.size = g + 1) (fun i _ => n + 9 - (intOf i).toNat)
  case atStart => exact ⟨0, by omega, by simp, HL2.out, HB2.out, HZ2.out⟩
  case round =>
    obtain ⟨k, hk, rfl, hL, hB, hZ⟩ := hrel
    by_cases hlt : k < 9
    · have hln : (n : Int) + (k : Int) < (n : Int) + 9 := by omega
      have hn0 : ¬ (n : Int) + (k : Int) < 0 := by omega
      have hcl := hL.cell (n + k) (by rw [lentTo_length l k hk, HL.out]; omega)
      have hfz := hL.frozen (n + k) (by rw [lentTo_length l k hk, HL.out]; omega)
      have hs := hL.set (n + k) (UInt8.ofNat (200 + k))
      have hset := lentTo_set l k hlt
      rw [HL.out] at hset
      rw [hset] at hs
      have e200 : ((UInt8.ofNat (200 + k)).toNat : Int) = 200 + (k : Int) := by rw [← markB_getD k hlt]; exact markB_toNat k hlt
      rw [e200] at hs
      have HS := Lib.hid hs
      have HBn := Lib.hid (hB.setCell (p := ⟨g, n + k, none⟩) (Nat.le_refl _) (.int .u8 (200 + (k : Int))))
      have HZn := Lib.hid hZ
      clear hL hs hset e200 hB hZ HL2 HB2 HZ2
      go_wp2_with fail
      rw [show (200 + ((n : Int) + (k : Int)) - (n : Int)) = 200 + (k : Int) from by omega]
      go_roundw
      case rel => exact ⟨k + 1, by omega, by congr 1, HS.out, HBn.out, by simpa using HZn.out⟩
      case measure => simp [intOf]; omega
    · obtain rfl : k = 9 := by omega
      rw [lentTo_all] at hL
      have HLL := Lib.hid hL
      have HBB := Lib.hid hB
      have HZZ := Lib.hid hZ
      have hn9 : ¬ (n : Int) + 9 < (n : Int) + 9 := by omega
      clear hL hB hZ HL2 HB2 HZ2
      go_wp2_with fail
      go_ret
      exact ⟨rfl, HBB.out, HZZ.out, HLL.out⟩

set_option maxHeartbeats 2000000 in
/-- .. and its owner writes all over -/
theorem asLentB_any (w : World) (g n c : Nat) (l : List UInt8) (a : Option Addr) (hg : Lent w g (l ++ markB)) (h : BytesIn w a n c l) (hz : n ≤ 1048576) :
    Calls Try.prog 66 #[.slice (some ⟨g, 0, none⟩) n (n + 9), .slice a n c] w fun e w' => e = .returned (.bool true) ∧ w.grownBy w' (some g) ∧ w'.heap.size = w.heap.size := by
  have hcc := h.cap
  have hcl := h.le
  unfold maxLen at hcc
  have hrl := h.len
  have hll : (l ++ markB).length = n + 9 := by rw [List.length_append, hrl]; rfl
  have hall := hg.bytes 0 n (n + 9) (by omega) (by omega) (by unfold maxLen; omega)
  rw [List.drop_zero, List.take_left' hrl] at hall
  have v1 := run_string_bytes (P := Try.prog) w 22 9 5 Try.underlying22 Try.underlying5 Try.underlying9 _ _ _ _ hall
  have v2 := run_string_bytes (P := Try.prog) w 22 9 5 Try.underlying22 Try.underlying5 Try.underlying9 _ _ _ _ h
  have HG := Lib.hid hg
  have HLL := Lib.hid hll
  have HRL := Lib.hid hrl
  clear h hall hg hll hrl
  go_enter Try.func66, Try.ntmps66
  go_wp2_with fail
  go_loopw [6, 7] (fun s6 s7 wr => ∃ (k : Nat) (L' : List UInt8), k ≤ n + 9 ∧ s6 = .bool true ∧ s7 = .int .i64 k ∧ Lent wr g L' ∧ L'.length = n + 9 ∧ (∀ j, k ≤ j → L'.getD j 0 = (l ++ markB).getD j 0) ∧ w.grownBy wr (some g) ∧ wr.heap.size = w.heap.size) (fun _ s7 _ => n + 9 - (intOf s7).toNat)
  case atStart => exact ⟨0, _, by omega, by first | rfl | simp, rfl, HG.out, HLL.out, fun j _ => rfl, ⟨rfl, rfl, rfl, Nat.le_refl _, fun _ _ _ => rfl⟩, rfl⟩
  case round =>
    obtain ⟨k, L', hk, rfl, rfl, hl, hll, hsame, hgr, hzz⟩ := hrel
    by_cases hlt : k < n + 9
    · have hc := hl.cell k (by omega)
      have hf := hl.frozen k (by omega)
      have hs := hl.set k 77
      have hs' : Lent (wr.setCell ⟨g, k, none⟩ (.int .u8 77)) g (L'.set k 77) := hs
      have hgr2 : w.grownBy (wr.setCell ⟨g, k, none⟩ (.int .u8 77)) (some g) := grown_trans hgr (setCell_grown wr g k _)
      have hkv := hsame k (Nat.le_refl _)
      have hsm : ∀ j, k + 1 ≤ j → (L'.set k 77).getD j 0 = (l ++ markB).getD j 0 := fun j hj => by
        rw [List.getD_eq_getElem?_getD, List.getElem?_set_ne (by omega), ← List.getD_eq_getElem?_getD]
        exact hsame j (by omega)
      have HS := Lib.hid hs'
      have HGR := Lib.hid hgr2
      have HSM := Lib.hid hsm
      have HZ := Lib.hid hzz
      have HL' := Lib.hid hll
      have hklt : (k : Int) < (n : Int) + 9 := by omega
      rw [hkv] at hc
      by_cases hkn : k < n
      · have hkn' : ¬ (n : Int) ≤ (k : Int) := by omega
        have hkd : decide ((n : Int) ≤ (k : Int)) = false := by simpa using hkn
        obtain ⟨y, hy⟩ : ∃ y, (((l ++ markB).getD k 0).toNat : Int) = y := ⟨_, rfl⟩
        rw [hy] at hc
        clear hl hs hs' hgr hgr2 hkv hsame hsm hll hy hzz v1 v2
        go_wp2_with fail
        go_roundw
        case rel => exact ⟨k + 1, _, by omega, rfl, by go_num, HS.out, by rw [List.length_set]; exact HL'.out, HSM.out, HGR.out, by simpa using HZ.out⟩
        case measure => simp [intOf]; omega
      · obtain ⟨m, rfl⟩ : ∃ m, k = n + m := ⟨k - n, by omega⟩
        have hm : m < 9 := by omega
        have ev : (((l ++ markB).getD (n + m) 0).toNat : Int) = 200 + (m : Int) := by
          rw [← HRL.out, List.getD_eq_getElem?_getD, List.getElem?_append_right (by omega), show l.length + m - l.length = m by omega, ← List.getD_eq_getElem?_getD]
          exact markB_toNat m hm
        rw [ev] at hc
        have hkn' : (n : Int) ≤ ((n + m : Nat) : Int) := by omega
        clear hl hs hs' hgr hgr2 hkv hsame hsm hll ev hzz v1 v2
        go_wp2_with fail
        go_roundw
        case rel => exact ⟨n + m + 1, _, by omega, rfl, by go_num, HS.out, by rw [List.length_set]; exact HL'.out, HSM.out, HGR.out, by simpa using HZ.out⟩
        case measure => simp [intOf]; omega
    · obtain rfl : k = n + 9 := by omega
      have HGR := Lib.hid hgr
      have HZ := Lib.hid hzz
      clear hl hgr hsame hll hzz v1 v2
      go_wp2_with fail
      go_ret
      exact ⟨rfl, HGR.out, HZ.out⟩
end Go.Proofs.Ytofdpccjpodbhaa

namespace Go.Proofs.Ytofdpccjpodbhaa
set_option linter.unusedVariables false

theorem openR_sz (b : List UInt8) (p m : Int) : (openR b p m).2.2.1.length ≤ b.length ∧ (openR b p m).2.2.2.1.length ≤ b.length := by
  unfold openR
  split
  · exact ⟨Nat.zero_le _, Nat.zero_le _⟩
  · simp only
    split
    · exact ⟨Nat.zero_le _, Nat.zero_le _⟩
    · split
      · exact ⟨Nat.zero_le _, Nat.zero_le _⟩
      · split
        · exact ⟨Nat.zero_le _, Nat.zero_le _⟩
        · split
          · exact ⟨Nat.zero_le _, Nat.zero_le _⟩
          · split
            · exact ⟨Nat.zero_le _, Nat.zero_le _⟩
            · split
              · exact ⟨Nat.zero_le _, Nat.zero_le _⟩
              · split
                · exact ⟨Nat.zero_le _, Nat.zero_le _⟩
                · simp only [List.length_take, List.length_drop]
                  omega

theorem next1_sz (s : SM) : (next1 s).2.ext.length ≤ s.held.length ∧ (next1 s).2.body.length ≤ s.held.length := by
  have h := openR_sz s.held 0 1048576
  have z : (Itm.no).ext.length ≤ s.held.length ∧ (Itm.no).body.length ≤ s.held.length := ⟨Nat.zero_le _, Nat.zero_le _⟩
  unfold next1
  repeat' split
  all_goals first | exact z | exact ⟨Nat.zero_le _, Nat.zero_le _⟩ | exact h

theorem step_sz {s : SM} (h : Ok s) (he : s.err = 0) (c : UInt8) : (step s c).2.ext.length ≤ 1048577 ∧ (step s c).2.body.length ≤ 1048577 := by
  have h1 := next1_sz (s.take1 c)
  have h2 := h.len he
  have h3 := h.size
  have h4 : (s.take1 c).held.length = s.held.length + 1 := by simp [SM.take1]
  unfold step
  omega

theorem takeR_sz : ∀ (ch : List UInt8) (s : SM), Ok s → (takeR s ch).2.1.ext.length ≤ 1048577 ∧ (takeR s ch).2.1.body.length ≤ 1048577
  | [], s, _ => ⟨Nat.zero_le _, Nat.zero_le _⟩
  | c :: t, s, h => by
    unfold takeR
    split
    · rename_i he
      split
      · exact takeR_sz t _ (h.step he c)
      · exact step_sz h he c
    · exact ⟨Nat.zero_le _, Nat.zero_le _⟩
end Go.Proofs.Ytofdpccjpodbhaa
