/-
  Lemmas on the codec. Conditions: as each says.
-/
import Derived.Test.YtnnnfhobbnjmfaaGreatDoorEn12
import Derived.Test.YtnnnfhobbnjmfaaGreatDoorEn09
import Derived.Test.YtnnnfhobbnjmfaaGreatDoorEn10
import Derived.Test.YtnnnfhobbnjmfaaGreatDoorEn11
import Derived.Lib.AppendStr
import Derived.Test.YtnnnfhobbnjmfaaGreatDoorEn02
namespace Go.Proofs.YtnnnfhobbnjmfaaGreatDoor
open Go.RowKit
set_option linter.all false
set_option maxHeartbeats 4000000

attribute [local go_sem] Oper.semAt_some

theorem append_freshM {P : Program} {w w' : World} {base t ty e : Nat} {i : TypeInfo} {z v v' : Value} {bytes n : Nat} {xs ys : List Value} (ht : P.underlying t = some (.slice e)) (hi : P.info? e = some i) (hz : i.zero = some z)
    (hsize : i.size = 1) (hby : i.bytes = bytes) (hown : w.ownsRow base e 1 v n xs)
    (a : Addr) (m c : Nat) (hm : 0 < m) (hl : ys.length = m) (hnews : ∀ j u, ys[j]? = some u → w.cell? (a.add j) = some u) (h1 : ∀ u ∈ ys, u.oneCell' = true) (h63 : n + m ≤ maxLen) (hbytes : (n + m) * bytes ≤ 140737488355328)
    (hr : (Builtin.append_ #[t, t] ty #[v, .slice (some a) m c]).run P w = .ok v' w') : SameOrNew w v v' := by
  have hl1 : ys.length = m * i.size := by rw [hsize, hl, Nat.mul_one]
  have hm2 : n + m ≤ 9223372036854775807 := by unfold maxLen at h63; omega
  rcases hown.2 with ⟨rfl, rfl⟩ | ⟨g, cap, cur, rfl, hbg, hg, hnc, hcm, hcs, htake⟩
  · have hq := run_append_nil (P := P) w t ty e i z ht hi hz a m c ys hl1 hnews (by omega) (by omega) (by rw [hby]; rw [Nat.zero_add] at hbytes; omega)
    rw [hr] at hq
    simp only [Result.ok.injEq] at hq
    exact .inr ⟨w.heap.size, by rw [hq.1]; rfl, Nat.le_refl _⟩
  · by_cases hroom : n + m ≤ cap
    · have hq := run_append_room (P := P) w t ty e i ht hi g n cap cur hg a m c ys hl1 hnews h1 hroom (by rw [hsize, hcs, hl]; omega)
      rw [hr] at hq
      simp only [Result.ok.injEq] at hq
      exact .inl (by rw [hq.1]; rfl)
    · have holds : ∀ j u, xs[j]? = some u → w.cell? ((⟨g, 0, none⟩ : Addr).add j) = some u := hown.cells (g := g) rfl
      have hq := run_append_grow (P := P) w t ty e i z ht hi hz ⟨g, 0, none⟩ n cap xs (by rw [hsize]; exact hown.1) holds a m c ys hl1 hnews (by omega) (by omega) (growslice_fits (by omega) (by rw [hby]; exact hbytes))
      rw [hr] at hq
      simp only [Result.ok.injEq] at hq
      exact .inr ⟨w.heap.size, by rw [hq.1]; rfl, Nat.le_refl _⟩

structure Gw (w w' : World) (t t' : Value) : Prop where
  g : w.grownBy w' t.ownBlock
  o : ∀ j, t'.ownBlock = some j → t.ownBlock = some j ∨ w.heap.size ≤ j
section
variable {w w' w2 w1 : World} {t t' t2 : Value} {B : Nat} {u : Value} {l : List UInt8}
theorem Gw.refl (w : World) (t : Value) : Gw w w t t := ⟨⟨rfl, rfl, rfl, Nat.le_refl _, fun _ _ _ => rfl⟩, fun j h => .inl h⟩
theorem Gw.size (h : Gw w w' t t') : w.heap.size ≤ w'.heap.size := h.g.size
theorem Gw.trans (h : Gw w w' t t') (k : Gw w' w2 t' t2) : Gw w w2 t t2 := by
  refine ⟨⟨k.g.os.trans h.g.os, k.g.tape.trans h.g.tape, k.g.output.trans h.g.output, Nat.le_trans h.g.size k.g.size, fun j hj hn => (k.g.block j (Nat.lt_of_lt_of_le hj h.g.size) (fun e => ?_)).trans (h.g.block j hj hn)⟩, fun j hj => ?_⟩
  · rcases h.o j e.symm with q | q
    · exact hn q.symm
    · omega
  · have := h.g.size
    rcases k.o j hj with q | q
    · exact h.o j q
    · exact .inr (by omega)
theorem Gw.pre (hb : Below w.heap.size w w1) (h : Gw w1 w' t t') : Gw w w' t t' :=
  ⟨⟨h.g.os.trans hb.os, h.g.tape.trans hb.tape, h.g.output.trans hb.output, Nat.le_trans hb.size h.g.size, fun j hj hn => (h.g.block j (Nat.lt_of_lt_of_le hj hb.size) hn).trans (hb.block j hj)⟩, fun j hj => by
    have := hb.size
    rcases h.o j hj with q | q
    · exact .inl q
    · exact .inr (by omega)⟩
theorem Gw.own (h : Gw w w' t t') (hu : OwnBytes w B 5 u l) (hap : u.ownBlock = none ∨ u.ownBlock ≠ t.ownBlock) : OwnBytes w' B 5 u l := hu.kept h.g hap
theorem Gw.apart (h : Gw w w' t t') (hu : OwnBytes w B 5 u l) (hap : u.ownBlock = none ∨ u.ownBlock ≠ t.ownBlock) : u.ownBlock = none ∨ u.ownBlock ≠ t'.ownBlock := by
  rcases hap with q | q
  · exact .inl q
  · cases hb : u.ownBlock with
    | none => exact .inl rfl
    | some g =>
      refine .inr (fun e => ?_)
      have hlt := (hu.row.lt g hb).2
      rcases h.o g (by rw [← e]) with q2 | q2
      · exact q (by rw [hb, q2])
      · omega
theorem Gw.cell (h : Gw w w' t t') {a : Addr} {x : Value} (hc : w.cell? a = some x) (hne : t.ownBlock ≠ some a.block) : w'.cell? a = some x := h.g.cell hc (Ne.symm hne)
theorem Gw.below (h : Gw w w' t t') (ht : OwnBytes w B 5 t l) (hB : B ≤ w.heap.size) : Below B w w' := (Below.refl _ _).grown h.g hB fun j hj => (ht.row.lt j hj).1
theorem gw_of {w w' : World} {t t' : Value} (hg : w.grownBy w' t.ownBlock) (hs : SameOrNew w t t') : Gw w w' t t' := ⟨hg, fun j hj => by
  rcases hs with q | ⟨g, q1, q2⟩
  · exact .inl (by rw [← q]; exact hj)
  · rw [q1] at hj; cases hj; exact .inr q2⟩
end

theorem run_append_empty {P : Program} (w : World) (B t ty e : Nat) (i : TypeInfo) (size : Nat) (ht : P.underlying t = some (.slice e)) (hi : P.info? e = some i) (hsz : i.size = size)
    (v : Value) (n c : Nat) (xa : Option Addr) (xs : List Value) (hown : w.ownsRow B e size v n xs) : (Builtin.append_ #[t, t] ty #[v, .slice xa 0 c]).run P w = .ok v w := by
  cases xa with
  | none =>
    rcases hown.2 with ⟨rfl, rfl⟩ | ⟨g, cap, cur, rfl, hbg, hg, hnc, hcm, hcs, htake⟩
    · simp [Builtin.append_, run_underlying ht, sizeOf, typeInfo, hi, Builtin.lenOf, Builtin.firstCells]
    · simp [Builtin.append_, run_underlying ht, sizeOf, typeInfo, hi, Builtin.lenOf, Builtin.firstCells, loadCells, hnc, storeCells]
  | some a =>
    rcases hown.2 with ⟨rfl, rfl⟩ | ⟨g, cap, cur, rfl, hbg, hg, hnc, hcm, hcs, htake⟩
    · simp [Builtin.append_, run_underlying ht, sizeOf, typeInfo, hi, Builtin.lenOf, Builtin.firstCells, loadCells, loadCellsFrom]
    · simp [Builtin.append_, run_underlying ht, sizeOf, typeInfo, hi, Builtin.lenOf, Builtin.firstCells, loadCells, loadCellsFrom, hnc, storeCells]
theorem wp_append_bytesF {P : Program} {w : World} {o : Oper} {a : Act} {K : Act → World → Prop} {Q : Exit → Act → World → Prop}
    (s x : Operand) (t : TypeId) (ho : o.op = .call { callee := .builtin .append, args := #[s, x], argTypes := #[t, t] })
    (B : Nat) (ht : P.underlying t = some (.slice 5)) (hinfo : (P.info? 5).map (fun i => (i.zero, i.size, i.bytes)) = some (some (.int .u8 0), 1, 1))
    (v : Value) (l r : List UInt8) (xa : Option Addr) (n c : Nat)
    (hs : a.eval s = v) (hx : a.eval x = .slice xa n c) (hown : OwnBytes w B 5 v l) (hr : BytesIn w xa n c r)
    (hlen : l.length + n ≤ 140737488355328) (hbase : B ≤ w.heap.size)
    (h : ∀ v' w', OwnBytes w' B 5 v' (l ++ r) → Gw w w' v v' → K (a.put o.dst v') w') : Oper.wp P o a w K Q := by
  obtain ⟨i, hi, hzz⟩ := Option.map_eq_some_iff.1 hinfo
  simp only [Prod.mk.injEq] at hzz
  obtain ⟨hz, hsz, hb⟩ := hzz
  have hrl := hr.len
  rcases Nat.eq_zero_or_pos n with h0 | hn
  · subst h0
    have h2 := run_append_empty (P := P) w B t o.type 5 i 1 ht hi hsz v l.length c xa _ hown.row
    unfold Oper.wp execOp
    simp only [ho, resolve, invoke, builtin, Sem.run_bind, Sem.run_pure, Result.andThen_ok, List.map_toArray, List.map_cons, List.map_nil, hs, hx, h2]
    obtain rfl : r = [] := List.eq_nil_of_length_eq_zero hrl
    exact h v w (by rw [List.append_nil]; exact hown) (Gw.refl w v)
  obtain ⟨b, o', rfl, _, hc⟩ := hr.at_ (by have := hr.le; omega)
  have hnews : ∀ j u, (r.map byteV)[j]? = some u → w.cell? ((⟨b, o', none⟩ : Addr).add j) = some u := by
    intro j u hj
    have hjl : j < n := by
      have := (List.getElem?_eq_some_iff.1 hj).1
      rw [List.length_map, hrl] at this
      exact this
    have hadd : (⟨b, o', none⟩ : Addr).add j = ⟨b, o' + j, none⟩ := by unfold Addr.add; split <;> simp_all
    rw [hadd, hc j hjl, ← hj, List.getElem?_map, List.getD_eq_getElem?_getD, List.getElem?_eq_getElem (by omega)]
    simp [byteV]
  have h1 : ∀ u ∈ r.map byteV, u.oneCell' = true := by
    intro u hu
    obtain ⟨x, _, rfl⟩ := List.mem_map.1 hu
    rfl
  obtain ⟨v', w', h2, h3, h4, _⟩ := run_append_own (P := P) w B t o.type 5 i (.int .u8 0) 1 1 ht hi hz hsz hb rfl (by decide) v l.length (l.map byteV) hown.row ⟨b, o', none⟩ n c (r.map byteV) (by rw [List.length_map, hrl, Nat.mul_one]) hnews h1 (by unfold maxLen; omega) (by omega) hbase
  have hf := append_freshM (P := P) ht hi hz hsz hb hown.row ⟨b, o', none⟩ n c hn (by rw [List.length_map, hrl]) hnews h1 (by unfold maxLen; omega) (by omega) h2
  unfold Oper.wp execOp
  simp only [ho, resolve, invoke, builtin, Sem.run_bind, Sem.run_pure, Result.andThen_ok, List.map_toArray, List.map_cons, List.map_nil, hs, hx, h2]
  refine h v' w' ⟨?_⟩ (gw_of h4 hf)
  rw [List.length_append, hrl, List.map_append]
  exact h3
theorem wpList_append_bytesF {P : Program} {w : World} {ops : Array Oper} {rest : List Oper} {o : Oper} {a : Act} {Q : Exit → Act → World → Prop} (hgd : o.guard = none)
    (s x : Operand) (t : TypeId) (ho : o.op = .call { callee := .builtin .append, args := #[s, x], argTypes := #[t, t] })
    (B : Nat) (ht : P.underlying t = some (.slice 5)) (hinfo : (P.info? 5).map (fun i => (i.zero, i.size, i.bytes)) = some (some (.int .u8 0), 1, 1))
    (v : Value) (l r : List UInt8) (xa : Option Addr) (n c : Nat)
    (hs : a.eval s = v) (hx : a.eval x = .slice xa n c) (hown : OwnBytes w B 5 v l) (hr : BytesIn w xa n c r)
    (hlen : l.length + n ≤ 140737488355328) (hbase : B ≤ w.heap.size)
    (h : ∀ v' w', OwnBytes w' B 5 v' (l ++ r) → Gw w w' v v' → wpList P ops Q rest (a.put o.dst v') w') : wpList P ops Q (o :: rest) a w :=
  wpList_plain hgd fun K hK => wp_append_bytesF s x t ho B ht hinfo v l r xa n c hs hx hown hr hlen hbase (fun v' w' h1 h2 => hK _ _ (h v' w' h1 h2))
theorem wpList_append_text {P : Program} {w : World} {ops : Array Oper} {rest : List Oper} {o : Oper} {a : Act} {Q : Exit → Act → World → Prop} (hgd : o.guard = none)
    (s x : Operand) (t u : TypeId) (ho : o.op = .call { callee := .builtin .append, args := #[s, x], argTypes := #[t, u] })
    (B : Nat) (ht : P.underlying t = some (.slice 5)) (hu : P.underlying u = some .string) (hinfo : (P.info? 5).map (fun i => (i.zero, i.size, i.bytes)) = some (some (.int .u8 0), 1, 1))
    (v : Value) (l : List UInt8) (tx : ByteArray)
    (hs : a.eval s = v) (hx : a.eval x = .string tx) (hown : OwnBytes w B 5 v l)
    (hlen : l.length + tx.size ≤ 140737488355328) (hbase : B ≤ w.heap.size)
    (h : ∀ v' w', OwnBytes w' B 5 v' (l ++ tx.data.toList) → Gw w w' v v' → wpList P ops Q rest (a.put o.dst v') w') : wpList P ops Q (o :: rest) a w := by
  obtain ⟨i, hi, hzz⟩ := Option.map_eq_some_iff.1 hinfo
  simp only [Prod.mk.injEq] at hzz
  obtain ⟨hz, hsz, hb⟩ := hzz
  refine wpList_plain hgd fun K hK => ?_
  obtain ⟨v', w', hr, h2, h3, h4⟩ := Lib.run_append_own_string (P := P) w B t u o.type 5 i ht hu hi hz hsz hb v l.length (l.map byteV) hown.row tx (by unfold maxLen; omega) hlen hbase
  have hf : SameOrNew w v v' := by
    rcases hown.row.2 with ⟨rfl, hl0⟩ | ⟨g, cap, cur, rfl, hbg, hg, hnc, hcm, hcs, htake⟩
    · by_cases hm : tx.size = 0
      · exact .inl (by rw [h4.2 ⟨rfl, hm⟩])
      · have hq := run_append_nil_string (P := P) w t u o.type 5 i (.int .u8 0) ht hu hi hz tx (by omega) (by omega) (by rw [hb]; omega)
        rw [hr] at hq
        simp only [Result.ok.injEq] at hq
        exact .inr ⟨w.heap.size, by rw [hq.1]; rfl, Nat.le_refl _⟩
    · by_cases hroom : l.length + tx.size ≤ cap
      · have hcs' : cur.size = cap := by simpa using hcs
        have hq := Lib.run_append_room_string (P := P) w t u o.type 5 i ht hu hi hsz g l.length cap cur hg tx hroom (by omega)
        rw [hr] at hq
        simp only [Result.ok.injEq] at hq
        exact .inl (by rw [hq.1]; rfl)
      · have holds : ∀ j u, (l.map byteV)[j]? = some u → w.cell? ((⟨g, 0, none⟩ : Addr).add j) = some u := hown.row.cells (g := g) rfl
        have hq := Lib.run_append_grow_string (P := P) w t u o.type 5 i (.int .u8 0) ht hu hi hz ⟨g, 0, none⟩ l.length cap (l.map byteV) (by rw [hsz]; simp) holds tx (by omega) (by omega) (by rw [hb]; exact growslice_fits (by omega) (by omega))
        rw [hr] at hq
        simp only [Result.ok.injEq] at hq
        exact .inr ⟨w.heap.size, by rw [hq.1]; rfl, Nat.le_refl _⟩
  unfold Oper.wp execOp
  simp only [ho, resolve, invoke, builtin, Sem.run_bind, Sem.run_pure, Result.andThen_ok, List.map_toArray, List.map_cons, List.map_nil, hs, hx, hr]
  refine hK _ _ (h v' w' ⟨?_⟩ (gw_of h3 hf))
  rw [List.length_append, List.map_append]
  exact h2

theorem OwnBytes.sl {w : World} {B T n c : Nat} {p : Option Addr} {l : List UInt8} (h : OwnBytes w B T (.slice p n c) l) : l.length = n ∧ BytesIn w p n c l := by
  obtain ⟨a, c', e, hb⟩ := h.bytes
  simp only [Value.slice.injEq] at e
  obtain ⟨rfl, rfl, rfl⟩ := e
  exact ⟨rfl, hb⟩
def DataTo (w : World) (B : Nat) (out : Value) (l : List UInt8) (e : Ending) (w' : World) : Prop := ∃ u, e = .returned u ∧ OwnBytes w' B 5 u l ∧ Gw w w' out u
set_option maxRecDepth 20000 in
theorem data_94 (v : V) (w : World) (s : Value) (h : VIn w v s) (out : Value) (l : List UInt8) (B : Nat) (ho : OwnBytes w B 5 out l) (hB : B ≤ w.heap.size) (bh : Value) (bl : List UInt8) (B2 : Nat) (hb : OwnBytes w B2 5 bh bl) (hap : bh.ownBlock = none ∨ bh.ownBlock ≠ out.ownBlock) (hlen : l.length + v.text.size + bl.length + v.list.length ≤ 1000000000000) :
    Calls Tryz.prog 54 #[out, .int .u8 148, .agg #[.int .i64 v.kind, .int .u64 v.num, .string v.text, s, .int .i64 v.elem], bh] w (DataTo w B out (l ++ v.tb)) := by
  obtain ⟨p, cs, hs, h1, h2, h3⟩ := h.slice
  obtain ⟨N, hN⟩ : ∃ N, v.list.length = N := ⟨_, rfl⟩
  rw [hN] at hs h1 h3 hlen
  subst hs
  obtain ⟨q, cc, hbh, hbi⟩ := hb.bytes
  subst hbh
  obtain ⟨m, hm⟩ : ∃ m, bl.length = m := ⟨_, rfl⟩
  rw [hm] at hbi hb hap hlen ⊢
  obtain ⟨L, hL⟩ : ∃ L, l.length = L := ⟨_, rfl⟩
  rw [hL] at hlen
  obtain ⟨tz, htz⟩ : ∃ tz, v.text.size = tz := ⟨_, rfl⟩
  rw [htz] at hlen
  have hlenI : (L : Int) + tz + m + N ≤ 1000000000000 := by omega
  have HO := Lib.hid (And.intro ho (And.intro hB (And.intro hb (And.intro hap (And.intro hbi (And.intro hL (And.intro htz (And.intro hm hN))))))))
  clear h h1 h2 h3 hN ho hB hb hap hbi hm hL hlen
  go_enter Tryz.func54, Tryz.ntmps54
  go_upto_region 1 with fail
  have hb0 : Below w.heap.size w (w.alloc (.cells #[.int .i64 v.kind, .int .u64 v.num, .string v.text, (.slice p N cs), .int .i64 v.elem] 25)) := ((Below.refl _ _).alloc (Nat.le_refl _) _)
  have ox := _root_.Go.heap_alloc_new w (.cells #[.int .i64 v.kind, .int .u64 v.num, .string v.text, (.slice p N cs), .int .i64 v.elem] 25)
  generalize (w.alloc (.cells #[.int .i64 v.kind, .int .u64 v.num, .string v.text, (.slice p N cs), .int .i64 v.elem] 25)) = w0 at *
  obtain ⟨x, hx⟩ : ∃ x, w.heap.size = x := ⟨_, rfl⟩
  rw [hx] at ox ⊢
  have HB0 := Lib.hid hb0
  have x2 : w0.cell? ⟨x, 2, none⟩ = some (.string v.text) := (cell_of_row _ _ 2 _ _ _ ox).trans rfl
  have HX := Lib.hid hx
  have HOX := Lib.hid ox
  clear hb0 ox hx
  have HNX := Lib.hid (show out.ownBlock ≠ some x from fun e => by have h1 := (HO.out.1.row.lt _ e).2; have h2 := HX.out; omega)
  have HO0 := Lib.hid (show OwnBytes w0 B 5 out l from HO.out.1.of_below HB0.out)
  have HBH := Lib.hid (show OwnBytes w0 B2 5 (.slice q m cc) bl from HO.out.2.2.1.of_below HB0.out)
  have htzI : (v.text.size : Int) ≤ 1000000000000 := by rw [htz]; omega
  have HTZ := Lib.hid htz
  clear htz
  go_wp2_with (first
    | (at_builtin; refine wpList_append_text rfl (.tmp 30) (.tmp 32) 28 9 rfl B Tryz.underlying28 Tryz.underlying9 info_u8 out l v.text rfl rfl HO0.out (by rw [HO.out.2.2.2.2.2.1, HTZ.out]; omega) (by have := HB0.out.size; have := HO.out.2.1; omega) ?_; intro u w2 ho2 hg2; have HO2 := Lib.hid ho2; have HG2 := Lib.hid hg2; clear ho2 hg2))
  go_ret
  exact ⟨_, rfl, HO2.out, HG2.out.pre HB0.out⟩
set_option maxRecDepth 20000 in
theorem data_98 (v : V) (w : World) (s : Value) (h : VIn w v s) (out : Value) (l : List UInt8) (B : Nat) (ho : OwnBytes w B 5 out l) (hB : B ≤ w.heap.size) (bh : Value) (bl : List UInt8) (B2 : Nat) (hb : OwnBytes w B2 5 bh bl) (hap : bh.ownBlock = none ∨ bh.ownBlock ≠ out.ownBlock) (hlen : l.length + v.text.size + bl.length + v.list.length ≤ 1000000000000) :
    Calls Tryz.prog 54 #[out, .int .u8 152, .agg #[.int .i64 v.kind, .int .u64 v.num, .string v.text, s, .int .i64 v.elem], bh] w (DataTo w B out (l ++ v.tb)) := by
  obtain ⟨p, cs, hs, h1, h2, h3⟩ := h.slice
  obtain ⟨N, hN⟩ : ∃ N, v.list.length = N := ⟨_, rfl⟩
  rw [hN] at hs h1 h3 hlen
  subst hs
  obtain ⟨q, cc, hbh, hbi⟩ := hb.bytes
  subst hbh
  obtain ⟨m, hm⟩ : ∃ m, bl.length = m := ⟨_, rfl⟩
  rw [hm] at hbi hb hap hlen ⊢
  obtain ⟨L, hL⟩ : ∃ L, l.length = L := ⟨_, rfl⟩
  rw [hL] at hlen
  obtain ⟨tz, htz⟩ : ∃ tz, v.text.size = tz := ⟨_, rfl⟩
  rw [htz] at hlen
  have hlenI : (L : Int) + tz + m + N ≤ 1000000000000 := by omega
  have HO := Lib.hid (And.intro ho (And.intro hB (And.intro hb (And.intro hap (And.intro hbi (And.intro hL (And.intro htz (And.intro hm hN))))))))
  clear h h1 h2 h3 hN ho hB hb hap hbi hm hL hlen
  go_enter Tryz.func54, Tryz.ntmps54
  go_upto_region 1 with fail
  have hb0 : Below w.heap.size w (w.alloc (.cells #[.int .i64 v.kind, .int .u64 v.num, .string v.text, (.slice p N cs), .int .i64 v.elem] 25)) := ((Below.refl _ _).alloc (Nat.le_refl _) _)
  have ox := _root_.Go.heap_alloc_new w (.cells #[.int .i64 v.kind, .int .u64 v.num, .string v.text, (.slice p N cs), .int .i64 v.elem] 25)
  generalize (w.alloc (.cells #[.int .i64 v.kind, .int .u64 v.num, .string v.text, (.slice p N cs), .int .i64 v.elem] 25)) = w0 at *
  obtain ⟨x, hx⟩ : ∃ x, w.heap.size = x := ⟨_, rfl⟩
  rw [hx] at ox ⊢
  have HB0 := Lib.hid hb0
  have x2 : w0.cell? ⟨x, 2, none⟩ = some (.string v.text) := (cell_of_row _ _ 2 _ _ _ ox).trans rfl
  have HX := Lib.hid hx
  have HOX := Lib.hid ox
  clear hb0 ox hx
  have HNX := Lib.hid (show out.ownBlock ≠ some x from fun e => by have h1 := (HO.out.1.row.lt _ e).2; have h2 := HX.out; omega)
  have HO0 := Lib.hid (show OwnBytes w0 B 5 out l from HO.out.1.of_below HB0.out)
  have HBH := Lib.hid (show OwnBytes w0 B2 5 (.slice q m cc) bl from HO.out.2.2.1.of_below HB0.out)
  have htzI : (v.text.size : Int) ≤ 1000000000000 := by rw [htz]; omega
  have HTZ := Lib.hid htz
  clear htz
  go_wp2_with (first
    | (at_builtin; refine wpList_append_text rfl (.tmp 30) (.tmp 32) 28 9 rfl B Tryz.underlying28 Tryz.underlying9 info_u8 out l v.text rfl rfl HO0.out (by rw [HO.out.2.2.2.2.2.1, HTZ.out]; omega) (by have := HB0.out.size; have := HO.out.2.1; omega) ?_; intro u w2 ho2 hg2; have HO2 := Lib.hid ho2; have HG2 := Lib.hid hg2; clear ho2 hg2))
  go_ret
  exact ⟨_, rfl, HO2.out, HG2.out.pre HB0.out⟩
set_option maxRecDepth 20000 in
theorem data_a0 (v : V) (w : World) (s : Value) (h : VIn w v s) (out : Value) (l : List UInt8) (B : Nat) (ho : OwnBytes w B 5 out l) (hB : B ≤ w.heap.size) (bh : Value) (bl : List UInt8) (B2 : Nat) (hb : OwnBytes w B2 5 bh bl) (hap : bh.ownBlock = none ∨ bh.ownBlock ≠ out.ownBlock) (hlen : l.length + v.text.size + bl.length + v.list.length ≤ 1000000000000) :
    Calls Tryz.prog 54 #[out, .int .u8 160, .agg #[.int .i64 v.kind, .int .u64 v.num, .string v.text, s, .int .i64 v.elem], bh] w (DataTo w B out (l ++ (putL v.text.size 1 ++ v.tb))) := by
  obtain ⟨p, cs, hs, h1, h2, h3⟩ := h.slice
  obtain ⟨N, hN⟩ : ∃ N, v.list.length = N := ⟨_, rfl⟩
  rw [hN] at hs h1 h3 hlen
  subst hs
  obtain ⟨q, cc, hbh, hbi⟩ := hb.bytes
  subst hbh
  obtain ⟨m, hm⟩ : ∃ m, bl.length = m := ⟨_, rfl⟩
  rw [hm] at hbi hb hap hlen ⊢
  obtain ⟨L, hL⟩ : ∃ L, l.length = L := ⟨_, rfl⟩
  rw [hL] at hlen
  obtain ⟨tz, htz⟩ : ∃ tz, v.text.size = tz := ⟨_, rfl⟩
  rw [htz] at hlen
  have hlenI : (L : Int) + tz + m + N ≤ 1000000000000 := by omega
  have HO := Lib.hid (And.intro ho (And.intro hB (And.intro hb (And.intro hap (And.intro hbi (And.intro hL (And.intro htz (And.intro hm hN))))))))
  clear h h1 h2 h3 hN ho hB hb hap hbi hm hL hlen
  go_enter Tryz.func54, Tryz.ntmps54
  go_upto_region 1 with fail
  have hb0 : Below w.heap.size w (w.alloc (.cells #[.int .i64 v.kind, .int .u64 v.num, .string v.text, (.slice p N cs), .int .i64 v.elem] 25)) := ((Below.refl _ _).alloc (Nat.le_refl _) _)
  have ox := _root_.Go.heap_alloc_new w (.cells #[.int .i64 v.kind, .int .u64 v.num, .string v.text, (.slice p N cs), .int .i64 v.elem] 25)
  generalize (w.alloc (.cells #[.int .i64 v.kind, .int .u64 v.num, .string v.text, (.slice p N cs), .int .i64 v.elem] 25)) = w0 at *
  obtain ⟨x, hx⟩ : ∃ x, w.heap.size = x := ⟨_, rfl⟩
  rw [hx] at ox ⊢
  have HB0 := Lib.hid hb0
  have x2 : w0.cell? ⟨x, 2, none⟩ = some (.string v.text) := (cell_of_row _ _ 2 _ _ _ ox).trans rfl
  have HX := Lib.hid hx
  have HOX := Lib.hid ox
  clear hb0 ox hx
  have HNX := Lib.hid (show out.ownBlock ≠ some x from fun e => by have h1 := (HO.out.1.row.lt _ e).2; have h2 := HX.out; omega)
  have HO0 := Lib.hid (show OwnBytes w0 B 5 out l from HO.out.1.of_below HB0.out)
  have HBH := Lib.hid (show OwnBytes w0 B2 5 (.slice q m cc) bl from HO.out.2.2.1.of_below HB0.out)
  have htzI : (v.text.size : Int) ≤ 1000000000000 := by rw [htz]; omega
  have HTZ := Lib.hid htz
  have HTI := Lib.hid htzI
  clear htz
  have hp := put_bytes (v.text.size) 1 w0 (by omega) (by omega) (by omega)
  have HP1 := Lib.hid hp
  clear hp
  go_wp2_with fail
  refine HP1.out.mono ?_
  rintro e w1 ⟨rfl, hb1, hy1⟩
  have HBW1 := Lib.hid hb1
  have HY1 := Lib.hid hy1
  have HZ1 := Lib.hid (show B ≤ w1.heap.size from by have h1 := HO.out.2.1; have h2 := HB0.out.size; have h3 := hb1.size; omega)
  clear hb1 hy1
  have HO1 := Lib.hid (HO0.out.of_below HBW1.out)
  have HX2 := Lib.hid (bs_cellV HBW1.out x2)
  clear x2
  go_wp2_with (first
    | (at_builtin; refine wpList_append_bytesF rfl (.tmp 34) (.tmp 40) 28 rfl B Tryz.underlying28 info_u8 _ l (putL v.text.size 1) _ 1 1 rfl rfl HO1.out HY1.out (by rw [HO.out.2.2.2.2.2.1]; omega) HZ1.out ?_; intro u2 w2 ho2 hg2; have HO2 := Lib.hid ho2; have HG2 := Lib.hid hg2; clear ho2 hg2; have x2 := Gw.cell HG2.out HX2.out HNX.out)
    | (at_builtin; refine wpList_append_text rfl (.tmp 42) (.tmp 44) 28 9 rfl B Tryz.underlying28 Tryz.underlying9 info_u8 _ _ v.text rfl rfl HO2.out (by rw [List.length_append, putL_length, HO.out.2.2.2.2.2.1]; have := HTI.out; omega) (by have := HG2.out.size; have := HZ1.out; omega) ?_; intro u3 w3 ho3 hg3; have HO3 := Lib.hid ho3; have HG3 := Lib.hid hg3; clear ho3 hg3))
  go_ret
  exact ⟨_, rfl, by have h := HO3.out; rw [List.append_assoc] at h; exact h, ((HG2.out.pre HBW1.out).pre HB0.out).trans HG3.out⟩
set_option maxRecDepth 20000 in
theorem data_a1 (v : V) (w : World) (s : Value) (h : VIn w v s) (out : Value) (l : List UInt8) (B : Nat) (ho : OwnBytes w B 5 out l) (hB : B ≤ w.heap.size) (bh : Value) (bl : List UInt8) (B2 : Nat) (hb : OwnBytes w B2 5 bh bl) (hap : bh.ownBlock = none ∨ bh.ownBlock ≠ out.ownBlock) (hlen : l.length + v.text.size + bl.length + v.list.length ≤ 1000000000000) :
    Calls Tryz.prog 54 #[out, .int .u8 161, .agg #[.int .i64 v.kind, .int .u64 v.num, .string v.text, s, .int .i64 v.elem], bh] w (DataTo w B out (l ++ (putL v.text.size 1 ++ v.tb))) := by
  obtain ⟨p, cs, hs, h1, h2, h3⟩ := h.slice
  obtain ⟨N, hN⟩ : ∃ N, v.list.length = N := ⟨_, rfl⟩
  rw [hN] at hs h1 h3 hlen
  subst hs
  obtain ⟨q, cc, hbh, hbi⟩ := hb.bytes
  subst hbh
  obtain ⟨m, hm⟩ : ∃ m, bl.length = m := ⟨_, rfl⟩
  rw [hm] at hbi hb hap hlen ⊢
  obtain ⟨L, hL⟩ : ∃ L, l.length = L := ⟨_, rfl⟩
  rw [hL] at hlen
  obtain ⟨tz, htz⟩ : ∃ tz, v.text.size = tz := ⟨_, rfl⟩
  rw [htz] at hlen
  have hlenI : (L : Int) + tz + m + N ≤ 1000000000000 := by omega
  have HO := Lib.hid (And.intro ho (And.intro hB (And.intro hb (And.intro hap (And.intro hbi (And.intro hL (And.intro htz (And.intro hm hN))))))))
  clear h h1 h2 h3 hN ho hB hb hap hbi hm hL hlen
  go_enter Tryz.func54, Tryz.ntmps54
  go_upto_region 1 with fail
  have hb0 : Below w.heap.size w (w.alloc (.cells #[.int .i64 v.kind, .int .u64 v.num, .string v.text, (.slice p N cs), .int .i64 v.elem] 25)) := ((Below.refl _ _).alloc (Nat.le_refl _) _)
  have ox := _root_.Go.heap_alloc_new w (.cells #[.int .i64 v.kind, .int .u64 v.num, .string v.text, (.slice p N cs), .int .i64 v.elem] 25)
  generalize (w.alloc (.cells #[.int .i64 v.kind, .int .u64 v.num, .string v.text, (.slice p N cs), .int .i64 v.elem] 25)) = w0 at *
  obtain ⟨x, hx⟩ : ∃ x, w.heap.size = x := ⟨_, rfl⟩
  rw [hx] at ox ⊢
  have HB0 := Lib.hid hb0
  have x2 : w0.cell? ⟨x, 2, none⟩ = some (.string v.text) := (cell_of_row _ _ 2 _ _ _ ox).trans rfl
  have HX := Lib.hid hx
  have HOX := Lib.hid ox
  clear hb0 ox hx
  have HNX := Lib.hid (show out.ownBlock ≠ some x from fun e => by have h1 := (HO.out.1.row.lt _ e).2; have h2 := HX.out; omega)
  have HO0 := Lib.hid (show OwnBytes w0 B 5 out l from HO.out.1.of_below HB0.out)
  have HBH := Lib.hid (show OwnBytes w0 B2 5 (.slice q m cc) bl from HO.out.2.2.1.of_below HB0.out)
  have htzI : (v.text.size : Int) ≤ 1000000000000 := by rw [htz]; omega
  have HTZ := Lib.hid htz
  have HTI := Lib.hid htzI
  clear htz
  have hp := put_bytes (v.text.size) 1 w0 (by omega) (by omega) (by omega)
  have HP1 := Lib.hid hp
  clear hp
  go_wp2_with fail
  refine HP1.out.mono ?_
  rintro e w1 ⟨rfl, hb1, hy1⟩
  have HBW1 := Lib.hid hb1
  have HY1 := Lib.hid hy1
  have HZ1 := Lib.hid (show B ≤ w1.heap.size from by have h1 := HO.out.2.1; have h2 := HB0.out.size; have h3 := hb1.size; omega)
  clear hb1 hy1
  have HO1 := Lib.hid (HO0.out.of_below HBW1.out)
  have HX2 := Lib.hid (bs_cellV HBW1.out x2)
  clear x2
  go_wp2_with (first
    | (at_builtin; refine wpList_append_bytesF rfl (.tmp 34) (.tmp 40) 28 rfl B Tryz.underlying28 info_u8 _ l (putL v.text.size 1) _ 1 1 rfl rfl HO1.out HY1.out (by rw [HO.out.2.2.2.2.2.1]; omega) HZ1.out ?_; intro u2 w2 ho2 hg2; have HO2 := Lib.hid ho2; have HG2 := Lib.hid hg2; clear ho2 hg2; have x2 := Gw.cell HG2.out HX2.out HNX.out)
    | (at_builtin; refine wpList_append_text rfl (.tmp 42) (.tmp 44) 28 9 rfl B Tryz.underlying28 Tryz.underlying9 info_u8 _ _ v.text rfl rfl HO2.out (by rw [List.length_append, putL_length, HO.out.2.2.2.2.2.1]; have := HTI.out; omega) (by have := HG2.out.size; have := HZ1.out; omega) ?_; intro u3 w3 ho3 hg3; have HO3 := Lib.hid ho3; have HG3 := Lib.hid hg3; clear ho3 hg3))
  go_ret
  exact ⟨_, rfl, by have h := HO3.out; rw [List.append_assoc] at h; exact h, ((HG2.out.pre HBW1.out).pre HB0.out).trans HG3.out⟩
set_option maxRecDepth 20000 in
theorem data_a3 (v : V) (w : World) (s : Value) (h : VIn w v s) (out : Value) (l : List UInt8) (B : Nat) (ho : OwnBytes w B 5 out l) (hB : B ≤ w.heap.size) (bh : Value) (bl : List UInt8) (B2 : Nat) (hb : OwnBytes w B2 5 bh bl) (hap : bh.ownBlock = none ∨ bh.ownBlock ≠ out.ownBlock) (hlen : l.length + v.text.size + bl.length + v.list.length ≤ 1000000000000) :
    Calls Tryz.prog 54 #[out, .int .u8 163, .agg #[.int .i64 v.kind, .int .u64 v.num, .string v.text, s, .int .i64 v.elem], bh] w (DataTo w B out (l ++ (putL v.text.size 1 ++ v.tb))) := by
  obtain ⟨p, cs, hs, h1, h2, h3⟩ := h.slice
  obtain ⟨N, hN⟩ : ∃ N, v.list.length = N := ⟨_, rfl⟩
  rw [hN] at hs h1 h3 hlen
  subst hs
  obtain ⟨q, cc, hbh, hbi⟩ := hb.bytes
  subst hbh
  obtain ⟨m, hm⟩ : ∃ m, bl.length = m := ⟨_, rfl⟩
  rw [hm] at hbi hb hap hlen ⊢
  obtain ⟨L, hL⟩ : ∃ L, l.length = L := ⟨_, rfl⟩
  rw [hL] at hlen
  obtain ⟨tz, htz⟩ : ∃ tz, v.text.size = tz := ⟨_, rfl⟩
  rw [htz] at hlen
  have hlenI : (L : Int) + tz + m + N ≤ 1000000000000 := by omega
  have HO := Lib.hid (And.intro ho (And.intro hB (And.intro hb (And.intro hap (And.intro hbi (And.intro hL (And.intro htz (And.intro hm hN))))))))
  clear h h1 h2 h3 hN ho hB hb hap hbi hm hL hlen
  go_enter Tryz.func54, Tryz.ntmps54
  go_upto_region 1 with fail
  have hb0 : Below w.heap.size w (w.alloc (.cells #[.int .i64 v.kind, .int .u64 v.num, .string v.text, (.slice p N cs), .int .i64 v.elem] 25)) := ((Below.refl _ _).alloc (Nat.le_refl _) _)
  have ox := _root_.Go.heap_alloc_new w (.cells #[.int .i64 v.kind, .int .u64 v.num, .string v.text, (.slice p N cs), .int .i64 v.elem] 25)
  generalize (w.alloc (.cells #[.int .i64 v.kind, .int .u64 v.num, .string v.text, (.slice p N cs), .int .i64 v.elem] 25)) = w0 at *
  obtain ⟨x, hx⟩ : ∃ x, w.heap.size = x := ⟨_, rfl⟩
  rw [hx] at ox ⊢
  have HB0 := Lib.hid hb0
  have x2 : w0.cell? ⟨x, 2, none⟩ = some (.string v.text) := (cell_of_row _ _ 2 _ _ _ ox).trans rfl
  have HX := Lib.hid hx
  have HOX := Lib.hid ox
  clear hb0 ox hx
  have HNX := Lib.hid (show out.ownBlock ≠ some x from fun e => by have h1 := (HO.out.1.row.lt _ e).2; have h2 := HX.out; omega)
  have HO0 := Lib.hid (show OwnBytes w0 B 5 out l from HO.out.1.of_below HB0.out)
  have HBH := Lib.hid (show OwnBytes w0 B2 5 (.slice q m cc) bl from HO.out.2.2.1.of_below HB0.out)
  have htzI : (v.text.size : Int) ≤ 1000000000000 := by rw [htz]; omega
  have HTZ := Lib.hid htz
  have HTI := Lib.hid htzI
  clear htz
  have hp := put_bytes (v.text.size) 1 w0 (by omega) (by omega) (by omega)
  have HP1 := Lib.hid hp
  clear hp
  go_wp2_with fail
  refine HP1.out.mono ?_
  rintro e w1 ⟨rfl, hb1, hy1⟩
  have HBW1 := Lib.hid hb1
  have HY1 := Lib.hid hy1
  have HZ1 := Lib.hid (show B ≤ w1.heap.size from by have h1 := HO.out.2.1; have h2 := HB0.out.size; have h3 := hb1.size; omega)
  clear hb1 hy1
  have HO1 := Lib.hid (HO0.out.of_below HBW1.out)
  have HX2 := Lib.hid (bs_cellV HBW1.out x2)
  clear x2
  go_wp2_with (first
    | (at_builtin; refine wpList_append_bytesF rfl (.tmp 34) (.tmp 40) 28 rfl B Tryz.underlying28 info_u8 _ l (putL v.text.size 1) _ 1 1 rfl rfl HO1.out HY1.out (by rw [HO.out.2.2.2.2.2.1]; omega) HZ1.out ?_; intro u2 w2 ho2 hg2; have HO2 := Lib.hid ho2; have HG2 := Lib.hid hg2; clear ho2 hg2; have x2 := Gw.cell HG2.out HX2.out HNX.out)
    | (at_builtin; refine wpList_append_text rfl (.tmp 42) (.tmp 44) 28 9 rfl B Tryz.underlying28 Tryz.underlying9 info_u8 _ _ v.text rfl rfl HO2.out (by rw [List.length_append, putL_length, HO.out.2.2.2.2.2.1]; have := HTI.out; omega) (by have := HG2.out.size; have := HZ1.out; omega) ?_; intro u3 w3 ho3 hg3; have HO3 := Lib.hid ho3; have HG3 := Lib.hid hg3; clear ho3 hg3))
  go_ret
  exact ⟨_, rfl, by have h := HO3.out; rw [List.append_assoc] at h; exact h, ((HG2.out.pre HBW1.out).pre HB0.out).trans HG3.out⟩
set_option maxRecDepth 20000 in
theorem data_b0 (v : V) (w : World) (s : Value) (h : VIn w v s) (out : Value) (l : List UInt8) (B : Nat) (ho : OwnBytes w B 5 out l) (hB : B ≤ w.heap.size) (bh : Value) (bl : List UInt8) (B2 : Nat) (hb : OwnBytes w B2 5 bh bl) (hap : bh.ownBlock = none ∨ bh.ownBlock ≠ out.ownBlock) (hlen : l.length + v.text.size + bl.length + v.list.length ≤ 1000000000000) :
    Calls Tryz.prog 54 #[out, .int .u8 176, .agg #[.int .i64 v.kind, .int .u64 v.num, .string v.text, s, .int .i64 v.elem], bh] w (DataTo w B out (l ++ (putL v.text.size 4 ++ v.tb))) := by
  obtain ⟨p, cs, hs, h1, h2, h3⟩ := h.slice
  obtain ⟨N, hN⟩ : ∃ N, v.list.length = N := ⟨_, rfl⟩
  rw [hN] at hs h1 h3 hlen
  subst hs
  obtain ⟨q, cc, hbh, hbi⟩ := hb.bytes
  subst hbh
  obtain ⟨m, hm⟩ : ∃ m, bl.length = m := ⟨_, rfl⟩
  rw [hm] at hbi hb hap hlen ⊢
  obtain ⟨L, hL⟩ : ∃ L, l.length = L := ⟨_, rfl⟩
  rw [hL] at hlen
  obtain ⟨tz, htz⟩ : ∃ tz, v.text.size = tz := ⟨_, rfl⟩
  rw [htz] at hlen
  have hlenI : (L : Int) + tz + m + N ≤ 1000000000000 := by omega
  have HO := Lib.hid (And.intro ho (And.intro hB (And.intro hb (And.intro hap (And.intro hbi (And.intro hL (And.intro htz (And.intro hm hN))))))))
  clear h h1 h2 h3 hN ho hB hb hap hbi hm hL hlen
  go_enter Tryz.func54, Tryz.ntmps54
  go_upto_region 1 with fail
  have hb0 : Below w.heap.size w (w.alloc (.cells #[.int .i64 v.kind, .int .u64 v.num, .string v.text, (.slice p N cs), .int .i64 v.elem] 25)) := ((Below.refl _ _).alloc (Nat.le_refl _) _)
  have ox := _root_.Go.heap_alloc_new w (.cells #[.int .i64 v.kind, .int .u64 v.num, .string v.text, (.slice p N cs), .int .i64 v.elem] 25)
  generalize (w.alloc (.cells #[.int .i64 v.kind, .int .u64 v.num, .string v.text, (.slice p N cs), .int .i64 v.elem] 25)) = w0 at *
  obtain ⟨x, hx⟩ : ∃ x, w.heap.size = x := ⟨_, rfl⟩
  rw [hx] at ox ⊢
  have HB0 := Lib.hid hb0
  have x2 : w0.cell? ⟨x, 2, none⟩ = some (.string v.text) := (cell_of_row _ _ 2 _ _ _ ox).trans rfl
  have HX := Lib.hid hx
  have HOX := Lib.hid ox
  clear hb0 ox hx
  have HNX := Lib.hid (show out.ownBlock ≠ some x from fun e => by have h1 := (HO.out.1.row.lt _ e).2; have h2 := HX.out; omega)
  have HO0 := Lib.hid (show OwnBytes w0 B 5 out l from HO.out.1.of_below HB0.out)
  have HBH := Lib.hid (show OwnBytes w0 B2 5 (.slice q m cc) bl from HO.out.2.2.1.of_below HB0.out)
  have htzI : (v.text.size : Int) ≤ 1000000000000 := by rw [htz]; omega
  have HTZ := Lib.hid htz
  have HTI := Lib.hid htzI
  clear htz
  have hp := put_bytes (v.text.size) 4 w0 (by omega) (by omega) (by omega)
  have HP1 := Lib.hid hp
  clear hp
  go_wp2_with fail
  refine HP1.out.mono ?_
  rintro e w1 ⟨rfl, hb1, hy1⟩
  have HBW1 := Lib.hid hb1
  have HY1 := Lib.hid hy1
  have HZ1 := Lib.hid (show B ≤ w1.heap.size from by have h1 := HO.out.2.1; have h2 := HB0.out.size; have h3 := hb1.size; omega)
  clear hb1 hy1
  have HO1 := Lib.hid (HO0.out.of_below HBW1.out)
  have HX2 := Lib.hid (bs_cellV HBW1.out x2)
  clear x2
  go_wp2_with (first
    | (at_builtin; refine wpList_append_bytesF rfl (.tmp 34) (.tmp 40) 28 rfl B Tryz.underlying28 info_u8 _ l (putL v.text.size 4) _ 4 4 rfl rfl HO1.out HY1.out (by rw [HO.out.2.2.2.2.2.1]; omega) HZ1.out ?_; intro u2 w2 ho2 hg2; have HO2 := Lib.hid ho2; have HG2 := Lib.hid hg2; clear ho2 hg2; have x2 := Gw.cell HG2.out HX2.out HNX.out)
    | (at_builtin; refine wpList_append_text rfl (.tmp 42) (.tmp 44) 28 9 rfl B Tryz.underlying28 Tryz.underlying9 info_u8 _ _ v.text rfl rfl HO2.out (by rw [List.length_append, putL_length, HO.out.2.2.2.2.2.1]; have := HTI.out; omega) (by have := HG2.out.size; have := HZ1.out; omega) ?_; intro u3 w3 ho3 hg3; have HO3 := Lib.hid ho3; have HG3 := Lib.hid hg3; clear ho3 hg3))
  go_ret
  exact ⟨_, rfl, by have h := HO3.out; rw [List.append_assoc] at h; exact h, ((HG2.out.pre HBW1.out).pre HB0.out).trans HG3.out⟩
set_option maxRecDepth 20000 in
theorem data_b1 (v : V) (w : World) (s : Value) (h : VIn w v s) (out : Value) (l : List UInt8) (B : Nat) (ho : OwnBytes w B 5 out l) (hB : B ≤ w.heap.size) (bh : Value) (bl : List UInt8) (B2 : Nat) (hb : OwnBytes w B2 5 bh bl) (hap : bh.ownBlock = none ∨ bh.ownBlock ≠ out.ownBlock) (hlen : l.length + v.text.size + bl.length + v.list.length ≤ 1000000000000) :
    Calls Tryz.prog 54 #[out, .int .u8 177, .agg #[.int .i64 v.kind, .int .u64 v.num, .string v.text, s, .int .i64 v.elem], bh] w (DataTo w B out (l ++ (putL v.text.size 4 ++ v.tb))) := by
  obtain ⟨p, cs, hs, h1, h2, h3⟩ := h.slice
  obtain ⟨N, hN⟩ : ∃ N, v.list.length = N := ⟨_, rfl⟩
  rw [hN] at hs h1 h3 hlen
  subst hs
  obtain ⟨q, cc, hbh, hbi⟩ := hb.bytes
  subst hbh
  obtain ⟨m, hm⟩ : ∃ m, bl.length = m := ⟨_, rfl⟩
  rw [hm] at hbi hb hap hlen ⊢
  obtain ⟨L, hL⟩ : ∃ L, l.length = L := ⟨_, rfl⟩
  rw [hL] at hlen
  obtain ⟨tz, htz⟩ : ∃ tz, v.text.size = tz := ⟨_, rfl⟩
  rw [htz] at hlen
  have hlenI : (L : Int) + tz + m + N ≤ 1000000000000 := by omega
  have HO := Lib.hid (And.intro ho (And.intro hB (And.intro hb (And.intro hap (And.intro hbi (And.intro hL (And.intro htz (And.intro hm hN))))))))
  clear h h1 h2 h3 hN ho hB hb hap hbi hm hL hlen
  go_enter Tryz.func54, Tryz.ntmps54
  go_upto_region 1 with fail
  have hb0 : Below w.heap.size w (w.alloc (.cells #[.int .i64 v.kind, .int .u64 v.num, .string v.text, (.slice p N cs), .int .i64 v.elem] 25)) := ((Below.refl _ _).alloc (Nat.le_refl _) _)
  have ox := _root_.Go.heap_alloc_new w (.cells #[.int .i64 v.kind, .int .u64 v.num, .string v.text, (.slice p N cs), .int .i64 v.elem] 25)
  generalize (w.alloc (.cells #[.int .i64 v.kind, .int .u64 v.num, .string v.text, (.slice p N cs), .int .i64 v.elem] 25)) = w0 at *
  obtain ⟨x, hx⟩ : ∃ x, w.heap.size = x := ⟨_, rfl⟩
  rw [hx] at ox ⊢
  have HB0 := Lib.hid hb0
  have x2 : w0.cell? ⟨x, 2, none⟩ = some (.string v.text) := (cell_of_row _ _ 2 _ _ _ ox).trans rfl
  have HX := Lib.hid hx
  have HOX := Lib.hid ox
  clear hb0 ox hx
  have HNX := Lib.hid (show out.ownBlock ≠ some x from fun e => by have h1 := (HO.out.1.row.lt _ e).2; have h2 := HX.out; omega)
  have HO0 := Lib.hid (show OwnBytes w0 B 5 out l from HO.out.1.of_below HB0.out)
  have HBH := Lib.hid (show OwnBytes w0 B2 5 (.slice q m cc) bl from HO.out.2.2.1.of_below HB0.out)
  have htzI : (v.text.size : Int) ≤ 1000000000000 := by rw [htz]; omega
  have HTZ := Lib.hid htz
  have HTI := Lib.hid htzI
  clear htz
  have hp := put_bytes (v.text.size) 4 w0 (by omega) (by omega) (by omega)
  have HP1 := Lib.hid hp
  clear hp
  go_wp2_with fail
  refine HP1.out.mono ?_
  rintro e w1 ⟨rfl, hb1, hy1⟩
  have HBW1 := Lib.hid hb1
  have HY1 := Lib.hid hy1
  have HZ1 := Lib.hid (show B ≤ w1.heap.size from by have h1 := HO.out.2.1; have h2 := HB0.out.size; have h3 := hb1.size; omega)
  clear hb1 hy1
  have HO1 := Lib.hid (HO0.out.of_below HBW1.out)
  have HX2 := Lib.hid (bs_cellV HBW1.out x2)
  clear x2
  go_wp2_with (first
    | (at_builtin; refine wpList_append_bytesF rfl (.tmp 34) (.tmp 40) 28 rfl B Tryz.underlying28 info_u8 _ l (putL v.text.size 4) _ 4 4 rfl rfl HO1.out HY1.out (by rw [HO.out.2.2.2.2.2.1]; omega) HZ1.out ?_; intro u2 w2 ho2 hg2; have HO2 := Lib.hid ho2; have HG2 := Lib.hid hg2; clear ho2 hg2; have x2 := Gw.cell HG2.out HX2.out HNX.out)
    | (at_builtin; refine wpList_append_text rfl (.tmp 42) (.tmp 44) 28 9 rfl B Tryz.underlying28 Tryz.underlying9 info_u8 _ _ v.text rfl rfl HO2.out (by rw [List.length_append, putL_length, HO.out.2.2.2.2.2.1]; have := HTI.out; omega) (by have := HG2.out.size; have := HZ1.out; omega) ?_; intro u3 w3 ho3 hg3; have HO3 := Lib.hid ho3; have HG3 := Lib.hid hg3; clear ho3 hg3))
  go_ret
  exact ⟨_, rfl, by have h := HO3.out; rw [List.append_assoc] at h; exact h, ((HG2.out.pre HBW1.out).pre HB0.out).trans HG3.out⟩
set_option maxRecDepth 20000 in
theorem data_b3 (v : V) (w : World) (s : Value) (h : VIn w v s) (out : Value) (l : List UInt8) (B : Nat) (ho : OwnBytes w B 5 out l) (hB : B ≤ w.heap.size) (bh : Value) (bl : List UInt8) (B2 : Nat) (hb : OwnBytes w B2 5 bh bl) (hap : bh.ownBlock = none ∨ bh.ownBlock ≠ out.ownBlock) (hlen : l.length + v.text.size + bl.length + v.list.length ≤ 1000000000000) :
    Calls Tryz.prog 54 #[out, .int .u8 179, .agg #[.int .i64 v.kind, .int .u64 v.num, .string v.text, s, .int .i64 v.elem], bh] w (DataTo w B out (l ++ (putL v.text.size 4 ++ v.tb))) := by
  obtain ⟨p, cs, hs, h1, h2, h3⟩ := h.slice
  obtain ⟨N, hN⟩ : ∃ N, v.list.length = N := ⟨_, rfl⟩
  rw [hN] at hs h1 h3 hlen
  subst hs
  obtain ⟨q, cc, hbh, hbi⟩ := hb.bytes
  subst hbh
  obtain ⟨m, hm⟩ : ∃ m, bl.length = m := ⟨_, rfl⟩
  rw [hm] at hbi hb hap hlen ⊢
  obtain ⟨L, hL⟩ : ∃ L, l.length = L := ⟨_, rfl⟩
  rw [hL] at hlen
  obtain ⟨tz, htz⟩ : ∃ tz, v.text.size = tz := ⟨_, rfl⟩
  rw [htz] at hlen
  have hlenI : (L : Int) + tz + m + N ≤ 1000000000000 := by omega
  have HO := Lib.hid (And.intro ho (And.intro hB (And.intro hb (And.intro hap (And.intro hbi (And.intro hL (And.intro htz (And.intro hm hN))))))))
  clear h h1 h2 h3 hN ho hB hb hap hbi hm hL hlen
  go_enter Tryz.func54, Tryz.ntmps54
  go_upto_region 1 with fail
  have hb0 : Below w.heap.size w (w.alloc (.cells #[.int .i64 v.kind, .int .u64 v.num, .string v.text, (.slice p N cs), .int .i64 v.elem] 25)) := ((Below.refl _ _).alloc (Nat.le_refl _) _)
  have ox := _root_.Go.heap_alloc_new w (.cells #[.int .i64 v.kind, .int .u64 v.num, .string v.text, (.slice p N cs), .int .i64 v.elem] 25)
  generalize (w.alloc (.cells #[.int .i64 v.kind, .int .u64 v.num, .string v.text, (.slice p N cs), .int .i64 v.elem] 25)) = w0 at *
  obtain ⟨x, hx⟩ : ∃ x, w.heap.size = x := ⟨_, rfl⟩
  rw [hx] at ox ⊢
  have HB0 := Lib.hid hb0
  have x2 : w0.cell? ⟨x, 2, none⟩ = some (.string v.text) := (cell_of_row _ _ 2 _ _ _ ox).trans rfl
  have HX := Lib.hid hx
  have HOX := Lib.hid ox
  clear hb0 ox hx
  have HNX := Lib.hid (show out.ownBlock ≠ some x from fun e => by have h1 := (HO.out.1.row.lt _ e).2; have h2 := HX.out; omega)
  have HO0 := Lib.hid (show OwnBytes w0 B 5 out l from HO.out.1.of_below HB0.out)
  have HBH := Lib.hid (show OwnBytes w0 B2 5 (.slice q m cc) bl from HO.out.2.2.1.of_below HB0.out)
  have htzI : (v.text.size : Int) ≤ 1000000000000 := by rw [htz]; omega
  have HTZ := Lib.hid htz
  have HTI := Lib.hid htzI
  clear htz
  have hp := put_bytes (v.text.size) 4 w0 (by omega) (by omega) (by omega)
  have HP1 := Lib.hid hp
  clear hp
  go_wp2_with fail
  refine HP1.out.mono ?_
  rintro e w1 ⟨rfl, hb1, hy1⟩
  have HBW1 := Lib.hid hb1
  have HY1 := Lib.hid hy1
  have HZ1 := Lib.hid (show B ≤ w1.heap.size from by have h1 := HO.out.2.1; have h2 := HB0.out.size; have h3 := hb1.size; omega)
  clear hb1 hy1
  have HO1 := Lib.hid (HO0.out.of_below HBW1.out)
  have HX2 := Lib.hid (bs_cellV HBW1.out x2)
  clear x2
  go_wp2_with (first
    | (at_builtin; refine wpList_append_bytesF rfl (.tmp 34) (.tmp 40) 28 rfl B Tryz.underlying28 info_u8 _ l (putL v.text.size 4) _ 4 4 rfl rfl HO1.out HY1.out (by rw [HO.out.2.2.2.2.2.1]; omega) HZ1.out ?_; intro u2 w2 ho2 hg2; have HO2 := Lib.hid ho2; have HG2 := Lib.hid hg2; clear ho2 hg2; have x2 := Gw.cell HG2.out HX2.out HNX.out)
    | (at_builtin; refine wpList_append_text rfl (.tmp 42) (.tmp 44) 28 9 rfl B Tryz.underlying28 Tryz.underlying9 info_u8 _ _ v.text rfl rfl HO2.out (by rw [List.length_append, putL_length, HO.out.2.2.2.2.2.1]; have := HTI.out; omega) (by have := HG2.out.size; have := HZ1.out; omega) ?_; intro u3 w3 ho3 hg3; have HO3 := Lib.hid ho3; have HG3 := Lib.hid hg3; clear ho3 hg3))
  go_ret
  exact ⟨_, rfl, by have h := HO3.out; rw [List.append_assoc] at h; exact h, ((HG2.out.pre HBW1.out).pre HB0.out).trans HG3.out⟩
set_option maxRecDepth 20000 in
theorem data_c0 (v : V) (w : World) (s : Value) (h : VIn w v s) (out : Value) (l : List UInt8) (B : Nat) (ho : OwnBytes w B 5 out l) (hB : B ≤ w.heap.size) (bh : Value) (bl : List UInt8) (B2 : Nat) (hb : OwnBytes w B2 5 bh bl) (hap : bh.ownBlock = none ∨ bh.ownBlock ≠ out.ownBlock) (hlen : l.length + v.text.size + bl.length + v.list.length ≤ 1000000000000) :
    Calls Tryz.prog 54 #[out, .int .u8 192, .agg #[.int .i64 v.kind, .int .u64 v.num, .string v.text, s, .int .i64 v.elem], bh] w (DataTo w B out (l ++ (putL (1 + bl.length) 1 ++ (putL v.list.length 1 ++ bl)))) := by
  obtain ⟨p, cs, hs, h1, h2, h3⟩ := h.slice
  obtain ⟨N, hN⟩ : ∃ N, v.list.length = N := ⟨_, rfl⟩
  rw [hN] at hs h1 h3 hlen ⊢
  subst hs
  obtain ⟨q, cc, hbh, hbi⟩ := hb.bytes
  subst hbh
  obtain ⟨m, hm⟩ : ∃ m, bl.length = m := ⟨_, rfl⟩
  rw [hm] at hbi hb hap hlen ⊢
  obtain ⟨L, hL⟩ : ∃ L, l.length = L := ⟨_, rfl⟩
  rw [hL] at hlen
  obtain ⟨tz, htz⟩ : ∃ tz, v.text.size = tz := ⟨_, rfl⟩
  rw [htz] at hlen
  have hlenI : (L : Int) + tz + m + N ≤ 1000000000000 := by omega
  have HO := Lib.hid (And.intro ho (And.intro hB (And.intro hb (And.intro hap (And.intro hbi (And.intro hL (And.intro htz (And.intro hm hN))))))))
  clear h h1 h2 h3 hN ho hB hb hap hbi hm hL hlen
  go_enter Tryz.func54, Tryz.ntmps54
  go_upto_region 1 with fail
  have hb0 : Below w.heap.size w (w.alloc (.cells #[.int .i64 v.kind, .int .u64 v.num, .string v.text, (.slice p N cs), .int .i64 v.elem] 25)) := ((Below.refl _ _).alloc (Nat.le_refl _) _)
  have ox := _root_.Go.heap_alloc_new w (.cells #[.int .i64 v.kind, .int .u64 v.num, .string v.text, (.slice p N cs), .int .i64 v.elem] 25)
  generalize (w.alloc (.cells #[.int .i64 v.kind, .int .u64 v.num, .string v.text, (.slice p N cs), .int .i64 v.elem] 25)) = w0 at *
  obtain ⟨x, hx⟩ : ∃ x, w.heap.size = x := ⟨_, rfl⟩
  rw [hx] at ox ⊢
  have HB0 := Lib.hid hb0
  have x3 : w0.cell? ⟨x, 3, none⟩ = some ((.slice p N cs)) := (cell_of_row _ _ 3 _ _ _ ox).trans rfl
  have HX := Lib.hid hx
  have HOX := Lib.hid ox
  clear hb0 ox hx
  have HNX := Lib.hid (show out.ownBlock ≠ some x from fun e => by have h1 := (HO.out.1.row.lt _ e).2; have h2 := HX.out; omega)
  have HO0 := Lib.hid (show OwnBytes w0 B 5 out l from HO.out.1.of_below HB0.out)
  have HBH := Lib.hid (show OwnBytes w0 B2 5 (.slice q m cc) bl from HO.out.2.2.1.of_below HB0.out)
  have hmI : (m : Int) ≤ 1000000000000 := by omega
  have hNI : (N : Int) ≤ 1000000000000 := by omega
  have HTI := Lib.hid (And.intro hmI hNI)
  clear htz
  have hp := put_bytes (1 + m) 1 w0 (by omega) (by omega) (by omega)
  rw [show ((1 + m : Nat) : Int) = 1 + (m : Int) from by omega] at hp
  have HP1 := Lib.hid hp
  clear hp
  go_wp2_with fail
  refine HP1.out.mono ?_
  rintro e w1 ⟨rfl, hb1, hy1⟩
  have HBW1 := Lib.hid hb1
  have HY1 := Lib.hid hy1
  have HZ1 := Lib.hid (show B ≤ w1.heap.size from by have h1 := HO.out.2.1; have h2 := HB0.out.size; have h3 := hb1.size; omega)
  clear hb1 hy1
  have HO1 := Lib.hid (HO0.out.of_below HBW1.out)
  have HX3 := Lib.hid (bs_cellV HBW1.out x3)
  have HBH1 := Lib.hid (HBH.out.of_below HBW1.out)
  clear x3
  go_wp2_with (first
    | (at_builtin; refine wpList_append_bytesF rfl (.tmp 46) (.tmp 53) 28 rfl B Tryz.underlying28 info_u8 _ l (putL (1 + m) 1) _ 1 1 rfl rfl HO1.out HY1.out (by rw [HO.out.2.2.2.2.2.1]; omega) HZ1.out ?_; intro u2 w2 ho2 hg2; have HO2 := Lib.hid ho2; have HG2 := Lib.hid hg2; clear ho2 hg2; have x3 := Gw.cell HG2.out HX3.out HNX.out)
    | fail)
  have HBH2 := Lib.hid (And.intro (HG2.out.own HBH1.out HO.out.2.2.2.1) (HG2.out.apart HBH1.out HO.out.2.2.2.1))
  have hp := put_bytes N 1 w2 (by omega) (by omega) (by omega)
  have HP3 := Lib.hid hp
  clear hp
  refine HP3.out.mono ?_
  rintro e w3 ⟨rfl, hb3, hy3⟩
  have HBW3 := Lib.hid hb3
  have HY3 := Lib.hid hy3
  clear hb3 hy3 x3
  have HO3 := Lib.hid (HO2.out.of_below HBW3.out)
  have HBH3 := Lib.hid (HBH2.out.1.of_below HBW3.out)
  have HZ3 := Lib.hid (show B ≤ w3.heap.size from by have h1 := HZ1.out; have h2 := HG2.out.size; have h3 := HBW3.out.size; omega)
  go_wp2_with (first
    | (at_builtin; refine wpList_append_bytesF rfl (.tmp 55) (.tmp 61) 28 rfl B Tryz.underlying28 info_u8 _ _ (putL N 1) _ 1 1 rfl rfl HO3.out HY3.out (by rw [List.length_append, putL_length, HO.out.2.2.2.2.2.1]; have := HTI.out; omega) HZ3.out ?_; intro u4 w4 ho4 hg4; have HO4 := Lib.hid ho4; have HG4 := Lib.hid hg4; clear ho4 hg4; have HBH4 := Lib.hid (HG4.out.own HBH3.out HBH2.out.2); have HY5 := Lib.hid HBH4.out.sl.2)
    | (at_builtin; refine wpList_append_bytesF rfl (.tmp 63) (.tmp 64) 28 rfl B Tryz.underlying28 info_u8 _ _ bl _ m cc rfl rfl HO4.out HY5.out (by rw [List.length_append, List.length_append, putL_length, putL_length, HO.out.2.2.2.2.2.1]; have := HTI.out; omega) (by have h1 := HG4.out.size; have h2 := HZ3.out; omega) ?_; intro u6 w6 ho6 hg6; have HO6 := Lib.hid ho6; have HG6 := Lib.hid hg6; clear ho6 hg6))
  go_ret
  exact ⟨_, rfl, by have h := HO6.out; rw [List.append_assoc, List.append_assoc] at h; exact h, (((HG2.out.pre HBW1.out).pre HB0.out).trans (HG4.out.pre HBW3.out)).trans HG6.out⟩
set_option maxRecDepth 20000 in
theorem data_c1 (v : V) (w : World) (s : Value) (h : VIn w v s) (out : Value) (l : List UInt8) (B : Nat) (ho : OwnBytes w B 5 out l) (hB : B ≤ w.heap.size) (bh : Value) (bl : List UInt8) (B2 : Nat) (hb : OwnBytes w B2 5 bh bl) (hap : bh.ownBlock = none ∨ bh.ownBlock ≠ out.ownBlock) (hlen : l.length + v.text.size + bl.length + v.list.length ≤ 1000000000000) :
    Calls Tryz.prog 54 #[out, .int .u8 193, .agg #[.int .i64 v.kind, .int .u64 v.num, .string v.text, s, .int .i64 v.elem], bh] w (DataTo w B out (l ++ (putL (1 + bl.length) 1 ++ (putL v.list.length 1 ++ bl)))) := by
  obtain ⟨p, cs, hs, h1, h2, h3⟩ := h.slice
  obtain ⟨N, hN⟩ : ∃ N, v.list.length = N := ⟨_, rfl⟩
  rw [hN] at hs h1 h3 hlen ⊢
  subst hs
  obtain ⟨q, cc, hbh, hbi⟩ := hb.bytes
  subst hbh
  obtain ⟨m, hm⟩ : ∃ m, bl.length = m := ⟨_, rfl⟩
  rw [hm] at hbi hb hap hlen ⊢
  obtain ⟨L, hL⟩ : ∃ L, l.length = L := ⟨_, rfl⟩
  rw [hL] at hlen
  obtain ⟨tz, htz⟩ : ∃ tz, v.text.size = tz := ⟨_, rfl⟩
  rw [htz] at hlen
  have hlenI : (L : Int) + tz + m + N ≤ 1000000000000 := by omega
  have HO := Lib.hid (And.intro ho (And.intro hB (And.intro hb (And.intro hap (And.intro hbi (And.intro hL (And.intro htz (And.intro hm hN))))))))
  clear h h1 h2 h3 hN ho hB hb hap hbi hm hL hlen
  go_enter Tryz.func54, Tryz.ntmps54
  go_upto_region 1 with fail
  have hb0 : Below w.heap.size w (w.alloc (.cells #[.int .i64 v.kind, .int .u64 v.num, .string v.text, (.slice p N cs), .int .i64 v.elem] 25)) := ((Below.refl _ _).alloc (Nat.le_refl _) _)
  have ox := _root_.Go.heap_alloc_new w (.cells #[.int .i64 v.kind, .int .u64 v.num, .string v.text, (.slice p N cs), .int .i64 v.elem] 25)
  generalize (w.alloc (.cells #[.int .i64 v.kind, .int .u64 v.num, .string v.text, (.slice p N cs), .int .i64 v.elem] 25)) = w0 at *
  obtain ⟨x, hx⟩ : ∃ x, w.heap.size = x := ⟨_, rfl⟩
  rw [hx] at ox ⊢
  have HB0 := Lib.hid hb0
  have x3 : w0.cell? ⟨x, 3, none⟩ = some ((.slice p N cs)) := (cell_of_row _ _ 3 _ _ _ ox).trans rfl
  have HX := Lib.hid hx
  have HOX := Lib.hid ox
  clear hb0 ox hx
  have HNX := Lib.hid (show out.ownBlock ≠ some x from fun e => by have h1 := (HO.out.1.row.lt _ e).2; have h2 := HX.out; omega)
  have HO0 := Lib.hid (show OwnBytes w0 B 5 out l from HO.out.1.of_below HB0.out)
  have HBH := Lib.hid (show OwnBytes w0 B2 5 (.slice q m cc) bl from HO.out.2.2.1.of_below HB0.out)
  have hmI : (m : Int) ≤ 1000000000000 := by omega
  have hNI : (N : Int) ≤ 1000000000000 := by omega
  have HTI := Lib.hid (And.intro hmI hNI)
  clear htz
  have hp := put_bytes (1 + m) 1 w0 (by omega) (by omega) (by omega)
  rw [show ((1 + m : Nat) : Int) = 1 + (m : Int) from by omega] at hp
  have HP1 := Lib.hid hp
  clear hp
  go_wp2_with fail
  refine HP1.out.mono ?_
  rintro e w1 ⟨rfl, hb1, hy1⟩
  have HBW1 := Lib.hid hb1
  have HY1 := Lib.hid hy1
  have HZ1 := Lib.hid (show B ≤ w1.heap.size from by have h1 := HO.out.2.1; have h2 := HB0.out.size; have h3 := hb1.size; omega)
  clear hb1 hy1
  have HO1 := Lib.hid (HO0.out.of_below HBW1.out)
  have HX3 := Lib.hid (bs_cellV HBW1.out x3)
  have HBH1 := Lib.hid (HBH.out.of_below HBW1.out)
  clear x3
  go_wp2_with (first
    | (at_builtin; refine wpList_append_bytesF rfl (.tmp 46) (.tmp 53) 28 rfl B Tryz.underlying28 info_u8 _ l (putL (1 + m) 1) _ 1 1 rfl rfl HO1.out HY1.out (by rw [HO.out.2.2.2.2.2.1]; omega) HZ1.out ?_; intro u2 w2 ho2 hg2; have HO2 := Lib.hid ho2; have HG2 := Lib.hid hg2; clear ho2 hg2; have x3 := Gw.cell HG2.out HX3.out HNX.out)
    | fail)
  have HBH2 := Lib.hid (And.intro (HG2.out.own HBH1.out HO.out.2.2.2.1) (HG2.out.apart HBH1.out HO.out.2.2.2.1))
  have hp := put_bytes N 1 w2 (by omega) (by omega) (by omega)
  have HP3 := Lib.hid hp
  clear hp
  refine HP3.out.mono ?_
  rintro e w3 ⟨rfl, hb3, hy3⟩
  have HBW3 := Lib.hid hb3
  have HY3 := Lib.hid hy3
  clear hb3 hy3 x3
  have HO3 := Lib.hid (HO2.out.of_below HBW3.out)
  have HBH3 := Lib.hid (HBH2.out.1.of_below HBW3.out)
  have HZ3 := Lib.hid (show B ≤ w3.heap.size from by have h1 := HZ1.out; have h2 := HG2.out.size; have h3 := HBW3.out.size; omega)
  go_wp2_with (first
    | (at_builtin; refine wpList_append_bytesF rfl (.tmp 55) (.tmp 61) 28 rfl B Tryz.underlying28 info_u8 _ _ (putL N 1) _ 1 1 rfl rfl HO3.out HY3.out (by rw [List.length_append, putL_length, HO.out.2.2.2.2.2.1]; have := HTI.out; omega) HZ3.out ?_; intro u4 w4 ho4 hg4; have HO4 := Lib.hid ho4; have HG4 := Lib.hid hg4; clear ho4 hg4; have HBH4 := Lib.hid (HG4.out.own HBH3.out HBH2.out.2); have HY5 := Lib.hid HBH4.out.sl.2)
    | (at_builtin; refine wpList_append_bytesF rfl (.tmp 63) (.tmp 64) 28 rfl B Tryz.underlying28 info_u8 _ _ bl _ m cc rfl rfl HO4.out HY5.out (by rw [List.length_append, List.length_append, putL_length, putL_length, HO.out.2.2.2.2.2.1]; have := HTI.out; omega) (by have h1 := HG4.out.size; have h2 := HZ3.out; omega) ?_; intro u6 w6 ho6 hg6; have HO6 := Lib.hid ho6; have HG6 := Lib.hid hg6; clear ho6 hg6))
  go_ret
  exact ⟨_, rfl, by have h := HO6.out; rw [List.append_assoc, List.append_assoc] at h; exact h, (((HG2.out.pre HBW1.out).pre HB0.out).trans (HG4.out.pre HBW3.out)).trans HG6.out⟩
set_option maxRecDepth 20000 in
theorem data_e0 (v : V) (w : World) (s : Value) (h : VIn w v s) (out : Value) (l : List UInt8) (B : Nat) (ho : OwnBytes w B 5 out l) (hB : B ≤ w.heap.size) (bh : Value) (bl : List UInt8) (B2 : Nat) (hb : OwnBytes w B2 5 bh bl) (hap : bh.ownBlock = none ∨ bh.ownBlock ≠ out.ownBlock) (hlen : l.length + v.text.size + bl.length + v.list.length ≤ 1000000000000) :
    Calls Tryz.prog 54 #[out, .int .u8 224, .agg #[.int .i64 v.kind, .int .u64 v.num, .string v.text, s, .int .i64 v.elem], bh] w (DataTo w B out (l ++ (putL (1 + bl.length) 1 ++ (putL v.list.length 1 ++ bl)))) := by
  obtain ⟨p, cs, hs, h1, h2, h3⟩ := h.slice
  obtain ⟨N, hN⟩ : ∃ N, v.list.length = N := ⟨_, rfl⟩
  rw [hN] at hs h1 h3 hlen ⊢
  subst hs
  obtain ⟨q, cc, hbh, hbi⟩ := hb.bytes
  subst hbh
  obtain ⟨m, hm⟩ : ∃ m, bl.length = m := ⟨_, rfl⟩
  rw [hm] at hbi hb hap hlen ⊢
  obtain ⟨L, hL⟩ : ∃ L, l.length = L := ⟨_, rfl⟩
  rw [hL] at hlen
  obtain ⟨tz, htz⟩ : ∃ tz, v.text.size = tz := ⟨_, rfl⟩
  rw [htz] at hlen
  have hlenI : (L : Int) + tz + m + N ≤ 1000000000000 := by omega
  have HO := Lib.hid (And.intro ho (And.intro hB (And.intro hb (And.intro hap (And.intro hbi (And.intro hL (And.intro htz (And.intro hm hN))))))))
  clear h h1 h2 h3 hN ho hB hb hap hbi hm hL hlen
  go_enter Tryz.func54, Tryz.ntmps54
  go_upto_region 1 with fail
  have hb0 : Below w.heap.size w (w.alloc (.cells #[.int .i64 v.kind, .int .u64 v.num, .string v.text, (.slice p N cs), .int .i64 v.elem] 25)) := ((Below.refl _ _).alloc (Nat.le_refl _) _)
  have ox := _root_.Go.heap_alloc_new w (.cells #[.int .i64 v.kind, .int .u64 v.num, .string v.text, (.slice p N cs), .int .i64 v.elem] 25)
  generalize (w.alloc (.cells #[.int .i64 v.kind, .int .u64 v.num, .string v.text, (.slice p N cs), .int .i64 v.elem] 25)) = w0 at *
  obtain ⟨x, hx⟩ : ∃ x, w.heap.size = x := ⟨_, rfl⟩
  rw [hx] at ox ⊢
  have HB0 := Lib.hid hb0
  have x3 : w0.cell? ⟨x, 3, none⟩ = some ((.slice p N cs)) := (cell_of_row _ _ 3 _ _ _ ox).trans rfl
  have HX := Lib.hid hx
  have HOX := Lib.hid ox
  clear hb0 ox hx
  have HNX := Lib.hid (show out.ownBlock ≠ some x from fun e => by have h1 := (HO.out.1.row.lt _ e).2; have h2 := HX.out; omega)
  have HO0 := Lib.hid (show OwnBytes w0 B 5 out l from HO.out.1.of_below HB0.out)
  have HBH := Lib.hid (show OwnBytes w0 B2 5 (.slice q m cc) bl from HO.out.2.2.1.of_below HB0.out)
  have hmI : (m : Int) ≤ 1000000000000 := by omega
  have hNI : (N : Int) ≤ 1000000000000 := by omega
  have HTI := Lib.hid (And.intro hmI hNI)
  clear htz
  have hp := put_bytes (1 + m) 1 w0 (by omega) (by omega) (by omega)
  rw [show ((1 + m : Nat) : Int) = 1 + (m : Int) from by omega] at hp
  have HP1 := Lib.hid hp
  clear hp
  go_wp2_with fail
  refine HP1.out.mono ?_
  rintro e w1 ⟨rfl, hb1, hy1⟩
  have HBW1 := Lib.hid hb1
  have HY1 := Lib.hid hy1
  have HZ1 := Lib.hid (show B ≤ w1.heap.size from by have h1 := HO.out.2.1; have h2 := HB0.out.size; have h3 := hb1.size; omega)
  clear hb1 hy1
  have HO1 := Lib.hid (HO0.out.of_below HBW1.out)
  have HX3 := Lib.hid (bs_cellV HBW1.out x3)
  have HBH1 := Lib.hid (HBH.out.of_below HBW1.out)
  clear x3
  go_wp2_with (first
    | (at_builtin; refine wpList_append_bytesF rfl (.tmp 46) (.tmp 53) 28 rfl B Tryz.underlying28 info_u8 _ l (putL (1 + m) 1) _ 1 1 rfl rfl HO1.out HY1.out (by rw [HO.out.2.2.2.2.2.1]; omega) HZ1.out ?_; intro u2 w2 ho2 hg2; have HO2 := Lib.hid ho2; have HG2 := Lib.hid hg2; clear ho2 hg2; have x3 := Gw.cell HG2.out HX3.out HNX.out)
    | fail)
  have HBH2 := Lib.hid (And.intro (HG2.out.own HBH1.out HO.out.2.2.2.1) (HG2.out.apart HBH1.out HO.out.2.2.2.1))
  have hp := put_bytes N 1 w2 (by omega) (by omega) (by omega)
  have HP3 := Lib.hid hp
  clear hp
  refine HP3.out.mono ?_
  rintro e w3 ⟨rfl, hb3, hy3⟩
  have HBW3 := Lib.hid hb3
  have HY3 := Lib.hid hy3
  clear hb3 hy3 x3
  have HO3 := Lib.hid (HO2.out.of_below HBW3.out)
  have HBH3 := Lib.hid (HBH2.out.1.of_below HBW3.out)
  have HZ3 := Lib.hid (show B ≤ w3.heap.size from by have h1 := HZ1.out; have h2 := HG2.out.size; have h3 := HBW3.out.size; omega)
  go_wp2_with (first
    | (at_builtin; refine wpList_append_bytesF rfl (.tmp 55) (.tmp 61) 28 rfl B Tryz.underlying28 info_u8 _ _ (putL N 1) _ 1 1 rfl rfl HO3.out HY3.out (by rw [List.length_append, putL_length, HO.out.2.2.2.2.2.1]; have := HTI.out; omega) HZ3.out ?_; intro u4 w4 ho4 hg4; have HO4 := Lib.hid ho4; have HG4 := Lib.hid hg4; clear ho4 hg4; have HBH4 := Lib.hid (HG4.out.own HBH3.out HBH2.out.2); have HY5 := Lib.hid HBH4.out.sl.2)
    | (at_builtin; refine wpList_append_bytesF rfl (.tmp 63) (.tmp 64) 28 rfl B Tryz.underlying28 info_u8 _ _ bl _ m cc rfl rfl HO4.out HY5.out (by rw [List.length_append, List.length_append, putL_length, putL_length, HO.out.2.2.2.2.2.1]; have := HTI.out; omega) (by have h1 := HG4.out.size; have h2 := HZ3.out; omega) ?_; intro u6 w6 ho6 hg6; have HO6 := Lib.hid ho6; have HG6 := Lib.hid hg6; clear ho6 hg6))
  go_ret
  exact ⟨_, rfl, by have h := HO6.out; rw [List.append_assoc, List.append_assoc] at h; exact h, (((HG2.out.pre HBW1.out).pre HB0.out).trans (HG4.out.pre HBW3.out)).trans HG6.out⟩
set_option maxRecDepth 20000 in
theorem data_d0 (v : V) (w : World) (s : Value) (h : VIn w v s) (out : Value) (l : List UInt8) (B : Nat) (ho : OwnBytes w B 5 out l) (hB : B ≤ w.heap.size) (bh : Value) (bl : List UInt8) (B2 : Nat) (hb : OwnBytes w B2 5 bh bl) (hap : bh.ownBlock = none ∨ bh.ownBlock ≠ out.ownBlock) (hlen : l.length + v.text.size + bl.length + v.list.length ≤ 1000000000000) :
    Calls Tryz.prog 54 #[out, .int .u8 208, .agg #[.int .i64 v.kind, .int .u64 v.num, .string v.text, s, .int .i64 v.elem], bh] w (DataTo w B out (l ++ (putL (4 + bl.length) 4 ++ (putL v.list.length 4 ++ bl)))) := by
  obtain ⟨p, cs, hs, h1, h2, h3⟩ := h.slice
  obtain ⟨N, hN⟩ : ∃ N, v.list.length = N := ⟨_, rfl⟩
  rw [hN] at hs h1 h3 hlen ⊢
  subst hs
  obtain ⟨q, cc, hbh, hbi⟩ := hb.bytes
  subst hbh
  obtain ⟨m, hm⟩ : ∃ m, bl.length = m := ⟨_, rfl⟩
  rw [hm] at hbi hb hap hlen ⊢
  obtain ⟨L, hL⟩ : ∃ L, l.length = L := ⟨_, rfl⟩
  rw [hL] at hlen
  obtain ⟨tz, htz⟩ : ∃ tz, v.text.size = tz := ⟨_, rfl⟩
  rw [htz] at hlen
  have hlenI : (L : Int) + tz + m + N ≤ 1000000000000 := by omega
  have HO := Lib.hid (And.intro ho (And.intro hB (And.intro hb (And.intro hap (And.intro hbi (And.intro hL (And.intro htz (And.intro hm hN))))))))
  clear h h1 h2 h3 hN ho hB hb hap hbi hm hL hlen
  go_enter Tryz.func54, Tryz.ntmps54
  go_upto_region 1 with fail
  have hb0 : Below w.heap.size w (w.alloc (.cells #[.int .i64 v.kind, .int .u64 v.num, .string v.text, (.slice p N cs), .int .i64 v.elem] 25)) := ((Below.refl _ _).alloc (Nat.le_refl _) _)
  have ox := _root_.Go.heap_alloc_new w (.cells #[.int .i64 v.kind, .int .u64 v.num, .string v.text, (.slice p N cs), .int .i64 v.elem] 25)
  generalize (w.alloc (.cells #[.int .i64 v.kind, .int .u64 v.num, .string v.text, (.slice p N cs), .int .i64 v.elem] 25)) = w0 at *
  obtain ⟨x, hx⟩ : ∃ x, w.heap.size = x := ⟨_, rfl⟩
  rw [hx] at ox ⊢
  have HB0 := Lib.hid hb0
  have x3 : w0.cell? ⟨x, 3, none⟩ = some ((.slice p N cs)) := (cell_of_row _ _ 3 _ _ _ ox).trans rfl
  have HX := Lib.hid hx
  have HOX := Lib.hid ox
  clear hb0 ox hx
  have HNX := Lib.hid (show out.ownBlock ≠ some x from fun e => by have h1 := (HO.out.1.row.lt _ e).2; have h2 := HX.out; omega)
  have HO0 := Lib.hid (show OwnBytes w0 B 5 out l from HO.out.1.of_below HB0.out)
  have HBH := Lib.hid (show OwnBytes w0 B2 5 (.slice q m cc) bl from HO.out.2.2.1.of_below HB0.out)
  have hmI : (m : Int) ≤ 1000000000000 := by omega
  have hNI : (N : Int) ≤ 1000000000000 := by omega
  have HTI := Lib.hid (And.intro hmI hNI)
  clear htz
  have hp := put_bytes (4 + m) 4 w0 (by omega) (by omega) (by omega)
  rw [show ((4 + m : Nat) : Int) = 4 + (m : Int) from by omega] at hp
  have HP1 := Lib.hid hp
  clear hp
  go_wp2_with fail
  refine HP1.out.mono ?_
  rintro e w1 ⟨rfl, hb1, hy1⟩
  have HBW1 := Lib.hid hb1
  have HY1 := Lib.hid hy1
  have HZ1 := Lib.hid (show B ≤ w1.heap.size from by have h1 := HO.out.2.1; have h2 := HB0.out.size; have h3 := hb1.size; omega)
  clear hb1 hy1
  have HO1 := Lib.hid (HO0.out.of_below HBW1.out)
  have HX3 := Lib.hid (bs_cellV HBW1.out x3)
  have HBH1 := Lib.hid (HBH.out.of_below HBW1.out)
  clear x3
  go_wp2_with (first
    | (at_builtin; refine wpList_append_bytesF rfl (.tmp 46) (.tmp 53) 28 rfl B Tryz.underlying28 info_u8 _ l (putL (4 + m) 4) _ 4 4 rfl rfl HO1.out HY1.out (by rw [HO.out.2.2.2.2.2.1]; omega) HZ1.out ?_; intro u2 w2 ho2 hg2; have HO2 := Lib.hid ho2; have HG2 := Lib.hid hg2; clear ho2 hg2; have x3 := Gw.cell HG2.out HX3.out HNX.out)
    | fail)
  have HBH2 := Lib.hid (And.intro (HG2.out.own HBH1.out HO.out.2.2.2.1) (HG2.out.apart HBH1.out HO.out.2.2.2.1))
  have hp := put_bytes N 4 w2 (by omega) (by omega) (by omega)
  have HP3 := Lib.hid hp
  clear hp
  refine HP3.out.mono ?_
  rintro e w3 ⟨rfl, hb3, hy3⟩
  have HBW3 := Lib.hid hb3
  have HY3 := Lib.hid hy3
  clear hb3 hy3 x3
  have HO3 := Lib.hid (HO2.out.of_below HBW3.out)
  have HBH3 := Lib.hid (HBH2.out.1.of_below HBW3.out)
  have HZ3 := Lib.hid (show B ≤ w3.heap.size from by have h1 := HZ1.out; have h2 := HG2.out.size; have h3 := HBW3.out.size; omega)
  go_wp2_with (first
    | (at_builtin; refine wpList_append_bytesF rfl (.tmp 55) (.tmp 61) 28 rfl B Tryz.underlying28 info_u8 _ _ (putL N 4) _ 4 4 rfl rfl HO3.out HY3.out (by rw [List.length_append, putL_length, HO.out.2.2.2.2.2.1]; have := HTI.out; omega) HZ3.out ?_; intro u4 w4 ho4 hg4; have HO4 := Lib.hid ho4; have HG4 := Lib.hid hg4; clear ho4 hg4; have HBH4 := Lib.hid (HG4.out.own HBH3.out HBH2.out.2); have HY5 := Lib.hid HBH4.out.sl.2)
    | (at_builtin; refine wpList_append_bytesF rfl (.tmp 63) (.tmp 64) 28 rfl B Tryz.underlying28 info_u8 _ _ bl _ m cc rfl rfl HO4.out HY5.out (by rw [List.length_append, List.length_append, putL_length, putL_length, HO.out.2.2.2.2.2.1]; have := HTI.out; omega) (by have h1 := HG4.out.size; have h2 := HZ3.out; omega) ?_; intro u6 w6 ho6 hg6; have HO6 := Lib.hid ho6; have HG6 := Lib.hid hg6; clear ho6 hg6))
  go_ret
  exact ⟨_, rfl, by have h := HO6.out; rw [List.append_assoc, List.append_assoc] at h; exact h, (((HG2.out.pre HBW1.out).pre HB0.out).trans (HG4.out.pre HBW3.out)).trans HG6.out⟩
set_option maxRecDepth 20000 in
theorem data_d1 (v : V) (w : World) (s : Value) (h : VIn w v s) (out : Value) (l : List UInt8) (B : Nat) (ho : OwnBytes w B 5 out l) (hB : B ≤ w.heap.size) (bh : Value) (bl : List UInt8) (B2 : Nat) (hb : OwnBytes w B2 5 bh bl) (hap : bh.ownBlock = none ∨ bh.ownBlock ≠ out.ownBlock) (hlen : l.length + v.text.size + bl.length + v.list.length ≤ 1000000000000) :
    Calls Tryz.prog 54 #[out, .int .u8 209, .agg #[.int .i64 v.kind, .int .u64 v.num, .string v.text, s, .int .i64 v.elem], bh] w (DataTo w B out (l ++ (putL (4 + bl.length) 4 ++ (putL v.list.length 4 ++ bl)))) := by
  obtain ⟨p, cs, hs, h1, h2, h3⟩ := h.slice
  obtain ⟨N, hN⟩ : ∃ N, v.list.length = N := ⟨_, rfl⟩
  rw [hN] at hs h1 h3 hlen ⊢
  subst hs
  obtain ⟨q, cc, hbh, hbi⟩ := hb.bytes
  subst hbh
  obtain ⟨m, hm⟩ : ∃ m, bl.length = m := ⟨_, rfl⟩
  rw [hm] at hbi hb hap hlen ⊢
  obtain ⟨L, hL⟩ : ∃ L, l.length = L := ⟨_, rfl⟩
  rw [hL] at hlen
  obtain ⟨tz, htz⟩ : ∃ tz, v.text.size = tz := ⟨_, rfl⟩
  rw [htz] at hlen
  have hlenI : (L : Int) + tz + m + N ≤ 1000000000000 := by omega
  have HO := Lib.hid (And.intro ho (And.intro hB (And.intro hb (And.intro hap (And.intro hbi (And.intro hL (And.intro htz (And.intro hm hN))))))))
  clear h h1 h2 h3 hN ho hB hb hap hbi hm hL hlen
  go_enter Tryz.func54, Tryz.ntmps54
  go_upto_region 1 with fail
  have hb0 : Below w.heap.size w (w.alloc (.cells #[.int .i64 v.kind, .int .u64 v.num, .string v.text, (.slice p N cs), .int .i64 v.elem] 25)) := ((Below.refl _ _).alloc (Nat.le_refl _) _)
  have ox := _root_.Go.heap_alloc_new w (.cells #[.int .i64 v.kind, .int .u64 v.num, .string v.text, (.slice p N cs), .int .i64 v.elem] 25)
  generalize (w.alloc (.cells #[.int .i64 v.kind, .int .u64 v.num, .string v.text, (.slice p N cs), .int .i64 v.elem] 25)) = w0 at *
  obtain ⟨x, hx⟩ : ∃ x, w.heap.size = x := ⟨_, rfl⟩
  rw [hx] at ox ⊢
  have HB0 := Lib.hid hb0
  have x3 : w0.cell? ⟨x, 3, none⟩ = some ((.slice p N cs)) := (cell_of_row _ _ 3 _ _ _ ox).trans rfl
  have HX := Lib.hid hx
  have HOX := Lib.hid ox
  clear hb0 ox hx
  have HNX := Lib.hid (show out.ownBlock ≠ some x from fun e => by have h1 := (HO.out.1.row.lt _ e).2; have h2 := HX.out; omega)
  have HO0 := Lib.hid (show OwnBytes w0 B 5 out l from HO.out.1.of_below HB0.out)
  have HBH := Lib.hid (show OwnBytes w0 B2 5 (.slice q m cc) bl from HO.out.2.2.1.of_below HB0.out)
  have hmI : (m : Int) ≤ 1000000000000 := by omega
  have hNI : (N : Int) ≤ 1000000000000 := by omega
  have HTI := Lib.hid (And.intro hmI hNI)
  clear htz
  have hp := put_bytes (4 + m) 4 w0 (by omega) (by omega) (by omega)
  rw [show ((4 + m : Nat) : Int) = 4 + (m : Int) from by omega] at hp
  have HP1 := Lib.hid hp
  clear hp
  go_wp2_with fail
  refine HP1.out.mono ?_
  rintro e w1 ⟨rfl, hb1, hy1⟩
  have HBW1 := Lib.hid hb1
  have HY1 := Lib.hid hy1
  have HZ1 := Lib.hid (show B ≤ w1.heap.size from by have h1 := HO.out.2.1; have h2 := HB0.out.size; have h3 := hb1.size; omega)
  clear hb1 hy1
  have HO1 := Lib.hid (HO0.out.of_below HBW1.out)
  have HX3 := Lib.hid (bs_cellV HBW1.out x3)
  have HBH1 := Lib.hid (HBH.out.of_below HBW1.out)
  clear x3
  go_wp2_with (first
    | (at_builtin; refine wpList_append_bytesF rfl (.tmp 46) (.tmp 53) 28 rfl B Tryz.underlying28 info_u8 _ l (putL (4 + m) 4) _ 4 4 rfl rfl HO1.out HY1.out (by rw [HO.out.2.2.2.2.2.1]; omega) HZ1.out ?_; intro u2 w2 ho2 hg2; have HO2 := Lib.hid ho2; have HG2 := Lib.hid hg2; clear ho2 hg2; have x3 := Gw.cell HG2.out HX3.out HNX.out)
    | fail)
  have HBH2 := Lib.hid (And.intro (HG2.out.own HBH1.out HO.out.2.2.2.1) (HG2.out.apart HBH1.out HO.out.2.2.2.1))
  have hp := put_bytes N 4 w2 (by omega) (by omega) (by omega)
  have HP3 := Lib.hid hp
  clear hp
  refine HP3.out.mono ?_
  rintro e w3 ⟨rfl, hb3, hy3⟩
  have HBW3 := Lib.hid hb3
  have HY3 := Lib.hid hy3
  clear hb3 hy3 x3
  have HO3 := Lib.hid (HO2.out.of_below HBW3.out)
  have HBH3 := Lib.hid (HBH2.out.1.of_below HBW3.out)
  have HZ3 := Lib.hid (show B ≤ w3.heap.size from by have h1 := HZ1.out; have h2 := HG2.out.size; have h3 := HBW3.out.size; omega)
  go_wp2_with (first
    | (at_builtin; refine wpList_append_bytesF rfl (.tmp 55) (.tmp 61) 28 rfl B Tryz.underlying28 info_u8 _ _ (putL N 4) _ 4 4 rfl rfl HO3.out HY3.out (by rw [List.length_append, putL_length, HO.out.2.2.2.2.2.1]; have := HTI.out; omega) HZ3.out ?_; intro u4 w4 ho4 hg4; have HO4 := Lib.hid ho4; have HG4 := Lib.hid hg4; clear ho4 hg4; have HBH4 := Lib.hid (HG4.out.own HBH3.out HBH2.out.2); have HY5 := Lib.hid HBH4.out.sl.2)
    | (at_builtin; refine wpList_append_bytesF rfl (.tmp 63) (.tmp 64) 28 rfl B Tryz.underlying28 info_u8 _ _ bl _ m cc rfl rfl HO4.out HY5.out (by rw [List.length_append, List.length_append, putL_length, putL_length, HO.out.2.2.2.2.2.1]; have := HTI.out; omega) (by have h1 := HG4.out.size; have h2 := HZ3.out; omega) ?_; intro u6 w6 ho6 hg6; have HO6 := Lib.hid ho6; have HG6 := Lib.hid hg6; clear ho6 hg6))
  go_ret
  exact ⟨_, rfl, by have h := HO6.out; rw [List.append_assoc, List.append_assoc] at h; exact h, (((HG2.out.pre HBW1.out).pre HB0.out).trans (HG4.out.pre HBW3.out)).trans HG6.out⟩
set_option maxRecDepth 20000 in
theorem data_f0 (v : V) (w : World) (s : Value) (h : VIn w v s) (out : Value) (l : List UInt8) (B : Nat) (ho : OwnBytes w B 5 out l) (hB : B ≤ w.heap.size) (bh : Value) (bl : List UInt8) (B2 : Nat) (hb : OwnBytes w B2 5 bh bl) (hap : bh.ownBlock = none ∨ bh.ownBlock ≠ out.ownBlock) (hlen : l.length + v.text.size + bl.length + v.list.length ≤ 1000000000000) :
    Calls Tryz.prog 54 #[out, .int .u8 240, .agg #[.int .i64 v.kind, .int .u64 v.num, .string v.text, s, .int .i64 v.elem], bh] w (DataTo w B out (l ++ (putL (4 + bl.length) 4 ++ (putL v.list.length 4 ++ bl)))) := by
  obtain ⟨p, cs, hs, h1, h2, h3⟩ := h.slice
  obtain ⟨N, hN⟩ : ∃ N, v.list.length = N := ⟨_, rfl⟩
  rw [hN] at hs h1 h3 hlen ⊢
  subst hs
  obtain ⟨q, cc, hbh, hbi⟩ := hb.bytes
  subst hbh
  obtain ⟨m, hm⟩ : ∃ m, bl.length = m := ⟨_, rfl⟩
  rw [hm] at hbi hb hap hlen ⊢
  obtain ⟨L, hL⟩ : ∃ L, l.length = L := ⟨_, rfl⟩
  rw [hL] at hlen
  obtain ⟨tz, htz⟩ : ∃ tz, v.text.size = tz := ⟨_, rfl⟩
  rw [htz] at hlen
  have hlenI : (L : Int) + tz + m + N ≤ 1000000000000 := by omega
  have HO := Lib.hid (And.intro ho (And.intro hB (And.intro hb (And.intro hap (And.intro hbi (And.intro hL (And.intro htz (And.intro hm hN))))))))
  clear h h1 h2 h3 hN ho hB hb hap hbi hm hL hlen
  go_enter Tryz.func54, Tryz.ntmps54
  go_upto_region 1 with fail
  have hb0 : Below w.heap.size w (w.alloc (.cells #[.int .i64 v.kind, .int .u64 v.num, .string v.text, (.slice p N cs), .int .i64 v.elem] 25)) := ((Below.refl _ _).alloc (Nat.le_refl _) _)
  have ox := _root_.Go.heap_alloc_new w (.cells #[.int .i64 v.kind, .int .u64 v.num, .string v.text, (.slice p N cs), .int .i64 v.elem] 25)
  generalize (w.alloc (.cells #[.int .i64 v.kind, .int .u64 v.num, .string v.text, (.slice p N cs), .int .i64 v.elem] 25)) = w0 at *
  obtain ⟨x, hx⟩ : ∃ x, w.heap.size = x := ⟨_, rfl⟩
  rw [hx] at ox ⊢
  have HB0 := Lib.hid hb0
  have x3 : w0.cell? ⟨x, 3, none⟩ = some ((.slice p N cs)) := (cell_of_row _ _ 3 _ _ _ ox).trans rfl
  have HX := Lib.hid hx
  have HOX := Lib.hid ox
  clear hb0 ox hx
  have HNX := Lib.hid (show out.ownBlock ≠ some x from fun e => by have h1 := (HO.out.1.row.lt _ e).2; have h2 := HX.out; omega)
  have HO0 := Lib.hid (show OwnBytes w0 B 5 out l from HO.out.1.of_below HB0.out)
  have HBH := Lib.hid (show OwnBytes w0 B2 5 (.slice q m cc) bl from HO.out.2.2.1.of_below HB0.out)
  have hmI : (m : Int) ≤ 1000000000000 := by omega
  have hNI : (N : Int) ≤ 1000000000000 := by omega
  have HTI := Lib.hid (And.intro hmI hNI)
  clear htz
  have hp := put_bytes (4 + m) 4 w0 (by omega) (by omega) (by omega)
  rw [show ((4 + m : Nat) : Int) = 4 + (m : Int) from by omega] at hp
  have HP1 := Lib.hid hp
  clear hp
  go_wp2_with fail
  refine HP1.out.mono ?_
  rintro e w1 ⟨rfl, hb1, hy1⟩
  have HBW1 := Lib.hid hb1
  have HY1 := Lib.hid hy1
  have HZ1 := Lib.hid (show B ≤ w1.heap.size from by have h1 := HO.out.2.1; have h2 := HB0.out.size; have h3 := hb1.size; omega)
  clear hb1 hy1
  have HO1 := Lib.hid (HO0.out.of_below HBW1.out)
  have HX3 := Lib.hid (bs_cellV HBW1.out x3)
  have HBH1 := Lib.hid (HBH.out.of_below HBW1.out)
  clear x3
  go_wp2_with (first
    | (at_builtin; refine wpList_append_bytesF rfl (.tmp 46) (.tmp 53) 28 rfl B Tryz.underlying28 info_u8 _ l (putL (4 + m) 4) _ 4 4 rfl rfl HO1.out HY1.out (by rw [HO.out.2.2.2.2.2.1]; omega) HZ1.out ?_; intro u2 w2 ho2 hg2; have HO2 := Lib.hid ho2; have HG2 := Lib.hid hg2; clear ho2 hg2; have x3 := Gw.cell HG2.out HX3.out HNX.out)
    | fail)
  have HBH2 := Lib.hid (And.intro (HG2.out.own HBH1.out HO.out.2.2.2.1) (HG2.out.apart HBH1.out HO.out.2.2.2.1))
  have hp := put_bytes N 4 w2 (by omega) (by omega) (by omega)
  have HP3 := Lib.hid hp
  clear hp
  refine HP3.out.mono ?_
  rintro e w3 ⟨rfl, hb3, hy3⟩
  have HBW3 := Lib.hid hb3
  have HY3 := Lib.hid hy3
  clear hb3 hy3 x3
  have HO3 := Lib.hid (HO2.out.of_below HBW3.out)
  have HBH3 := Lib.hid (HBH2.out.1.of_below HBW3.out)
  have HZ3 := Lib.hid (show B ≤ w3.heap.size from by have h1 := HZ1.out; have h2 := HG2.out.size; have h3 := HBW3.out.size; omega)
  go_wp2_with (first
    | (at_builtin; refine wpList_append_bytesF rfl (.tmp 55) (.tmp 61) 28 rfl B Tryz.underlying28 info_u8 _ _ (putL N 4) _ 4 4 rfl rfl HO3.out HY3.out (by rw [List.length_append, putL_length, HO.out.2.2.2.2.2.1]; have := HTI.out; omega) HZ3.out ?_; intro u4 w4 ho4 hg4; have HO4 := Lib.hid ho4; have HG4 := Lib.hid hg4; clear ho4 hg4; have HBH4 := Lib.hid (HG4.out.own HBH3.out HBH2.out.2); have HY5 := Lib.hid HBH4.out.sl.2)
    | (at_builtin; refine wpList_append_bytesF rfl (.tmp 63) (.tmp 64) 28 rfl B Tryz.underlying28 info_u8 _ _ bl _ m cc rfl rfl HO4.out HY5.out (by rw [List.length_append, List.length_append, putL_length, putL_length, HO.out.2.2.2.2.2.1]; have := HTI.out; omega) (by have h1 := HG4.out.size; have h2 := HZ3.out; omega) ?_; intro u6 w6 ho6 hg6; have HO6 := Lib.hid ho6; have HG6 := Lib.hid hg6; clear ho6 hg6))
  go_ret
  exact ⟨_, rfl, by have h := HO6.out; rw [List.append_assoc, List.append_assoc] at h; exact h, (((HG2.out.pre HBW1.out).pre HB0.out).trans (HG4.out.pre HBW3.out)).trans HG6.out⟩
set_option maxRecDepth 20000 in
theorem data_num {c : Nat} (hc5 : 5 ≤ c / 16) (hc8 : c / 16 ≤ 8) (v : V) (w : World) (s : Value) (h : VIn w v s) (out : Value) (l : List UInt8) (B : Nat) (ho : OwnBytes w B 5 out l) (hB : B ≤ w.heap.size) (bh : Value) (bl : List UInt8) (B2 : Nat) (hb : OwnBytes w B2 5 bh bl) (hap : bh.ownBlock = none ∨ bh.ownBlock ≠ out.ownBlock) (hlen : l.length + v.text.size + bl.length + v.list.length ≤ 1000000000000) :
    Calls Tryz.prog 54 #[out, .int .u8 c, .agg #[.int .i64 v.kind, .int .u64 v.num, .string v.text, s, .int .i64 v.elem], bh] w (DataTo w B out (l ++ putL v.num.toNat (widC c))) := by
  obtain ⟨n, hn⟩ : ∃ n : Nat, v.num = n := ⟨v.num.toNat, by have := h.wf.n.1; omega⟩
  have hnn : n < 18446744073709551616 := by have := h.wf.n.2; omega
  rw [show v.num.toNat = n by omega]
  have hc256 : c < 256 := by omega
  have hw := width_any c
  have hwl : 1 ≤ widC c ∧ widC c ≤ 8 := by
    unfold widC
    by_cases a : c / 16 = 5
    · rw [if_pos a]; omega
    rw [if_neg a]
    by_cases a : c / 16 = 6
    · rw [if_pos a]; omega
    rw [if_neg a]
    by_cases a : c / 16 = 7
    · rw [if_pos a]; omega
    rw [if_neg a, if_pos (by omega)]; omega
  obtain ⟨wd, hwd⟩ : ∃ wd, widC c = wd := ⟨_, rfl⟩
  rw [hwd] at hw hwl ⊢
  have n148 : ((c : Int) == 148) = false := by simp; omega
  have n152 : ((c : Int) == 152) = false := by simp; omega
  have n160 : ((c : Int) == 160) = false := by simp; omega
  have n161 : ((c : Int) == 161) = false := by simp; omega
  have n163 : ((c : Int) == 163) = false := by simp; omega
  have n176 : ((c : Int) == 176) = false := by simp; omega
  have n177 : ((c : Int) == 177) = false := by simp; omega
  have n179 : ((c : Int) == 179) = false := by simp; omega
  have n192 : ((c : Int) == 192) = false := by simp; omega
  have n193 : ((c : Int) == 193) = false := by simp; omega
  have n224 : ((c : Int) == 224) = false := by simp; omega
  have n208 : ((c : Int) == 208) = false := by simp; omega
  have n209 : ((c : Int) == 209) = false := by simp; omega
  have n240 : ((c : Int) == 240) = false := by simp; omega
  have hput : ∀ W, Calls Tryz.prog 78 #[.int .u64 v.num, .int .i64 wd] W fun e w' => e = .returned (.slice (some ⟨W.heap.size, 0, none⟩) wd wd) ∧ Below W.heap.size W w' ∧ BytesIn w' (some ⟨W.heap.size, 0, none⟩) wd wd (putL n wd) := fun W => by rw [hn]; exact put_bytes n wd W hwl.1 hwl.2 hnn
  have HPUT := Lib.hid hput
  clear hput hn
  obtain ⟨p, cs, hs, h1, h2, h3⟩ := h.slice
  obtain ⟨N, hN⟩ : ∃ N, v.list.length = N := ⟨_, rfl⟩
  rw [hN] at hs h1 h3 hlen
  subst hs
  obtain ⟨q, cc, hbh, hbi⟩ := hb.bytes
  subst hbh
  obtain ⟨m, hm⟩ : ∃ m, bl.length = m := ⟨_, rfl⟩
  rw [hm] at hbi hb hap hlen ⊢
  obtain ⟨L, hL⟩ : ∃ L, l.length = L := ⟨_, rfl⟩
  rw [hL] at hlen
  obtain ⟨tz, htz⟩ : ∃ tz, v.text.size = tz := ⟨_, rfl⟩
  rw [htz] at hlen
  have hlenI : (L : Int) + tz + m + N ≤ 1000000000000 := by omega
  have HO := Lib.hid (And.intro ho (And.intro hB (And.intro hb (And.intro hap (And.intro hbi (And.intro hL (And.intro htz (And.intro hm hN))))))))
  have HW := Lib.hid hw
  clear hw hwd
  clear h h1 h2 h3 hN ho hB hb hap hbi hm hL hlen
  go_enter Tryz.func54, Tryz.ntmps54
  go_upto_region 1 with fail
  have hb0 : Below w.heap.size w (w.alloc (.cells #[.int .i64 v.kind, .int .u64 v.num, .string v.text, (.slice p N cs), .int .i64 v.elem] 25)) := ((Below.refl _ _).alloc (Nat.le_refl _) _)
  have ox := _root_.Go.heap_alloc_new w (.cells #[.int .i64 v.kind, .int .u64 v.num, .string v.text, (.slice p N cs), .int .i64 v.elem] 25)
  generalize (w.alloc (.cells #[.int .i64 v.kind, .int .u64 v.num, .string v.text, (.slice p N cs), .int .i64 v.elem] 25)) = w0 at *
  obtain ⟨x, hx⟩ : ∃ x, w.heap.size = x := ⟨_, rfl⟩
  rw [hx] at ox ⊢
  have HB0 := Lib.hid hb0
  have x1 : w0.cell? ⟨x, 1, none⟩ = some (.int .u64 v.num) := (cell_of_row _ _ 1 _ _ _ ox).trans rfl
  have HX := Lib.hid hx
  have HOX := Lib.hid ox
  clear hb0 ox hx
  have HNX := Lib.hid (show out.ownBlock ≠ some x from fun e => by have h1 := (HO.out.1.row.lt _ e).2; have h2 := HX.out; omega)
  have HO0 := Lib.hid (show OwnBytes w0 B 5 out l from HO.out.1.of_below HB0.out)
  have HBH := Lib.hid (show OwnBytes w0 B2 5 (.slice q m cc) bl from HO.out.2.2.1.of_below HB0.out)
  have hx1 := x1
  go_upto_region 25 with fail
  clear x1
  refine wp_region_heldN (fun V => V.cell? ⟨x, 1, none⟩ = some (.int .u64 v.num)) 8 rfl (by kernel_rfl) ?_
  have hS : w0.drew.cell? ⟨x, 1, none⟩ = some (.int .u64 v.num) := hx1
  clear hx1
  refine tkD (i := 0) (v := out) (some 66) rfl rfl (by kernel_rfl) (fun _ _ _ h => h) (Or.inl ⟨by rfl, by rintro V h0; go_simp⟩) hS ?_
  try simp only [Act.put, sA, sB, sC]
  refine tkD (i := 1) (v := .pointer (some ⟨x, 1, none⟩)) (some 67) rfl rfl (by kernel_rfl) (fun _ _ _ h => h) (Or.inl ⟨by rfl, by rintro V h0; go_simp⟩) hS ?_
  try simp only [Act.put, sA, sB, sC]
  refine tkD (i := 2) (v := .int .u64 v.num) (some 68) rfl rfl (by kernel_rfl) (fun _ _ _ h => h) (Or.inl ⟨by rfl, by rintro V h0; go_simp⟩) hS ?_
  try simp only [Act.put, sA, sB, sC]
  refine tkD (i := 3) (v := .int .u8 c) (some 69) rfl rfl (by kernel_rfl) (fun _ _ _ h => h) (Or.inl ⟨by rfl, by rintro V h0; go_simp⟩) hS ?_
  try simp only [Act.put, sA, sB, sC]
  refine oneH (i := 4) (by kernel_rfl) ?_
  refine stepD (i := 4) rfl (by rfl) (fun K5 h5 => ?_)
  go_simp
  (with_reducible refine (HW.out _ hc256).mono ?_)
  rintro e w1 ⟨rfl, rfl⟩
  refine h5.out _ _ hS ?_
  clear h5
  try simp only [Act.put, sA, sB, sC]
  refine oneH (i := 5) (by kernel_rfl) ?_
  refine stepD (i := 5) rfl (by rfl) (fun K5 h5 => ?_)
  go_simp
  (with_reducible refine (HPUT.out _).mono ?_)
  rintro e w2 ⟨rfl, hb2, hy2⟩
  have hS := bs_cellV hb2 hS
  refine h5.out _ _ hS ?_
  clear h5
  try simp only [Act.put, sA, sB, sC]
  have HB2 := Lib.hid (show Below w0.heap.size w0 w2 from ⟨hb2.os, hb2.tape, hb2.output, hb2.size, hb2.block⟩)
  have HY2 := Lib.hid hy2
  clear hb2 hy2
  refine oneH (i := 6) (by kernel_rfl) ?_
  refine stepD (i := 6) rfl (by rfl) (fun K5 h5 => ?_)
  refine wp_append_bytesF (.tmp 66) (.tmp 71) 28 rfl B Tryz.underlying28 info_u8 out l (putL n wd) _ wd wd rfl rfl (HO0.out.of_below HB2.out) HY2.out (by rw [HO.out.2.2.2.2.2.1]; omega) (by have h1 := HB2.out.size; have h2 := HB0.out.size; have h3 := HO.out.2.1; omega) ?_
  intro u3 w3 ho3 hg3
  have hS := Gw.cell hg3 hS HNX.out
  refine h5.out _ _ hS ?_
  clear h5
  try simp only [Act.put, sA, sB, sC]
  have HO3 := Lib.hid ho3
  have HG3 := Lib.hid hg3
  clear ho3 hg3
  refine oneH (i := 7) (by kernel_rfl) ?_
  refine stepD (i := 7) rfl (by rfl) (fun K5 h5 => ?_)
  go_simp
  refine h5.out _ _ hS ?_
  clear h5
  try simp only [Act.put, sA, sB, sC]
  refine wpAnyH_done (by kernel_rfl) ?_ _
  clear hS
  try go_at_K
  go_wp2_with fail
  go_ret
  exact ⟨_, rfl, HO3.out, (HG3.out.pre HB2.out).pre HB0.out⟩
end Go.Proofs.YtnnnfhobbnjmfaaGreatDoor
