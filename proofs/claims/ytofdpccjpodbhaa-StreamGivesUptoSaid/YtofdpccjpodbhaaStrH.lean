/-
  StreamGives' walk. Conditions: rows that can be in memory, the cuts fewer than 2 to the 30th.
-/
import Derived.Test.YtofdpccjpodbhaaStrK
import Derived.Test.YtofdpccjpodbhaaStrG
namespace Go.Proofs.Ytofdpccjpodbhaa
open Go.RowKit
set_option linter.unusedVariables false

/-- what has been written so far: the header alone, or a row of the function's own -/
def RowG (w : World) (B : Nat) (v : Value) (l : List UInt8) : Prop :=
  OwnBytes w B 5 v l ∨ ∃ g, v = .slice (some ⟨g, 0, none⟩) 8 8 ∧ B ≤ g ∧ l.length = 8 ∧ Blk w g 85 l

theorem RowG.bytes {w : World} {B : Nat} {v : Value} {l : List UInt8} (h : RowG w B v l) : ∃ p c, v = .slice p l.length c ∧ BytesIn w p l.length c l := by
  rcases h with h | ⟨g, rfl, hB, hl, hb⟩
  · obtain ⟨p, c, h1, h2⟩ := h.bytes
    exact ⟨p, c, h1, h2⟩
  · exact ⟨some ⟨g, 0, none⟩, 8, by rw [hl], by rw [hl]; exact hb.all 8 8 hl.symm (Nat.le_refl _) (by decide)⟩

theorem RowG.cells {w w' : World} {B : Nat} {v : Value} {l : List UInt8} (h : RowG w B v l) (e : ∀ j cs t fr, v.ownBlock = some j → (t = 5 ∨ t = 85) → w.heap[j]? = some (.cells cs t fr) → w'.heap[j]? = w.heap[j]?) : RowG w' B v l := by
  rcases h with h | ⟨g, rfl, hB, hl, hb⟩
  · exact .inl (h.cells (fun j cs fr hj hh => e j cs _ fr hj (.inl rfl) hh))
  · exact .inr ⟨g, rfl, hB, hl, ⟨(e g _ _ _ rfl (.inr rfl) hb.blk).trans hb.blk⟩⟩

theorem RowG.below {w w' : World} {B : Nat} {v : Value} {l : List UInt8} (h : RowG w B v l) (hb : Below w.heap.size w w') : RowG w' B v l :=
  h.cells (fun j cs t fr _ _ hh => hb.block j (Array.getElem?_eq_some_iff.1 hh).1)

/-- 'append(b, l...)' of a row that is not empty -/
theorem run_append_rowG {P : Program} (w : World) (B t ty e : Nat) (he : e = 5) (ht : P.underlying t = some (.slice e)) (hinfo : (P.info? e).map (fun i => (i.zero, i.size, i.bytes)) = some (some (.int .u8 0), 1, 1))
    (v : Value) (l r : List UInt8) (xa : Option Addr) (n c : Nat) (hrow : RowG w B v l) (hr : BytesIn w xa n c r) (hn : 0 < n) (hlen : l.length + n ≤ 140737488355328) (hbase : B ≤ w.heap.size) :
    ∃ v' w', (Builtin.append_ #[t, t] ty #[v, .slice xa n c]).run P w = .ok v' w' ∧ OwnBytes w' B e v' (l ++ r) ∧ w.grownBy w' v.ownBlock := by
  subst he
  rcases hrow with ho | ⟨g, rfl, hBg, hl, hb⟩
  · exact run_append_bytes w B t ty 5 ht hinfo v l r xa n c ho hr hlen hbase
  · obtain ⟨i, hi, hzz⟩ := Option.map_eq_some_iff.1 hinfo
    simp only [Prod.mk.injEq] at hzz
    obtain ⟨hz, hsz, hby⟩ := hzz
    have hrl := hr.len
    obtain ⟨b, o, rfl, hlt, hcell⟩ := hr.at_ (by have := hr.le; omega)
    have hnews : ∀ j u, (r.map byteV)[j]? = some u → w.cell? ((⟨b, o, none⟩ : Addr).add j) = some u := by
      intro j u hj
      have hjl : j < n := by
        have := (List.getElem?_eq_some_iff.1 hj).1
        rw [List.length_map, hrl] at this
        exact this
      have hadd : (⟨b, o, none⟩ : Addr).add j = ⟨b, o + j, none⟩ := by unfold Addr.add; split <;> simp_all
      rw [hadd, hcell j hjl, ← hj, List.getElem?_map, List.getD_eq_getElem?_getD, List.getElem?_eq_getElem (by omega)]
      simp [byteV]
    have holds : ∀ j u, (l.map byteV)[j]? = some u → w.cell? ((⟨g, 0, none⟩ : Addr).add j) = some u := by
      intro j u hj
      have hjl : j < l.length := by
        have := (List.getElem?_eq_some_iff.1 hj).1
        rwa [List.length_map] at this
      have hadd : (⟨g, 0, none⟩ : Addr).add j = ⟨g, j, none⟩ := by unfold Addr.add; split <;> simp_all
      rw [hadd, hb.cell j hjl, ← hj, List.getElem?_map, List.getD_eq_getElem?_getD, List.getElem?_eq_getElem hjl]
      simp [byteV]
    have hq := run_append_grow (P := P) w t ty 5 i (.int .u8 0) ht hi hz ⟨g, 0, none⟩ 8 8 (l.map byteV) (by rw [List.length_map, hl, hsz]) holds ⟨b, o, none⟩ n c (r.map byteV) (by rw [List.length_map, hrl, hsz, Nat.mul_one]) hnews (by omega) (by omega) (growslice_fits (by omega) (by rw [hby, Nat.mul_one]; omega))
    refine ⟨_, _, hq, ⟨⟨by simp, .inr ⟨w.heap.size, _, _, by rw [List.length_append, hl, hrl], hbase, heap_alloc_new w.drew _, ?_, grownCap_le_maxLen w (8 + n) 8 5 (by unfold maxLen; omega), ?_, ?_⟩⟩⟩, ⟨rfl, rfl, rfl, by simp, fun k hk _ => heap_alloc_old w.drew _ hk⟩⟩
    · rw [List.length_append, hl, hrl]
      exact grownCap_ge w (8 + n) 8 5
    · have hge := grownCap_ge w (8 + n) 8 5
      simp only [Array.size_append, List.size_toArray, List.length_map, size_zeroCells, hl, hrl, Nat.mul_one]
      simp [Value.cells]
      omega
    · simp only [Array.toList_append, List.append_assoc]
      rw [← List.append_assoc, ← List.map_append, Nat.mul_one]
      exact List.take_left' (by simp)

/-- 'append(b, l...)' in the walk -/
theorem wpList_append_rowG {P : Program} {w : World} {ops : Array Oper} {rest : List Oper} {o : Oper} {a : Act} {Q : Exit → Act → World → Prop} (hgd : o.guard = none)
    (s x : Operand) (t : TypeId) (ho : o.op = .call { callee := .builtin .append, args := #[s, x], argTypes := #[t, t] })
    (B e : Nat) (he : e = 5) (ht : P.underlying t = some (.slice e)) (hinfo : (P.info? e).map (fun i => (i.zero, i.size, i.bytes)) = some (some (.int .u8 0), 1, 1))
    (v : Value) (l r : List UInt8) (xa : Option Addr) (n c : Nat)
    (hs : a.eval s = v) (hx : a.eval x = .slice xa n c) (hown : RowG w B v l) (hr : BytesIn w xa n c r) (hn : 0 < n)
    (hlen : l.length + n ≤ 140737488355328) (hbase : B ≤ w.heap.size)
    (h : ∀ v' w', OwnBytes w' B e v' (l ++ r) → w.grownBy w' v.ownBlock → wpList P ops Q rest (a.put o.dst v') w') :
    wpList P ops Q (o :: rest) a w := by
  refine wpList_plain hgd fun K hK => ?_
  obtain ⟨v', w', h1, h2, h3⟩ := run_append_rowG (P := P) w B t o.type e he ht hinfo v l r xa n c hown hr hn hlen hbase
  unfold Oper.wp execOp
  simp only [ho, resolve, invoke, builtin, Sem.run_bind, Sem.run_pure, Result.andThen_ok, List.map_toArray, List.map_cons, List.map_nil, hs, hx, h1]
  exact hK _ _ (h v' w' h2 h3)

/-- an item whose bytes lie in the caller's memory -/
def ItB (w : World) (p : Itm × Value × Value) : Prop :=
  (∃ pe ce, p.2.1 = .slice pe p.1.ext.length ce ∧ BytesIn w pe p.1.ext.length ce p.1.ext) ∧ ∃ pb cb, p.2.2 = .slice pb p.1.body.length cb ∧ BytesIn w pb p.1.body.length cb p.1.body

theorem ItB.below {w w' : World} {p : Itm × Value × Value} (h : ItB w p) (hb : Below w.heap.size w w') : ItB w' p := by
  obtain ⟨⟨pe, ce, h1, h2⟩, ⟨pb, cb, h3, h4⟩⟩ := h
  exact ⟨⟨pe, ce, h1, h2.below hb⟩, ⟨pb, cb, h3, h4.below hb⟩⟩

/-- between two frames -/
structure GivS (w : World) (T : Int) (i : Nat) (lb : List UInt8) (L : List (Itm × Value × Value)) (vb vw : Value) (W : World) : Prop where
  bel : Below w.heap.size w W
  b : RowG W w.heap.size vb lb
  row : W.ownsRow w.heap.size 71 6 vw L.length (itRow L)
  its : ∀ p ∈ L, ItB w p
  fd : ∃ sz, feed (SM.new 1048576) lb = (⟨1, [], lb.length, lb.length, 1048576, sz, false, T, 0⟩, L.map Prod.fst)
  len : 0 < lb.length ∧ lb.length ≤ 8 + i * 1048576
  cnt : L.length ≤ i + 1

theorem GivS.below {w : World} {T : Int} {i : Nat} {lb : List UInt8} {L : List (Itm × Value × Value)} {vb vw : Value} {W W' : World} (h : GivS w T i lb L vb vw W) (hb : Below W.heap.size W W') : GivS w T i lb L vb vw W' :=
  ⟨h.bel.trans (hb.mono h.bel.size), h.b.below hb, ownsRow_same h.row (fun j hj => hb.block j (h.row.lt j hj).2), h.its, h.fd, h.len, h.cnt⟩

theorem GivS.next {w : World} {T : Int} {i : Nat} {lb : List UInt8} {L : List (Itm × Value × Value)} {vb vw : Value} {W : World} (h : GivS w T i lb L vb vw W) : GivS w T (i + 1) lb L vb vw W :=
  ⟨h.bel, h.b, h.row, h.its, h.fd, ⟨h.len.1, Nat.le_trans h.len.2 (Nat.add_le_add_left (Nat.mul_le_mul_right _ (Nat.le_succ i)) 8)⟩, Nat.le_succ_of_le h.cnt⟩

theorem RowG.block {w : World} {B : Nat} {v : Value} {l : List UInt8} (h : RowG w B v l) : ∀ j, v.ownBlock = some j → B ≤ j ∧ ∃ cs t fr, w.heap[j]? = some (.cells cs t fr) ∧ (t = 5 ∨ t = 85) := by
  intro j hj
  rcases h with h | ⟨g, rfl, hB, hl, hb⟩
  · rcases h.row.2 with ⟨rfl, _⟩ | ⟨g', cap, cur, rfl, hgb, hh, _⟩
    · simp [Value.ownBlock] at hj
    · simp only [Value.ownBlock, Option.some.injEq] at hj
      subst hj
      exact ⟨hgb, _, _, _, hh, .inl rfl⟩
  · simp only [Value.ownBlock, Option.some.injEq] at hj
    subst hj
    exact ⟨hB, _, _, _, hb.blk, .inr rfl⟩

/-- a frame more: its bytes, then its item -/
theorem GivS.push {w : World} {T : Nat} {C : Int} {i : Nat} {lb : List UInt8} {L : List (Itm × Value × Value)} {vb vw vb' vw' : Value} {W We Wf : World} {ext body : List UInt8} {ea ba : Option Addr} {ne ce nb cb : Nat} (h : GivS w T i lb L vb vw W)
    (he : sealE T C ne nb = 0) (h1 : BytesIn w ea ne ce ext) (h2 : BytesIn w ba nb cb body) (hi : i ≤ 50)
    (hb : OwnBytes We w.heap.size 5 vb' (lb ++ sealB T C ext body)) (hg : W.grownBy We vb.ownBlock)
    (hr : Wf.ownsRow w.heap.size 71 6 vw' (L.length + 1) (itRow L ++ [.int .i64 2, .int .i64 0, .int .i64 T, .int .i64 C, .slice ea ne ce, .slice ba nb cb])) (hg2 : We.grownBy Wf vw.ownBlock) :
    GivS w T (i + 1) (lb ++ sealB T C ext body) (L ++ [(⟨2, 0, T, C.toNat, ext, body⟩, .slice ea ne ce, .slice ba nb cb)]) vb' vw' Wf := by
  have e1 := h1.len
  have e2 := h2.len
  obtain ⟨q1, q2, q3, q4, q5, q6, q7⟩ := sealE_zero5 he
  have hsz := h.bel.size
  have hrl := h.row.lt
  have hbel : Below w.heap.size w We := ⟨hg.os.trans h.bel.os, hg.tape.trans h.bel.tape, hg.output.trans h.bel.output, Nat.le_trans hsz hg.size, fun k hk => (hg.block k (by omega) (fun e => by have := (h.b.block k e.symm).1; omega)).trans (h.bel.block k hk)⟩
  have hbelf : Below w.heap.size w Wf := ⟨hg2.os.trans hbel.os, hg2.tape.trans hbel.tape, hg2.output.trans hbel.output, Nat.le_trans hbel.size hg2.size, fun k hk => (hg2.block k (by have := hbel.size; omega) (fun e => by have := (hrl k e.symm).1; omega)).trans (hbel.block k hk)⟩
  -- the list's row is items, the bytes' row is bytes
  have hvw : ∀ j, vw.ownBlock = some j → ∃ cs fr, W.heap[j]? = some (.cells cs 71 fr) := by
    intro j hj
    rcases h.row.2 with ⟨rfl, _⟩ | ⟨g', cap, cur, rfl, hgb, hh, _⟩
    · simp [Value.ownBlock] at hj
    · simp only [Value.ownBlock, Option.some.injEq] at hj
      subst hj
      exact ⟨_, _, hh⟩
  have hbf : OwnBytes Wf w.heap.size 5 vb' (lb ++ sealB T C ext body) := by
    refine hb.cells (fun j cs fr hj hh => ?_)
    have hjl := (Array.getElem?_eq_some_iff.1 hh).1
    refine hg2.block j hjl (fun e => ?_)
    obtain ⟨cs', fr', hw⟩ := hvw j e.symm
    have hjW := (Array.getElem?_eq_some_iff.1 hw).1
    have h9 := hg.block j hjW (fun e2 => by
      obtain ⟨_, cs2, t2, fr2, h3, h4⟩ := h.b.block j e2.symm
      rw [hw] at h3
      cases h3
      rcases h4 with h4 | h4 <;> exact absurd h4 (by decide))
    rw [hw, hh] at h9
    cases h9
  have hlen : (sealB T C ext body).length = 8 + ne + nb := by rw [sealB_length, e1, e2]
  have hC : ((C.toNat : Nat) : Int) = C := by omega
  refine ⟨hbelf, .inl hbf, ?_, fun p hp => ?_, ?_, ⟨by rw [List.length_append]; have := h.len.1; omega, by rw [List.length_append, hlen]; have := h.len.2; omega⟩, by rw [List.length_append, List.length_singleton]; have := h.cnt; omega⟩
  · have : itRow (L ++ [((⟨2, 0, T, C.toNat, ext, body⟩ : Itm), .slice ea ne ce, .slice ba nb cb)]) = itRow L ++ [.int .i64 2, .int .i64 0, .int .i64 T, .int .i64 C, .slice ea ne ce, .slice ba nb cb] := by
      simp [itRow, itCells, hC]
    rw [this, List.length_append, List.length_singleton]
    exact hr
  · rcases List.mem_append.1 hp with hp | hp
    · exact h.its p hp
    · simp only [List.mem_singleton] at hp
      subst hp
      exact ⟨⟨ea, ce, by simp only [e1], by simp only [e1]; exact h1⟩, ⟨ba, cb, by simp only [e2], by simp only [e2]; exact h2⟩⟩
  · obtain ⟨sz, hf⟩ := h.fd
    have hs := feed_seal T C ext body (by rw [e1, e2]; exact he) (lb.length : Int) (by omega) (by have := h.len.2; omega) sz
    refine ⟨8 + ext.length + body.length, ?_⟩
    rw [feed_append, hf]
    simp only
    rw [hs]
    simp only [List.length_append, sealB_length, List.map_append, List.map_cons, List.map_nil, Int.toNat_natCast, Int.natCast_add]

set_option maxRecDepth 20000 in
set_option maxHeartbeats 1000000 in
theorem gives_at (w : World) (p : Nat) (T : Nat) (hpT : (p = 0 ∧ T = 0) ∨ (p = 3 ∧ T = 1)) (pf : Option Addr) (n c : Nat) (F : List FrIn) (pk : Option Addr) (nk ck : Nat) (cuts : List Int) (hf : FramesIn w pf n c F) (hk : IntsIn .i64 w pk nk ck cuts) (hnk : nk ≤ 1073741823) :
    Calls Try.prog 10 #[.int .i64 p, .slice pf n c, .slice pk nk ck] w fun e w' => e = .returned (.bool true) ∧ Below w.heap.size w w' := by
  have HF := Lib.hid hf
  have HK := Lib.hid hk
  have HP := Lib.hid hpT
  clear hf hk hpT
  have ha := awake6_any w
  go_enter Try.func10, Try.ntmps10
  go_wp2_with fail
  refine ha.mono ?_
  clear ha
  rintro e w1 ⟨rfl, d1⟩
  have hh := Header_ok w1 p (by have := HP.out; omega)
  go_wp2_with fail
  refine hh.mono ?_
  clear hh
  rintro e w2 ⟨g, rfl, hg, hb2, hk2⟩
  have d2 := d1.trans (hb2.mono d1.size)
  go_upto_region 8 with fail
  have hwz := d2.size
  have b3 : Below w2.heap.size w2 (w2.alloc (.cells #[.int .i64 1, .int .i64 p, .int .i64 0, .int .i64 0, .slice none 0 0, .slice none 0 0] 71)) := (Below.refl _ _).alloc (Nat.le_refl _) _
  have hw3 : (w2.alloc (.cells #[.int .i64 1, .int .i64 p, .int .i64 0, .int .i64 0, .slice none 0 0, .slice none 0 0] 71)).ownsRow w.heap.size 71 6 (.slice (some ⟨w2.heap.size, 0, none⟩) 1 1) 1 [.int .i64 1, .int .i64 p, .int .i64 0, .int .i64 0, .slice none 0 0, .slice none 0 0] :=
    World.ownsRow_lit w2 #[.int .i64 1, .int .i64 p, .int .i64 0, .int .i64 0, .slice none 0 0, .slice none 0 0] 1 hwz (by decide) rfl
  have hS : GivS w T 0 (headL p) [(⟨1, p, 0, 0, [], []⟩, .slice none 0 0, .slice none 0 0)] (.slice (some ⟨g, 0, none⟩) 8 8) (.slice (some ⟨w2.heap.size, 0, none⟩) 1 1) (w2.alloc (.cells #[.int .i64 1, .int .i64 p, .int .i64 0, .int .i64 0, .slice none 0 0, .slice none 0 0] 71)) := by
    refine ⟨d2.trans (b3.mono hwz), .inr ⟨g, rfl, Nat.le_trans d1.size hg, rfl, hk2.below b3⟩, hw3, fun q hq => ?_, ?_, ⟨by show 0 < 8; decide, by show 8 ≤ 8 + 0 * 1048576; decide⟩, Nat.le_refl _⟩
    · simp only [List.mem_singleton] at hq
      subst hq
      exact ⟨⟨none, 0, rfl, BytesIn.nil _⟩, ⟨none, 0, rfl, BytesIn.nil _⟩⟩
    · rcases HP.out with ⟨rfl, rfl⟩ | ⟨rfl, rfl⟩
      · exact ⟨0, feed_head0⟩
      · exact ⟨0, feed_head3⟩
  generalize (w2.alloc (.cells #[.int .i64 1, .int .i64 p, .int .i64 0, .int .i64 0, .slice none 0 0, .slice none 0 0] 71)) = w3 at *
  obtain ⟨x2, hx2⟩ : ∃ x, w2.heap.size = x := ⟨_, rfl⟩
  rw [hx2] at hS ⊢
  have HS := Lib.hid hS
  clear d1 hb2 hk2 d2 hwz b3 hw3 hS hg hx2
  have HFL := Lib.hid (And.intro HF.out.le HF.out.cap)
  go_wp2_with fail
  go_loopw [8, 10, 11] (fun vb vw i wr => ∃ (k : Nat) (lb : List UInt8) (L : List (Itm × Value × Value)) (pb : Option Addr) (cb : Nat) (pw : Option Addr) (cw : Nat), vb = .slice pb lb.length cb ∧ vw = .slice pw L.length cw ∧ i = .int .i64 k ∧ k ≤ n ∧ k ≤ 50 ∧ GivS w T k lb L vb vw wr)
    (fun vb vw i _ => n - (intOf i).toNat)
  case atStart => exact ⟨0, headL p, _, some ⟨g, 0, none⟩, 8, some ⟨x2, 0, none⟩, 1, rfl, rfl, rfl, Nat.zero_le _, by omega, HS.out⟩
  case round =>
    obtain ⟨k, lb, L, pb, cb, pw, cw, rfl, rfl, rfl, hkn, hk50, hG⟩ := hrel
    have HG := Lib.hid hG
    clear hG HS
    obtain ⟨hFle, hFcap⟩ := HFL.out
    unfold maxLen at hFcap
    by_cases hk1 : k < n
    · by_cases hk2 : k < 50
      · have i1 : (k : Int) < n := by omega
        have i2 : (k : Int) < 50 := by omega
        have hFb := HF.out.below HG.out.bel
        obtain ⟨b, o, rfl, hblt, hcell⟩ := hFb.at_ (by omega)
        have hkF : k < F.length := by rw [HF.out.len]; exact hk1
        have hfk : F[k]? = some F[k] := List.getElem?_eq_getElem hkF
        have hok := HF.out.ok F[k] (List.getElem_mem _)
        have hc := hcell k F[k] hfk
        generalize F[k] = f at hc hok
        obtain ⟨T0, C0, ea, ne, ce, ext, ba, nb, cbb, body⟩ := f
        have c0 : wr.cell? ⟨b, o + k * 4, none⟩ = some (.int .i64 T0) := hc 0 _ rfl
        have c1 : wr.cell? ⟨b, o + k * 4 + 1, none⟩ = some (.int .i64 C0) := hc 1 _ rfl
        have c2 : wr.cell? ⟨b, o + k * 4 + 2, none⟩ = some (.slice ea ne ce) := hc 2 _ rfl
        have c3 : wr.cell? ⟨b, o + k * 4 + 3, none⟩ = some (.slice ba nb cbb) := hc 3 _ rfl
        have HOK := Lib.hid hok
        clear hc hok hfk hkF hcell hFb
        go_upto_region 12 with fail
        have rA := heap_alloc_new wr (.cells #[.int .i64 T0, .int .i64 C0, .slice ea ne ce, .slice ba nb cbb] 24)
        have bA : Below wr.heap.size wr (wr.alloc (.cells #[.int .i64 T0, .int .i64 C0, .slice ea ne ce, .slice ba nb cbb] 24)) := (Below.refl _ _).alloc (Nat.le_refl _) _
        have zA : wr.heap.size < (wr.alloc (.cells #[.int .i64 T0, .int .i64 C0, .slice ea ne ce, .slice ba nb cbb] 24)).heap.size := by simp
        generalize (wr.alloc (.cells #[.int .i64 T0, .int .i64 C0, .slice ea ne ce, .slice ba nb cbb] 24)) = wA at *
        obtain ⟨x, hx⟩ : ∃ x, wr.heap.size = x := ⟨_, rfl⟩
        have HXW : Hid (wr.heap.size = x) := Lib.hid hx
        rw [hx] at rA zA ⊢
        have a0 : wA.cell? ⟨x, 0, none⟩ = some (.int .i64 T0) := (cell_of_row _ _ 0 _ _ _ rA).trans rfl
        have fA : ∀ j, wA.frozen? ⟨x, j, none⟩ = false := fun j => by simp [World.frozen?, rA]
        have RA := Lib.hid rA
        have BA := Lib.hid bA
        clear c0 c1 c2 c3 rA bA hx
        go_cut [49] from 49 to 51 (fun v49 wx => wx = wA.setCell ⟨x, 0, none⟩ (.int .i64 T))
        case first =>
          rcases HP.out with ⟨rfl, rfl⟩ | ⟨rfl, rfl⟩
          · go_wp2_with fail
            go_meet
            rfl
          · go_wp2_with fail
            go_meet
            rfl
        case rest =>
          subst hcut
          have rB := heap_setCell_same wA x 0 _ _ (.int .i64 T) RA.out
          have gB := setCell_grown wA x 0 (.int .i64 T)
          have bB : Below x wr (wA.setCell ⟨x, 0, none⟩ (.int .i64 T)) := by
            have h9 := BA.out
            rw [HXW.out] at h9
            exact h9.setCell (p := ⟨x, 0, none⟩) (Nat.le_refl _) _
          simp only [List.setIfInBounds_toArray, List.set] at rB
          generalize (wA.setCell ⟨x, 0, none⟩ (.int .i64 T)) = wB at *
          have RB := Lib.hid rB
          have BB := Lib.hid bB
          have b0 : wB.cell? ⟨x, 0, none⟩ = some (.int .i64 T) := (cell_of_row _ _ 0 _ _ _ rB).trans rfl
          have b1 : wB.cell? ⟨x, 1, none⟩ = some (.int .i64 C0) := (cell_of_row _ _ 1 _ _ _ rB).trans rfl
          have fB : ∀ j, wB.frozen? ⟨x, j, none⟩ = false := fun j => by simp [World.frozen?, rB]
          clear a0 fA RA BA rB bB gB zA
          go_upto_if 54 with fail
          go_cut [55] from 54 to 55 (fun v55 wx => ∃ C : Int, C = (if T = 1 then 0 else C0) ∧ wx.heap[x]? = some (.cells #[.int .i64 T, .int .i64 C, .slice ea ne ce, .slice ba nb cbb] 24 (0, 0)) ∧ Below x wr wx)
          case first =>
            rcases HP.out with ⟨rfl, rfl⟩ | ⟨rfl, rfl⟩
            · go_wp2_with fail
              go_meet
              exact ⟨C0, rfl, RB.out, BB.out⟩
            · go_wp2_with fail
              go_meet
              exact ⟨0, rfl, heap_setCell_same wB x 1 _ _ (.int .i64 0) RB.out, BB.out.setCell (p := ⟨x, 1, none⟩) (Nat.le_refl _) _⟩
          case rest =>
            obtain ⟨C, hC, rC, bC⟩ := hcut
            have HC := Lib.hid hC
            clear hC
            have k0 : wc.cell? ⟨x, 0, none⟩ = some (.int .i64 T) := (cell_of_row _ _ 0 _ _ _ rC).trans rfl
            have k1 : wc.cell? ⟨x, 1, none⟩ = some (.int .i64 C) := (cell_of_row _ _ 1 _ _ _ rC).trans rfl
            have k2 : wc.cell? ⟨x, 2, none⟩ = some (.slice ea ne ce) := (cell_of_row _ _ 2 _ _ _ rC).trans rfl
            have k3 : wc.cell? ⟨x, 3, none⟩ = some (.slice ba nb cbb) := (cell_of_row _ _ 3 _ _ _ rC).trans rfl
            rw [← HXW.out] at bC
            have hGC := HG.out.below bC
            have hsl := seal_any wc T C ea ba ne ce nb cbb ext body (HOK.out.e.below hGC.bel) (HOK.out.b.below hGC.bel) HOK.out.el HOK.out.bl
            have hxC := (Array.getElem?_eq_some_iff.1 rC).1
            have RC := Lib.hid rC
            have HGC := Lib.hid hGC
            clear b0 b1 fB RB BB rC bC hGC HG
            go_wp2_with fail
            refine hsl.mono ?_
            clear hsl
            rintro e wd ⟨pq, kq, cq, rfl, hbd, hod⟩
            have rD := (hbd.block x hxC).trans RC.out
            have HGD := Lib.hid (HGC.out.below hbd)
            have HOD := Lib.hid hod
            have HRD := Lib.hid rD
            clear k0 k1 k2 k3 RC HGC rD hod
            obtain ⟨er, her⟩ : ∃ er, sealE T C ne nb = er := ⟨_, rfl⟩
            have HER := Lib.hid her
            rw [her]
            clear her
            by_cases he : er = 0
            · have he' : (er == 0) = true := by simpa using he
              have hse : sealE T C ne nb = 0 := by rw [HER.out, he]
              have hkq := HOD.out
              obtain ⟨q1, q2, q3, q4, q5, q6, q7⟩ := sealE_zero5 hse
              have e1 := HOK.out.e.len
              have e2 := HOK.out.b.len
              simp only at e1 e2
              unfold sealS at hkq
              rw [if_pos (by rw [e1, e2]; exact hse)] at hkq
              obtain ⟨hql, hqb⟩ := hkq.slice
              have hq8 : 0 < kq := by rw [← hql, sealB_length]; omega
              have hq9 : kq ≤ 1048576 := by rw [← hql, sealB_length, e1, e2]; omega
              have hlb := HGD.out.len.2
              have hLc := HGD.out.cnt
              have hsz := HGD.out.bel.size
              have HSE := Lib.hid hse
              have HQB := Lib.hid hqb
              have hla : lb.length + kq ≤ 140737488355328 := by omega
              subst he
              clear hse hkq q1 q2 q3 q4 q5 q6 q7 e1 e2 hql hqb HOD
              go_upto_region 17 with fail
              go_wp2_with (at_builtin; refine wpList_append_rowG rfl (.tmp 63) (.tmp 64) 22 rfl w.heap.size 5 rfl Try.underlying22 info_u8 (.slice pb lb.length cb) lb _ pq kq cq rfl rfl HGD.out.b HQB.out hq8 hla hsz ?_)
              intro v' we ho hg
              obtain ⟨pb2, cb2, rfl, hbe⟩ := ho.bytes
              have hxe : we.heap[x]? = some (.cells #[.int .i64 T, .int .i64 C, .slice ea ne ce, .slice ba nb cbb] 24 (0, 0)) := by
                refine (hg.block x (Array.getElem?_eq_some_iff.1 HRD.out).1 (fun e => ?_)).trans HRD.out
                obtain ⟨_, cs2, t2, fr2, h3, h4⟩ := HGD.out.b.block x e.symm
                rw [HRD.out] at h3
                cases h3
                rcases h4 with h4 | h4 <;> exact absurd h4 (by decide)
              have hwe : we.ownsRow w.heap.size 71 6 (.slice pw L.length cw) L.length (itRow L) := by
                refine ownsRow_cells HGD.out.row (fun j cs fr hj hh => ?_)
                refine hg.block j (Array.getElem?_eq_some_iff.1 hh).1 (fun e => ?_)
                obtain ⟨_, cs2, t2, fr2, h3, h4⟩ := HGD.out.b.block j e.symm
                rw [hh] at h3
                cases h3
                rcases h4 with h4 | h4 <;> exact absurd h4 (by decide)
              have hze : w.heap.size ≤ we.heap.size := Nat.le_trans hsz hg.size
              have n0 : we.cell? ⟨x, 0, none⟩ = some (.int .i64 T) := (cell_of_row _ _ 0 _ _ _ hxe).trans rfl
              have n1 : we.cell? ⟨x, 1, none⟩ = some (.int .i64 C) := (cell_of_row _ _ 1 _ _ _ hxe).trans rfl
              have n2 : we.cell? ⟨x, 2, none⟩ = some (.slice ea ne ce) := (cell_of_row _ _ 2 _ _ _ hxe).trans rfl
              have n3 : we.cell? ⟨x, 3, none⟩ = some (.slice ba nb cbb) := (cell_of_row _ _ 3 _ _ _ hxe).trans rfl
              have HO := Lib.hid ho
              have HGE := Lib.hid hg
              have HWE := Lib.hid hwe
              clear ho hg hwe hxe hbe
              go_wp2_with (at_builtin; refine wpList_append_struct (wr := we) rfl (.tmp 66) (.tmp 69) 47 rfl w.heap.size 71 _ 6 80 Try.underlying47 info_item rfl (by decide) (.slice pw L.length cw) L.length (itRow L) [.int .i64 2, .int .i64 0, .int .i64 T, .int .i64 C, .slice ea ne ce, .slice ba nb cbb] rfl (by intro u hu; simp only [List.mem_cons, List.not_mem_nil, or_false] at hu; rcases hu with rfl | rfl | rfl | rfl | rfl | rfl <;> rfl) rfl rfl HWE.out (by unfold maxLen; omega) (by omega) hze ?_)
              intro v'' wf hr2 hg2
              have hP := HGD.out.push HSE.out HOK.out.e HOK.out.b hk50 HO.out HGE.out hr2 hg2
              have hv'' : ∃ p c, v'' = .slice p (L.length + 1) c := by
                rcases hr2.2 with ⟨rfl, h0⟩ | ⟨g', cap, cur, rfl, _⟩
                · omega
                · exact ⟨_, _, rfl⟩
              obtain ⟨pw2, cw2, rfl⟩ := hv''
              have HPP := Lib.hid hP
              clear n0 n1 n2 n3 hr2 hg2 hP
              go_wp2_with fail
              go_roundw
              case rel => exact ⟨k + 1, lb ++ sealB T C ext body, L ++ [(⟨2, 0, T, C.toNat, ext, body⟩, .slice ea ne ce, .slice ba nb cbb)], pb2, cb2, pw2, cw2, by simp, by simp, by go_num, by omega, by omega, by simpa using HPP.out⟩
              case measure => simp [intOf]; omega
            · have he' : (er == 0) = false := by simpa using he
              have HNE := Lib.hid he
              clear he
              go_wp2_with fail
              go_roundw
              case rel =>
                exact ⟨k + 1, lb, L, pb, cb, pw, cw, rfl, rfl, by go_num, by omega, by omega, HGD.out.next⟩
              case measure => simp [intOf]; omega
      · have i1 : (k : Int) < n := by omega
        have i2 : ¬ (k : Int) < 50 := by omega
        have hq := HG.out
        have hbb := hq.b.bytes
        obtain ⟨pz, cz, hz, hby⟩ := hbb
        simp only [Value.slice.injEq, true_and] at hz
        obtain ⟨rfl, rfl⟩ := hz
        have hlb := hq.len.2
        have hrun : Calls Try.prog 26 #[.int .i64 1048576, .slice pb lb.length cb, .slice pk nk ck] wr fun e w' => ∃ vl L2, e = .returned (.tuple #[vl, .agg #[.int .i64 lb.length, .int .i64 0, .bool false, .int .i64 0, .int .i64 lb.length], .bool true]) ∧ Below wr.heap.size wr w' ∧ ItemsAt wr.heap.size L2 vl w' ∧ L2.map Prod.fst = L.map Prod.fst := by
          obtain ⟨sz, hf⟩ := hq.fd
          refine (run_ok wr 1048576 (by decide) pb lb.length cb lb pk nk ck cuts hby (HK.out.below hq.bel) (by omega) hnk).mono ?_
          rintro e w' ⟨vl, L2, rfl, r1, r2, r3⟩
          rw [hf] at r3 ⊢
          exact ⟨vl, L2, rfl, r1, r2, r3⟩
        clear hq hby hlb
        go_wp2_with fail
        refine hrun.mono ?_
        clear hrun
        rintro e w4 ⟨vl, L2, rfl, hb4, hi4, hm4⟩
        go_upto_region 20 with fail
        have r5 := heap_alloc_new w4 (.cells #[.int .i64 lb.length, .int .i64 0, .bool false, .int .i64 0, .int .i64 lb.length] 49)
        have b5 : Below w4.heap.size w4 (w4.alloc (.cells #[.int .i64 lb.length, .int .i64 0, .bool false, .int .i64 0, .int .i64 lb.length] 49)) := (Below.refl _ _).alloc (Nat.le_refl _) _
        have z5 : w4.heap.size < (w4.alloc (.cells #[.int .i64 lb.length, .int .i64 0, .bool false, .int .i64 0, .int .i64 lb.length] 49)).heap.size := by simp
        generalize (w4.alloc (.cells #[.int .i64 lb.length, .int .i64 0, .bool false, .int .i64 0, .int .i64 lb.length] 49)) = w5 at *
        have hG5 := (HG.out.below hb4).below b5
        have hi5 := hi4.below b5
        obtain ⟨x16, hx16⟩ : ∃ x, w4.heap.size = x := ⟨_, rfl⟩
        rw [hx16] at r5 z5 ⊢
        have hw5 : ItemsIn w.heap.size L (.slice pw L.length cw) w5 := ⟨hG5.row, fun q hq => (hG5.its q hq).below hG5.bel⟩
        have hsm := sameItems_eq w5 _ _ L2 L vl _ hi5.in_ hw5 hm4
        have D5 := Lib.hid hG5.bel
        have R5 := Lib.hid r5
        have Z5 := Lib.hid z5
        clear r5 z5 b5 hG5 hi5 hw5 hx16 hb4 hi4 hm4 HG
        go_wp2_with fail
        refine hsm.mono ?_
        clear hsm
        rintro e w6 ⟨rfl, hb6⟩
        have q16 := (hb6.block x16 Z5.out).trans R5.out
        have m0 : w6.cell? ⟨x16, 0, none⟩ = some (.int .i64 lb.length) := (cell_of_row _ _ 0 _ _ _ q16).trans rfl
        have m1 : w6.cell? ⟨x16, 1, none⟩ = some (.int .i64 0) := (cell_of_row _ _ 1 _ _ _ q16).trans rfl
        have m2 : w6.cell? ⟨x16, 2, none⟩ = some (.bool false) := (cell_of_row _ _ 2 _ _ _ q16).trans rfl
        have m3 : w6.cell? ⟨x16, 3, none⟩ = some (.int .i64 0) := (cell_of_row _ _ 3 _ _ _ q16).trans rfl
        have m4 : w6.cell? ⟨x16, 4, none⟩ = some (.int .i64 lb.length) := (cell_of_row _ _ 4 _ _ _ q16).trans rfl
        have D6 := Lib.hid (D5.out.trans (hb6.mono D5.out.size))
        have hse := state_eql
        have hse2 := state_eq
        clear q16 hb6
        go_wp2_with fail
        go_ret
        exact ⟨rfl, D6.out⟩
    · have i1 : ¬ (k : Int) < n := by omega
      have hq := HG.out
      have hbb := hq.b.bytes
      obtain ⟨pz, cz, hz, hby⟩ := hbb
      simp only [Value.slice.injEq, true_and] at hz
      obtain ⟨rfl, rfl⟩ := hz
      have hlb := hq.len.2
      have hrun : Calls Try.prog 26 #[.int .i64 1048576, .slice pb lb.length cb, .slice pk nk ck] wr fun e w' => ∃ vl L2, e = .returned (.tuple #[vl, .agg #[.int .i64 lb.length, .int .i64 0, .bool false, .int .i64 0, .int .i64 lb.length], .bool true]) ∧ Below wr.heap.size wr w' ∧ ItemsAt wr.heap.size L2 vl w' ∧ L2.map Prod.fst = L.map Prod.fst := by
        obtain ⟨sz, hf⟩ := hq.fd
        refine (run_ok wr 1048576 (by decide) pb lb.length cb lb pk nk ck cuts hby (HK.out.below hq.bel) (by omega) hnk).mono ?_
        rintro e w' ⟨vl, L2, rfl, r1, r2, r3⟩
        rw [hf] at r3 ⊢
        exact ⟨vl, L2, rfl, r1, r2, r3⟩
      clear hq hby hlb
      go_wp2_with fail
      refine hrun.mono ?_
      clear hrun
      rintro e w4 ⟨vl, L2, rfl, hb4, hi4, hm4⟩
      go_upto_region 20 with fail
      have r5 := heap_alloc_new w4 (.cells #[.int .i64 lb.length, .int .i64 0, .bool false, .int .i64 0, .int .i64 lb.length] 49)
      have b5 : Below w4.heap.size w4 (w4.alloc (.cells #[.int .i64 lb.length, .int .i64 0, .bool false, .int .i64 0, .int .i64 lb.length] 49)) := (Below.refl _ _).alloc (Nat.le_refl _) _
      have z5 : w4.heap.size < (w4.alloc (.cells #[.int .i64 lb.length, .int .i64 0, .bool false, .int .i64 0, .int .i64 lb.length] 49)).heap.size := by simp
      generalize (w4.alloc (.cells #[.int .i64 lb.length, .int .i64 0, .bool false, .int .i64 0, .int .i64 lb.length] 49)) = w5 at *
      have hG5 := (HG.out.below hb4).below b5
      have hi5 := hi4.below b5
      obtain ⟨x16, hx16⟩ : ∃ x, w4.heap.size = x := ⟨_, rfl⟩
      rw [hx16] at r5 z5 ⊢
      have hw5 : ItemsIn w.heap.size L (.slice pw L.length cw) w5 := ⟨hG5.row, fun q hq => (hG5.its q hq).below hG5.bel⟩
      have hsm := sameItems_eq w5 _ _ L2 L vl _ hi5.in_ hw5 hm4
      have D5 := Lib.hid hG5.bel
      have R5 := Lib.hid r5
      have Z5 := Lib.hid z5
      clear r5 z5 b5 hG5 hi5 hw5 hx16 hb4 hi4 hm4 HG
      go_wp2_with fail
      refine hsm.mono ?_
      clear hsm
      rintro e w6 ⟨rfl, hb6⟩
      have q16 := (hb6.block x16 Z5.out).trans R5.out
      have m0 : w6.cell? ⟨x16, 0, none⟩ = some (.int .i64 lb.length) := (cell_of_row _ _ 0 _ _ _ q16).trans rfl
      have m1 : w6.cell? ⟨x16, 1, none⟩ = some (.int .i64 0) := (cell_of_row _ _ 1 _ _ _ q16).trans rfl
      have m2 : w6.cell? ⟨x16, 2, none⟩ = some (.bool false) := (cell_of_row _ _ 2 _ _ _ q16).trans rfl
      have m3 : w6.cell? ⟨x16, 3, none⟩ = some (.int .i64 0) := (cell_of_row _ _ 3 _ _ _ q16).trans rfl
      have m4 : w6.cell? ⟨x16, 4, none⟩ = some (.int .i64 lb.length) := (cell_of_row _ _ 4 _ _ _ q16).trans rfl
      have D6 := Lib.hid (D5.out.trans (hb6.mono D5.out.size))
      have hse := state_eql
      have hse2 := state_eq
      clear q16 hb6
      go_wp2_with fail
      go_ret
      exact ⟨rfl, D6.out⟩

theorem gives_walk (w : World) (P : Int) (pf : Option Addr) (n c : Nat) (F : List FrIn) (pk : Option Addr) (nk ck : Nat) (cuts : List Int) (hf : FramesIn w pf n c F) (hk : IntsIn .i64 w pk nk ck cuts) (hnk : nk ≤ 1073741823) :
    Calls Try.prog 10 #[.int .i64 P, .slice pf n c, .slice pk nk ck] w fun e w' => e = .returned (.bool true) ∧ Below w.heap.size w w' := by
  by_cases h0 : P = 0
  · subst h0
    exact gives_at w 0 0 (.inl ⟨rfl, rfl⟩) pf n c F pk nk ck cuts hf hk hnk
  · by_cases h3 : P = 3
    · subst h3
      exact gives_at w 3 1 (.inr ⟨rfl, rfl⟩) pf n c F pk nk ck cuts hf hk hnk
    · have hh := fun w => Header_bad w P ⟨h0, h3⟩
      have ha := awake6_any w
      clear hf hk h0 h3
      go_enter Try.func10, Try.ntmps10
      go_wp2_with fail
      refine ha.mono ?_
      clear ha
      rintro e w1 ⟨rfl, d1⟩
      have HD := Lib.hid d1
      clear d1
      go_wp2_with fail
      refine (hh w1).mono ?_
      clear hh
      rintro e w2 ⟨rfl, rfl⟩
      go_wp2_with fail
      go_ret
      exact ⟨rfl, HD.out⟩
end Go.Proofs.Ytofdpccjpodbhaa
