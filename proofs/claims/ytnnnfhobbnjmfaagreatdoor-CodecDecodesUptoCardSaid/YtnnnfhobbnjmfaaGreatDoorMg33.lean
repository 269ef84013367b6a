/-
  Lemmas on the codec. Conditions: as each says.
-/
import Derived.Test.YtnnnfhobbnjmfaaGreatDoorMg31
import Derived.Test.YtnnnfhobbnjmfaaGreatDoorMg32
import Derived.Test.YtnnnfhobbnjmfaaGreatDoorMg03
import Derived.Lib.LaidU8
import Derived.PinnedBridge
import Derived.Test.YtnnnfhobbnjmfaaGreatDoorRows
namespace Go.Proofs.YtnnnfhobbnjmfaaGreatDoor
open Go.RowKit Go.Proofs.Tryz
set_option linter.all false
set_option maxHeartbeats 40000000
set_option maxRecDepth 20000

attribute [local go_sem] Oper.semAt_some

theorem szs_append (l r : List V) : szs (l ++ r) = szs l + szs r := by
 induction l with
 | nil => simp [szs]
 | cons a t ih => simp only [List.cons_append, szs, ih]; omega
def BkTo (w : World) (B bp : Nat) (m : Nat) (Q : Nat -> Prop) (e : Ending) (w' : World) : Prop :=
 e = .returned (.tuple #[]) ∧ (∃ vl' vs', BkIn w' B bp vl' vs' Q ∧ vs'.length <= m) ∧ BkMv w w' ∧ Below B w w'
def takeOn (v : V) : Prop := ∀ (w : World) (B bp : Nat) (vl : Value) (vs : List Value) (Q : Nat -> Prop) (s : Value) (F : Nat -> Prop), BkIn w B bp vl vs Q -> VO w B v s F -> (∀ g, F g -> ¬ Q g) -> vs.length + v.sz <= 40000000 -> v.wt <= 6000000 →
  Calls prog 41 #[.pointer (some ⟨bp, 0, none⟩), .agg #[.int .i64 v.kind, .int .u64 v.num, .string v.text, s, .int .i64 v.elem]] w (BkTo w B bp (vs.length + v.sz) (fun g => Q g ∨ F g))

theorem takes_any (v : V) (ih : ∀ x ∈ v.list, takeOn x) (w : World) (B bp : Nat) (vl : Value) (vs : List Value) (Q : Nat -> Prop) (s : Value) (F : Nat -> Prop) (h : BkIn w B bp vl vs Q) (hv : VO w B v s F) (hdis : ∀ g, F g -> ¬ Q g) (hm : vs.length + 1 + szs v.list <= 40000000) (hwl : wts v.list <= 6000000) :
  Calls prog 22 #[.pointer (some ⟨bp, 0, none⟩), s] w (BkTo w B bp (vs.length + 1 + szs v.list) (fun g => Q g ∨ F g)) := by
 obtain ⟨_, _, _, ss, Fs, wf, hrow, hin, hd, hs, hF⟩ := hv
 obtain ⟨p, c, rfl, h1, h2, h3⟩ := ownsRow_form hrow
 unfold maxLen at h2
 obtain ⟨N, hN⟩ : ∃ N, v.list.length = N := ⟨_, rfl⟩
 have hNw := len_le_wts v.list
 obtain ⟨M, hM⟩ : ∃ M, vs.length = M := ⟨_, rfl⟩
 obtain ⟨U, hU⟩ : ∃ U, szs v.list = U := ⟨_, rfl⟩
 rw [hM, hU] at hm ⊢
 rw [hN] at h1 h3 hNw
 have hNb : N <= 6000000 := by omega
 have HI := zH ih
 have HN := zH (And.intro hN (And.intro hM (And.intro hU hwl)))
 have HV := zH (And.intro hrow (And.intro hin (And.intro hd (And.intro hs hF))))
 have HD := zH (And.intro hdis h)
 rw [hN]
 clear ih hrow hin hd hs hF hdis h hN hM hU hNw wf hwl
 go_enter func22, ntmps22
 go_wp2_with fail
 go_loopw [4] (fun v4 wr => ∃ (k : Nat) (vl' : Value) (vs' : List Value), k <= N ∧ v4 = .int .i64 k ∧ BkIn wr B bp vl' vs' (fun g => Q g ∨ ∃ i, i < k ∧ i < v.list.length ∧ Fs i g) ∧ vs'.length <= M + szs (v.list.take k) ∧ BkMv w wr ∧ Below B w wr) (fun v4 _ => N - (intOf v4).toNat)
 case atStart => exact ⟨0, _, _, Nat.zero_le _, rfl, HD.out.2.wide (fun g h => .inl h), by rw [HN.out.2.1]; exact Nat.le_add_right _ _, BkMv.refl _, Below.refl _ _⟩
 obtain ⟨k, vl', vs', hk', rfl, hbk, hlen, hmv, hbb⟩ := hrel
 have HR := zH (And.intro hbk (And.intro hlen (And.intro hmv hbb)))
 clear hbk hlen hmv hbb
 by_cases hkN : (k : Int) < N
 ·have ka : k < v.list.length := by rw [HN.out.1]; omega
  obtain ⟨b1, rfl, _⟩ := h3 (by omega)
  have hcell : ∀ j u, (vcells v.list[k] (ss k))[j]? = some u -> wr.cell? ⟨b1, k * 5 + j, none⟩ = some u := fun j u hu => by
   have hr := HR.out.2.2.1.own HV.out.1
   rw [HN.out.1] at hr
   have hj : j < 5 := (List.getElem?_eq_some_iff.1 hu).1
   exact ownsRow_cell hr (by rw [vrow_get v.list ss k j ka hj]; exact hu)
  have hvk := HR.out.2.2.1.vo (HV.out.2.1 k ka)
  obtain ⟨pk, ck, hsk, hj1, hj2⟩ := hvk.slice
  clear hj1 hj2
  rw [hsk] at hcell hvk
  have hdk : ∀ g, Fs k g -> ¬ (Q g ∨ ∃ i, i < k ∧ i < v.list.length ∧ Fs i g) := fun g hg q => by
   rcases q with q | ⟨i, i1, i2, q⟩
   ·exact HD.out.1 g ((HV.out.2.2.2.2 g).2 (.inr ⟨k, ka, hg⟩)) q
   ·exact HV.out.2.2.1 i k i2 ka (by omega) g q hg
  have htk : szs (v.list.take (k + 1)) = szs (v.list.take k) + (v.list[k]).sz := by
   rw [List.take_add_one, List.getElem?_eq_getElem ka, Option.toList_some]
   rw [szs_append, szs, szs, Nat.add_zero]
  have htl : szs (v.list.take (k + 1)) <= U := by rw [← HN.out.2.2.1]; have := szs_append (v.list.take (k + 1)) (v.list.drop (k + 1)); rw [List.take_append_drop] at this; omega
  have hxw : (v.list[k]).wt <= 6000000 := by have := wts_mem (List.getElem_mem ka); have := HN.out.2.2.2; omega
  have hcall := HI.out _ (List.getElem_mem ka) wr B bp vl' vs' _ _ (Fs k) HR.out.1 hvk hdk (by have := HR.out.2.1; omega) hxw
  obtain ⟨xa, hxa⟩ : ∃ xa, v.list[k] = xa := ⟨_, rfl⟩
  rw [hxa] at hcell hcall htk
  obtain ⟨m, hm2⟩ : ∃ m, xa.list.length = m := ⟨_, rfl⟩
  rw [hm2] at hcell hcall
  have c0 : wr.cell? ⟨b1, k * 5, none⟩ = some (.int .i64 xa.kind) := hcell 0 _ rfl
  have c1 : wr.cell? ⟨b1, k * 5 + 1, none⟩ = some (.int .u64 xa.num) := hcell 1 _ rfl
  have c2 : wr.cell? ⟨b1, k * 5 + 2, none⟩ = some (.string xa.text) := hcell 2 _ rfl
  have c3 : wr.cell? ⟨b1, k * 5 + 3, none⟩ = some (.slice pk m ck) := hcell 3 _ rfl
  have c4 : wr.cell? ⟨b1, k * 5 + 4, none⟩ = some (.int .i64 xa.elem) := hcell 4 _ rfl
  have HC := zH hcall
  have HK := zH (And.intro htk ka)
  clear hcall hcell hvk hsk hdk htk htl hxw hxa hm2 ka
  go_wp2_with fail
  refine HC.out.mono ?_
  clear c0 c1 c2 c3 c4
  rintro e w1 ⟨rfl, ⟨vl2, vs2, hb2, hl2⟩, hm2, hb3⟩
  have HF := zH (And.intro (hb2.wide (Q' := fun g => Q g ∨ ∃ i, i < k + 1 ∧ i < v.list.length ∧ Fs i g) (fun g q => by
   rcases q with (q | ⟨i, i1, i2, q⟩) | q
   ·exact .inl q
   ·exact .inr ⟨i, by omega, i2, q⟩
   ·exact .inr ⟨k, by omega, HK.out.2, q⟩)) (And.intro (show vs2.length <= M + szs (v.list.take (k + 1)) by rw [HK.out.1]; have := HR.out.2.1; omega) (And.intro (HR.out.2.2.1.trans hm2) (HR.out.2.2.2.trans hb3))))
  clear hb2 hl2 hm2 hb3
  go_wp2_with fail
  go_roundw
  case rel => exact ⟨k + 1, _, _, by omega, by go_num, HF.out.1, HF.out.2.1, HF.out.2.2.1, HF.out.2.2.2⟩
  case measure => simp [intOf]; omega
 have hkN2 : k = N := by omega
 have hlen : vs'.length <= M + U := by have := HR.out.2.1; rw [hkN2, List.take_of_length_le (by rw [HN.out.1]; exact Nat.le_refl _), HN.out.2.2.1] at this; exact this
 have hbk := HR.out.1
 have hrw := hbk.row
 have hle := hbk.le
 have hoff := hbk.offl
 obtain ⟨pl, cl, hvl⟩ := row_slice hrw
 subst hvl
 have x0 : wr.cell? ⟨bp, 0, none⟩ = some (.slice pl vs'.length cl) := (cell_of_row _ _ 0 _ _ _ hbk.at_).trans rfl
 have xf : wr.frozen? ⟨bp, 0, none⟩ = false := by simp [World.frozen?, hbk.at_]
 have hbpl := (Array.getElem?_eq_some_iff.1 hbk.at_).1
 clear hbk
 go_wp2_with (at_builtin; refine wpList_append_val rfl (.tmp 21) (.tmp 23) 48 rfl B 23 (.slice none 0 0) 24 underlying48 info_listsV rfl _ _ _ (.slice p N c) rfl rfl rfl hrw (by unfold maxLen; omega) (by omega) hle ?_; intro vl2 w2 hr2 hg2 hbb2 hsn2; obtain ⟨pl2, cl2, hvl2⟩ := row_slice hr2; subst hvl2; have y1 : w2.cell? ⟨bp, 0, none⟩ = some (.slice pl vs'.length cl) := (World.cell?_of_block (hg2.block bp hbpl (fun e => hoff e.symm))).trans x0; have y2 : w2.frozen? ⟨bp, 0, none⟩ = false := (World.frozen?_of_block (hg2.block bp hbpl (fun e => hoff e.symm))).trans xf)
 go_end0
 have hown := HR.out.2.2.1.own HV.out.1
 rw [HN.out.1] at hown
 obtain ⟨q1, q2, q3⟩ := HR.out.1.push hown hNb (fun g hg q => by
  rcases q with q | ⟨i, i1, i2, q⟩
  ·exact HD.out.1 g ((HV.out.2.2.2.2 g).2 (.inl (by rw [HN.out.1]; exact hg))) q
  ·exact HV.out.2.2.2.1 g (by rw [HN.out.1]; exact hg) i i2 q) hr2 hg2 hsn2
 refine ⟨rfl, ⟨_, _, q1.wide (fun g q => ?_), by simp; omega⟩, HR.out.2.2.1.trans q2, HR.out.2.2.2.trans q3⟩
 rcases q with (q | ⟨i, i1, i2, q⟩) | q
 ·exact .inl q
 ·exact .inr ((HV.out.2.2.2.2 g).2 (.inr ⟨i, i2, q⟩))
 exact .inr ((HV.out.2.2.2.2 g).2 (.inl (by rw [HN.out.1]; exact q)))
theorem take_on : ∀ v : V, takeOn v := by
 refine V.ind (fun v ih w B bp vl vs Q s F h hv hdis hm hwt => ?_)
 have hw := v.wt_eq
 have hz := v.sz_eq
 have hts := fun w0 (hb : Below w.heap.size w w0) => takes_any v ih w0 B bp vl vs Q s F (h.below hb) (hv.blw hb) hdis (by omega) (by omega)
 obtain ⟨p, c, hs, hj1, hj2⟩ := hv.slice
 obtain ⟨N, hN⟩ : ∃ N, v.list.length = N := ⟨_, rfl⟩
 rw [hN] at hs
 subst hs
 have HT := zH hts
 have HM := zH (And.intro (show vs.length + 1 + szs v.list <= vs.length + v.sz by omega) h.le)
 clear ih h hv hdis hm hwt hw hz hts hj1 hj2 hN
 go_enter func41, ntmps41
 go_upto_region 1 with fail
 have hb0 : Below w.heap.size w (w.alloc (.cells #[.int .i64 v.kind, .int .u64 v.num, .string v.text, (.slice p N c), .int .i64 v.elem] 25)) := ((Below.refl _ _).alloc (Nat.le_refl _) _)
 have ox := zN w (.cells #[.int .i64 v.kind, .int .u64 v.num, .string v.text, (.slice p N c), .int .i64 v.elem] 25)
 generalize (w.alloc (.cells #[.int .i64 v.kind, .int .u64 v.num, .string v.text, (.slice p N c), .int .i64 v.elem] 25)) = w0 at *
 obtain ⟨x, hx⟩ : ∃ x, w.heap.size = x := ⟨_, rfl⟩
 rw [hx] at ox ⊢
 have x3 : w0.cell? ⟨x, 3, none⟩ = some (.slice p N c) := (cell_of_row _ _ 3 _ _ _ ox).trans rfl
 have HC := zH (HT.out w0 hb0)
 have HB0 := zH hb0
 clear hb0 ox hx
 go_wp2_with fail
 refine HC.out.mono ?_
 clear x3
 rintro e w1 ⟨rfl, ⟨vl2, vs2, hb2, hl2⟩, hm2, hb3⟩
 have HF := zH (And.intro hb2 (And.intro (Nat.le_trans hl2 HM.out.1) (And.intro ((BkMv.of_below HB0.out).trans hm2) ((HB0.out.mono HM.out.2).trans hb3))))
 clear hb2 hl2 hm2 hb3
 go_wp2_with fail
 go_end0
 exact ⟨rfl, ⟨_, _, HF.out.1, HF.out.2.1⟩, HF.out.2.2.1, HF.out.2.2.2⟩

attribute [local go_sem] Oper.semAt_some

theorem lent_bytes {w : World} {g : Nat} {B : List UInt8} {n : Nat} (h : Lent w g (B ++ markB)) (hn : B.length = n) (hm : n <= 1048576) : BytesIn w (some ⟨g, 0, none⟩) n (n + 9) B := by
 have q := h.bytes 0 n (n + 9) (by rw [List.length_append]; omega) (by omega) (by unfold maxLen; omega)
 rw [List.drop_zero, List.take_append_of_le_length (by omega), List.take_of_length_le (by omega)] at q
 exact q
theorem decS_wt (B : List UInt8) (at_ : Int) (hb : B.length <= maxLen) : (decS B at_).1.wt <= 1048577 := by
 by_cases h : (decS B at_).2.2 = 0
 ·obtain ⟨n, k, _, _, _, hk, _, _, hg⟩ := decS_good hb h
  have := hg.wt
  omega
 rw [decS_err h]
 have : zeroV.wt = 1 := rfl
 omega
theorem rsz_le_wt : ∀ v : V, v.sz <= v.wt := by
 refine V.ind (fun v ih => ?_)
 have hl : ∀ (l : List V), (∀ x ∈ l, x.sz <= x.wt) -> szs l <= wts l := by
  intro l
  induction l with
  | nil => intro _; exact Nat.le_refl _
  | cons a r ihl =>
   intro h
   have h1 := h a (List.mem_cons_self ..)
   have h2 := ihl (fun x hx => h x (List.mem_cons_of_mem _ hx))
   simp only [szs, wts]
   omega
 have := hl v.list ih
 rw [v.sz_eq, v.wt_eq]
 omega
theorem decode_as (w : World) (p : Option Addr) (n cp : Nat) (B : List UInt8) (hB : BytesIn w p n cp B) (hT : Tabs w) (hn : n <= 140737488355328) (at_ : Int) {v : V} {pl ec : Int} (hA : decS B at_ = (v, pl, ec)) :
  Calls prog 18 #[.slice p n cp, .int .i64 at_] w fun e w' => ∃ q c F, e = .returned (.tuple #[.agg #[.int .i64 v.kind, .int .u64 v.num, .string v.text, .slice q v.list.length c, .int .i64 v.elem], .int .i64 pl, .int .i64 ec]) ∧ VO w' w.heap.size v (.slice q v.list.length c) F ∧ Below w.heap.size w w' := by
 refine (decode_any w p n cp B hB hT hn at_).mono (fun e w' h => ?_)
 obtain ⟨s, F, he, hv, hb⟩ := h
 rw [hA] at he hv
 obtain ⟨q, c, hs, _, _⟩ := hv.slice
 subst hs
 exact ⟨q, c, F, he, hv, hb⟩
structure Sx (w W : World) (g1 g2 : Nat) (L1 L2 : List UInt8) (rs : List RvD) : Prop where
 se : Se w W (g2 + 1) rs
 l1 : Lent W g1 L1
 l2 : Lent W g2 L2
 h1 : w.heap.size <= g1
 h2 : g1 < g2
theorem Sx.lt {w W : World} {g1 g2 : Nat} {L1 L2 : List UInt8} {rs : List RvD} (h : Sx w W g1 g2 L1 L2 rs) : g2 < W.heap.size := h.l2.lt
theorem Sx.below {w W W' : World} {g1 g2 : Nat} {L1 L2 : List UInt8} {rs : List RvD} (h : Sx w W g1 g2 L1 L2 rs) (hb : Below W.heap.size W W') : Sx w W' g1 g2 L1 L2 rs :=
 ⟨h.se.below hb, h.l1.below hb, h.l2.below hb, h.h1, h.h2⟩
theorem Sx.add {w W w1 : World} {g1 g2 : Nat} {L1 L2 : List UInt8} {rs : List RvD} (h : Sx w W g1 g2 L1 L2 rs) {v : V} {p : Option Addr} {c : Nat} {F : Nat -> Prop} (hv : VO w1 W.heap.size v (.slice p v.list.length c) F) (hb : Below W.heap.size W w1) :
  Sx w ((w1.alloc (.cells zR 25)).setRow w1.heap.size #[.int .i64 v.kind, .int .u64 v.num, .string v.text, .slice p v.list.length c, .int .i64 v.elem]) g1 g2 L1 L2 (rs ++ [⟨W.heap.size, w1.heap.size + 1, w1.heap.size, v, p, c, F⟩]) := by
 have hb2 : Below w1.heap.size w1 ((w1.alloc (.cells zR 25)).setRow w1.heap.size #[.int .i64 v.kind, .int .u64 v.num, .string v.text, .slice p v.list.length c, .int .i64 v.elem]) := below_setRow ((Below.refl _ _).alloc (Nat.le_refl _) _) (Nat.le_refl _) _
 have h2 := (h.below hb).below hb2
 exact ⟨h.se.add h.lt hv hb, h2.l1, h2.l2, h.h1, h.h2⟩
theorem Sx.over {w W W' : World} {g1 g2 : Nat} {L1 L2 L3 : List UInt8} {rs : List RvD} (h : Sx w W g1 g2 L1 L2 rs) (hl : Lent W' g1 L3) (hb : Below g1 W W') (hs : W'.heap.size = W.heap.size) (ho : ∀ k, k ≠ g1 -> W'.heap[k]? = W.heap[k]?) : Sx w W' g1 g2 L3 L2 rs :=
 ⟨h.se.grown (g := g1) ⟨hb.os, hb.tape, hb.output, by omega, fun k _ hk => ho k (fun e => hk (by rw [e]))⟩ h.h1 (by have := h.h2; omega), hl, h.l2.of_block (ho g2 (by have := h.h2; omega)), h.h1, h.h2⟩
theorem decodes_walk (w : World) (hT : Tabs w) (pb : Option Addr) (nb cb : Nat) (B : List UInt8) (hB : BytesIn w pb nb cb B) (hnb : nb <= 1048576) (at_ : Int) (pc : Option Addr) (nc cc : Nat) (C : List UInt8) (hC : BytesIn w pc nc cc C) (hnc : nc <= 1048576) :
  Calls prog 4 #[.slice pb nb cb, .int .i64 at_, .slice pc nc cc] w fun e w' => e = .returned (.bool true) ∧ Below w.heap.size w w' := by
 have hbl := hB.len
 have hcl := hC.len
 obtain ⟨T, hTr⟩ : ∃ T, turnR B = T := ⟨_, rfl⟩
 have htl : T.length = nb := by rw [← hTr, turnR_len]; exact hbl
 obtain ⟨⟨v1, p1, e1⟩, hA1⟩ : ∃ A, decS B at_ = A := ⟨_, rfl⟩
 obtain ⟨⟨v2, p2, e2⟩, hA2⟩ : ∃ A, decS C at_ = A := ⟨_, rfl⟩
 obtain ⟨⟨v3, p3, e3⟩, hA3⟩ : ∃ A, decS T at_ = A := ⟨_, rfl⟩
 have hw1 : v1.wt <= 1048577 := by have q := decS_wt B at_ (by rw [hbl]; unfold maxLen; omega); rw [hA1] at q; exact q
 have hw2 : v2.wt <= 1048577 := by have q := decS_wt C at_ (by rw [hcl]; unfold maxLen; omega); rw [hA2] at q; exact q
 have hw3 : v3.wt <= 1048577 := by have q := decS_wt T at_ (by rw [htl]; unfold maxLen; omega); rw [hA3] at q; exact q
 have HT := zH hT
 have HBC := zH (And.intro hB hC)
 have HBL := zH (And.intro hbl (And.intro hcl htl))
 have HBN := zH (And.intro hnb hnc)
 have HTR := zH hTr
 have HA1 := zH hA1
 have HA2 := zH hA2
 have HA3 := zH hA3
 have HW := zH (And.intro hw1 (And.intro hw2 hw3))
 have hnb9 : (nb : Int) <= 1048576 := by omega
 have hnc9 : (nc : Int) <= 1048576 := by omega
 clear hT hB hC hbl hcl htl hTr hA1 hA2 hA3 hw1 hw2 hw3 hnb hnc
 go_enter func4, ntmps4
 go_wp2_with fail
 refine (awake_any w HT.out).mono ?_
 rintro e W1 ⟨rfl, hb1⟩
 have H1 := zH hb1
 clear hb1
 go_wp2_with fail
 refine (lentB_any W1 pb nb cb B (HBC.out.1.below H1.out) HBN.out.1).mono ?_
 rintro e W2 ⟨rfl, hb2, hz2, hl2⟩
 rw [HBL.out.1]
 obtain ⟨g1, hg1⟩ : ∃ g, W1.heap.size = g := ⟨_, rfl⟩
 rw [hg1] at hz2 hl2 ⊢
 have H2 := zH (And.intro (H1.out.trans (hb2.mono H1.out.size)) (And.intro hz2 (And.intro hl2 (show w.heap.size <= g1 from hg1 ▸ H1.out.size))))
 clear hb2 hz2 hl2 hg1
 go_wp2_with fail
 refine (lentB_any W2 pc nc cc C (HBC.out.2.below H2.out.1) HBN.out.2).mono ?_
 rintro e W3 ⟨rfl, hb3, hz3, hl3⟩
 rw [HBL.out.2.1]
 obtain ⟨g2, hg2⟩ : ∃ g, W2.heap.size = g := ⟨_, rfl⟩
 have HS : Hid (Sx w W3 g1 g2 (B ++ markB) (C ++ markB) []) := zH ⟨⟨H2.out.1.trans (hb3.mono H2.out.1.size), fun r hr => absurd hr (by simp), List.Pairwise.nil⟩, H2.out.2.2.1.below hb3, hg2 ▸ hl3, H2.out.2.2.2, by have := H2.out.2.1; omega⟩
 rw [hg2]
 clear hb3 hz3 hl3 hg2
 go_wp2_with fail
 refine (decode_as W3 _ _ _ _ (lent_bytes HS.out.l1 HBL.out.1 HBN.out.1) (HT.out.below HS.out.se.blw) (by have := HBN.out.1; omega) at_ HA1.out).mono ?_
 rintro e wc ⟨q1, c1, F1, rfl, hv, hb⟩
 have hs := HS.out.add hv hb
 go_upto_region 7 with (refine stV (.tmp 10) (.tmp 47) rfl rfl rfl rfl rfl (zN wc _) rfl ?_)
 change Code.wp _ _ _ _ ((wc.alloc (.cells zR 25)).setRow wc.heap.size #[.int .i64 v1.kind, .int .u64 v1.num, .string v1.text, .slice q1 v1.list.length c1, .int .i64 v1.elem])
 generalize ((wc.alloc (.cells zR 25)).setRow wc.heap.size #[.int .i64 v1.kind, .int .u64 v1.num, .string v1.text, .slice q1 v1.list.length c1, .int .i64 v1.elem]) = W4 at *
 obtain ⟨z1, hz⟩ : ∃ z, wc.heap.size = z := ⟨_, rfl⟩
 rw [hz] at hs ⊢
 obtain ⟨lo1, hlo⟩ : ∃ z, W3.heap.size = z := ⟨_, rfl⟩
 rw [hlo] at hs
 obtain ⟨hi1, hhi⟩ : ∃ z, z1 + 1 = z := ⟨_, rfl⟩
 rw [hhi] at hs
 clear HS
 have HS : Hid (Sx w W4 g1 g2 (B ++ markB) (C ++ markB) [⟨lo1, hi1, z1, v1, q1, c1, F1⟩]) := zH hs
 clear hs hv hb hz hlo hhi
 go_wp2_with fail
 refine (decode_as W4 _ _ _ _ (lent_bytes HS.out.l1 HBL.out.1 HBN.out.1) (HT.out.below HS.out.se.blw) (by have := HBN.out.1; omega) at_ HA1.out).mono ?_
 rintro e wc ⟨q2, c2, F2, rfl, hv, hb⟩
 have hs := HS.out.add hv hb
 go_upto_region 8 with (refine stV (.tmp 13) (.tmp 54) rfl rfl rfl rfl rfl (zN wc _) rfl ?_)
 change Code.wp _ _ _ _ ((wc.alloc (.cells zR 25)).setRow wc.heap.size #[.int .i64 v1.kind, .int .u64 v1.num, .string v1.text, .slice q2 v1.list.length c2, .int .i64 v1.elem])
 generalize ((wc.alloc (.cells zR 25)).setRow wc.heap.size #[.int .i64 v1.kind, .int .u64 v1.num, .string v1.text, .slice q2 v1.list.length c2, .int .i64 v1.elem]) = W5 at *
 obtain ⟨z2, hz⟩ : ∃ z, wc.heap.size = z := ⟨_, rfl⟩
 rw [hz] at hs ⊢
 obtain ⟨lo2, hlo⟩ : ∃ z, W4.heap.size = z := ⟨_, rfl⟩
 rw [hlo] at hs
 obtain ⟨hi2, hhi⟩ : ∃ z, z2 + 1 = z := ⟨_, rfl⟩
 rw [hhi] at hs
 clear HS
 have HS : Hid (Sx w W5 g1 g2 (B ++ markB) (C ++ markB) [⟨lo1, hi1, z1, v1, q1, c1, F1⟩, ⟨lo2, hi2, z2, v1, q2, c2, F2⟩]) := zH hs
 clear hs hv hb hz hlo hhi
 go_wp2_with fail
 refine (decode_as W5 _ _ _ _ (lent_bytes HS.out.l2 HBL.out.2.1 HBN.out.2) (HT.out.below HS.out.se.blw) (by have := HBN.out.2; omega) at_ HA2.out).mono ?_
 rintro e wc ⟨q3, c3, F3, rfl, hv, hb⟩
 have hs := HS.out.add hv hb
 go_upto_region 9 with (refine stV (.tmp 16) (.tmp 61) rfl rfl rfl rfl rfl (zN wc _) rfl ?_)
 change Code.wp _ _ _ _ ((wc.alloc (.cells zR 25)).setRow wc.heap.size #[.int .i64 v2.kind, .int .u64 v2.num, .string v2.text, .slice q3 v2.list.length c3, .int .i64 v2.elem])
 generalize ((wc.alloc (.cells zR 25)).setRow wc.heap.size #[.int .i64 v2.kind, .int .u64 v2.num, .string v2.text, .slice q3 v2.list.length c3, .int .i64 v2.elem]) = W6 at *
 obtain ⟨z3, hz⟩ : ∃ z, wc.heap.size = z := ⟨_, rfl⟩
 rw [hz] at hs ⊢
 obtain ⟨lo3, hlo⟩ : ∃ z, W5.heap.size = z := ⟨_, rfl⟩
 rw [hlo] at hs
 obtain ⟨hi3, hhi⟩ : ∃ z, z3 + 1 = z := ⟨_, rfl⟩
 rw [hhi] at hs
 clear HS
 have HS : Hid (Sx w W6 g1 g2 (B ++ markB) (C ++ markB) [⟨lo1, hi1, z1, v1, q1, c1, F1⟩, ⟨lo2, hi2, z2, v1, q2, c2, F2⟩, ⟨lo3, hi3, z3, v2, q3, c3, F3⟩]) := zH hs
 clear hs hv hb hz hlo hhi
 go_wp2_with fail
 refine (decode_as W6 _ _ _ _ (lent_bytes HS.out.l1 HBL.out.1 HBN.out.1) (HT.out.below HS.out.se.blw) (by have := HBN.out.1; omega) at_ HA1.out).mono ?_
 rintro e wc ⟨q4, c4, F4, rfl, hv, hb⟩
 have hs := HS.out.add hv hb
 go_upto_region 10 with (refine stV (.tmp 19) (.tmp 68) rfl rfl rfl rfl rfl (zN wc _) rfl ?_)
 change Code.wp _ _ _ _ ((wc.alloc (.cells zR 25)).setRow wc.heap.size #[.int .i64 v1.kind, .int .u64 v1.num, .string v1.text, .slice q4 v1.list.length c4, .int .i64 v1.elem])
 generalize ((wc.alloc (.cells zR 25)).setRow wc.heap.size #[.int .i64 v1.kind, .int .u64 v1.num, .string v1.text, .slice q4 v1.list.length c4, .int .i64 v1.elem]) = W7 at *
 obtain ⟨z4, hz⟩ : ∃ z, wc.heap.size = z := ⟨_, rfl⟩
 rw [hz] at hs ⊢
 obtain ⟨lo4, hlo⟩ : ∃ z, W6.heap.size = z := ⟨_, rfl⟩
 rw [hlo] at hs
 obtain ⟨hi4, hhi⟩ : ∃ z, z4 + 1 = z := ⟨_, rfl⟩
 rw [hhi] at hs
 clear HS
 have HS : Hid (Sx w W7 g1 g2 (B ++ markB) (C ++ markB) [⟨lo1, hi1, z1, v1, q1, c1, F1⟩, ⟨lo2, hi2, z2, v1, q2, c2, F2⟩, ⟨lo3, hi3, z3, v2, q3, c3, F3⟩, ⟨lo4, hi4, z4, v1, q4, c4, F4⟩]) := zH hs
 clear hs hv hb hz hlo hhi
 go_wp2_with fail
 refine (turnedB_any W7 pb nb cb B (HBC.out.1.below HS.out.se.blw) HBN.out.1).mono ?_
 rintro e W8 ⟨tv, rfl, hto, hb8⟩
 rw [HTR.out] at hto
 have HS8 : Hid (Sx w W8 g1 g2 (B ++ markB) (C ++ markB) [⟨lo1, hi1, z1, v1, q1, c1, F1⟩, ⟨lo2, hi2, z2, v1, q2, c2, F2⟩, ⟨lo3, hi3, z3, v2, q3, c3, F3⟩, ⟨lo4, hi4, z4, v1, q4, c4, F4⟩]) := zH (HS.out.below hb8)
 obtain ⟨tp, tc, htv, _⟩ := hto.bytes
 rw [HBL.out.2.2] at htv
 subst htv
 obtain ⟨b7, hb7⟩ : ∃ b, W7.heap.size = b := ⟨_, rfl⟩
 have HO := zH (And.intro (hb7 ▸ hto) (show g2 < b7 from hb7 ▸ HS.out.lt))
 clear hb7
 clear HS hto hb8
 have HS := zH HS8.out
 clear HS8
 have k1 : (convert 28 9 (.slice (some ⟨g1, 0, none⟩) nb (nb + 9))).run prog W8 = .ok (.string ⟨B.toArray⟩) W8 := run_string_bytes W8 _ _ 5 underlying28 underlying5 underlying9 _ _ _ _ (lent_bytes HS.out.l1 HBL.out.1 HBN.out.1)
 have k2 : (convert 28 9 (.slice pb nb cb)).run prog W8 = .ok (.string ⟨B.toArray⟩) W8 := run_string_bytes W8 _ _ 5 underlying28 underlying5 underlying9 _ _ _ _ (HBC.out.1.below HS.out.se.blw)
 go_upto_region 12 with fail
 clear k1 k2
 have HTB := zH HO.out.1.slice.2
 go_upto_region 13 with (refine wpList_copy_lent2 rfl (.tmp 78) (.tmp 79) 28 rfl underlying28 info_u8 tp nb nb (nb + 9) tc (Nat.le_refl _) g1 rfl rfl (B ++ markB) T HS.out.l1 HTB.out (by rw [List.length_append, HBL.out.1]; omega) ?_; intro W9 hl9 hb9 hz9 ho9; have HN9 := zH (And.intro hl9 (And.intro hb9 (And.intro hz9 ho9))); clear hl9 hb9 hz9 ho9)
 have hl9 := HN9.out.1
 rw [List.drop_append_of_le_length (by rw [HBL.out.1]; exact Nat.le_refl _), List.drop_of_length_le (by rw [HBL.out.1]; exact Nat.le_refl _), List.nil_append] at hl9
 have HS9 : Hid (Sx w W9 g1 g2 (T ++ markB) (C ++ markB) [⟨lo1, hi1, z1, v1, q1, c1, F1⟩, ⟨lo2, hi2, z2, v1, q2, c2, F2⟩, ⟨lo3, hi3, z3, v2, q3, c3, F3⟩, ⟨lo4, hi4, z4, v1, q4, c4, F4⟩]) := zH (HS.out.over hl9 HN9.out.2.1 HN9.out.2.2.1 HN9.out.2.2.2)
 have HO9 := zH (And.intro (OwnBytes.kept (row := some g1) HO.out.1 ⟨HN9.out.2.1.os, HN9.out.2.1.tape, HN9.out.2.1.output, by have := HN9.out.2.2.1; omega, fun k _ hk => HN9.out.2.2.2 k (fun e => hk (by rw [e]))⟩ (OwnBytes.off HO.out.1 (by have := HS.out.h2; have := HO.out.2; omega))) HO.out.2)
 clear HS HO HTB HN9 hl9
 have HS := zH HS9.out
 have HO := zH HO9.out
 clear HS9 HO9
 go_wp2_with fail
 refine (decode_as W9 _ _ _ _ (lent_bytes HS.out.l1 HBL.out.2.2 HBN.out.1) (HT.out.below HS.out.se.blw) (by have := HBN.out.1; omega) at_ HA3.out).mono ?_
 rintro e wc ⟨q5, k5, F5, rfl, hv, hb⟩
 have ho := (HO.out.1.of_below hb)
 have hs := HS.out.add hv hb
 have ho2 := ho.of_below (below_setRow ((Below.refl wc.heap.size wc).alloc (Nat.le_refl _) (.cells zR 25)) (Nat.le_refl _) #[.int .i64 v3.kind, .int .u64 v3.num, .string v3.text, .slice q5 v3.list.length k5, .int .i64 v3.elem])
 clear ho
 go_upto_region 14 with (refine stV (.tmp 24) (.tmp 85) rfl rfl rfl rfl rfl (zN wc _) rfl ?_)
 change Code.wp _ _ _ _ ((wc.alloc (.cells zR 25)).setRow wc.heap.size #[.int .i64 v3.kind, .int .u64 v3.num, .string v3.text, .slice q5 v3.list.length k5, .int .i64 v3.elem])
 generalize ((wc.alloc (.cells zR 25)).setRow wc.heap.size #[.int .i64 v3.kind, .int .u64 v3.num, .string v3.text, .slice q5 v3.list.length k5, .int .i64 v3.elem]) = W10 at *
 obtain ⟨z5, hz⟩ : ∃ z, wc.heap.size = z := ⟨_, rfl⟩
 rw [hz] at hs ⊢
 obtain ⟨lo5, hlo⟩ : ∃ z, W9.heap.size = z := ⟨_, rfl⟩
 rw [hlo] at hs
 obtain ⟨hi5, hhi⟩ : ∃ z, z5 + 1 = z := ⟨_, rfl⟩
 rw [hhi] at hs
 clear HS
 have HS : Hid (Sx w W10 g1 g2 (T ++ markB) (C ++ markB) [⟨lo1, hi1, z1, v1, q1, c1, F1⟩, ⟨lo2, hi2, z2, v1, q2, c2, F2⟩, ⟨lo3, hi3, z3, v2, q3, c3, F3⟩, ⟨lo4, hi4, z4, v1, q4, c4, F4⟩, ⟨lo5, hi5, z5, v3, q5, k5, F5⟩]) := zH hs
 have HO2 := zH (And.intro ho2 HO.out.2)
 clear hs hv hb hz hlo hhi ho2 HO
 have HO := zH HO2.out
 clear HO2
 have hrow := (HS.out.se.el ⟨lo1, hi1, z1, v1, q1, c1, F1⟩ (by simp)).1.row
 obtain ⟨y10, y11, y12, y13, y14⟩ := c5 hrow
 clear hrow
 go_wp2_with fail
 refine (decoded_any W10 v1 _ ((HS.out.se.el ⟨lo1, hi1, z1, v1, q1, c1, F1⟩ (by simp)).1.vo.vin) _ _ pb nb cb B (HBC.out.1.below HS.out.se.blw) (HT.out.below HS.out.se.blw) (by have := HBN.out.1; omega) at_ HA1.out.symm).mono ?_
 rintro e W11 ⟨rfl, hb⟩
 have hs := HS.out.below hb
 have ho := And.intro (HO.out.1.of_below hb) HO.out.2
 clear HS HO
 have HS := zH hs
 have HO := zH ho
 clear hs ho hb y10 y11 y12 y13 y14
 have hrow := (HS.out.se.el ⟨lo2, hi2, z2, v1, q2, c2, F2⟩ (by simp)).1.row
 obtain ⟨y20, y21, y22, y23, y24⟩ := c5 hrow
 clear hrow
 go_wp2_with fail
 refine (decoded_any W11 v1 _ ((HS.out.se.el ⟨lo2, hi2, z2, v1, q2, c2, F2⟩ (by simp)).1.vo.vin) _ _ pb nb cb B (HBC.out.1.below HS.out.se.blw) (HT.out.below HS.out.se.blw) (by have := HBN.out.1; omega) at_ HA1.out.symm).mono ?_
 rintro e W12 ⟨rfl, hb⟩
 have hs := HS.out.below hb
 have ho := And.intro (HO.out.1.of_below hb) HO.out.2
 clear HS HO
 have HS := zH hs
 have HO := zH ho
 clear hs ho hb y20 y21 y22 y23 y24
 have hrow := (HS.out.se.el ⟨lo3, hi3, z3, v2, q3, c3, F3⟩ (by simp)).1.row
 obtain ⟨y30, y31, y32, y33, y34⟩ := c5 hrow
 clear hrow
 go_wp2_with fail
 refine (decoded_any W12 v2 _ ((HS.out.se.el ⟨lo3, hi3, z3, v2, q3, c3, F3⟩ (by simp)).1.vo.vin) _ _ pc nc cc C (HBC.out.2.below HS.out.se.blw) (HT.out.below HS.out.se.blw) (by have := HBN.out.2; omega) at_ HA2.out.symm).mono ?_
 rintro e W13 ⟨rfl, hb⟩
 have hs := HS.out.below hb
 have ho := And.intro (HO.out.1.of_below hb) HO.out.2
 clear HS HO
 have HS := zH hs
 have HO := zH ho
 clear hs ho hb y30 y31 y32 y33 y34
 have hrow := (HS.out.se.el ⟨lo4, hi4, z4, v1, q4, c4, F4⟩ (by simp)).1.row
 obtain ⟨y40, y41, y42, y43, y44⟩ := c5 hrow
 clear hrow
 go_wp2_with fail
 refine (decoded_any W13 v1 _ ((HS.out.se.el ⟨lo4, hi4, z4, v1, q4, c4, F4⟩ (by simp)).1.vo.vin) _ _ pb nb cb B (HBC.out.1.below HS.out.se.blw) (HT.out.below HS.out.se.blw) (by have := HBN.out.1; omega) at_ HA1.out.symm).mono ?_
 rintro e W14 ⟨rfl, hb⟩
 have hs := HS.out.below hb
 have ho := And.intro (HO.out.1.of_below hb) HO.out.2
 clear HS HO
 have HS := zH hs
 have HO := zH ho
 clear hs ho hb y40 y41 y42 y43 y44
 have hrow := (HS.out.se.el ⟨lo5, hi5, z5, v3, q5, k5, F5⟩ (by simp)).1.row
 obtain ⟨y50, y51, y52, y53, y54⟩ := c5 hrow
 clear hrow
 go_wp2_with fail
 refine (decoded_any W14 v3 _ ((HS.out.se.el ⟨lo5, hi5, z5, v3, q5, k5, F5⟩ (by simp)).1.vo.vin) _ _ tp nb tc T HO.out.1.slice.2 (HT.out.below HS.out.se.blw) (by have := HBN.out.1; omega) at_ HA3.out.symm).mono ?_
 rintro e W15 ⟨rfl, hb⟩
 have hs := HS.out.below hb
 have ho := And.intro (HO.out.1.of_below hb) HO.out.2
 clear HS HO
 have HS := zH hs
 have HO := zH ho
 clear hs ho hb y50 y51 y52 y53 y54
 go_wp2_with fail
 refine (asLentB_any W15 g1 nb tc T tp HS.out.l1 HO.out.1.slice.2 HBN.out.1).mono ?_
 rintro e W16 ⟨rfl, hg, hz⟩
 have HS6 : Hid (Se w W16 (g2 + 1) [⟨lo1, hi1, z1, v1, q1, c1, F1⟩, ⟨lo2, hi2, z2, v1, q2, c2, F2⟩, ⟨lo3, hi3, z3, v2, q3, c3, F3⟩, ⟨lo4, hi4, z4, v1, q4, c4, F4⟩, ⟨lo5, hi5, z5, v3, q5, k5, F5⟩] ∧ Lent W16 g2 (C ++ markB) ∧ g1 < g2 ∧ w.heap.size <= g1 ∧ g2 < W16.heap.size) := zH ⟨HS.out.se.grown hg HS.out.h1 (by have := HS.out.h2; omega), HS.out.l2.of_block (hg.block g2 HS.out.lt (fun e => by have := HS.out.h2; cases e; omega)), HS.out.h2, HS.out.h1, by have := HS.out.lt; omega⟩
 clear HS HO hg hz
 go_wp2_with fail
 refine (asLentB_any W16 g2 nc cc C pc HS6.out.2.1 (HBC.out.2.below HS6.out.1.blw) HBN.out.2).mono ?_
 rintro e W17 ⟨rfl, hg, hz⟩
 have HS : Hid (Se w W17 (g2 + 1) [⟨lo1, hi1, z1, v1, q1, c1, F1⟩, ⟨lo2, hi2, z2, v1, q2, c2, F2⟩, ⟨lo3, hi3, z3, v2, q3, c3, F3⟩, ⟨lo4, hi4, z4, v1, q4, c4, F4⟩, ⟨lo5, hi5, z5, v3, q5, k5, F5⟩] ∧ w.heap.size <= g2 ∧ g2 < W17.heap.size) := zH ⟨HS6.out.1.grown hg (by have := HS6.out.2.2.1; have := HS6.out.2.2.2.1; omega) (Nat.lt_succ_self _), by have := HS6.out.2.2.1; have := HS6.out.2.2.2.1; omega, by have := HS6.out.2.2.2.2; omega⟩
 clear HS6 hg hz
 go_upto_region 22 with fail
 have hb : Below W17.heap.size W17 (W17.alloc (.cells #[.slice none 0 0] 50)) := (Below.refl _ _).alloc (Nat.le_refl _) _
 have hbk : BkIn (W17.alloc (.cells #[.slice none 0 0] 50)) (g2 + 1) W17.heap.size (.slice none 0 0) [] (fun _ => False) := BkIn.start HS.out.2.2
 generalize (W17.alloc (.cells #[.slice none 0 0] 50)) = W18 at *
 obtain ⟨bk, hbkn⟩ : ∃ bk, W17.heap.size = bk := ⟨_, rfl⟩
 rw [hbkn] at hbk ⊢
 have hs := HS.out.1.below hb
 have HN := zH (And.intro HS.out.2.1 (show g2 < W18.heap.size from Nat.lt_of_lt_of_le HS.out.2.2 hb.size))
 clear HS hbkn hb
 have HS : Hid (Se w W18 (g2 + 1) [⟨lo1, hi1, z1, v1, q1, c1, F1⟩, ⟨lo2, hi2, z2, v1, q2, c2, F2⟩, ⟨lo3, hi3, z3, v2, q3, c3, F3⟩, ⟨lo4, hi4, z4, v1, q4, c4, F4⟩, ⟨lo5, hi5, z5, v3, q5, k5, F5⟩]) := zH hs
 have HBK := zH hbk
 clear hs hbk
 have hrow := (HS.out.el ⟨lo1, hi1, z1, v1, q1, c1, F1⟩ (by simp)).1.row
 obtain ⟨y10, y11, y12, y13, y14⟩ := c5 hrow
 clear hrow
 have hrow := (HS.out.el ⟨lo2, hi2, z2, v1, q2, c2, F2⟩ (by simp)).1.row
 obtain ⟨y20, y21, y22, y23, y24⟩ := c5 hrow
 clear hrow
 have hrow := (HS.out.el ⟨lo3, hi3, z3, v2, q3, c3, F3⟩ (by simp)).1.row
 obtain ⟨y30, y31, y32, y33, y34⟩ := c5 hrow
 clear hrow
 have hrow := (HS.out.el ⟨lo4, hi4, z4, v1, q4, c4, F4⟩ (by simp)).1.row
 obtain ⟨y40, y41, y42, y43, y44⟩ := c5 hrow
 clear hrow
 have hrow := (HS.out.el ⟨lo5, hi5, z5, v3, q5, k5, F5⟩ (by simp)).1.row
 obtain ⟨y50, y51, y52, y53, y54⟩ := c5 hrow
 clear hrow
 have hal : Below W18.heap.size W18 (W18.alloc (.cells #[.int .i64 v1.kind, .int .u64 v1.num, .string v1.text, .slice q1 v1.list.length c1, .int .i64 v1.elem, .int .i64 v1.kind, .int .u64 v1.num, .string v1.text, .slice q2 v1.list.length c2, .int .i64 v1.elem, .int .i64 v2.kind, .int .u64 v2.num, .string v2.text, .slice q3 v2.list.length c3, .int .i64 v2.elem, .int .i64 v1.kind, .int .u64 v1.num, .string v1.text, .slice q4 v1.list.length c4, .int .i64 v1.elem, .int .i64 v3.kind, .int .u64 v3.num, .string v3.text, .slice q5 v3.list.length k5, .int .i64 v3.elem] 25)) := (Below.refl _ _).alloc (Nat.le_refl _) _
 have hfive := HS.out.five rfl hal (zN W18 _) HN.out.2
 have hszs : szs [v1, v1, v2, v1, v3] <= 5242885 := by
  have h1 := rsz_le_wt v1
  have h2 := rsz_le_wt v2
  have h3 := rsz_le_wt v3
  have h4 := HW.out
  simp only [szs]
  omega
 have hwts : wts [v1, v1, v2, v1, v3] <= 5242885 := by
  have h4 := HW.out
  simp only [wts]
  omega
 have HTK := zH (takes_any (.mk 0 0 ⟨#[]⟩ [v1, v1, v2, v1, v3] 0) (fun x _ => take_on x) (W18.alloc (.cells #[.int .i64 v1.kind, .int .u64 v1.num, .string v1.text, .slice q1 v1.list.length c1, .int .i64 v1.elem, .int .i64 v1.kind, .int .u64 v1.num, .string v1.text, .slice q2 v1.list.length c2, .int .i64 v1.elem, .int .i64 v2.kind, .int .u64 v2.num, .string v2.text, .slice q3 v2.list.length c3, .int .i64 v2.elem, .int .i64 v1.kind, .int .u64 v1.num, .string v1.text, .slice q4 v1.list.length c4, .int .i64 v1.elem, .int .i64 v3.kind, .int .u64 v3.num, .string v3.text, .slice q5 v3.list.length k5, .int .i64 v3.elem] 25)) (g2 + 1) bk _ _ _ _ _ (HBK.out.below hal) hfive (fun g _ q => q) (by show 0 + 1 + szs [v1, v1, v2, v1, v3] <= _; omega) (by show wts [v1, v1, v2, v1, v3] <= _; omega))
 have HF := zH (And.intro hal (And.intro hfive hszs))
 clear hal hfive hszs hwts
 go_wp2_with fail
 refine HTK.out.mono ?_
 rintro e W20 ⟨rfl, ⟨vl, vs, hbk, hlen⟩, hmv, hbw⟩
 have hlo := HF.out.2.1
 have HB := zH (And.intro hbk (And.intro (show vs.length <= 40000000 from Nat.le_trans hlen (by show 0 + 1 + szs [v1, v1, v2, v1, v3] <= _; have := HF.out.2.2; omega)) (show Below w.heap.size w W20 from (HS.out.blw.trans (HF.out.1.mono HS.out.blw.size)).trans (hbw.mono (by have := HN.out.1; omega)))))
 have HQ : Hid (∀ g, (False ∨ (fun j => j = W18.heap.size ∨ F1 j ∨ F2 j ∨ F3 j ∨ F4 j ∨ F5 j) g) -> w.heap.size <= g) := zH (fun g q => by
  rcases q with q | q
  ·exact q.elim
  ·have := (hlo.lt g q).1
   have := HN.out.1
   omega)
 clear hbk hlen hmv hbw hlo HTK HF y10 y11 y12 y13 y14 y20 y21 y22 y23 y24 y30 y31 y32 y33 y34 y40 y41 y42 y43 y44 y50 y51 y52 y53 y54
 go_wp2_with fail
 refine (owned_any W20 (g2 + 1) bk vl vs _ HB.out.1 HB.out.2.1).mono ?_
 rintro e W21 ⟨rfl, ho⟩
 have hk := BkIn.keepQ HB.out.1 ho
 have HE := zH (show Below w.heap.size w W21 from KeepF.below HB.out.2.2 hk (fun g q => HQ.out g q) HB.out.2.2.size)
 clear ho hk
 go_wp2_with fail
 go_ret
 exact ⟨rfl, HE.out⟩
end Go.Proofs.YtnnnfhobbnjmfaaGreatDoor

namespace Go.Proofs.YtnnnfhobbnjmfaaGreatDoor
open Go.RowKit Go.Proofs.Tryz
set_option maxRecDepth 100000

theorem accept_eq : (Rows.laid_unicode_utf8_acceptRanges : DataW Unit) = Lib.acceptData := by kernel_rfl
theorem tabs_of {W : World} (hL : laidMetH Tryz.prog [("unicode/utf8.acceptRanges", Rows.laid_unicode_utf8_acceptRanges), ("unicode/utf8.first", Rows.laid_unicode_utf8_first)] W) : Tabs W := by
 have h3 := Lib.laidMet.reads hL (.tail _ (.head _))
 have h4 := Lib.laidMet.reads hL (.head _)
 have e3 : Rows.laid_unicode_utf8_first = Lib.firstData := Pinned.utf8First_eq
 rw [e3] at h3
 rw [accept_eq] at h4
 exact utf8Tabs_of_reads Tryz.lays260 ⟨by kernel_rfl, by kernel_rfl, by kernel_rfl, by kernel_rfl, by kernel_rfl, by kernel_rfl, by kernel_rfl⟩ h3 h4

def putTab (vals : Array Value) : Obj → Obj
 | .cells _ t frozen => .cells vals t frozen
 | o => o
noncomputable def laidWorld (os : Os) : World :=
 { World.holding Tryz.prog os ⟨#[], #[], []⟩ with
  heap := ((World.holding Tryz.prog os ⟨#[], #[], []⟩).heap.modify 0 (putTab ((List.range 256).map fun c => (Value.int .u8 (Lib.firstT c : Int))).toArray)).modify 1 (putTab ((List.range 32).map fun c => (Value.int .u8 ((if c % 2 = 0 then Lib.accLo (c / 2) else Lib.accHi (c / 2) : Nat) : Int))).toArray) }
end Go.Proofs.YtnnnfhobbnjmfaaGreatDoor

namespace Go.Proofs.YtnnnfhobbnjmfaaGreatDoor
theorem bulk_pos {H : Type} (d : DataW H) : 1 ≤ Rows.uptoBulk d := by
 cases d with
 | lit l => cases l <;> simp [Rows.uptoBulk]
 | nil => simp [Rows.uptoBulk]
 | ptr d => simp [Rows.uptoBulk]
 | slice elems spare => simp [Rows.uptoBulk]
 | agg parts => simp [Rows.uptoBulk]
 | iface t d => simp [Rows.uptoBulk]
 | map entries => simp [Rows.uptoBulk]
 | held h => simp [Rows.uptoBulk]
theorem bulk_length {H : Type} (l : List (DataW H)) : l.length ≤ Rows.uptoBulkAll l := by
 induction l with
 | nil => simp [Rows.uptoBulkAll]
 | cons x r ih => have := bulk_pos x; simp only [Rows.uptoBulkAll, List.length_cons]; omega
theorem bulk_slice {H : Type} {d : DataW H} {n c : Nat} (h : (n = 0 ∧ d = .nil) ∨ ∃ es sp : List (DataW H), d = .slice es sp ∧ es.length = n ∧ sp.length = c - n) : n ≤ Rows.uptoBulk d := by
 rcases h with ⟨rfl, rfl⟩ | ⟨es, sp, rfl, rfl, _⟩
 ·exact Nat.zero_le _
 ·have := bulk_length es; simp only [Rows.uptoBulk]; omega
theorem bulk_bound {H : Type} {l : List (DataW H)} (hk : Rows.uptoSmall H l = true) : Rows.uptoBulkAll l ≤ 1048576 := of_decide_eq_true hk
end Go.Proofs.YtnnnfhobbnjmfaaGreatDoor
