/-
  A table's from, its walk. Conditions: the table lies in memory, holds something; its numbers are words.
  A session's Range; what a few calls answer (live); SessionNumbers. Conditions: the session lies in memory.
-/
import Derived.Test.YtbkimebmoafbnaaMg04
namespace Go.Proofs.Ytbkimebmoafbnaa
open Go.RowKit Go.Maps
set_option linter.unusedVariables false

theorem keys_perm {w : World} {m n : Nat} {D : DataW Value} {l : List Pnd} (hown : w.ownsMap Try.prog 3 holdV m n D) (h : MapIs D (pend l)) {ss : List Int} (hs : ss.Perm (intKeys D)) : ss.Perm (l.map Pnd.id) := by
  have hk := keys_pend l
  have hc : CollectedI D (fun _ => false) (l.map Pnd.id) := ⟨by rw [← hk]; exact h.nd, fun x => by rw [h.has, hk]; simp⟩
  exact hs.trans (hc.perm hown (int_keyed Try.underlying3) Try.underlying3 (fun _ => rfl)).symm

/-- a row of ints that a slice owns -/
theorem row_block {W : World} {B n : Nat} {v : Value} {ss : List Int} (h : W.ownsRow B 3 1 v n (ss.map encZ)) (hn : n = ss.length) (hne : ss ≠ []) : ∃ g cap cur, v = .slice (some ⟨g, 0, none⟩) ss.length cap ∧ B ≤ g ∧ W.heap[g]? = some (.cells cur 3 (0, 0)) ∧ ss.length ≤ cap ∧ cap ≤ maxLen ∧ cur.size = cap * 1 ∧ cur.toList.take ss.length = ss.map encZ := by
  subst hn
  rcases h.2 with ⟨rfl, h0⟩ | ⟨g, cap, cur, rfl, hg, hb, h1, h2, h3, h4⟩
  · exact absurd (List.length_eq_zero_iff.1 h0) hne
  · exact ⟨g, cap, cur, rfl, hg, hb, h1, h2, h3, by rwa [Nat.mul_one] at h4⟩

theorem take_le {α : Type} {l a b : List α} {n : Nat} (h : l.take n = a ++ b) (hn : a.length ≤ n) : l.take a.length = a := by
  have := congrArg (List.take a.length) h
  rw [List.take_take, List.take_left', Nat.min_eq_left hn] at this
  · exact this
  · rfl

theorem pndRow_snoc (l : List Pnd) (p : Pnd) : pndRow (l ++ [p]) = pndRow l ++ [.int .i64 p.id, .int .i64 p.h, .string p.tag] := by simp [pndRow]

theorem cell_of_newrow {w : World} {ys : List Value} {e : TypeId} {j : Nat} {u : Value} (hj : ys[j]? = some u) : (w.alloc (.cells ys.toArray e)).cell? ((⟨w.heap.size, 0, none⟩ : Addr).add j) = some u := by
  have hadd : (⟨w.heap.size, 0, none⟩ : Addr).add j = ⟨w.heap.size, j, none⟩ := by unfold Addr.add; split <;> simp_all
  rw [hadd, cell_of_row _ _ j _ _ _ (_root_.Go.heap_alloc_new w _)]
  simpa using hj

theorem row_mono9 {w : World} {B B' T k n : Nat} {v : Value} {xs : List Value} (h : w.ownsRow B T k v n xs) (hB : B' ≤ B) : w.ownsRow B' T k v n xs := by
  refine ⟨h.1, ?_⟩
  rcases h.2 with hn | ⟨g, cap, cur, hv, hbg, rest⟩
  · exact .inl hn
  · exact .inr ⟨g, cap, cur, hv, Nat.le_trans hB hbg, rest⟩

theorem info_pend : (Try.prog.info? 59).map (fun i => (i.zero, i.size, i.bytes)) = some (some (Pnd.val ⟨0, 0, ⟨#[]⟩⟩), 3, 32) := by kernel_rfl

set_option maxRecDepth 20000 in
set_option maxHeartbeats 4000000 in
theorem from_any (w : World) (t m : Nat) (l : List Pnd) (first many : Int) (ht : w.heap[t]? = some (.cells #[.map (some m)] 92 (0, 0))) (hm : MapOf w m (pend l)) (hne : l ≠ []) (hw : ∀ p ∈ l, Word p.id) (hlen : l.length ≤ 1073741824) :
    Calls Try.prog 41 #[.pointer (some ⟨t, 0, none⟩), .int .i64 first, .int .i64 many] w fun e w' => ∃ v out, e = .returned v ∧ FromL l first many out ∧ w'.ownsRow w.heap.size 59 3 v out.length (pndRow out) ∧ Below w.heap.size w w' := by
  have HM0 := Lib.hid hm
  have HT0 := Lib.hid ht
  have HW := Lib.hid hw
  have HNE := Lib.hid hne
  have HLEN := Lib.hid hlen
  clear hm hw hne hlen ht
  go_enter Try.func41, Try.ntmps41
  go_upto_region 1 with fail
  have hb1 : Below w.heap.size w ((w.alloc (.cells #[.int .i64 first] 3)).alloc (.cells #[.int .i64 many] 3)) := ((Below.refl _ w).alloc (Nat.le_refl _) _).alloc (by simp) _
  have h4 : ((w.alloc (.cells #[.int .i64 first] 3)).alloc (.cells #[.int .i64 many] 3)).heap[w.heap.size]? = some (.cells #[.int .i64 first] 3 (0, 0)) := heap_alloc2_old _ _ _
  have h5 : ((w.alloc (.cells #[.int .i64 first] 3)).alloc (.cells #[.int .i64 many] 3)).heap[w.heap.size + 1]? = some (.cells #[.int .i64 many] 3 (0, 0)) := heap_alloc2_new _ _ _
  generalize ((w.alloc (.cells #[.int .i64 first] 3)).alloc (.cells #[.int .i64 many] 3)) = w1 at *
  obtain ⟨x, hx⟩ : ∃ x, w.heap.size = x := ⟨_, rfl⟩
  have hm1 : MapOf w1 m (pend l) := HM0.out.same (hb1.block m HM0.out.lt)
  have ht1 := (hb1.block t (Array.getElem?_eq_some_iff.1 HT0.out).1).trans HT0.out
  have ct : w1.cell? ⟨t, 0, none⟩ = some (.map (some m)) := (cell_of_row _ _ 0 _ _ _ ht1).trans rfl
  rw [hx] at h4 h5 ⊢
  have HX := Lib.hid hx
  have HB1 := Lib.hid hb1
  have HT1 := Lib.hid ht1
  have c4 : w1.cell? ⟨x, 0, none⟩ = some (.int .i64 first) := (cell_of_row _ _ 0 _ _ _ h4).trans rfl
  have c5 : w1.cell? ⟨x + 1, 0, none⟩ = some (.int .i64 many) := (cell_of_row _ _ 0 _ _ _ h5).trans rfl
  have HC4 := Lib.hid (And.intro c4 c5)
  obtain ⟨D, hown, hD⟩ := hm1
  have HD := Lib.hid hD
  have HOWN := Lib.hid hown
  -- maps.Keys
  have hK : Calls Try.prog 58 #[.map (some m)] w1 fun e w' => e = .returned (.func (.func 83) #[] #[.pointer (some ⟨w1.heap.size, 0, none⟩)]) ∧ w' = w1.alloc (.cells #[.map (some m)] 90) :=
    (callsIn_wide (n := 5)).1 (AnyZI.keys_in Try.keys Fence.wide 5 trivial rfl (some m) w1)
  clear hb1 hx h4 h5 ht1 c4 c5 hD hown
  go_wp2_with fail
  refine hK.mono ?_
  clear hK
  rintro e w2 ⟨rfl, hw2⟩
  have hb2 : Below w1.heap.size w1 w2 := by rw [hw2]; exact (Below.refl _ _).alloc (Nat.le_refl _) _
  have h2 : w2.heap[w1.heap.size]? = some (.cells #[.map (some m)] 90 (0, 0)) := by rw [hw2]; exact _root_.Go.heap_alloc_new _ _
  have hz2 : w1.heap.size < w2.heap.size := by rw [hw2]; simp
  have c2 : w2.cell? ⟨w1.heap.size, 0, none⟩ = some (.map (some m)) := (cell_of_row _ _ 0 _ _ _ h2).trans rfl
  have hown2 : w2.ownsMap Try.prog 3 holdV m (pend l).length D := by
    obtain ⟨es, clock, hb, r⟩ := HOWN.out
    exact ⟨es, clock, (hb2.block m HOWN.out.lt).trans hb, r⟩
  have hN : Maps.size D ≤ 1073741824 := by rw [HD.out.size]; simpa [pend] using HLEN.out
  have hseq : SeqGives Fence.wide 2 Try.prog 83 #[.pointer (some ⟨w1.heap.size, 0, none⟩)] encZ (fun ss => ss.Perm (intKeys D)) (Maps.size D) w2 :=
    AnyZI.keys_gives (ρ := Try.keys_ren) { Try.keys with } Fence.wide _ trivial rfl (by omega) w1.heap.size m _ D w2 hz2 c2 hown2
  have hC : Calls Try.prog 57 #[.func (.func 83) #[] #[.pointer (some ⟨w1.heap.size, 0, none⟩)]] w2 fun e w' => ∃ (v : Value) (ss : List Int), e = .returned v ∧ ss.Perm (intKeys D) ∧ w'.ownsRow w2.heap.size 3 1 v ss.length (ss.map encZ) ∧ (v = .slice none 0 0 ↔ ss = []) ∧ Below w2.heap.size w2 w' :=
    (callsIn_wide (n := 4)).1 (AnyZI.collect_in Try.collect Fence.wide 4 trivial trivial rfl (by omega) 83 _ trivial (enters_of Try.func83 (by kernel_rfl) rfl) _ (Maps.size D) (by unfold maxLen; omega) (by omega) w2 hseq)
  have HB2 := Lib.hid (HB1.out.trans (hb2.mono HB1.out.size))
  have HB12 := Lib.hid hb2
  clear hb2 h2 hz2 c2 hown2 hN hseq hw2 ct
  go_wp2_with fail
  refine hC.mono ?_
  clear hC
  rintro e w3 ⟨v, ss, rfl, hS, hrow, hnil, hb3⟩
  have hss : ss ≠ [] := by
    rintro rfl
    have h1 := (keys_perm HOWN.out HD.out hS).length_eq
    simp only [List.length_nil, List.length_map] at h1
    exact HNE.out (List.length_eq_zero_iff.1 h1.symm)
  have hperm := keys_perm HOWN.out HD.out hS
  obtain ⟨g, cap, cur, rfl, hg2, hblk, hcap, hmax, hsize, htake⟩ := row_block hrow rfl hss
  have hlt2 : x + 2 ≤ w2.heap.size := by
    have h1 := HC4.out.2
    have h2 := World.block_lt_of_cell? w1 _ h1
    have h3 := HB12.out.size
    simp only at h2
    omega
  have hc4 : w3.cell? ⟨x, 0, none⟩ = some (.int .i64 first) := (hb3.cell (p := ⟨x, 0, none⟩) (by show x < _; omega)).trans ((HB12.out.cell (p := ⟨x, 0, none⟩) (World.block_lt_of_cell? w1 _ HC4.out.1)).trans HC4.out.1)
  have hc5 : w3.cell? ⟨x + 1, 0, none⟩ = some (.int .i64 many) := (hb3.cell (p := ⟨x + 1, 0, none⟩) (by show x + 1 < _; omega)).trans ((HB12.out.cell (p := ⟨x + 1, 0, none⟩) (World.block_lt_of_cell? w1 _ HC4.out.2)).trans HC4.out.2)
  have hl3 : ∀ b : Nat, b < 2 → x + b < w3.heap.size := fun b hb => by have := hb3.size; omega
  have hgx : x ≠ g ∧ x + 1 ≠ g := by omega
  have hln : ss.length ≤ 1073741824 := by have := hperm.length_eq; have := HLEN.out; simp only [List.length_map] at *; omega
  have hH := holds_of_blockI hblk htake
  have hpr : PredAt Try.prog 59 #[.pointer (some ⟨x, 0, none⟩), .pointer (some ⟨x + 1, 0, none⟩)] (Value.int .i64) (outR first many) w3 := fun W y hb =>
    from1_any first many y x (x + 1) W ((hb.cell (p := ⟨x, 0, none⟩) (hl3 0 (by omega))).trans hc4) ((hb.cell (p := ⟨x + 1, 0, none⟩) (hl3 1 (by omega))).trans hc5)
  have hpo : PredOver Try.prog 59 #[.pointer (some ⟨x, 0, none⟩), .pointer (some ⟨x + 1, 0, none⟩)] (Value.int .i64) (outR first many) g 0 ss.toArray.size w3 := fun n os dk y _ =>
    from1_any first many y x (x + 1) _ (by
      unfold sortWorld
      rw [Go.Sort.cell?_grow _ _ _ (by show x < (Go.Sort.putRow _ _ _ _ _).heap.size; rw [Go.Sort.size_putRow]; exact hl3 0 (by omega)), Go.Sort.cell?_putRow_other _ _ g 0 _ _ (Or.inl hgx.1)]
      exact hc4) (by
      unfold sortWorld
      rw [Go.Sort.cell?_grow _ _ _ (by show x + 1 < (Go.Sort.putRow _ _ _ _ _).heap.size; rw [Go.Sort.size_putRow]; exact hl3 1 (by omega)), Go.Sort.cell?_putRow_other _ _ g 0 _ _ (Or.inl hgx.2)]
      exact hc5)
  have eg1 : ∀ args w, (callFunc 59 args).run Try.prog w = .ok (.enter 59 args) w := enters_of Try.func59 (by kernel_rfl) rfl
  have hDl : Calls Try.prog 56 #[.slice (some ⟨g, 0, none⟩) ss.length cap, .func (.func 59) #[] #[.pointer (some ⟨x, 0, none⟩), .pointer (some ⟨x + 1, 0, none⟩)]] w3 fun e w' => e = .returned (.slice (some ⟨g, 0, none⟩) (ss.filter fun y => !outR first many y).length cap) ∧ ∃ q, w' = Go.Sort.putRow (Value.int .i64) (Go.Sort.ahead w3 q) g 0 ((ss.filter fun y => !outR first many y) ++ List.replicate (ss.length - (ss.filter fun y => !outR first many y).length) 0).toArray :=
    AnyE.slices_DeleteFunc Try.delf (Value.int .i64) (fun _ => rfl) (outR first many) 59 _ eg1 0 zero_int g 0 cap ss.toArray w3 hpr hpo hH (by simp; omega) (by simpa using hcap)
  have HG := Lib.hid (And.intro hg2 (And.intro hlt2 hgx))
  have HB3 := Lib.hid hb3
  have HC3 := Lib.hid (And.intro hc4 hc5)
  have HPE := Lib.hid hperm
  have HBK := Lib.hid (And.intro hblk (And.intro hcap (And.intro hmax (And.intro hsize htake))))
  have HLN := Lib.hid hln
  clear hS hrow hnil hb3 hss hperm hg2 hblk hcap hmax hsize htake hlt2 hc4 hc5 hl3 hgx hln hH hpr hpo eg1
  go_wp2_with fail
  refine hDl.mono ?_
  clear hDl
  rintro e w4 ⟨rfl, q, hw4⟩
  obtain ⟨F, hF⟩ : ∃ F, (ss.filter fun y => !outR first many y) = F := ⟨_, rfl⟩
  rw [hF] at hw4 ⊢
  obtain ⟨hblk, hcap, hmax, hsize, htake⟩ := HBK.out
  have hFl : F.length ≤ ss.length := by rw [← hF]; exact List.length_filter_le _ _
  have hw4' : w4 = Go.Sort.grow (Go.Sort.putRow (Value.int .i64) (Go.Sort.ahead w3 q) g 0 (F ++ List.replicate (ss.length - F.length) 0).toArray) #[] := by rw [Go.Sort.grow_empty]; exact hw4
  have hg4 : w3.grownBy w4 (some g) := by rw [hw4']; exact grownBy_sortedI _
  have hblk4 := heap_sortedI (n := q) (os := #[]) (F ++ List.replicate (ss.length - F.length) 0).toArray hblk
  rw [← hw4'] at hblk4
  have htl : (F ++ List.replicate (ss.length - F.length) 0).length = ss.length := by rw [List.length_append, List.length_replicate]; omega
  have htake4 := take_putCellsI cur (F ++ List.replicate (ss.length - F.length) 0) (by rw [htl]; omega)
  rw [List.map_append] at htake4
  have htF := take_le htake4 (by rw [List.length_map, htl]; exact hFl)
  rw [List.length_map] at htF
  generalize hcur4 : Go.Sort.putCells (Value.int .i64) 0 (F ++ List.replicate (ss.length - F.length) 0).toArray cur = cur4 at hblk4 htF
  have hsz4 : cur4.size = cap * 1 := by rw [← hcur4, ← hsize]; simp [Go.Sort.putCells]
  have hH4 := holds_of_blockI hblk4 htF
  have c4' : w4.cell? ⟨x, 0, none⟩ = some (.int .i64 first) := (World.cell?_of_block (hg4.block x (World.block_lt_of_cell? w3 _ HC3.out.1) (fun e => HG.out.2.2.1 (Option.some.inj e)))).trans HC3.out.1
  have hl4 : x < w4.heap.size := World.block_lt_of_cell? w4 _ c4'
  have hcm : CmpReads Try.prog 61 #[.pointer (some ⟨x, 0, none⟩)] (Value.int .i64) (cmpG first) g 0 F.toArray.size w4 := fun n os dk _ a b =>
    from2_any first a b x _ (by
      unfold sortWorld
      rw [Go.Sort.cell?_grow _ _ _ (by show x < (Go.Sort.putRow _ _ _ _ _).heap.size; rw [Go.Sort.size_putRow]; exact hl4), Go.Sort.cell?_putRow_other _ _ g 0 _ _ (Or.inl HG.out.2.2.1)]
      exact c4')
  have eg2 : ∀ args w, (callFunc 61 args).run Try.prog w = .ok (.enter 61 args) w := enters_of Try.func61 (by kernel_rfl) rfl
  have hSo : Calls Try.prog 60 #[.slice (some ⟨g, 0, none⟩) F.length cap, .func (.func 61) #[] #[.pointer (some ⟨x, 0, none⟩)]] w4 fun e w' => e = .returned (.tuple #[]) ∧ ∃ d' n os, Go.Sort.PermIn 0 F.toArray.size F.toArray d' ∧ Go.Sort.SortedIn (Go.Proofs.ltOf (cmpG first)) 0 F.toArray.size d' ∧ w' = sortWorld (Value.int .i64) w4 g 0 n d' os :=
    Any.slices_SortFunc Try.sort (Value.int .i64) (fun _ => rfl) (cmpG first) (swoG first) 61 _ g 0 cap F.toArray w4 eg2 hcm.lays hH4 (Array.getElem?_eq_some_iff.1 hblk4).1 (by have := HLN.out; simp; omega)
  have HF := Lib.hid (And.intro hF hFl)
  have HB4 := Lib.hid (And.intro hblk4 hsz4)
  have HG4 := Lib.hid hg4
  clear hblk hcap hmax hsize htake hF hFl hw4' hg4 hblk4 htl htake4 htF hcur4 hsz4 hH4 c4' hl4 hcm eg2 hw4
  go_wp2_with fail
  refine hSo.mono ?_
  clear hSo
  rintro e w5 ⟨rfl, d, n5, os, hp5, ho5, hw5⟩
  have hnd : (l.map Pnd.id).Nodup := by rw [← keys_pend]; exact HD.out.nd
  rw [← HF.out.1] at hp5 ho5
  obtain ⟨out, hfrom, hout⟩ := from_list HW.out hnd HPE.out hp5 ho5
  have hdl : d.size = F.length := by have := hp5.1; rw [HF.out.1] at this; simpa using this
  have hol : out.length = F.length := by have := congrArg List.length hout; simp only [List.length_map, Array.length_toList] at this; omega
  have hw5' : w5 = Go.Sort.grow (Go.Sort.putRow (Value.int .i64) (Go.Sort.ahead w4 n5) g 0 d) os := hw5
  have hg5 : w4.grownBy w5 (some g) := by rw [hw5']; exact grownBy_sortedI _
  have hblk5 := heap_sortedI (n := n5) (os := os) d HB4.out.1
  rw [← hw5'] at hblk5
  have htake5 := take_putCellsI cur4 d.toList (by have := HB4.out.2; have := HBK.out.2.1; have := HF.out.2; simp only [Array.length_toList]; omega)
  rw [Array.toArray_toList] at htake5
  have hH5 := holds_of_blockI hblk5 htake5
  have hcell : ∀ j (hj : j < out.length), w5.cell? ⟨g, j, none⟩ = some (.int .i64 out[j].id) := by
    intro j hj
    have h1 := (hH5 j (by simp; omega)).1
    rw [Nat.zero_add] at h1
    rw [h1]
    have e1 : out[j].id = d[j]! := by
      have := congrArg (fun l => l[j]?) hout
      simp only [List.getElem?_map, List.getElem?_eq_getElem hj, Option.map_some, Array.getElem?_toList] at this
      rw [getElem!_pos d j (by omega)]
      rw [Array.getElem?_eq_getElem (by omega)] at this
      exact Option.some.inj this
    rw [e1]
  have hgw : w.heap.size ≤ g := by have := HG.out.1; have := HB2.out.size; omega
  have hB4 : Below w.heap.size w w4 := (HB2.out.trans (HB3.out.mono HB2.out.size)).grown HG4.out (Nat.le_trans HB2.out.size HB3.out.size) (fun k e => by cases e; exact hgw)
  have hB5 : Below w.heap.size w w5 := hB4.grown hg5 hB4.size (fun k e => by cases e; exact hgw)
  have hm5 : MapOf w5 m (pend l) := HM0.out.same (hB5.block m HM0.out.lt)
  have ht5 := (hB5.block t (Array.getElem?_eq_some_iff.1 HT0.out).1).trans HT0.out
  have ct5 : w5.cell? ⟨t, 0, none⟩ = some (.map (some m)) := (cell_of_row _ _ 0 _ _ _ ht5).trans rfl
  rw [← hol]
  have HOUT := Lib.hid (And.intro hfrom (And.intro hcell (And.intro hm5 (And.intro ct5 hB5))))
  have HND := Lib.hid hnd
  have hon : out.length ≤ 1073741824 := by have := HF.out.2; have := HLN.out; omega
  obtain ⟨N, hN⟩ : ∃ N, out.length = N := ⟨_, rfl⟩
  have HN := Lib.hid hN
  rw [hN] at hon ⊢
  clear hnd hp5 ho5 hfrom hout hdl hol hw5 hw5' hg5 hblk5 htake5 hH5 hcell hgw hB4 hB5 hm5 ht5 ct5 hN
  go_wp2_with fail
  go_loopw [8, 10, 24] (fun v8 v10 v24 wr => ∃ (k : Nat) (v : Value), k ≤ N ∧ v8 = v ∧ v24 = .int .i64 k ∧ Below w5.heap.size w5 wr ∧ wr.ownsRow w5.heap.size 59 3 v k (pndRow (out.take k))) (fun v8 v10 v24 _ => N - (intOf v24).toNat)
  case atStart => exact ⟨0, _, Nat.zero_le _, rfl, rfl, Below.refl _ _, by rw [List.take_zero]; exact World.ownsRow_nil _ _ _ _⟩
  case round =>
    obtain ⟨k, v, hk, rfl, rfl, hb, hrow⟩ := hrel
    by_cases hkN : (k : Int) < N
    · have hk' : k < out.length := by rw [HN.out]; omega
      obtain ⟨hfrom, hcell, hm5, ct5, hB5⟩ := HOUT.out
      have hck := hcell k hk'
      have ck : wr.cell? ⟨g, k, none⟩ = some (.int .i64 out[k].id) := (hb.cell (p := ⟨g, k, none⟩) (World.block_lt_of_cell? w5 _ hck)).trans hck
      have ctr : wr.cell? ⟨t, 0, none⟩ = some (.map (some m)) := (hb.cell (p := ⟨t, 0, none⟩) (World.block_lt_of_cell? w5 _ ct5)).trans ct5
      have hmr : MapOf wr m (pend l) := hm5.same (hb.block m hm5.lt)
      have hin : out[k] ∈ l := (List.mem_filter.1 (hfrom.1.subset (List.getElem_mem hk'))).1
      obtain ⟨u, hl, hu⟩ := hmr.get Try.underlying90 (zero_pend wr) (HW.out _ hin).i64
      have hu2 : u = Pnd.val out[k] := by
        rcases hu with hu | ⟨hu, _⟩
        · obtain ⟨p, hp, he⟩ := List.mem_map.1 hu
          have e1 : p.id = out[k].id := congrArg Prod.fst he
          have e2 : p = out[k] := by
            obtain ⟨i, hi, rfl⟩ := List.mem_iff_getElem.1 hp
            obtain ⟨j, hj, hjj⟩ := List.mem_iff_getElem.1 hin
            rw [← hjj] at e1 ⊢
            have := (List.getElem_inj (h₀ := by simpa using hi) (h₁ := by simpa using hj) HND.out).1 (by simpa using e1)
            simp [this]
          rw [← e2]
          exact (congrArg Prod.snd he).symm
        · exact absurd (by rw [keys_pend]; exact List.mem_map.2 ⟨_, hin, rfl⟩) hu
      subst hu2
      unfold Pnd.val at hl
      have htk : pndRow (out.take (k + 1)) = pndRow (out.take k) ++ [.int .i64 out[k].id, .int .i64 out[k].h, .string out[k].tag] := by
        rw [List.take_add_one, List.getElem?_eq_getElem hk', Option.toList_some, pndRow_snoc]
      generalize out[k] = p at ck hl htk
      obtain ⟨pid, ph, ptag⟩ := p
      simp only at ck hl htk
      obtain ⟨i0, hi, hz0, hz1, hz2⟩ := info_parts info_pend
      have HTK := Lib.hid htk
      have HB := Lib.hid hb
      have HR := Lib.hid hrow
      have hbz := hb.size
      clear hfrom hcell hm5 ct5 hB5 hck hmr hin htk hb hrow hu
      go_wp2_with (first
        | (at_builtin; refine wpList_append_own _ rfl (.tmp 28) (.tmp 35) 56 rfl w5.heap.size 59 i0 _ 3 32 Try.underlying56 hi hz0 hz1 hz2 rfl (by decide) _ _ _ rfl (HR.out.alloc _) ⟨wr.heap.size, 0, none⟩ 1 1 [.int .i64 pid, .int .i64 ph, .string ptag] rfl rfl (fun j u hj => cell_of_newrow hj) (by simp [Value.oneCell']) (by unfold maxLen; omega) (by omega) (by simp; omega) ?_; intro v' w6 hown6 hgrow6 hnil6))
      go_roundw
      case rel => exact ⟨k + 1, _, by omega, rfl, by go_num, ((HB.out.alloc hbz _).grown hgrow6 (by have := hbz; simp; omega) (fun j e => (HR.out.lt j e).1)), by rw [HTK.out]; exact hown6⟩
      case measure => simp [intOf]; omega
    · have hkN2 : k = N := by omega
      subst hkN2
      have HB := Lib.hid hb
      have HR := Lib.hid hrow
      clear hb hrow
      go_wp2_with fail
      go_ret
      refine ⟨_, rfl, out, HOUT.out.1, ?_, HOUT.out.2.2.2.2.trans (HB.out.mono HOUT.out.2.2.2.2.size)⟩
      have h1 := HR.out
      rw [List.take_of_length_le (by rw [HN.out]; exact Nat.le_refl _)] at h1
      rw [HN.out]
      exact row_mono9 h1 HOUT.out.2.2.2.2.size
end Go.Proofs.Ytbkimebmoafbnaa

namespace Go.Proofs.Ytbkimebmoafbnaa
open Go.RowKit Go.Maps
set_option linter.unusedVariables false

theorem way_any (w : World) (K : SK) (s : SS) (sending : Bool) (h : SesIn w K s) :
    Calls Try.prog 40 #[.pointer (some ⟨K.b, 0, none⟩), .bool sending] w fun e w' => e = .returned (.pointer (some ⟨if sending then K.tS else K.tA, 0, none⟩)) ∧ w' = w := by
  have c14 : w.cell? ⟨K.b, 14, none⟩ = some (.pointer (some ⟨K.tS, 0, none⟩)) := h.cs 14 _ rfl
  have c15 : w.cell? ⟨K.b, 15, none⟩ = some (.pointer (some ⟨K.tA, 0, none⟩)) := h.cs 15 _ rfl
  clear h
  cases sending
  · go_enter Try.func40, Try.ntmps40
    go_wp2_with fail
    go_ret
    exact ⟨by simp, rfl⟩
  · go_enter Try.func40, Try.ntmps40
    go_wp2_with fail
    go_ret
    exact ⟨by simp, rfl⟩

def SS.way (s : SS) (sending : Bool) : List Pnd := if sending then s.snd else s.arr

theorem range_some (w : World) (K : SK) (s : SS) (sending : Bool) (first last : Int) (h : SesIn w K s) (h1 : Word first) (h2 : Word last) (hg : 0 ≤ gapS first last) (hne : s.way sending ≠ []) (hw : ∀ p ∈ s.way sending, Word p.id) (hlen : (s.way sending).length ≤ 1073741824) :
    Calls Try.prog 21 #[.pointer (some ⟨K.b, 0, none⟩), .bool sending, .int .i64 first, .int .i64 last] w fun e w' => ∃ v out, e = .returned v ∧ FromL (s.way sending) first (gapS first last) out ∧ w'.ownsRow w.heap.size 59 3 v out.length (pndRow out) ∧ Below w.heap.size w w' := by
  have hgp := gap_all first last w
  have hw1 := word_any first w
  have hw2 := word_any last w
  have hwy := way_any w K s sending h
  rw [decide_eq_true h1] at hw1
  rw [decide_eq_true h2] at hw2
  obtain ⟨t, ht⟩ : ∃ t, (if sending then K.tS else K.tA) = t := ⟨_, rfl⟩
  have hf : Calls Try.prog 41 #[.pointer (some ⟨t, 0, none⟩), .int .i64 first, .int .i64 (gapS first last)] w fun e w' => ∃ v out, e = .returned v ∧ FromL (s.way sending) first (gapS first last) out ∧ w'.ownsRow w.heap.size 59 3 v out.length (pndRow out) ∧ Below w.heap.size w w' := by
    cases sending
    · subst ht
      exact from_any w K.tA K.mA s.arr first (gapS first last) h.rowA h.arr hne hw hlen
    · subst ht
      exact from_any w K.tS K.mS s.snd first (gapS first last) h.rowS h.snd hne hw hlen
  rw [ht] at hwy
  obtain ⟨L, hL⟩ : ∃ L, s.way sending = L := ⟨_, rfl⟩
  rw [hL] at hf ⊢
  clear h h1 h2 hne hw hlen ht hL
  generalize gapS first last = many at *
  go_enter Try.func21, Try.ntmps21
  go_wp2_with fail
  refine hgp.mono ?_
  clear hgp
  rintro e w1 ⟨rfl, rfl⟩
  go_wp2_with fail
  refine hw1.mono ?_
  rintro e w1 ⟨rfl, rfl⟩
  go_wp2_with fail
  refine hw2.mono ?_
  rintro e w1 ⟨rfl, rfl⟩
  go_wp2_with fail
  refine hwy.mono ?_
  rintro e w1 ⟨rfl, rfl⟩
  go_wp2_with fail
  refine hf.mono ?_
  clear hf hw1 hw2 hwy
  rintro e w2 ⟨v, out, rfl, h1, h2, h3⟩
  go_wp2_with fail
  go_ret
  first | exact ⟨_, rfl, out, h1, h2, h3⟩ | exact ⟨_, out, rfl, h1, h2, h3⟩

def tagT : ByteArray := ⟨#[116]⟩

theorem live_step {w W W' : World} {K : SK} (hb : Below w.heap.size w W) (hm : SMv K W W') (hB : ∀ j, K.has j → w.heap.size ≤ j) : Below w.heap.size w W' := hb.trans (hm.below hB hb.size)

/-- how the first session stands -/
def s0L : SS := SS.new 5 2 10 1
def s1L : SS := s0L.withPeer 5 2 10 1
def s2L : SS := s1L.addH 0
def s3L : SS := { s2L.put ⟨0, 0, tagT⟩ false with nd := 1 }
theorem deliver_L : deliverS s2L 0 tagT false = (s3L, 0, 0) := by
  unfold deliverS
  rw [if_neg (by decide), if_neg (by decide)]
  rfl
theorem least_L : Least s1L.rem 0 := ⟨fun j hj => absurd hj (by omega), by decide⟩
theorem from_L {out : List Pnd} (h : FromL [⟨0, 0, tagT⟩] 0 0 out) : out = [⟨0, 0, tagT⟩] := by
  have h1 := h.1
  rw [show ([⟨0, 0, tagT⟩] : List Pnd).filter (fun p => !outR 0 0 p.id) = [⟨0, 0, tagT⟩] from rfl] at h1
  exact List.perm_singleton.1 h1

set_option maxRecDepth 20000 in
set_option maxHeartbeats 8000000 in
theorem live_any (w : World) :
    Calls Try.prog 8 #[] w fun e w' => e = .returned (.bool true) ∧ Below w.heap.size w w' := by
  have hF := first_any w
  go_enter Try.func8, Try.ntmps8
  go_wp2_with fail
  refine hF.mono ?_
  clear hF
  rintro e w1 ⟨rfl, hb1⟩
  have HB1 := Lib.hid hb1
  clear hb1
  have hsz : firstC.size = 128 := perf_size ..
  go_upto_region 2 with (refine wpList_store_rowTo rfl 39 (.tmp 1) (.tmp 10) rfl rfl w1.heap.size firstC rfl rfl 39 perfZ (_root_.Go.heap_alloc_new w1 _) (by as_aux_lemma => kernel_rfl) (by as_aux_lemma => kernel_rfl) (by as_aux_lemma => kernel_rfl) ?_)
  have hb2 := below_setRow ((Below.refl w1.heap.size w1).alloc (Nat.le_refl _) (.cells perfZ 39)) (Nat.le_refl _) firstC
  have h2 := setRow_heap (w1.alloc (.cells perfZ 39)) w1.heap.size _ firstC _ _ (_root_.Go.heap_alloc_new w1 _)
  change Code.wp _ _ _ _ ((w1.alloc (.cells perfZ 39)).setRow w1.heap.size firstC)
  generalize ((w1.alloc (.cells perfZ 39)).setRow w1.heap.size firstC) = w2 at *
  obtain ⟨x, hx⟩ : ∃ x, w1.heap.size = x := ⟨_, rfl⟩
  rw [hx] at h2 ⊢
  have HB2 := Lib.hid (HB1.out.trans (hb2.mono HB1.out.size))
  have hn : Calls Try.prog 10 #[.agg firstC] w2 fun e w' => ∃ K : SK, e = .returned (.pointer (some ⟨K.b, 0, none⟩)) ∧ K.B = w2.heap.size ∧ SesIn w' K s0L ∧ Below w2.heap.size w2 w' := snew_ok w2 17 0 0 2 5 10 1 0 0 0 0 false (by decide)
  obtain ⟨F, hF⟩ : ∃ F, firstC = F := ⟨_, rfl⟩
  have HF := Lib.hid hF
  rw [hF] at h2 hn hsz ⊢
  clear hb2 hx hF
  go_wp2_with (refine wpList_load_row rfl 39 (.tmp 1) rfl x rfl 39 F (0, 0) _ h2 Try.underlying39 rfl (by rw [hsz]; as_aux_lemma => kernel_rfl) ?_)
  refine hn.mono ?_
  clear hn
  rintro e w3 ⟨K, rfl, hKB, hS, hb3⟩
  have h3 := (hb3.block x (Array.getElem?_eq_some_iff.1 h2).1).trans h2
  have hlo : ∀ j, K.has j → w.heap.size ≤ j := fun j hj => by have := hS.lo j hj; have := HB2.out.size; omega
  have HLO := Lib.hid hlo
  have HB3 := Lib.hid (HB2.out.trans (hb3.mono HB2.out.size))
  have HS3 := Lib.hid hS
  have hp : Calls Try.prog 18 #[.pointer (some ⟨K.b, 0, none⟩), .agg F] w3 fun e w' => e = .returned (.int .i64 0) ∧ SesIn w' K s1L ∧ SMv K w3 w' := by
    rw [← HF.out]
    exact peer_ok w3 K s0L 0 0 2 5 10 1 0 0 0 0 false hS rfl (by decide)
  clear h2 hb3 hKB hlo hS
  go_wp2_with (refine wpList_load_row rfl 39 (.tmp 1) rfl x rfl 39 F (0, 0) _ h3 Try.underlying39 rfl (by rw [hsz]; as_aux_lemma => kernel_rfl) ?_)
  refine hp.mono ?_
  clear hp h3
  rintro e w4 ⟨rfl, hS4, hm4⟩
  have HB4 := Lib.hid (live_step HB3.out hm4 HLO.out)
  have hr : Calls Try.prog 16 #[.pointer (some ⟨K.b, 0, none⟩)] w4 fun e w' => e = .returned (.int .i64 2) ∧ Below w4.heap.size w4 w' := room_any w4 K s1L hS4
  have HS4 := Lib.hid hS4
  clear hS4 hm4
  go_wp2_with fail
  refine hr.mono ?_
  clear hr
  rintro e w5 ⟨rfl, hb5⟩
  have hS5 := HS4.out.below hb5
  have HB5 := Lib.hid (HB4.out.trans (hb5.mono HB4.out.size))
  have hh : Calls Try.prog 19 #[.pointer (some ⟨K.b, 0, none⟩)] w5 fun e w' => e = .returned (.tuple #[.int .i64 0, .int .i64 0]) ∧ SesIn w' K s2L ∧ SMv K w5 w' := by
    refine (hand_any w5 K s1L 0 hS5 rfl least_L (by decide)).mono fun e w' h => ?_
    rw [if_neg (by decide)] at h
    exact h
  clear hb5 hS5
  go_wp2_with fail
  refine hh.mono ?_
  clear hh
  rintro e w6 ⟨rfl, hS6, hm6⟩
  have HB6 := Lib.hid (live_step HB5.out hm6 HLO.out)
  have hd : Calls Try.prog 31 #[.pointer (some ⟨K.b, 0, none⟩), .int .i64 0, .string ⟨#[116]⟩, .bool false] w6 fun e w' => e = .returned (.tuple #[.int .i64 0, .int .i64 0]) ∧ SesIn w' K s3L ∧ SMv K w6 w' := by
    have := deliver_any w6 K s2L 0 tagT false hS6 (by unfold IsI64; omega) (by decide)
    rw [deliver_L] at this
    exact this
  clear hS6 hm6
  go_wp2_with fail
  refine hd.mono ?_
  clear hd
  rintro e w7 ⟨rfl, hS7, hm7⟩
  have HB7 := Lib.hid (live_step HB6.out hm7 HLO.out)
  have hg := range_some w7 K s3L true 0 0 hS7 (by decide) (by decide) (by decide) (by simp [SS.way, s3L, s2L, s1L, s0L, SS.put, SS.addH, SS.withPeer, SS.new]) (by
    intro p hp
    obtain rfl : p = ⟨0, 0, tagT⟩ := by simpa [SS.way, s3L, s2L, s1L, s0L, SS.put, SS.addH, SS.withPeer, SS.new] using hp
    show Word 0
    decide) (by decide)
  clear hS7 hm7
  go_wp2_with fail
  refine hg.mono ?_
  clear hg
  rintro e w8 ⟨v, out, rfl, hfr, hrow, hb8⟩
  obtain rfl := from_L hfr
  have HB8 := Lib.hid (HB7.out.trans (hb8.mono HB7.out.size))
  obtain ⟨g, cap, c2⟩ : ∃ g cap, v = .slice (some ⟨g, 0, none⟩) 1 cap ∧ 1 ≤ cap ∧ cap ≤ maxLen ∧ w8.cell? ⟨g, 2, none⟩ = some (.string ⟨#[116]⟩) := by
    rcases hrow.2 with ⟨_, h0⟩ | ⟨g, cap, cur, rfl, _, hbk, h1, h2, _, h4⟩
    · simp at h0
    · refine ⟨g, cap, rfl, h1, h2, ?_⟩
      rw [cell_of_row _ _ 2 _ _ _ hbk]
      have h5 : (cur.toList.take 3)[2]? = some (.string tagT) := by
        have h6 : cur.toList.take 3 = pndRow [⟨0, 0, tagT⟩] := h4
        rw [h6]
        rfl
      rw [List.getElem?_take_of_lt (by omega), Array.getElem?_toList] at h5
      exact h5
  obtain ⟨rfl, hc1, hc2, hcell⟩ := c2
  unfold maxLen at hc2
  clear hrow hb8 hfr
  go_wp2_with fail
  go_ret
  exact ⟨by simp, HB8.out⟩
end Go.Proofs.Ytbkimebmoafbnaa
