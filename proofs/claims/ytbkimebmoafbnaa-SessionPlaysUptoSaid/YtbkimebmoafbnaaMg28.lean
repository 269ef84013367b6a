/-
  Steps of the script, as one. Conditions: the sessions and the book lie in memory. (Printed by a program.)
  SessionPlays: the last ranges; a new session and its reference, whatever is said. Conditions: the sessions lie in memory.
  A step that came in: its cells. Plain lemmas over the form's readings. No conditions.
-/
import Derived.Test.YtbkimebmoafbnaaSpG
import Derived.Test.YtbkimebmoafbnaaRows
import Derived.ProofKit
import Derived.OpenShut
import Derived.ChangeArms
namespace Go.Proofs.Ytbkimebmoafbnaa
open Go.RowKit Go.Maps
set_option linter.unusedVariables false
theorem RangeL.one {l : List Pnd} {first last : Int} {u v : List Pnd} (h : RangeL l first last u) (k : RangeL l first last v) : u = v := by
  unfold RangeL at h k
  split at h
  · rename_i q
    rw [if_pos q] at k
    exact h.one k
  · rename_i q
    rw [if_neg q] at k
    rw [h, k]
theorem RangeL.len {l : List Pnd} {first last : Int} {u : List Pnd} (h : RangeL l first last u) : u.length ≤ l.length := by
  unfold RangeL at h
  split at h
  · exact h.len
  · rw [h]; exact Nat.zero_le _
theorem SesIn.ids {w : World} {K : SK} {s : SS} (h : SesIn w K s) (b : Bool) : ((s.way b).map Pnd.id).Nodup := by
  cases b
  · obtain ⟨D, _, hD⟩ := h.arr
    have := hD.nd
    rw [keys_pend] at this
    exact this
  · obtain ⟨D, _, hD⟩ := h.snd
    have := hD.nd
    rw [keys_pend] at this
    exact this
theorem Good.way {i : Nat} {s : SS} {rs : List (Int × Int)} (h : Good i s rs) (b : Bool) : (∀ p ∈ s.way b, Word p.id) ∧ (s.way b).length ≤ i := by
  cases b
  · exact ⟨h.warr, h.larr⟩
  · exact ⟨h.wsnd, h.lsnd⟩

/-- the book has taken a list -/
theorem PW.took {W w0 w3 w4 : World} {own : Nat → Nat} {a b c i : Nat} {S : Sd} {X : Bk} {v : Value} (h : PW w0 own a b c i S X) (hac : c ≠ a) (hbc : c ≠ b) (hb : Below w0.heap.size w0 w3) (hv : ∀ j, v.ownBlock = some j → w0.heap.size ≤ j) (ht : BkTo w3 w4 X.B X.bp X.N X.vl X.vw v X.vs X.us) : StepTo w0 w4 own a b c i S X := by
  obtain ⟨vl', vw', vs', us', Ls', h1, h2, h3, h4⟩ := ht
  have hz := hb.size
  have hkeep : ∀ j, j < w0.heap.size → own j ≠ c → w4.heap[j]? = w0.heap[j]? := fun j hj hn => (h4.block j (by omega) (fun q => by
    rcases q with q | q
    · exact hn (h.bk.own_ j q)
    · have := hv j q; omega)).trans (hb.block j hj)
  refine ⟨upd own w0.heap.size c, S, ⟨X.B, X.bp, X.N + 1, vl', vw', vs', us', Ls'⟩, ⟨⟨?_, ?_, ?_, ?_, h.sd.good.more (Nat.le_succ i)⟩, ⟨h1, fun j hj => ?_, ?_, ?_⟩⟩, rfl, rfl, rfl, fun j hj => upd_lt hj, ⟨h4.os.trans hb.os, h4.tape.trans hb.tape, h4.output.trans hb.output, Nat.le_trans hz h4.size, fun j hj hn => hkeep j hj (fun q => hn (.inr (.inr q)))⟩⟩
  · exact h.sd.ses.keep (fun j hj => hkeep j (h.sd.ses.lt j hj) (by rw [h.sd.ownK j hj]; exact fun q => hac q.symm))
  · exact h.sd.ref.keep (Nat.le_trans hz h4.size) (fun j hj => hkeep j (h.sd.ref.inn.blt j hj) (by rw [h.sd.ownR j hj]; exact fun q => hbc q.symm))
  · exact fun j hj => (upd_lt (h.sd.ses.lt j hj)).trans (h.sd.ownK j hj)
  · exact fun j hj => (upd_lt (h.sd.ref.inn.blt j hj)).trans (h.sd.ownR j hj)
  · rcases h3 j hj with q | q | q
    · exact (upd_lt (h.bk.inn.blt j q).2).trans (h.bk.own_ j q)
    · exact upd_ge (hv j q)
    · exact upd_ge (by omega)
  · have := h.bk.N
    show X.N + 1 ≤ ((i + 1 : Nat) : Int)
    omega
  · have := h.bk.len
    show vs'.length ≤ i + 1
    omega

set_option maxRecDepth 20000 in
set_option maxHeartbeats 8000000 in
theorem step_range (W : World) (own : Nat → Nat) (a b c i : Nat) (S : Sd) (X : Bk) (h : PW W own a b c i S X) (hab : a ≠ b) (hac : c ≠ a) (hbc : c ≠ b) (hi : i ≤ 2000000) (A A2 A3 A4 A5 : Int) (tag : ByteArray) (flag : Bool) (hA : IsI64 A) (hA2 : IsI64 A2) (hA3 : IsI64 A3) (hA4 : IsI64 A4) (hA5 : IsI64 A5) :
    Calls Try.prog 28 #[.pointer (some ⟨X.bp, 0, none⟩), .pointer (some ⟨S.K.b, 0, none⟩), .pointer (some ⟨S.r, 0, none⟩), .agg #[.int .i64 10, .int .i64 A, .int .i64 A2, .int .i64 A3, .int .i64 A4, .int .i64 A5, .string tag, .bool flag]] W fun e w' => e = .returned (.bool true) ∧ StepTo W w' own a b c i S X := by
  go_enter Try.func28, Try.ntmps28
  go_upto_region 1 with fail
  have hb0 : Below W.heap.size W (W.alloc (.cells #[.int .i64 10, .int .i64 A, .int .i64 A2, .int .i64 A3, .int .i64 A4, .int .i64 A5, .string tag, .bool flag] 24)) := (Below.refl _ _).alloc (Nat.le_refl _) _
  have o0 : (W.alloc (.cells #[.int .i64 10, .int .i64 A, .int .i64 A2, .int .i64 A3, .int .i64 A4, .int .i64 A5, .string tag, .bool flag] 24)).heap[W.heap.size]? = some (.cells #[.int .i64 10, .int .i64 A, .int .i64 A2, .int .i64 A3, .int .i64 A4, .int .i64 A5, .string tag, .bool flag] 24 (0, 0)) := _root_.Go.heap_alloc_new _ _
  generalize (W.alloc (.cells #[.int .i64 10, .int .i64 A, .int .i64 A2, .int .i64 A3, .int .i64 A4, .int .i64 A5, .string tag, .bool flag] 24)) = w0 at *
  obtain ⟨x, hx⟩ : ∃ x, W.heap.size = x := ⟨_, rfl⟩
  have hxf : (∀ j, S.K.has j → j ≠ x) ∧ (∀ j, RBlk S.r S.vh S.vr S.vs S.va j → j ≠ x) := ⟨fun j hj e => by have := h.sd.ses.lt j hj; omega, fun j hj e => by have := h.sd.ref.inn.blt j hj; omega⟩
  rw [hx] at o0 ⊢
  have H := Lib.hid (h.below hb0)
  have HB := Lib.hid hb0
  have q0 : w0.cell? ⟨x, 0, none⟩ = some (.int .i64 10) := (cell_of_row _ _ 0 _ _ _ o0).trans rfl
  have HO := Lib.hid (And.intro (Array.getElem?_eq_some_iff.1 o0).1 hxf)
  have HQ : Hid (∀ W' : World, W'.heap[x]? = w0.heap[x]? → W'.cell? ⟨x, 0, none⟩ = some (.int .i64 10) ∧ W'.cell? ⟨x, 1, none⟩ = some (.int .i64 A) ∧ W'.cell? ⟨x, 2, none⟩ = some (.int .i64 A2) ∧ W'.cell? ⟨x, 3, none⟩ = some (.int .i64 A3) ∧ W'.cell? ⟨x, 4, none⟩ = some (.int .i64 A4) ∧ W'.cell? ⟨x, 5, none⟩ = some (.int .i64 A5) ∧ W'.cell? ⟨x, 6, none⟩ = some (.string tag) ∧ W'.cell? ⟨x, 7, none⟩ = some (.bool flag)) := Lib.hid (fun W' e => by
    have o := e.trans o0
    exact ⟨(cell_of_row _ _ 0 _ _ _ o).trans rfl, (cell_of_row _ _ 1 _ _ _ o).trans rfl, (cell_of_row _ _ 2 _ _ _ o).trans rfl, (cell_of_row _ _ 3 _ _ _ o).trans rfl, (cell_of_row _ _ 4 _ _ _ o).trans rfl, (cell_of_row _ _ 5 _ _ _ o).trans rfl, (cell_of_row _ _ 6 _ _ _ o).trans rfl, (cell_of_row _ _ 7 _ _ _ o).trans rfl⟩)
  have HI := Lib.hid (And.intro hi (And.intro hA (And.intro hA2 (And.intro hA3 (And.intro hA4 hA5)))))
  clear h hb0 o0 hx hxf hi hA hA2 hA3 hA4 hA5
  have hgw := H.out.sd.good.way flag
  have h1 := range_any w0 S.K S.s flag A A2 H.out.sd.ses hgw.1 (by have := HI.out.1; omega)
  obtain ⟨p0, q1, q2, q3, q4, q5, q6, q7⟩ := HQ.out w0 rfl
  clear p0
  clear q3 q4 q5 q6 hgw
  go_wp2_with fail
  refine h1.mono ?_
  clear h1
  rintro e w1 ⟨v, out, rfl, i1, i2, hb1⟩
  obtain ⟨p, cp, rfl, k1, k2, k3⟩ := ownsRow_form i2
  unfold maxLen at k2
  have H1 := Lib.hid (H.out.below hb1)
  have HB1 := Lib.hid hb1
  obtain ⟨_, r1, r2, _, _, _, _, r7⟩ := HQ.out w1 (hb1.block x HO.out.1)
  have hgw := H1.out.sd.good.way flag
  have h2 := rrange_any w1 S.r S.B S.s _ S.rs S.vh S.vr S.vs S.va flag A A2 H1.out.sd.ref.inn hgw.1 (H1.out.sd.ses.ids flag) (by have := HI.out.1; omega) HI.out.2.1 HI.out.2.2.1
  obtain ⟨n, hn⟩ : ∃ n, out.length = n := ⟨_, rfl⟩
  have hnl : n ≤ 2000000 := by have := i1.len; have := HI.out.1; omega
  have HN := Lib.hid hn
  have HI1 := Lib.hid (And.intro i1 i2)
  rw [hn] at k1 k3 ⊢
  clear hb1 q1 q2 q7 i1 i2 hn hgw
  go_wp2_with fail
  refine h2.mono ?_
  clear h2
  rintro e w2 ⟨v2, out2, rfl, j1, j2, hb2⟩
  obtain rfl : out2 = out := j1.one HI1.out.1
  obtain ⟨p2, c2, rfl, hrd2, _⟩ := PndRd.of_row j2
  have hrow := ownsRow_keep HI1.out.2 (fun j hj => hb2.block j (HI1.out.2.lt j hj).2)
  have HR2 := Lib.hid hrow
  rw [HN.out] at hrow
  obtain ⟨p3, c3, e3, hrd3, _⟩ := PndRd.of_row HR2.out
  simp only [Value.slice.injEq] at e3
  obtain ⟨rfl, _, rfl⟩ := e3
  have hsp := samep_any w2 p p2 cp c2 out2 n HN.out hrd3 hrd2
  have HB2 := Lib.hid (HB1.out.trans (hb2.mono HB1.out.size))
  rw [HN.out]
  clear hb2 r1 r2 r7 j1 j2 hrd2 hrd3 hrow
  go_wp2_with fail
  refine hsp.mono ?_
  clear hsp
  rintro e w3 ⟨rfl, hb3⟩
  have hrow3 := ownsRow_keep HR2.out (fun j hj => hb3.block j (HR2.out.lt j hj).2)
  have HB3 := Lib.hid (HB2.out.trans (hb3.mono HB2.out.size))
  have H3 := Lib.hid (H.out.below HB3.out)
  have hvb : ∀ j, (Value.slice p n cp).ownBlock = some j → w0.heap.size ≤ j := fun j hj => (HI1.out.2.lt j (by rw [HN.out]; exact hj)).1
  have htk := take_any w3 X.B X.bp X.N X.vl X.vw X.vs X.us X.Ls (.slice p n cp) out2 n HN.out (by omega) (by have := H.out.bk.N; have := HI.out.1; omega) (by have := H.out.bk.len; have := HI.out.1; omega) H3.out.bk.inn (by have := row_mono9 hrow3 H.out.bk.inn.le; rw [HN.out] at this; exact this) (fun j hj q => by have := hvb j hj; have := (H.out.bk.inn.blt j q).2; omega)
  have HV := Lib.hid hvb
  clear hb3 hrow3 hvb
  go_wp2_with fail
  refine htk.mono ?_
  clear htk
  rintro e w4 ⟨rfl, ht⟩
  have HT := Lib.hid ht
  clear ht
  go_wp2_with fail
  go_ret
  exact ⟨rfl, StepTo.behind HB.out (H.out.took (W := W) hac hbc HB3.out HV.out HT.out)⟩

set_option maxRecDepth 20000 in
set_option maxHeartbeats 8000000 in
theorem step_rest (W : World) (own : Nat → Nat) (a b c i : Nat) (S : Sd) (X : Bk) (h : PW W own a b c i S X) (hab : a ≠ b) (hac : c ≠ a) (hbc : c ≠ b) (hi : i ≤ 2000000) (k : Int) (A A2 A3 A4 A5 : Int) (tag : ByteArray) (flag : Bool) (hA : IsI64 A) (hA2 : IsI64 A2) (hA3 : IsI64 A3) (hA4 : IsI64 A4) (hA5 : IsI64 A5) (n8 : k ≠ 8) (n9 : k ≠ 9) (n10 : k ≠ 10) (n11 : k ≠ 11) (n12 : k ≠ 12) (n13 : k ≠ 13) (n14 : k ≠ 14) (n15 : k ≠ 15) :
    Calls Try.prog 28 #[.pointer (some ⟨X.bp, 0, none⟩), .pointer (some ⟨S.K.b, 0, none⟩), .pointer (some ⟨S.r, 0, none⟩), .agg #[.int .i64 k, .int .i64 A, .int .i64 A2, .int .i64 A3, .int .i64 A4, .int .i64 A5, .string tag, .bool flag]] W fun e w' => e = .returned (.bool true) ∧ StepTo W w' own a b c i S X := by
  have m8 : (k == 8) = false := by simpa using n8
  have m9 : (k == 9) = false := by simpa using n9
  have m10 : (k == 10) = false := by simpa using n10
  have m11 : (k == 11) = false := by simpa using n11
  have m12 : (k == 12) = false := by simpa using n12
  have m13 : (k == 13) = false := by simpa using n13
  have m14 : (k == 14) = false := by simpa using n14
  have m15 : (k == 15) = false := by simpa using n15
  clear n8 n9 n10 n11 n12 n13 n14 n15
  go_enter Try.func28, Try.ntmps28
  go_upto_region 1 with fail
  have hb0 : Below W.heap.size W (W.alloc (.cells #[.int .i64 k, .int .i64 A, .int .i64 A2, .int .i64 A3, .int .i64 A4, .int .i64 A5, .string tag, .bool flag] 24)) := (Below.refl _ _).alloc (Nat.le_refl _) _
  have o0 : (W.alloc (.cells #[.int .i64 k, .int .i64 A, .int .i64 A2, .int .i64 A3, .int .i64 A4, .int .i64 A5, .string tag, .bool flag] 24)).heap[W.heap.size]? = some (.cells #[.int .i64 k, .int .i64 A, .int .i64 A2, .int .i64 A3, .int .i64 A4, .int .i64 A5, .string tag, .bool flag] 24 (0, 0)) := _root_.Go.heap_alloc_new _ _
  generalize (W.alloc (.cells #[.int .i64 k, .int .i64 A, .int .i64 A2, .int .i64 A3, .int .i64 A4, .int .i64 A5, .string tag, .bool flag] 24)) = w0 at *
  obtain ⟨x, hx⟩ : ∃ x, W.heap.size = x := ⟨_, rfl⟩
  have hxf : (∀ j, S.K.has j → j ≠ x) ∧ (∀ j, RBlk S.r S.vh S.vr S.vs S.va j → j ≠ x) := ⟨fun j hj e => by have := h.sd.ses.lt j hj; omega, fun j hj e => by have := h.sd.ref.inn.blt j hj; omega⟩
  rw [hx] at o0 ⊢
  have H := Lib.hid (h.below hb0)
  have HB := Lib.hid hb0
  have q0 : w0.cell? ⟨x, 0, none⟩ = some (.int .i64 k) := (cell_of_row _ _ 0 _ _ _ o0).trans rfl
  have HO := Lib.hid (And.intro (Array.getElem?_eq_some_iff.1 o0).1 hxf)
  have HQ : Hid (∀ W' : World, W'.heap[x]? = w0.heap[x]? → W'.cell? ⟨x, 0, none⟩ = some (.int .i64 k) ∧ W'.cell? ⟨x, 1, none⟩ = some (.int .i64 A) ∧ W'.cell? ⟨x, 2, none⟩ = some (.int .i64 A2) ∧ W'.cell? ⟨x, 3, none⟩ = some (.int .i64 A3) ∧ W'.cell? ⟨x, 4, none⟩ = some (.int .i64 A4) ∧ W'.cell? ⟨x, 5, none⟩ = some (.int .i64 A5) ∧ W'.cell? ⟨x, 6, none⟩ = some (.string tag) ∧ W'.cell? ⟨x, 7, none⟩ = some (.bool flag)) := Lib.hid (fun W' e => by
    have o := e.trans o0
    exact ⟨(cell_of_row _ _ 0 _ _ _ o).trans rfl, (cell_of_row _ _ 1 _ _ _ o).trans rfl, (cell_of_row _ _ 2 _ _ _ o).trans rfl, (cell_of_row _ _ 3 _ _ _ o).trans rfl, (cell_of_row _ _ 4 _ _ _ o).trans rfl, (cell_of_row _ _ 5 _ _ _ o).trans rfl, (cell_of_row _ _ 6 _ _ _ o).trans rfl, (cell_of_row _ _ 7 _ _ _ o).trans rfl⟩)
  have HI := Lib.hid (And.intro hi (And.intro hA (And.intro hA2 (And.intro hA3 (And.intro hA4 hA5)))))
  clear h hb0 o0 hx hxf hi hA hA2 hA3 hA4 hA5
  have hwn := win_step_any w0 own a b c i S X H.out hab hac hbc HI.out.1 k A A2 A3 A4 A5 tag flag HI.out.2.1 HI.out.2.2.1 HI.out.2.2.2.1 HI.out.2.2.2.2.1 HI.out.2.2.2.2.2
  obtain ⟨p0, q1, q2, q3, q4, q5, q6, q7⟩ := HQ.out w0 rfl
  clear p0
  go_wp2_with fail
  refine hwn.mono ?_
  clear hwn
  rintro e w1 ⟨rfl, ht⟩
  have HT := Lib.hid ht
  clear ht
  go_wp2_with fail
  go_ret
  exact ⟨rfl, StepTo.behind HB.out HT.out⟩

set_option maxRecDepth 20000 in
set_option maxHeartbeats 8000000 in
theorem step_any (W : World) (own : Nat → Nat) (a b c i : Nat) (S : Sd) (X : Bk) (h : PW W own a b c i S X) (hab : a ≠ b) (hac : c ≠ a) (hbc : c ≠ b) (hi : i ≤ 2000000) (k : Int) (A A2 A3 A4 A5 : Int) (tag : ByteArray) (flag : Bool) (hA : IsI64 A) (hA2 : IsI64 A2) (hA3 : IsI64 A3) (hA4 : IsI64 A4) (hA5 : IsI64 A5) :
    Calls Try.prog 28 #[.pointer (some ⟨X.bp, 0, none⟩), .pointer (some ⟨S.K.b, 0, none⟩), .pointer (some ⟨S.r, 0, none⟩), .agg #[.int .i64 k, .int .i64 A, .int .i64 A2, .int .i64 A3, .int .i64 A4, .int .i64 A5, .string tag, .bool flag]] W fun e w' => e = .returned (.bool true) ∧ StepTo W w' own a b c i S X := by
  by_cases e8 : k = 8
  · subst e8; exact step_deliver W own a b c i S X h hab hac hbc hi A A2 A3 A4 A5 tag flag hA hA2 hA3 hA4 hA5
  by_cases e9 : k = 9
  · subst e9; exact step_arrive W own a b c i S X h hab hac hbc hi A A2 A3 A4 A5 tag flag hA hA2 hA3 hA4 hA5
  by_cases e10 : k = 10
  · subst e10; exact step_range W own a b c i S X h hab hac hbc hi A A2 A3 A4 A5 tag flag hA hA2 hA3 hA4 hA5
  by_cases e11 : k = 11
  · subst e11; exact step_forget W own a b c i S X h hab hac hbc hi A A2 A3 A4 A5 tag flag hA hA2 hA3 hA4 hA5
  by_cases e12 : k = 12
  · subst e12; exact step_handle W own a b c i S X h hab hac hbc hi A A2 A3 A4 A5 tag flag hA hA2 hA3 hA4 hA5
  by_cases e13 : k = 13
  · subst e13; exact step_free W own a b c i S X h hab hac hbc hi A A2 A3 A4 A5 tag flag hA hA2 hA3 hA4 hA5
  by_cases e14 : k = 14
  · subst e14; exact step_remote W own a b c i S X h hab hac hbc hi A A2 A3 A4 A5 tag flag hA hA2 hA3 hA4 hA5
  by_cases e15 : k = 15
  · subst e15; exact step_local W own a b c i S X h hab hac hbc hi A A2 A3 A4 A5 tag flag hA hA2 hA3 hA4 hA5
  exact step_rest W own a b c i S X h hab hac hbc hi k A A2 A3 A4 A5 tag flag hA hA2 hA3 hA4 hA5 e8 e9 e10 e11 e12 e13 e14 e15

end Go.Proofs.Ytbkimebmoafbnaa

namespace Go.Proofs.Ytbkimebmoafbnaa
open Go.RowKit Go.Maps
set_option linter.unusedVariables false

set_option maxRecDepth 20000 in
set_option maxHeartbeats 8000000 in
theorem ranges_any (w : World) (own : Nat → Nat) (a b i : Nat) (S : Sd) (h : S.In w own a b i) (hi : i ≤ 2000000) :
    Calls Try.prog 30 #[.pointer (some ⟨S.K.b, 0, none⟩), .pointer (some ⟨S.r, 0, none⟩)] w fun e w' => e = .returned (.bool true) ∧ Below w.heap.size w w' := by
  have H := Lib.hid h
  have HI := Lib.hid hi
  clear h hi
  go_enter Try.func30, Try.ntmps30
  go_wp2_with fail
  go_loopw [5] (fun v5 wr => ∃ k : Nat, k ≤ 4 ∧ v5 = .int .i64 k ∧ Below w.heap.size w wr) (fun v5 _ => 4 - (intOf v5).toNat)
  case atStart => exact ⟨0, by omega, rfl, Below.refl _ _⟩
  case round =>
    obtain ⟨k, hk, rfl, hb⟩ := hrel
    by_cases hk4 : (k : Int) < 4
    · have HB := Lib.hid hb
      have H1 := Lib.hid (H.out.below hb)
      clear hb
      obtain ⟨f, hf⟩ : ∃ f : Int, (k : Int) % 2 * 2147483648 = f := ⟨_, rfl⟩
      have hf0 : 0 ≤ f ∧ f ≤ 2147483648 := by omega
      have hm0 : 0 ≤ (k : Int) % 2 ∧ (k : Int) % 2 ≤ 1 := by omega
      have hfi : IsI64 f ∧ IsI64 (f + 2147483647) := ⟨⟨by omega, by omega⟩, ⟨by omega, by omega⟩⟩
      have HFI := Lib.hid hfi
      obtain ⟨f0, f1⟩ := hf0
      obtain ⟨m0, m1⟩ := hm0
      clear hfi
      obtain ⟨fl, hfl⟩ : ∃ fl, decide ((k : Int) < 2) = fl := ⟨_, rfl⟩
      have hgw := H1.out.good.way fl
      have h1 := range_any wr S.K S.s fl f (f + 2147483647) H1.out.ses hgw.1 (by have := HI.out; omega)
      clear hgw
      go_wp2_with fail
      refine h1.mono ?_
      clear h1
      rintro e w1 ⟨v, out, rfl, i1, i2, hb1⟩
      obtain ⟨p, cp, rfl, k1, k2, k3⟩ := ownsRow_form i2
      unfold maxLen at k2
      have H2 := Lib.hid (H1.out.below hb1)
      have HB1 := Lib.hid (HB.out.trans (hb1.mono HB.out.size))
      have hgw := H2.out.good.way fl
      have h2 := rrange_any w1 S.r S.B S.s _ S.rs S.vh S.vr S.vs S.va fl f (f + 2147483647) H2.out.ref.inn hgw.1 (H2.out.ses.ids fl) (by have := HI.out; omega) HFI.out.1 HFI.out.2
      obtain ⟨n, hn⟩ : ∃ n, out.length = n := ⟨_, rfl⟩
      have HN := Lib.hid hn
      have HI1 := Lib.hid (And.intro i1 i2)
      rw [hn] at k1 k3 ⊢
      clear hb1 i1 i2 hn hgw
      go_wp2_with fail
      refine h2.mono ?_
      clear h2
      rintro e w2 ⟨v2, out2, rfl, j1, j2, hb2⟩
      obtain rfl : out2 = out := j1.one HI1.out.1
      obtain ⟨p2, c2, rfl, hrd2, _⟩ := PndRd.of_row j2
      have hrow := ownsRow_keep HI1.out.2 (fun j hj => hb2.block j (HI1.out.2.lt j hj).2)
      have HR2 := Lib.hid hrow
      obtain ⟨p3, c3, e3, hrd3, _⟩ := PndRd.of_row HR2.out
      rw [HN.out] at e3
      simp only [Value.slice.injEq, true_and] at e3
      obtain ⟨rfl, rfl⟩ := e3
      have hsp := samep_any w2 p p2 cp c2 out2 n HN.out hrd3 hrd2
      have HB2 := Lib.hid (HB1.out.trans (hb2.mono HB1.out.size))
      rw [HN.out]
      clear hb2 j1 j2 hrd2 hrd3 hrow
      go_wp2_with fail
      refine hsp.mono ?_
      clear hsp
      rintro e w3 ⟨rfl, hb3⟩
      have HB3 := Lib.hid (HB2.out.trans (hb3.mono HB2.out.size))
      clear hb3
      go_wp2_with fail
      go_roundw
      case rel => exact ⟨k + 1, by omega, by go_num, HB3.out⟩
      case measure => simp [intOf]; omega
    · have HB := Lib.hid hb
      clear hb
      go_wp2_with fail
      go_ret
      exact ⟨rfl, HB.out⟩

/-- a new session, whatever is said -/
theorem snew_all (a b c d e : Int) (W : World) : Calls Try.prog 10 #[.agg (beginC a b c d e)] W fun en w' => ∃ v, en = .returned v ∧ Below W.heap.size W w' ∧ ((BeginOk (if e = 0 then 17 else e) a b c d ∧ ∃ K : SK, v = .pointer (some ⟨K.b, 0, none⟩) ∧ K.B = W.heap.size ∧ SesIn w' K (SS.new a b c d)) ∨ (¬ BeginOk (if e = 0 then 17 else e) a b c d ∧ v = .pointer none)) := by
  by_cases hok : BeginOk (if e = 0 then 17 else e) a b c d
  · refine (snew_ok W _ _ _ _ _ _ _ _ _ _ _ _ hok).mono ?_
    rintro en w' ⟨K, rfl, h1, h2, h3⟩
    exact ⟨_, rfl, h3, .inl ⟨hok, K, rfl, h1, h2⟩⟩
  · refine (snew_bad W _ _ _ _ _ _ _ _ _ _ _ _ hok).mono ?_
    rintro en w' ⟨rfl, h3⟩
    exact ⟨_, rfl, h3, .inr ⟨hok, rfl⟩⟩
theorem rnew_all (a b c d e : Int) (W : World) : Calls Try.prog 11 #[.agg (beginC a b c d e)] W fun en w' => ∃ v, en = .returned v ∧ Below W.heap.size W w' ∧ ((BeginOk (if e = 0 then 17 else e) a b c d ∧ ∃ r, v = .pointer (some ⟨r, 0, none⟩) ∧ W.heap.size ≤ r ∧ RIn w' r (r + 1) (SS.new a b c d) [] [] (.slice none 0 0) (.slice none 0 0) (.slice none 0 0) (.slice none 0 0)) ∨ (¬ BeginOk (if e = 0 then 17 else e) a b c d ∧ v = .pointer none)) := by
  by_cases hok : BeginOk (if e = 0 then 17 else e) a b c d
  · refine (rnew_ok W _ _ _ _ _ _ _ _ _ _ _ _ hok).mono ?_
    rintro en w' ⟨r, rfl, h1, h2, h3⟩
    exact ⟨_, rfl, h3, .inl ⟨hok, r, rfl, h1, h2⟩⟩
  · refine (rnew_bad W _ _ _ _ _ _ _ _ _ _ _ _ hok).mono ?_
    rintro en w' ⟨rfl, h3⟩
    exact ⟨_, rfl, h3, .inr ⟨hok, rfl⟩⟩

theorem Good.new (no iw ow hm : Int) : Good 0 (SS.new no iw ow hm) [] := ⟨fun a b => by simp [SS.new], fun p hp => by simp [SS.new] at hp, by simp [SS.new], Nat.le_refl _, Nat.le_refl _, Nat.le_refl _, fun p hp => by simp [SS.new] at hp, fun p hp => by simp [SS.new] at hp⟩

/-- who owns what at the start -/
def own0 (s1 s2 s3 s4 s5 : Nat) (j : Nat) : Nat := if j < s1 then 0 else if j < s2 then 1 else if j < s3 then 2 else if j < s4 then 3 else if j < s5 then 4 else 5
theorem own0_0 {s1 s2 s3 s4 s5 j : Nat} (h : j < s1) : own0 s1 s2 s3 s4 s5 j = 0 := by unfold own0; rw [if_pos h]
theorem own0_1 {s1 s2 s3 s4 s5 j : Nat} (h : s1 ≤ j ∧ j < s2) : own0 s1 s2 s3 s4 s5 j = 1 := by unfold own0; rw [if_neg (by omega), if_pos h.2]
theorem own0_2 {s1 s2 s3 s4 s5 j : Nat} (h1 : s1 ≤ s2) (h : s2 ≤ j ∧ j < s3) : own0 s1 s2 s3 s4 s5 j = 2 := by unfold own0; rw [if_neg (by omega), if_neg (by omega), if_pos h.2]
theorem own0_3 {s1 s2 s3 s4 s5 j : Nat} (h1 : s1 ≤ s2) (h2 : s2 ≤ s3) (h : s3 ≤ j ∧ j < s4) : own0 s1 s2 s3 s4 s5 j = 3 := by unfold own0; rw [if_neg (by omega), if_neg (by omega), if_neg (by omega), if_pos h.2]
theorem own0_4 {s1 s2 s3 s4 s5 j : Nat} (h1 : s1 ≤ s2) (h2 : s2 ≤ s3) (h3 : s3 ≤ s4) (h : s4 ≤ j ∧ j < s5) : own0 s1 s2 s3 s4 s5 j = 4 := by unfold own0; rw [if_neg (by omega), if_neg (by omega), if_neg (by omega), if_neg (by omega), if_pos h.2]
theorem own0_5 {s1 s2 s3 s4 s5 j : Nat} (h1 : s1 ≤ s2) (h2 : s2 ≤ s3) (h3 : s3 ≤ s4) (h4 : s4 ≤ s5) (h : s5 ≤ j) : own0 s1 s2 s3 s4 s5 j = 5 := by unfold own0; rw [if_neg (by omega), if_neg (by omega), if_neg (by omega), if_neg (by omega), if_neg (by omega)]

theorem Sd.In.new {W : World} {own : Nat → Nat} {a b : Nat} {K : SK} {r : Nat} {no iw ow hm : Int} (h1 : SesIn W K (SS.new no iw ow hm)) (h2 : RIn W r (r + 1) (SS.new no iw ow hm) [] [] (.slice none 0 0) (.slice none 0 0) (.slice none 0 0) (.slice none 0 0)) (hK : ∀ j, K.has j → own j = a) (hr : own r = b) :
    Sd.In ⟨K, r, r + 1, SS.new no iw ow hm, [], .slice none 0 0, .slice none 0 0, .slice none 0 0, .slice none 0 0⟩ W own a b 0 :=
  ⟨h1, ⟨h2, (fun j hj => by cases hj)⟩, hK, (fun j hj => by
    rcases hj with rfl | q | q | q | q
    · exact hr
    all_goals cases q), Good.new no iw ow hm⟩
theorem Bk.In.new {W : World} {own : Nat → Nat} {c bp : Nat} (h : W.heap[bp]? = some (.cells #[.int .i64 0, .slice none 0 0, .slice none 0 0] 76 (0, 0))) (hc : own bp = c) : Bk.In ⟨bp, bp, 0, .slice none 0 0, .slice none 0 0, [], [], []⟩ W own c 0 :=
  ⟨⟨h, World.ownsRow_nil _ _ _ _, World.ownsRow_nil _ _ _ _, rfl, rfl, (fun j hj => absurd hj (Nat.not_lt_zero _)), (fun i j hi => absurd hi (Nat.not_lt_zero _)), (fun j hj => by cases hj), Nat.le_of_lt (Array.getElem?_eq_some_iff.1 h).1, Nat.le_refl _, Int.le_refl 0⟩, (fun j hj => by
    rcases hj with rfl | q | q | ⟨v, hv, _⟩ | ⟨v, hv, _⟩
    · exact hc
    · cases q
    · cases q
    · cases hv
    · cases hv), (by show (0 : Int) ≤ ((0 : Nat) : Int); omega), Nat.le_refl _⟩
end Go.Proofs.Ytbkimebmoafbnaa

namespace Go.Proofs.Ytbkimebmoafbnaa
open Go.RowKit Go.ChangeShapes Go.WideShapes Go.ChangeAt
set_option linter.unusedVariables false

theorem vlist8 {l : List Value} (h : l.length = 8) : ∃ a b c d e f g i, l = [a, b, c, d, e, f, g, i] := by
  match l, h with
  | [a, b, c, d, e, f, g, i], _ => exact ⟨a, b, c, d, e, f, g, i, rfl⟩

theorem op13_open {H : Type} {enc : TypeId × Value → H} {w : World} {fuel : Nat} {x : DataW H × List MemPlace} {cs : List Value} (h : DataW.trod enc Try.prog w 0 (fun _ => true) true fuel 24 cs = some x) :
    ∃ (k a b c d e : Int) (tag : ByteArray) (flag : Bool), cs = [.int .i64 k, .int .i64 a, .int .i64 b, .int .i64 c, .int .i64 d, .int .i64 e, .string tag, .bool flag] ∧ (Lit.int .i64 a).wf = true ∧ (Lit.int .i64 b).wf = true ∧ (Lit.int .i64 c).wf = true ∧ (Lit.int .i64 d).wf = true ∧ (Lit.int .i64 e).wf = true := by
  obtain ⟨xs, n, _, rfl, hl, hlen, hf⟩ := DataW.trod_struct Try.underlying24 h
  have hc8 : Try.prog.cellsOf 24 = 8 := by kernel_rfl
  rw [hc8] at hl
  obtain ⟨v0, v1, v2, v3, v4, v5, v6, v7, rfl⟩ := vlist8 hl
  have ci : Try.prog.cellsOf 3 = 1 := by kernel_rfl
  have cs : Try.prog.cellsOf 9 = 1 := by kernel_rfl
  have cb : Try.prog.cellsOf 4 = 1 := by kernel_rfl
  match xs, hlen with
  | [y0, y1, y2, y3, y4, y5, y6, y7], _ =>
    have h0 : DataW.trod enc Try.prog w 0 (fun _ => true) true n 3 [v0] = some y0 := by simpa [ci] using hf 0 _ rfl
    have h1 : DataW.trod enc Try.prog w 0 (fun _ => true) true n 3 [v1] = some y1 := by simpa [ci] using hf 1 _ rfl
    have h2 : DataW.trod enc Try.prog w 0 (fun _ => true) true n 3 [v2] = some y2 := by simpa [ci] using hf 2 _ rfl
    have h3 : DataW.trod enc Try.prog w 0 (fun _ => true) true n 3 [v3] = some y3 := by simpa [ci] using hf 3 _ rfl
    have h4 : DataW.trod enc Try.prog w 0 (fun _ => true) true n 3 [v4] = some y4 := by simpa [ci] using hf 4 _ rfl
    have h5 : DataW.trod enc Try.prog w 0 (fun _ => true) true n 3 [v5] = some y5 := by simpa [ci] using hf 5 _ rfl
    have h6 : DataW.trod enc Try.prog w 0 (fun _ => true) true n 9 [v6] = some y6 := by simpa [cs] using hf 6 _ rfl
    have h7 : DataW.trod enc Try.prog w 0 (fun _ => true) true n 4 [v7] = some y7 := by simpa [cb] using hf 7 _ rfl
    obtain ⟨k, e0, _, w0⟩ := DataW.trod_int Try.underlying3 h0
    obtain ⟨a, e1, _, w1⟩ := DataW.trod_int Try.underlying3 h1
    obtain ⟨b, e2, _, w2⟩ := DataW.trod_int Try.underlying3 h2
    obtain ⟨c, e3, _, w3⟩ := DataW.trod_int Try.underlying3 h3
    obtain ⟨d, e4, _, w4⟩ := DataW.trod_int Try.underlying3 h4
    obtain ⟨e, e5, _, w5⟩ := DataW.trod_int Try.underlying3 h5
    obtain ⟨tag, e6, _⟩ := DataW.trod_string Try.underlying9 h6
    obtain ⟨flag, e7, _⟩ := DataW.trod_bool Try.underlying4 h7
    simp only [List.cons.injEq, and_true] at e0 e1 e2 e3 e4 e5 e6 e7
    subst e0 e1 e2 e3 e4 e5 e6 e7
    exact ⟨k, a, b, c, d, e, tag, flag, rfl, w1, w2, w3, w4, w5⟩
end Go.Proofs.Ytbkimebmoafbnaa
