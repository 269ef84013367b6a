/-
  The stream's New, Expect, Most and All. Conditions: the stream lies in a block of its own; All's chunk lies in memory.
-/
import Derived.Test.YtofdpccjpodbhaaStr8
import Derived.Test.YtofdpccjpodbhaaMg07
import Derived.Handy
namespace Go.Proofs.Ytofdpccjpodbhaa
open Go.RowKit
set_option linter.unusedVariables false

theorem isMost_any (w : World) (m : Int) :
    Calls Try.prog 50 #[.int .i64 m] w fun e w' => e = .returned (.bool (decide (512 ≤ m ∧ m ≤ 1048576))) ∧ w' = w := by
  by_cases h1 : 512 ≤ m
  · by_cases h2 : m ≤ 1048576
    · go_enter Try.func50, Try.ntmps50
      go_wp2_with fail
      go_ret
      exact ⟨by simp <;> omega, rfl⟩
    · go_enter Try.func50, Try.ntmps50
      go_wp2_with fail
      go_ret
      exact ⟨by simp <;> omega, rfl⟩
  · go_enter Try.func50, Try.ntmps50
    go_wp2_with fail
    go_ret
    exact ⟨by simp <;> omega, rfl⟩

/-- a new stream -/
def SM.new (most : Nat) : SM := ⟨0, [], 0, 0, most, 0, true, 0, 0⟩
theorem SM.new_ok (m : Nat) (h : m ≤ 1048576) : Ok (SM.new m) := ⟨h, by simp [SM.new], by simp [SM.new], fun h => rfl, fun _ => by simp [SM.new]⟩

theorem new_bad (w : World) (m : Int) (h : ¬ (512 ≤ m ∧ m ≤ 1048576)) :
    Calls Try.prog 28 #[.int .i64 m] w fun e w' => e = .returned (.pointer none) ∧ w' = w := by
  have hm := isMost_any w m
  rw [decide_eq_false h] at hm
  clear h
  go_enter Try.func28, Try.ntmps28
  go_wp2_with fail
  refine hm.mono ?_
  clear hm
  rintro e w' ⟨rfl, rfl⟩
  go_wp2_with fail
  go_ret
  exact ⟨rfl, rfl⟩

theorem new_ok (w : World) (m : Nat) (h : 512 ≤ m ∧ m ≤ 1048576) :
    Calls Try.prog 28 #[.int .i64 m] w fun e w' => e = .returned (.pointer (some ⟨w.heap.size, 0, none⟩)) ∧ StS w' w.heap.size (w.heap.size + 1) (SM.new m) (.slice none 0 0) ∧ w.grownBy w' none := by
  have hmf : ∀ (fn : Fn) (first cap : Array Value) (w : World), (Instr.makeFunc fn first cap).run Try.prog w = .ok (.func fn first cap) w := fun _ _ _ _ => rfl
  have hm := isMost_any w m
  rw [decide_eq_true (by omega)] at hm
  have H := Lib.hid h
  clear h
  go_enter Try.func28, Try.ntmps28
  go_wp2_with fail
  refine hm.mono ?_
  clear hm
  rintro e w' ⟨rfl, rfl⟩
  go_upto_region 4 with fail
  have s1 : (w'.alloc (.cells #[.nilFunc, .slice none 0 0, .int .i64 0, .int .i64 0, .int .i64 m, .int .i64 0, .bool true, .int .i64 0, .int .i64 0, .int .i64 0, .int .i64 0, .int .i64 0, .int .i64 0, .slice none 0 0, .slice none 0 0] 91)).heap[w'.heap.size]? = some (.cells #[.nilFunc, .slice none 0 0, .int .i64 0, .int .i64 0, .int .i64 m, .int .i64 0, .bool true, .int .i64 0, .int .i64 0, .int .i64 0, .int .i64 0, .int .i64 0, .int .i64 0, .slice none 0 0, .slice none 0 0] 91 (0, 0)) := heap_alloc_new _ _
  have g1 : w'.grownBy (w'.alloc (.cells #[.nilFunc, .slice none 0 0, .int .i64 0, .int .i64 0, .int .i64 m, .int .i64 0, .bool true, .int .i64 0, .int .i64 0, .int .i64 0, .int .i64 0, .int .i64 0, .int .i64 0, .slice none 0 0, .slice none 0 0] 91)) none := grown_alloc _ _ _
  have z1 : (w'.alloc (.cells #[.nilFunc, .slice none 0 0, .int .i64 0, .int .i64 0, .int .i64 m, .int .i64 0, .bool true, .int .i64 0, .int .i64 0, .int .i64 0, .int .i64 0, .int .i64 0, .int .i64 0, .slice none 0 0, .slice none 0 0] 91)).heap.size = w'.heap.size + 1 := by simp
  generalize (w'.alloc (.cells #[.nilFunc, .slice none 0 0, .int .i64 0, .int .i64 0, .int .i64 m, .int .i64 0, .bool true, .int .i64 0, .int .i64 0, .int .i64 0, .int .i64 0, .int .i64 0, .int .i64 0, .slice none 0 0, .slice none 0 0] 91)) = w1 at *
  obtain ⟨b, hb⟩ : ∃ b, w'.heap.size = b := ⟨_, rfl⟩
  rw [hb] at s1 z1 ⊢
  have c0 : w1.cell? ⟨b, 0, none⟩ = some .nilFunc := (cell_of_row _ _ 0 _ _ _ s1).trans rfl
  have fz : w1.frozen? ⟨b, 0, none⟩ = false := by simp [World.frozen?, s1]
  have S1 := Lib.hid s1
  have G1 := Lib.hid g1
  have Z1 := Lib.hid z1
  have HB := Lib.hid hb
  clear s1 g1 z1 hb
  go_wp2_with fail
  go_ret
  have hb := HB.out
  subst hb
  have s2 := heap_setCell_same w1 w'.heap.size 0 _ _ (nextF w'.heap.size (fnOf 0)) S1.out
  have g2 := setCell_grown w1 w'.heap.size 0 (nextF w'.heap.size (fnOf 0))
  refine ⟨rfl, ⟨⟨s2, OwnBytes.nil _ _ _, Nat.lt_succ_self _, Nat.le_trans (Nat.le_of_eq Z1.out.symm) g2.size⟩, SM.new_ok m H.out.2⟩, ?_⟩
  exact ⟨g2.os.trans G1.out.os, g2.tape.trans G1.out.tape, g2.output.trans G1.out.output, Nat.le_trans G1.out.size g2.size, fun k hk _ => (g2.block k (Nat.lt_of_lt_of_le hk G1.out.size) (fun e => by have := Option.some.inj e; omega)).trans (G1.out.block k hk (by simp))⟩

/-- Expect: a header must come -/
def expectR (s : SM) : SM × Int := if s.hdr = true ∨ s.held ≠ [] ∨ s.err ≠ 0 then (s, 4) else ({ s with hdr := true, ph := 0 }, 0)
/-- Most -/
def mostR (s : SM) (m : Int) : SM × Int := if ¬ (512 ≤ m ∧ m ≤ 1048576) then (s, 1) else if s.err ≠ 0 then (s, 4) else ({ s with most := m.toNat }, 0)


theorem StS.cells {w : World} {b B : Nat} {s : SM} {hv : Value} (h : StS w b B s hv) : ∃ p d, hv = .slice p s.held.length d ∧
    w.heap[b]? = some (.cells #[nextF b (fnOf s.ph), .slice p s.held.length d, .int .i64 s.taken, .int .i64 s.at_, .int .i64 s.most, .int .i64 s.size, .bool s.hdr, .int .i64 s.kind, .int .i64 s.err, .int .i64 0, .int .i64 0, .int .i64 0, .int .i64 0, .slice none 0 0, .slice none 0 0] 91 (0, 0)) := by
  obtain ⟨p, d, rfl, _⟩ := h.ins.held.bytes
  exact ⟨p, d, rfl, h.ins.row⟩

theorem Mv.refl (b : Nat) (hv : Value) (W : World) : Mv b hv W hv W := ⟨rfl, rfl, rfl, Nat.le_refl _, fun _ _ _ _ => rfl, .inr (.inl rfl)⟩
theorem Mv.of_grown {b : Nat} {hv : Value} {W W' : World} (h : W.grownBy W' (some b)) : Mv b hv W hv W' := ⟨h.os, h.tape, h.output, h.size, fun k hk hb _ => h.block k hk (fun e => hb (Option.some.inj e)), .inr (.inl rfl)⟩
theorem Mv.trans {b : Nat} {hv hv1 hv2 : Value} {W W1 W2 : World} (h : Mv b hv W hv1 W1) (k : Mv b hv1 W1 hv2 W2) : Mv b hv W hv2 W2 := by
  refine ⟨k.os.trans h.os, k.tape.trans h.tape, k.output.trans h.output, Nat.le_trans h.size k.size, fun j hj hb hn => ?_, ?_⟩
  · rw [k.block j (Nat.lt_of_lt_of_le hj h.size) hb ?_, h.block j hj hb hn]
    intro hq
    rcases h.hv with h1 | h1 | ⟨g, h1, h2⟩
    · rw [h1] at hq; simp at hq
    · exact hn (h1 ▸ hq)
    · rw [h1] at hq
      have : g = j := Option.some.inj hq
      omega
  · rcases k.hv with h1 | h1 | ⟨g, h1, h2⟩
    · exact .inl h1
    · rw [h1]; exact h.hv
    · exact .inr (.inr ⟨g, h1, Nat.le_trans h.size h2⟩)

theorem expect_any (w : World) (b B : Nat) (s : SM) (hv : Value) (hS : StS w b B s hv) :
    Calls Try.prog 36 #[.pointer (some ⟨b, 0, none⟩)] w fun e w' => e = .returned (.int .i64 (expectR s).2) ∧ StS w' b B (expectR s).1 hv ∧ w.grownBy w' (some b) := by
  have hmf : ∀ (fn : Fn) (first cap : Array Value) (w : World), (Instr.makeFunc fn first cap).run Try.prog w = .ok (.func fn first cap) w := fun _ _ _ _ => rfl
  obtain ⟨p, d, rfl, hrow⟩ := hS.cells
  have c0 : w.cell? ⟨b, 0, none⟩ = some (.func (.func (fnOf s.ph)) #[.pointer (some ⟨b, 0, none⟩)] #[]) := (cell_of_row _ _ 0 _ _ _ hrow).trans rfl
  have c1 : w.cell? ⟨b, 1, none⟩ = some (.slice p s.held.length d) := (cell_of_row _ _ 1 _ _ _ hrow).trans rfl
  have c6 : w.cell? ⟨b, 6, none⟩ = some (.bool s.hdr) := (cell_of_row _ _ 6 _ _ _ hrow).trans rfl
  have c8 : w.cell? ⟨b, 8, none⟩ = some (.int .i64 s.err) := (cell_of_row _ _ 8 _ _ _ hrow).trans rfl
  have fz : ∀ k, w.frozen? ⟨b, k, none⟩ = false := fun k => by simp [World.frozen?, hrow]
  have HS := Lib.hid hS
  clear hrow hS
  by_cases h1 : s.hdr = true
  · have hr : Hid (expectR s = (s, 4)) := Lib.hid (by simp [expectR, h1])
    go_enter Try.func36, Try.ntmps36
    go_wp2_with fail
    go_ret
    rw [hr.out]
    exact ⟨rfl, HS.out, World.grownBy.refl _ _⟩
  · have h1' : s.hdr = false := by simpa using h1
    clear h1
    by_cases h2 : s.held = []
    · have h2' : s.held.length = 0 := by rw [h2]; rfl
      have H2 := Lib.hid h2
      clear h2
      by_cases h3 : s.err = 0
      · have hr : Hid (expectR s = ({ s with hdr := true, ph := 0 }, 0)) := Lib.hid (by simp [expectR, h1', H2.out, h3])
        have H3 := Lib.hid h3
        have h3' : (s.err != 0) = false := by simp [h3]
        clear h3
        go_enter Try.func36, Try.ntmps36
        go_wp2_with fail
        go_ret
        rw [hr.out]
        have hst := HS.out
        obtain ⟨p', d', e, hrow⟩ := hst.cells
        cases e
        have s1 := heap_setCell_same w b 6 _ _ (.bool true) hrow
        have s2 := heap_setCell_same _ b 0 _ _ (nextF b (fnOf 0)) s1
        have g2 := grown_trans (setCell_grown w b 6 (.bool true)) (setCell_grown (w.setCell ⟨b, 6, none⟩ (.bool true)) b 0 (nextF b (fnOf 0)))
        refine ⟨rfl, ⟨⟨s2, hst.ins.held.kept g2 (hst.ins.held.off' hst.ins.lt), hst.ins.lt, Nat.le_trans hst.ins.le g2.size⟩, ?_⟩, g2⟩
        exact ⟨hst.ok.most, hst.ok.size, Nat.zero_le _, fun h => absurd H3.out h, fun _ => .inl ⟨rfl, by simp [H2.out]⟩⟩
      · have hr : Hid (expectR s = (s, 4)) := Lib.hid (by simp [expectR, h3])
        have h3' : (s.err != 0) = true := by simpa using h3
        clear h3
        go_enter Try.func36, Try.ntmps36
        go_wp2_with fail
        go_ret
        rw [hr.out]
        exact ⟨rfl, HS.out, World.grownBy.refl _ _⟩
    · have hr : Hid (expectR s = (s, 4)) := Lib.hid (by simp [expectR, h2])
      have h2' : 0 < s.held.length := List.length_pos_iff.2 h2
      clear h2
      go_enter Try.func36, Try.ntmps36
      go_wp2_with fail
      go_ret
      rw [hr.out]
      exact ⟨rfl, HS.out, World.grownBy.refl _ _⟩

theorem most_any (w : World) (b B : Nat) (s : SM) (hv : Value) (m : Int) (hS : StS w b B s hv) :
    Calls Try.prog 37 #[.pointer (some ⟨b, 0, none⟩), .int .i64 m] w fun e w' => e = .returned (.int .i64 (mostR s m).2) ∧ StS w' b B (mostR s m).1 hv ∧ w.grownBy w' (some b) := by
  obtain ⟨p, d, rfl, hrow⟩ := hS.cells
  have c4 : w.cell? ⟨b, 4, none⟩ = some (.int .i64 s.most) := (cell_of_row _ _ 4 _ _ _ hrow).trans rfl
  have c8 : w.cell? ⟨b, 8, none⟩ = some (.int .i64 s.err) := (cell_of_row _ _ 8 _ _ _ hrow).trans rfl
  have fz : ∀ k, w.frozen? ⟨b, k, none⟩ = false := fun k => by simp [World.frozen?, hrow]
  have HS := Lib.hid hS
  clear hrow hS
  have hm := isMost_any w m
  by_cases h1 : 512 ≤ m ∧ m ≤ 1048576
  · rw [decide_eq_true h1] at hm
    by_cases h3 : s.err = 0
    · have hr : Hid (mostR s m = ({ s with most := m.toNat }, 0)) := Lib.hid (by simp [mostR, h1, h3])
      have H3 := Lib.hid h3
      have H1 := Lib.hid h1
      have h3' : (s.err != 0) = false := by simp [h3]
      clear h3 h1
      go_enter Try.func37, Try.ntmps37
      go_wp2_with fail
      refine hm.mono ?_
      clear hm
      rintro e w' ⟨rfl, rfl⟩
      go_wp2_with fail
      go_ret
      rw [hr.out]
      have hst := HS.out
      obtain ⟨p', d', e, hrow⟩ := hst.cells
      cases e
      have s1 := heap_setCell_same w' b 4 _ _ (.int .i64 m) hrow
      have g2 := setCell_grown w' b 4 (.int .i64 m)
      have hmn : ((m.toNat : Nat) : Int) = m := by have := H1.out; omega
      refine ⟨rfl, ⟨⟨?_, hst.ins.held.kept g2 (hst.ins.held.off' hst.ins.lt), hst.ins.lt, Nat.le_trans hst.ins.le g2.size⟩, ?_⟩, g2⟩
      · simp only [hmn]
        exact s1
      · exact ⟨by have := H1.out; simp only; omega, hst.ok.size, hst.ok.ph, hst.ok.bad, hst.ok.len⟩
    · have hr : Hid (mostR s m = (s, 4)) := Lib.hid (by simp [mostR, h1, h3])
      have h3' : (s.err != 0) = true := by simpa using h3
      clear h3 h1
      go_enter Try.func37, Try.ntmps37
      go_wp2_with fail
      refine hm.mono ?_
      clear hm
      rintro e w' ⟨rfl, rfl⟩
      go_wp2_with fail
      go_ret
      rw [hr.out]
      exact ⟨rfl, HS.out, World.grownBy.refl _ _⟩
  · rw [decide_eq_false h1] at hm
    have hr : Hid (mostR s m = (s, 1)) := Lib.hid (by simp only [mostR, if_pos h1])
    clear h1
    go_enter Try.func37, Try.ntmps37
    go_wp2_with fail
    refine hm.mono ?_
    clear hm
    rintro e w' ⟨rfl, rfl⟩
    go_wp2_with fail
    go_ret
    rw [hr.out]
    exact ⟨rfl, HS.out, World.grownBy.refl _ _⟩

/-- what All leaves -/
def AllPost (w : World) (b : Nat) (ch : List UInt8) (e : Ending) (w' : World) : Prop :=
  ∃ gS gC v, e = .returned (.func (.func 60) #[] #[.pointer (some ⟨gS, 0, none⟩), .pointer (some ⟨gC, 0, none⟩)]) ∧
    w.grownBy w' none ∧ w'.cell? ⟨gS, 0, none⟩ = some (.pointer (some ⟨b, 0, none⟩)) ∧ w'.cell? ⟨gC, 0, none⟩ = some v ∧ OwnBytes w' w.heap.size 5 v ch ∧ w.heap.size ≤ gS ∧ w.heap.size ≤ gC ∧ v.ownBlock ≠ some gS ∧ v.ownBlock ≠ some gC

/-- All makes its iterator; the bytes are its own -/
theorem all_any (w : World) (b : Nat) (pa : Option Addr) (n c : Nat) (ch : List UInt8) (hb : BytesIn w pa n c ch) (hn : n ≤ 140737488355328) :
    Calls Try.prog 33 #[.pointer (some ⟨b, 0, none⟩), .slice pa n c] w (AllPost w b ch) := by
  have hmf : ∀ (fn : Fn) (first cap : Array Value) (w : World), (Instr.makeFunc fn first cap).run Try.prog w = .ok (.func fn first cap) w := fun _ _ _ _ => rfl
  have HB := Lib.hid hb
  have hlen : ([] : List UInt8).length + n ≤ 140737488355328 := by simpa using hn
  clear hb
  go_enter Try.func33, Try.ntmps33
  go_wp2_with (at_builtin; refine wpList_append_bytes rfl _ _ 22 rfl (w.heap.size + 1) 5 Try.underlying22 info_u8 (.slice none 0 0) [] ch pa n c rfl rfl (OwnBytes.nil _ _ _) (HB.out.below ((Below.refl w.heap.size w).alloc (Nat.le_refl _) _)) hlen (by simp) ?_)
  intro v' w' ho hg
  rw [show (Value.slice none 0 0).ownBlock = none from rfl] at hg
  have hs0 : w'.cell? ⟨w.heap.size, 0, none⟩ = some (.pointer (some ⟨b, 0, none⟩)) := (World.cell?_of_block (hg.block _ (by simp) (by simp))).trans ((cell_of_row _ _ 0 _ _ _ (heap_alloc_new w _)).trans rfl)
  obtain ⟨p', c', rfl, _⟩ := ho.bytes
  have HO := Lib.hid ho
  have HG := Lib.hid hg
  have HS0 := Lib.hid hs0
  clear ho hg hs0
  go_wp2_with fail
  go_ret
  have hz := HG.out.size
  rw [World.size_alloc] at hz
  have hw : w.grownBy w' none := ⟨HG.out.os, HG.out.tape, HG.out.output, by omega, fun k hk _ => (HG.out.block k (by simp; omega) (by simp)).trans (heap_alloc_old w _ hk)⟩
  have hown : ∀ g, (Value.slice p' ch.length c').ownBlock = some g → w.heap.size + 1 ≤ g ∧ g < w'.heap.size := by
    intro g hq
    rcases HO.out.row.2 with ⟨hz, _⟩ | ⟨g', cap, cur, hz, hgb, hh, _⟩
    · rw [hz] at hq; simp [Value.ownBlock] at hq
    · rw [hz] at hq
      simp only [Value.ownBlock, Option.some.injEq] at hq
      subst hq
      exact ⟨hgb, (Array.getElem?_eq_some_iff.1 hh).1⟩
  refine ⟨w.heap.size, w'.heap.size, _, rfl, grown_trans hw (grown_alloc _ _ _), (World.cell?_of_block (heap_alloc_old w' _ (by show w.heap.size < w'.heap.size; omega))).trans HS0.out, (cell_of_row _ _ 0 _ _ _ (heap_alloc_new w' _)).trans rfl,
    ⟨row_mono5 (HO.out.kept (grown_alloc w' _ (some w'.heap.size)) (.inr fun h => by have := (hown _ h).2; omega)).row (by omega)⟩, Nat.le_refl _, by omega, fun h => by have := (hown _ h).1; omega, fun h => by have := (hown _ h).2; omega⟩
end Go.Proofs.Ytofdpccjpodbhaa
