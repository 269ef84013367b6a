/-
  The reference's stream: proto, frame. Conditions: it lies in a block of its own.
  Plain law: the stream's machine and the reference's answer alike to a byte. It speaks of no program. No conditions.
-/
import Derived.Test.YtofdpccjpodbhaaMg21
import Derived.Test.YtofdpccjpodbhaaStr9
import Derived.Test.YtofdpccjpodbhaaMg09
namespace Go.Proofs.Ytofdpccjpodbhaa
open Go.RowKit
set_option linter.unusedVariables false

theorem results_cell_tmp {P : Program} {fn : Func} {p q : Tmp} {ty : TypeId} (h : fn.results = #[.cell p ty, .tmp q]) (tmps : Array Value) (w : World) (g : Nat) (t : TypeId) (cs : Array Value) (fr : Nat × Nat) (d : TypeDesc) (v : Value)
    (hp : tmps.getD p undef = .pointer (some ⟨g, 0, none⟩)) (hq : tmps.getD q undef = v) (hg : w.heap[g]? = some (.cells cs t fr))
    (hu : P.underlying ty = some d) (hd : (match d with | .struct _ | .array _ _ => true | _ => false) = true) (hi : (P.info? ty).map (·.size) = some cs.size) :
    (results fn tmps).run P w = .ok (.tuple #[.agg cs, v]) w := by
  have hp' : tmps[p]?.getD undef = .pointer (some ⟨g, 0, none⟩) := by simpa using hp
  have hq' : tmps[q]?.getD undef = v := by simpa using hq
  simp [results, h, hp', hq', asAddr, run_loadVar_row w g t ty cs fr d hg hu hd hi]

/-- no item -/
def noItV : Value := .agg #[.int .i64 0, .int .i64 0, .int .i64 0, .int .i64 0, .slice none 0 0, .slice none 0 0]

theorem rproto_no (w : World) (r : Nat) (mo fr tk at_ er : Value) (p : Option Addr) (n c : Nat) (k0 : Int) (h0 : Bool) (l : List UInt8) (hs : w.heap[r]? = some (.cells #[mo, fr, .slice p n c, tk, at_, .bool h0, .int .i64 k0, er] 93 (0, 0))) (hb : BytesIn w p n c l) (hz : n ≤ 140737488355328) (r1 r2 r3 : Int) (hr : readH l 0 = (r1, r2, r3)) (h3 : r3 ≠ 0) :
    Calls Try.prog 74 #[.pointer (some ⟨r, 0, none⟩)] w fun e w' => e = .returned (.tuple #[noItV, .int .i64 (if r3 = 10 then 0 else r3)]) ∧ Below w.heap.size w w' := by
  unfold noItV
  have c2 : w.cell? ⟨r, 2, none⟩ = some (.slice p n c) := (cell_of_row _ _ 2 _ _ _ hs).trans rfl
  have hrl := (Array.getElem?_eq_some_iff.1 hs).1
  go_enter Try.func74, Try.ntmps74
  go_upto_region 1 with fail
  have hb1 : Below w.heap.size w (w.alloc (.cells #[.int .i64 0, .int .i64 0, .int .i64 0, .int .i64 0, .slice none 0 0, .slice none 0 0] 71)) := (Below.refl _ w).alloc (Nat.le_refl _) _
  have a1 : (w.alloc (.cells #[.int .i64 0, .int .i64 0, .int .i64 0, .int .i64 0, .slice none 0 0, .slice none 0 0] 71)).heap[w.heap.size]? = some (.cells #[.int .i64 0, .int .i64 0, .int .i64 0, .int .i64 0, .slice none 0 0, .slice none 0 0] 71 (0, 0)) := heap_alloc_new _ _
  have y1 := hb.below hb1
  have c2' : (w.alloc (.cells #[.int .i64 0, .int .i64 0, .int .i64 0, .int .i64 0, .slice none 0 0, .slice none 0 0] 71)).cell? ⟨r, 2, none⟩ = some (.slice p n c) := (World.cell?_of_block (heap_alloc_old w _ hrl)).trans c2
  generalize (w.alloc (.cells #[.int .i64 0, .int .i64 0, .int .i64 0, .int .i64 0, .slice none 0 0, .slice none 0 0] 71)) = w1 at *
  have hcl := rread_any w1 p n c l 0 y1 hz
  rw [hr] at hcl
  clear c2 hs hb hr y1
  go_wp2_with fail
  refine hcl.mono ?_
  clear hcl c2'
  rintro e w2 ⟨rfl, hb2⟩
  have h12 := hb1.size
  have a2 : w2.heap[w.heap.size]? = some (.cells #[.int .i64 0, .int .i64 0, .int .i64 0, .int .i64 0, .slice none 0 0, .slice none 0 0] 71 (0, 0)) := (hb2.block w.heap.size (Array.getElem?_eq_some_iff.1 a1).1).trans a1
  have HB := Lib.hid (hb1.trans (hb2.mono h12))
  clear hb1 hb2 a1
  obtain ⟨x, hx⟩ : ∃ x, w.heap.size = x := ⟨_, rfl⟩
  rw [hx] at a2 HB ⊢
  by_cases h10 : r3 = 10
  · subst h10
    go_wp2_with (refine wpList_store_row rfl 71 (.tmp 2) _ rfl x _ rfl rfl 71 _ a2 (by as_aux_lemma => kernel_rfl) (by as_aux_lemma => kernel_rfl) (by as_aux_lemma => kernel_rfl) ?_)
    have hh := setRow_heap w2 x _ #[.int .i64 0, .int .i64 0, .int .i64 0, .int .i64 0, .slice none 0 0, .slice none 0 0] _ _ a2
    refine bodyPost_ret (results_cell_tmp rfl _ _ x _ _ _ _ (.int .i64 0) rfl rfl hh Try.underlying71 rfl (by kernel_rfl)) rfl ?_
    exact ⟨by simp, below_setRow HB.out (Nat.le_refl _) _⟩
  · have t1 : (r3 == 10) = false := by simpa using h10
    have t2 : (r3 != 0) = true := by simpa using h3
    have H10 := Lib.hid h10
    clear h10 h3
    go_wp2_with (refine wpList_store_row rfl 71 (.tmp 2) _ rfl x _ rfl rfl 71 _ a2 (by as_aux_lemma => kernel_rfl) (by as_aux_lemma => kernel_rfl) (by as_aux_lemma => kernel_rfl) ?_)
    have hh := setRow_heap w2 x _ #[.int .i64 0, .int .i64 0, .int .i64 0, .int .i64 0, .slice none 0 0, .slice none 0 0] _ _ a2
    refine bodyPost_ret (results_cell_tmp rfl _ _ x _ _ _ _ (.int .i64 r3) rfl rfl hh Try.underlying71 rfl (by kernel_rfl)) rfl ?_
    exact ⟨rfl, below_setRow HB.out (Nat.le_refl _) _⟩

theorem rproto_ok (w : World) (r : Nat) (mo fr tk at_ er : Value) (p : Option Addr) (n c : Nat) (k0 : Int) (h0 : Bool) (l : List UInt8) (hs : w.heap[r]? = some (.cells #[mo, fr, .slice p n c, tk, at_, .bool h0, .int .i64 k0, er] 93 (0, 0))) (hb : BytesIn w p n c l) (hz : n ≤ 140737488355328) (r1 r2 : Int) (hr : readH l 0 = (r1, r2, 0)) :
    Calls Try.prog 74 #[.pointer (some ⟨r, 0, none⟩)] w fun e w' => e = .returned (.tuple #[.agg #[.int .i64 1, .int .i64 r1, .int .i64 0, .int .i64 0, .slice none 0 0, .slice none 0 0], .int .i64 0]) ∧ w.grownBy w' (some r) ∧
      w'.heap[r]? = some (.cells #[mo, fr, .slice p n c, tk, at_, .bool false, .int .i64 (if r1 = 3 then 1 else 0), er] 93 (0, 0)) := by
  have c2 : w.cell? ⟨r, 2, none⟩ = some (.slice p n c) := (cell_of_row _ _ 2 _ _ _ hs).trans rfl
  have hrl := (Array.getElem?_eq_some_iff.1 hs).1
  go_enter Try.func74, Try.ntmps74
  go_upto_region 1 with fail
  have hb1 : Below w.heap.size w (w.alloc (.cells #[.int .i64 0, .int .i64 0, .int .i64 0, .int .i64 0, .slice none 0 0, .slice none 0 0] 71)) := (Below.refl _ w).alloc (Nat.le_refl _) _
  have a1 : (w.alloc (.cells #[.int .i64 0, .int .i64 0, .int .i64 0, .int .i64 0, .slice none 0 0, .slice none 0 0] 71)).heap[w.heap.size]? = some (.cells #[.int .i64 0, .int .i64 0, .int .i64 0, .int .i64 0, .slice none 0 0, .slice none 0 0] 71 (0, 0)) := heap_alloc_new _ _
  have y1 := hb.below hb1
  have c2' : (w.alloc (.cells #[.int .i64 0, .int .i64 0, .int .i64 0, .int .i64 0, .slice none 0 0, .slice none 0 0] 71)).cell? ⟨r, 2, none⟩ = some (.slice p n c) := (World.cell?_of_block (heap_alloc_old w _ hrl)).trans c2
  generalize (w.alloc (.cells #[.int .i64 0, .int .i64 0, .int .i64 0, .int .i64 0, .slice none 0 0, .slice none 0 0] 71)) = w1 at *
  have hcl := rread_any w1 p n c l 0 y1 hz
  rw [hr] at hcl
  have HS := Lib.hid hs
  clear c2 hs hb hr y1
  go_wp2_with fail
  refine hcl.mono ?_
  clear hcl c2'
  rintro e w2 ⟨rfl, hb2⟩
  have h12 := hb1.size
  have a2 : w2.heap[w.heap.size]? = some (.cells #[.int .i64 0, .int .i64 0, .int .i64 0, .int .i64 0, .slice none 0 0, .slice none 0 0] 71 (0, 0)) := (hb2.block w.heap.size (Array.getElem?_eq_some_iff.1 a1).1).trans a1
  have hbb := hb1.trans (hb2.mono h12)
  have s2 := (hbb.block r hrl).trans HS.out
  have g2 : w.grownBy w2 (some r) := grown_below hbb
  clear hb1 hb2 a1 hbb
  have m5 : w2.cell? ⟨r, 5, none⟩ = some (.bool h0) := (cell_of_row _ _ 5 _ _ _ s2).trans rfl
  have fz : ∀ k, w2.frozen? ⟨r, k, none⟩ = false := fun k => by simp [World.frozen?, s2]
  go_upto_region 7 with fail
  have s3 := heap_setCell_same _ r 5 _ _ (.bool false) s2
  have g3 := grown_trans g2 (setCell_grown w2 r 5 (.bool false))
  simp only [List.setIfInBounds_toArray, List.set] at s3
  have a3 := ((setCell_grown w2 r 5 (.bool false)).block w.heap.size (Array.getElem?_eq_some_iff.1 a2).1 (fun e => by have := Option.some.inj e; omega)).trans a2
  generalize (w2.setCell ⟨r, 5, none⟩ (.bool false)) = w3 at *
  clear m5 fz s2 g2 a2
  have m6 : w3.cell? ⟨r, 6, none⟩ = some (.int .i64 k0) := (cell_of_row _ _ 6 _ _ _ s3).trans rfl
  have fz : ∀ k, w3.frozen? ⟨r, k, none⟩ = false := fun k => by simp [World.frozen?, s3]
  go_upto_region 8 with fail
  have s4 := heap_setCell_same _ r 6 _ _ (.int .i64 0) s3
  have g4 := grown_trans g3 (setCell_grown w3 r 6 (.int .i64 0))
  simp only [List.setIfInBounds_toArray, List.set] at s4
  have a4 := ((setCell_grown w3 r 6 (.int .i64 0)).block w.heap.size (Array.getElem?_eq_some_iff.1 a3).1 (fun e => by have := Option.some.inj e; omega)).trans a3
  generalize (w3.setCell ⟨r, 6, none⟩ (.int .i64 0)) = w4 at *
  clear m6 fz s3 g3 a3
  obtain ⟨x, hx⟩ : ∃ x, w.heap.size = x := ⟨_, rfl⟩
  rw [hx] at a4 hrl ⊢
  have fin : ∀ (w5 : World) (cs : Array Value), w.grownBy w5 (some r) → w5.heap[r]? = some (.cells #[mo, fr, .slice p n c, tk, at_, .bool false, .int .i64 (if r1 = 3 then 1 else 0), er] 93 (0, 0)) →
      w.grownBy (w5.setRow x cs) (some r) ∧ (w5.setRow x cs).heap[r]? = some (.cells #[mo, fr, .slice p n c, tk, at_, .bool false, .int .i64 (if r1 = 3 then 1 else 0), er] 93 (0, 0)) := by
    intro w5 cs hg hs
    have g := setRow_grown w5 x cs
    have hr5 := (Array.getElem?_eq_some_iff.1 hs).1
    refine ⟨⟨g.os.trans hg.os, g.tape.trans hg.tape, g.output.trans hg.output, Nat.le_trans hg.size g.size, fun k hk hn => ?_⟩, (g.block r hr5 (fun e => by have := Option.some.inj e; omega)).trans hs⟩
    exact (g.block k (Nat.lt_of_lt_of_le hk hg.size) (fun e => by have := Option.some.inj e; omega)).trans (hg.block k hk hn)
  have FIN := Lib.hid fin
  clear fin
  have GR := Lib.hid (And.intro g4 s4)
  by_cases h3 : r1 = 3
  · subst h3
    have m6 : w4.cell? ⟨r, 6, none⟩ = some (.int .i64 0) := (cell_of_row _ _ 6 _ _ _ s4).trans rfl
    have fz : ∀ k, w4.frozen? ⟨r, k, none⟩ = false := fun k => by simp [World.frozen?, s4]
    go_upto_region 10 with fail
    have s5 := heap_setCell_same _ r 6 _ _ (.int .i64 1) s4
    have g5 := grown_trans g4 (setCell_grown w4 r 6 (.int .i64 1))
    simp only [List.setIfInBounds_toArray, List.set] at s5
    have a5 := ((setCell_grown w4 r 6 (.int .i64 1)).block x (Array.getElem?_eq_some_iff.1 a4).1 (fun e => by have := Option.some.inj e; omega)).trans a4
    generalize (w4.setCell ⟨r, 6, none⟩ (.int .i64 1)) = w5 at *
    have HF := Lib.hid (FIN.out w5 #[.int .i64 1, .int .i64 3, .int .i64 0, .int .i64 0, .slice none 0 0, .slice none 0 0] g5 (by rw [if_pos rfl]; exact s5))
    clear m6 fz s4 g4 a4 s5 g5
    go_wp2_with (refine wpList_store_row rfl 71 (.tmp 2) _ rfl x _ rfl rfl 71 _ a5 (by as_aux_lemma => kernel_rfl) (by as_aux_lemma => kernel_rfl) (by as_aux_lemma => kernel_rfl) ?_)
    have hh := setRow_heap w5 x _ #[.int .i64 1, .int .i64 3, .int .i64 0, .int .i64 0, .slice none 0 0, .slice none 0 0] _ _ a5
    refine bodyPost_ret (results_cell_tmp rfl _ _ x _ _ _ _ (.int .i64 0) rfl rfl hh Try.underlying71 rfl (by kernel_rfl)) rfl ?_
    exact ⟨rfl, HF.out⟩
  · have t3 : (r1 == 3) = false := by simpa using h3
    have HH3 := Lib.hid h3
    clear h3
    have HF := Lib.hid (FIN.out w4 #[.int .i64 1, .int .i64 r1, .int .i64 0, .int .i64 0, .slice none 0 0, .slice none 0 0] g4 (by rw [if_neg HH3.out]; exact s4))
    clear s4 g4
    go_wp2_with (refine wpList_store_row rfl 71 (.tmp 2) _ rfl x _ rfl rfl 71 _ a4 (by as_aux_lemma => kernel_rfl) (by as_aux_lemma => kernel_rfl) (by as_aux_lemma => kernel_rfl) ?_)
    have hh := setRow_heap w4 x _ #[.int .i64 1, .int .i64 r1, .int .i64 0, .int .i64 0, .slice none 0 0, .slice none 0 0] _ _ a4
    refine bodyPost_ret (results_cell_tmp rfl _ _ x _ _ _ _ (.int .i64 0) rfl rfl hh Try.underlying71 rfl (by kernel_rfl)) rfl ?_
    have hf := HF.out
    rw [if_neg HH3.out] at hf
    exact ⟨rfl, hf⟩
end Go.Proofs.Ytofdpccjpodbhaa

namespace Go.Proofs.Ytofdpccjpodbhaa
open Go.RowKit
set_option linter.unusedVariables false

/-- the reference's frame: the limit, the item, the error -/
def rframe (fr : Nat) (s : SM) : Nat × Itm × Int :=
  if s.held.length < 4 then (fr, .no, 0)
  else
    if s.held.length = 4 ∧ s.held = [76, 83, 72, 82] then (s.most, .no, 60)
    else
      let f := if s.held.length = 4 then s.most else fr
      let o := openR s.held 0 f
      if o.2.2.2.2.2 ≠ 0 ∧ o.2.2.2.2.2 ≠ 10 then (f, .no, o.2.2.2.2.2)
      else if 6 ≤ s.held.length ∧ ((s.held.getD 5 0).toNat : Int) ≠ s.kind then (f, .no, 60)
      else if o.2.2.2.2.2 = 10 then (f, .no, 0)
      else (f, ⟨2, 0, o.1, o.2.1, o.2.2.1, o.2.2.2.1⟩, 0)

/-- a byte, behind its taking -/
def rbyteN (fr : Nat) (s : SM) : Nat × SM × Itm :=
  if s.hdr = true then
    if (readH s.held 0).2.2 = 10 then (fr, s, .no)
    else if (readH s.held 0).2.2 = 0 then (fr, ({ s with hdr := false, kind := if (readH s.held 0).1 = 3 then 1 else 0 } : SM).tell, ⟨1, (readH s.held 0).1, 0, 0, [], []⟩)
    else (fr, s.fail (readH s.held 0).2.2, .no)
  else ((rframe fr s).1, if (rframe fr s).2.2 ≠ 0 then s.fail (rframe fr s).2.2 else if (rframe fr s).2.1.kind ≠ 0 then s.tell else s, (rframe fr s).2.1)

/-- how both stand between two bytes -/
structure Rel (fr : Nat) (s : SM) : Prop where
  hdr : s.err = 0 → (s.hdr = true ↔ s.ph = 0)
  size : s.err = 0 → 2 ≤ s.ph → s.size = beVal (s.held.take 4) ∧ 8 ≤ s.size ∧ s.size ≤ fr ∧ 512 ≤ fr ∧ fr ≤ 1048576
  off : s.err = 0 → 3 ≤ s.ph → 2 ≤ (s.held.getD 4 0).toNat ∧ 4 * (s.held.getD 4 0).toNat ≤ s.size
  kd : s.err = 0 → 4 ≤ s.ph → (s.held.getD 5 0).toNat ≤ 1 ∧ ((s.held.getD 5 0).toNat : Int) = s.kind
  most : 512 ≤ s.most

/-- what both tell -/
structure Alike (a b : SM) : Prop where
  held : a.held = b.held
  taken : a.taken = b.taken
  at_ : a.at_ = b.at_
  most : a.most = b.most
  hdr : a.hdr = b.hdr
  kind : a.kind = b.kind
  err : a.err = b.err

theorem Alike.rfl' (s : SM) : Alike s s := ⟨rfl, rfl, rfl, rfl, rfl, rfl, rfl⟩

theorem Rel.new (m : Nat) (h : 512 ≤ m) : Rel 0 (SM.new m) := ⟨fun _ => by simp [SM.new], fun _ h => by simp [SM.new] at h, fun _ h => by simp [SM.new] at h, fun _ h => by simp [SM.new] at h, h⟩
theorem Rel.bad {fr : Nat} {s : SM} (h : s.err ≠ 0) (hm : 512 ≤ s.most) : Rel fr s := ⟨fun e => absurd e h, fun e => absurd e h, fun e => absurd e h, fun e => absurd e h, hm⟩

theorem Rel.expect {fr : Nat} {s : SM} (h : Rel fr s) : Rel fr (expectR s).1 := by
  unfold expectR
  split
  · exact h
  · exact ⟨fun _ => by simp, fun _ h => by simp at h, fun _ h => by simp at h, fun _ h => by simp at h, h.most⟩
theorem Rel.setMost {fr : Nat} {s : SM} (h : Rel fr s) (m : Int) : Rel fr (mostR s m).1 := by
  unfold mostR
  split
  · exact h
  · split
    · exact h
    · exact ⟨h.hdr, h.size, h.off, h.kd, by simp only; omega⟩

theorem getD_snoc {l : List UInt8} {c : UInt8} {k : Nat} (h : k < l.length) : (l ++ [c]).getD k 0 = l.getD k 0 := by
  rw [List.getD_eq_getElem?_getD, List.getElem?_append_left h, ← List.getD_eq_getElem?_getD]

theorem rel_step (fr : Nat) (s : SM) (c : UInt8) (ho : Ok s) (hr : Rel fr s) (he : s.err = 0) :
    (rbyteN fr (s.take1 c)).2.2 = (step s c).2 ∧ Alike (rbyteN fr (s.take1 c)).2.1 (step s c).1 ∧ Rel (rbyteN fr (s.take1 c)).1 (step s c).1 := by
  have hl := ho.len he
  have hh := hr.hdr he
  have hsz := hr.size he
  have hof := hr.off he
  have hkd := hr.kd he
  have hmo := hr.most
  have hmx := ho.most
  obtain ⟨ph, l, t, a, mo, sz, hd, kd, er⟩ := s
  simp only at he hl hh hsz hof hkd hmo hmx
  subst he
  unfold Go.Proofs.Ytofdpccjpodbhaa.step SM.take1
  simp only
  rcases hl with ⟨rfl, hl⟩ | ⟨rfl, hl⟩ | ⟨rfl, hl, h8⟩ | ⟨rfl, hl, h8⟩ | ⟨rfl, hl, hl2⟩
  · -- a header
    have hd1 : hd = true := hh.2 rfl
    subst hd1
    unfold rbyteN next1
    simp only [if_true]
    split
    · exact ⟨rfl, .rfl' _, ⟨fun _ => by simp, fun _ h => by simp at h, fun _ h => by simp at h, fun _ h => by simp at h, hmo⟩⟩
    · split
      · exact ⟨rfl, .rfl' _, ⟨fun _ => by simp [SM.tell], fun _ h => by simp [SM.tell] at h, fun _ h => by simp [SM.tell] at h, fun _ h => by simp [SM.tell] at h, hmo⟩⟩
      · rename_i h1 h2
        exact ⟨rfl, .rfl' _, .bad h2 hmo⟩
  · -- a size
    have hd0 : hd = false := by
      cases hd with
      | false => rfl
      | true => exact absurd (hh.1 rfl) (by decide)
    subst hd0
    have hL : (l ++ [c]).length = l.length + 1 := by simp
    generalize l ++ [c] = L at hL ⊢
    unfold rbyteN
    simp only [if_neg (show ¬ (false = true) by decide)]
    by_cases h4 : L.length < 4
    · have e1 : next1 ⟨1, L, wrap64 (t + 1), a, mo, sz, false, kd, 0⟩ = (⟨1, L, wrap64 (t + 1), a, mo, sz, false, kd, 0⟩, .no) := by simp [next1, h4]
      have e2 : rframe fr ⟨1, L, wrap64 (t + 1), a, mo, sz, false, kd, 0⟩ = (fr, .no, 0) := by simp [rframe, h4]
      rw [e1, e2]
      exact ⟨rfl, by simpa [Itm.no] using Alike.rfl' _, ⟨fun _ => by simp, fun _ h => by simp at h, fun _ h => by simp at h, fun _ h => by simp at h, hmo⟩⟩
    · have h4' : L.length = 4 := by omega
      by_cases hm : L = [76, 83, 72, 82]
      · have e1 : next1 ⟨1, L, wrap64 (t + 1), a, mo, sz, false, kd, 0⟩ = ((⟨1, L, wrap64 (t + 1), a, mo, sz, false, kd, 0⟩ : SM).fail 60, .no) := by simp [next1, hm]
        have e2 : rframe fr ⟨1, L, wrap64 (t + 1), a, mo, sz, false, kd, 0⟩ = (mo, .no, 60) := by simp [rframe, hm]
        rw [e1, e2]
        exact ⟨rfl, .rfl' _, .bad (by simp [SM.fail]) hmo⟩
      · obtain ⟨S, hS⟩ : ∃ S, beVal (L.take 4) = S := ⟨_, rfl⟩
        have hop : openR L 0 mo = if S < 8 ∨ (mo : Int) < S then (0, 0, [], [], 0, 51) else (0, 0, [], [], 0, 10) := by
          have := openR_at L 0 mo (Nat.zero_le _) hmo hmx
          rw [show ((0 : Nat) : Int) = 0 from rfl, List.drop_zero] at this
          rw [this]
          unfold openL
          simp only [hS, if_neg h4, if_pos (show L.length < 5 by omega)]
        by_cases hx : S < 8 ∨ mo < S
        · have e1 : next1 ⟨1, L, wrap64 (t + 1), a, mo, sz, false, kd, 0⟩ = ((⟨1, L, wrap64 (t + 1), a, mo, sz, false, kd, 0⟩ : SM).fail 51, .no) := by
            unfold next1
            simp only [hS, if_neg (show ¬ (1 = 0) by decide), if_true, if_neg h4, if_neg hm, if_pos hx]
          have e2 : rframe fr ⟨1, L, wrap64 (t + 1), a, mo, sz, false, kd, 0⟩ = (mo, .no, 51) := by
            unfold rframe
            simp only [if_neg h4, if_neg (show ¬ (L.length = 4 ∧ L = [76, 83, 72, 82]) from fun h => hm h.2), if_pos h4', hop, if_pos (show S < 8 ∨ (mo : Int) < S by omega)]
            rfl
          rw [e1, e2]
          exact ⟨rfl, .rfl' _, .bad (by simp [SM.fail]) hmo⟩
        · have e1 : next1 ⟨1, L, wrap64 (t + 1), a, mo, sz, false, kd, 0⟩ = (⟨2, L, wrap64 (t + 1), a, mo, S, false, kd, 0⟩, .no) := by
            unfold next1
            simp only [hS, if_neg (show ¬ (1 = 0) by decide), if_true, if_neg h4, if_neg hm, if_neg hx]
          have e2 : rframe fr ⟨1, L, wrap64 (t + 1), a, mo, sz, false, kd, 0⟩ = (mo, .no, 0) := by
            unfold rframe
            simp only [if_neg h4, if_neg (show ¬ (L.length = 4 ∧ L = [76, 83, 72, 82]) from fun h => hm h.2), if_pos h4', hop, if_neg (show ¬ (S < 8 ∨ (mo : Int) < S) by omega), if_neg (show ¬ (6 ≤ L.length ∧ ((L.getD 5 0).toNat : Int) ≠ kd) by omega)]
            rfl
          rw [e1, e2]
          exact ⟨rfl, ⟨rfl, rfl, rfl, rfl, rfl, rfl, rfl⟩, ⟨fun _ => by simp, fun _ _ => ⟨hS.symm, by simp only; omega, by simp only; omega, hmo, hmx⟩, fun _ h => by simp at h, fun _ h => by simp at h, hmo⟩⟩
  · -- where the body begins
    have hd0 : hd = false := by
      cases hd with
      | false => rfl
      | true => exact absurd (hh.1 rfl) (by decide)
    subst hd0
    obtain ⟨z1, z2, z3, z4, z5⟩ := hsz (by decide)
    have hL : (l ++ [c]).length = 5 := by simp [hl]
    have hT : (l ++ [c]).take 4 = l.take 4 := by rw [List.take_append_of_le_length (by omega)]
    generalize l ++ [c] = L at hL hT ⊢
    rw [← hT] at z1
    have hop : openR L 0 fr = if 4 * (L.getD 4 0).toNat < 8 ∨ sz < 4 * (L.getD 4 0).toNat then (0, 0, [], [], 0, 52) else (0, 0, [], [], 0, 10) := by
      have := openR_at L 0 fr (Nat.zero_le _) z4 z5
      rw [show ((0 : Nat) : Int) = 0 from rfl, List.drop_zero] at this
      rw [this]
      unfold openL
      simp only [← z1, if_neg (show ¬ L.length < 4 by omega), if_neg (show ¬ L.length < 5 by omega), if_neg (show ¬ (sz < 8 ∨ (fr : Int) < sz) by omega), if_pos (show L.length < 6 by omega)]
    unfold rbyteN
    simp only [if_neg (show ¬ (false = true) by decide)]
    by_cases hx : (L.getD 4 0).toNat < 2 ∨ sz < 4 * (L.getD 4 0).toNat
    · have e1 : next1 ⟨2, L, wrap64 (t + 1), a, mo, sz, false, kd, 0⟩ = ((⟨2, L, wrap64 (t + 1), a, mo, sz, false, kd, 0⟩ : SM).fail 52, .no) := by
        unfold next1
        simp only [if_neg (show ¬ (2 = 0) by decide), if_neg (show ¬ (2 = 1) by decide), if_true, if_pos hx]
      have e2 : rframe fr ⟨2, L, wrap64 (t + 1), a, mo, sz, false, kd, 0⟩ = (fr, .no, 52) := by
        unfold rframe
        simp only [if_neg (show ¬ L.length < 4 by omega), if_neg (show ¬ (L.length = 4 ∧ L = [76, 83, 72, 82]) by omega), if_neg (show ¬ L.length = 4 by omega), hop, if_pos (show 4 * (L.getD 4 0).toNat < 8 ∨ sz < 4 * (L.getD 4 0).toNat by omega)]
        rfl
      rw [e1, e2]
      exact ⟨rfl, .rfl' _, .bad (by simp [SM.fail]) hmo⟩
    · have e1 : next1 ⟨2, L, wrap64 (t + 1), a, mo, sz, false, kd, 0⟩ = (⟨3, L, wrap64 (t + 1), a, mo, sz, false, kd, 0⟩, .no) := by
        unfold next1
        simp only [if_neg (show ¬ (2 = 0) by decide), if_neg (show ¬ (2 = 1) by decide), if_true, if_neg hx]
      have e2 : rframe fr ⟨2, L, wrap64 (t + 1), a, mo, sz, false, kd, 0⟩ = (fr, .no, 0) := by
        unfold rframe
        simp only [if_neg (show ¬ L.length < 4 by omega), if_neg (show ¬ (L.length = 4 ∧ L = [76, 83, 72, 82]) by omega), if_neg (show ¬ L.length = 4 by omega), hop, if_neg (show ¬ (4 * (L.getD 4 0).toNat < 8 ∨ sz < 4 * (L.getD 4 0).toNat) by omega), if_neg (show ¬ (6 ≤ L.length ∧ ((L.getD 5 0).toNat : Int) ≠ kd) by omega)]
        rfl
      rw [e1, e2]
      exact ⟨rfl, ⟨rfl, rfl, rfl, rfl, rfl, rfl, rfl⟩, ⟨fun _ => by simp, fun _ _ => ⟨z1, z2, z3, z4, z5⟩, fun _ _ => ⟨by simp only; omega, by simp only; omega⟩, fun _ h => by simp at h, hmo⟩⟩
  · -- the type
    have hd0 : hd = false := by
      cases hd with
      | false => rfl
      | true => exact absurd (hh.1 rfl) (by decide)
    subst hd0
    obtain ⟨z1, z2, z3, z4, z5⟩ := hsz (by decide)
    obtain ⟨o1, o2⟩ := hof (by decide)
    have hL : (l ++ [c]).length = 6 := by simp [hl]
    have hT : (l ++ [c]).take 4 = l.take 4 := by rw [List.take_append_of_le_length (by omega)]
    have hG : (l ++ [c]).getD 4 0 = l.getD 4 0 := getD_snoc (by omega)
    generalize l ++ [c] = L at hL hT hG ⊢
    rw [← hT] at z1
    rw [← hG] at o1 o2
    have hop : openR L 0 fr = if 1 < (L.getD 5 0).toNat then (0, 0, [], [], 0, 53) else (0, 0, [], [], 0, 10) := by
      have := openR_at L 0 fr (Nat.zero_le _) z4 z5
      rw [show ((0 : Nat) : Int) = 0 from rfl, List.drop_zero] at this
      rw [this]
      unfold openL
      simp only [← z1, if_neg (show ¬ L.length < 4 by omega), if_neg (show ¬ L.length < 5 by omega), if_neg (show ¬ (sz < 8 ∨ (fr : Int) < sz) by omega), if_neg (show ¬ L.length < 6 by omega), if_neg (show ¬ (4 * (L.getD 4 0).toNat < 8 ∨ sz < 4 * (L.getD 4 0).toNat) by omega), if_pos (show L.length < sz by omega)]
    obtain ⟨y, hy⟩ : ∃ y, (L.getD 5 0).toNat = y := ⟨_, rfl⟩
    unfold rbyteN
    simp only [if_neg (show ¬ (false = true) by decide)]
    by_cases hx : y ≠ 0 ∧ y ≠ 1
    · have e1 : next1 ⟨3, L, wrap64 (t + 1), a, mo, sz, false, kd, 0⟩ = ((⟨3, L, wrap64 (t + 1), a, mo, sz, false, kd, 0⟩ : SM).fail 53, .no) := by
        unfold next1
        simp only [hy, if_neg (show ¬ (3 = 0) by decide), if_neg (show ¬ (3 = 1) by decide), if_neg (show ¬ (3 = 2) by decide), if_true, if_pos hx]
      have e2 : rframe fr ⟨3, L, wrap64 (t + 1), a, mo, sz, false, kd, 0⟩ = (fr, .no, 53) := by
        unfold rframe
        simp only [if_neg (show ¬ L.length < 4 by omega), if_neg (show ¬ (L.length = 4 ∧ L = [76, 83, 72, 82]) by omega), if_neg (show ¬ L.length = 4 by omega), hop, hy, if_pos (show 1 < y by omega)]
        rfl
      rw [e1, e2]
      exact ⟨rfl, .rfl' _, .bad (by simp [SM.fail]) hmo⟩
    · by_cases hk : (y : Int) ≠ kd
      · have e1 : next1 ⟨3, L, wrap64 (t + 1), a, mo, sz, false, kd, 0⟩ = ((⟨3, L, wrap64 (t + 1), a, mo, sz, false, kd, 0⟩ : SM).fail 60, .no) := by
          unfold next1
          simp only [hy, if_neg (show ¬ (3 = 0) by decide), if_neg (show ¬ (3 = 1) by decide), if_neg (show ¬ (3 = 2) by decide), if_true, if_neg hx, if_pos hk]
        have e2 : rframe fr ⟨3, L, wrap64 (t + 1), a, mo, sz, false, kd, 0⟩ = (fr, .no, 60) := by
          unfold rframe
          simp only [if_neg (show ¬ L.length < 4 by omega), if_neg (show ¬ (L.length = 4 ∧ L = [76, 83, 72, 82]) by omega), if_neg (show ¬ L.length = 4 by omega), hop, hy, if_neg (show ¬ 1 < y by omega), if_pos (show 6 ≤ L.length ∧ (y : Int) ≠ kd from ⟨by omega, hk⟩)]
          rfl
        rw [e1, e2]
        exact ⟨rfl, .rfl' _, .bad (by simp [SM.fail]) hmo⟩
      · have e1 : next1 ⟨3, L, wrap64 (t + 1), a, mo, sz, false, kd, 0⟩ = (⟨4, L, wrap64 (t + 1), a, mo, sz, false, kd, 0⟩, .no) := by
          unfold next1
          simp only [hy, if_neg (show ¬ (3 = 0) by decide), if_neg (show ¬ (3 = 1) by decide), if_neg (show ¬ (3 = 2) by decide), if_true, if_neg hx, if_neg hk]
        have e2 : rframe fr ⟨3, L, wrap64 (t + 1), a, mo, sz, false, kd, 0⟩ = (fr, .no, 0) := by
          unfold rframe
          simp only [if_neg (show ¬ L.length < 4 by omega), if_neg (show ¬ (L.length = 4 ∧ L = [76, 83, 72, 82]) by omega), if_neg (show ¬ L.length = 4 by omega), hop, hy, if_neg (show ¬ 1 < y by omega), if_neg (show ¬ (6 ≤ L.length ∧ (y : Int) ≠ kd) from fun h => hk h.2)]
          rfl
        rw [e1, e2]
        exact ⟨rfl, ⟨rfl, rfl, rfl, rfl, rfl, rfl, rfl⟩, ⟨fun _ => by simp, fun _ _ => ⟨z1, z2, z3, z4, z5⟩, fun _ _ => ⟨o1, o2⟩, fun _ _ => ⟨by simp only [hy]; omega, by simp only [hy]; omega⟩, hmo⟩⟩
  · -- all other bytes
    have hd0 : hd = false := by
      cases hd with
      | false => rfl
      | true => exact absurd (hh.1 rfl) (by decide)
    subst hd0
    obtain ⟨z1, z2, z3, z4, z5⟩ := hsz (by decide)
    obtain ⟨o1, o2⟩ := hof (by decide)
    obtain ⟨k1, k2⟩ := hkd (by decide)
    have hL : (l ++ [c]).length = l.length + 1 := by simp
    have hT : (l ++ [c]).take 4 = l.take 4 := by rw [List.take_append_of_le_length (by omega)]
    have hG : (l ++ [c]).getD 4 0 = l.getD 4 0 := getD_snoc (by omega)
    have hG5 : (l ++ [c]).getD 5 0 = l.getD 5 0 := getD_snoc (by omega)
    generalize l ++ [c] = L at hL hT hG hG5 ⊢
    rw [← hT] at z1
    rw [← hG] at o1 o2
    rw [← hG5] at k1 k2
    have hopM : ∀ M : Nat, sz ≤ M → 512 ≤ M → M ≤ 1048576 → openR L 0 M = if L.length < sz then (0, 0, [], [], 0, 10) else ((L.getD 5 0).toNat, if (L.getD 5 0).toNat = 0 then beVal ((L.drop 6).take 2) else 0, (L.drop 8).take (4 * (L.getD 4 0).toNat - 8), (L.drop (4 * (L.getD 4 0).toNat)).take (sz - 4 * (L.getD 4 0).toNat), ((0 : Nat) : Int) + sz, 0) := by
      intro M h1 h2 h3
      have := openR_at L 0 M (Nat.zero_le _) h2 h3
      rw [show ((0 : Nat) : Int) = 0 from rfl, List.drop_zero] at this
      rw [this]
      unfold openL
      simp only [← z1, if_neg (show ¬ L.length < 4 by omega), if_neg (show ¬ L.length < 5 by omega), if_neg (show ¬ (sz < 8 ∨ (M : Int) < sz) by omega), if_neg (show ¬ L.length < 6 by omega), if_neg (show ¬ (4 * (L.getD 4 0).toNat < 8 ∨ sz < 4 * (L.getD 4 0).toNat) by omega), if_neg (show ¬ 1 < (L.getD 5 0).toNat by omega)]
    have hop := hopM fr z3 z4 z5
    have hop2 := hopM 1048576 (by omega) (by omega) (by omega)
    rw [show ((1048576 : Nat) : Int) = 1048576 from rfl] at hop2
    unfold rbyteN
    simp only [if_neg (show ¬ (false = true) by decide)]
    by_cases hx : L.length < sz
    · rw [if_pos hx] at hop
      have e1 : next1 ⟨4, L, wrap64 (t + 1), a, mo, sz, false, kd, 0⟩ = (⟨4, L, wrap64 (t + 1), a, mo, sz, false, kd, 0⟩, .no) := by simp [next1, hx]
      have e2 : rframe fr ⟨4, L, wrap64 (t + 1), a, mo, sz, false, kd, 0⟩ = (fr, .no, 0) := by
        unfold rframe
        simp only [if_neg (show ¬ L.length < 4 by omega), if_neg (show ¬ (L.length = 4 ∧ L = [76, 83, 72, 82]) by omega), if_neg (show ¬ L.length = 4 by omega), hop, if_neg (show ¬ (6 ≤ L.length ∧ ((L.getD 5 0).toNat : Int) ≠ kd) from fun h => h.2 k2)]
        rfl
      rw [e1, e2]
      exact ⟨rfl, ⟨rfl, rfl, rfl, rfl, rfl, rfl, rfl⟩, ⟨fun _ => by simp, fun _ _ => ⟨z1, z2, z3, z4, z5⟩, fun _ _ => ⟨o1, o2⟩, fun _ _ => ⟨k1, k2⟩, hmo⟩⟩
    · rw [if_neg hx] at hop hop2
      generalize (if (L.getD 5 0).toNat = 0 then beVal ((L.drop 6).take 2) else 0) = C at hop hop2
      generalize (L.drop 8).take (4 * (L.getD 4 0).toNat - 8) = X at hop hop2
      generalize (L.drop (4 * (L.getD 4 0).toNat)).take (sz - 4 * (L.getD 4 0).toNat) = Y at hop hop2
      have e1 : next1 ⟨4, L, wrap64 (t + 1), a, mo, sz, false, kd, 0⟩ = ((⟨4, L, wrap64 (t + 1), a, mo, sz, false, kd, 0⟩ : SM).tell, ⟨2, 0, (L.getD 5 0).toNat, C, X, Y⟩) := by
        unfold next1
        simp only [if_neg (show ¬ (4 = 0) by decide), if_neg (show ¬ (4 = 1) by decide), if_neg (show ¬ (4 = 2) by decide), if_neg (show ¬ (4 = 3) by decide), if_neg hx, hop2, if_true]
      have e2 : rframe fr ⟨4, L, wrap64 (t + 1), a, mo, sz, false, kd, 0⟩ = (fr, ⟨2, 0, (L.getD 5 0).toNat, C, X, Y⟩, 0) := by
        unfold rframe
        simp only [if_neg (show ¬ L.length < 4 by omega), if_neg (show ¬ (L.length = 4 ∧ L = [76, 83, 72, 82]) by omega), if_neg (show ¬ L.length = 4 by omega), hop, if_neg (show ¬ (6 ≤ L.length ∧ ((L.getD 5 0).toNat : Int) ≠ kd) from fun h => h.2 k2)]
        rfl
      rw [e1, e2]
      exact ⟨rfl, ⟨rfl, rfl, rfl, rfl, rfl, rfl, rfl⟩, ⟨fun _ => by simp [SM.tell], fun _ h => by simp [SM.tell] at h, fun _ h => by simp [SM.tell] at h, fun _ h => by simp [SM.tell] at h, hmo⟩⟩
end Go.Proofs.Ytofdpccjpodbhaa
