/-
  Contracts of longshoreref03's marked and (*ByteBook).Take. Conditions: the list lies in memory and carries its marks; the book lies in memory.
-/
import Derived.Test.YtabemlpkajhglaaDoorBookP
import Derived.Test.YtabemlpkajhglaaDoorOct
import Derived.Deep.AppendLies
import Derived.Handy
namespace Go.Proofs.YtabemlpkajhglaaDoor
open Go.RowKit
set_option linter.unusedVariables false

theorem marked_any (w : World) (a : Option Addr) (n c i : Nat) (hi : i ≤ 1152921504606846976) (h : BytesIn w a n c (markL i n)) :
    Calls Tryd.prog 36 #[.slice a n c, .int .i64 i] w fun e w' => e = .returned (.bool true) ∧ ∃ m, w' = w.drewN m := by
  have hn := h.le
  have hc := h.cap
  unfold maxLen at hc
  go_enter Tryd.func36, Tryd.ntmps36
  go_wp2_with fail
  go_loopw [5] (fun s5 wr => ∃ k m : Nat, k ≤ n ∧ s5 = .int .i64 k ∧ wr = w.drewN m) (fun s5 _ => n - (intOf s5).toNat)
  case atStart => exact ⟨0, 0, by omega, rfl, by rw [World.drewN_zero]⟩
  case round =>
    obtain ⟨k, m, hk, rfl, rfl⟩ := hrel
    by_cases hlt : k < n
    · obtain ⟨b, o, rfl, hb, hcell⟩ := h.at_ (by omega)
      have hcl := hcell k hlt
      rw [markL_getD i n k hlt] at hcl
      have hcl' : (w.drewN m).cell? ⟨b, o + k, none⟩ = some (.int .u8 (((i + k / 251) % 256 : Nat) : Int)) := by
        have e : (UInt8.ofNat (i + k / 251)).toNat = (i + k / 251) % 256 := by simp
        rw [← e]; exact hcl
      clear hcl hcell
      go_wp2_with fail
      go_roundw
      case rel => exact ⟨k + 1, m, by omega, by go_num, rfl⟩
      case measure => simp [intOf]; omega
    · obtain rfl : k = n := by omega
      go_wp2_with fail
      go_ret
      exact ⟨rfl, _, rfl⟩

theorem grownBy_setCell (w : World) (b j : Nat) (v : Value) : w.grownBy (w.setCell ⟨b, j, none⟩ v) (some b) :=
  ⟨rfl, rfl, rfl, by simp [World.setCell], fun k hk hne => by
    have : b ≠ k := fun h => hne (by rw [h])
    simp [World.setCell, Array.getElem?_modify, this]⟩

/-- a book: its block, the row of its lists -/
structure BookIs (w : World) (B bp : Nat) (vl : Value) (vs : List Value) : Prop where
  at_ : w.heap[bp]? = some (.cells #[vl] 30 (0, 0))
  row : w.ownsRow B 24 1 vl vs.length vs

theorem BookIs.cell {w : World} {B bp : Nat} {vl : Value} {vs : List Value} (h : BookIs w B bp vl vs) : w.cell? ⟨bp, 0, none⟩ = some vl := by
  simp only [World.cell?, h.at_]; rfl
theorem BookIs.lt {w : World} {B bp : Nat} {vl : Value} {vs : List Value} (h : BookIs w B bp vl vs) : bp < w.heap.size := (Array.getElem?_eq_some_iff.1 h.at_).1
theorem BookIs.apart {w : World} {B bp : Nat} {vl : Value} {vs : List Value} (h : BookIs w B bp vl vs) : vl.ownBlock ≠ some bp := by
  rcases h.row.2 with ⟨rfl, _⟩ | ⟨g, cap, cur, rfl, _, hh, _⟩
  · simp [Value.ownBlock]
  · intro he
    simp only [Value.ownBlock, Option.some.injEq] at he
    subst he
    have := h.at_
    rw [hh] at this
    simp at this
theorem info_row : (Tryd.prog.info? 24).map (fun i => (i.zero, i.size, i.bytes)) = some (some (.slice none 0 0), 1, 24) := by kernel_rfl

theorem take_any (w : World) (B bp : Nat) (vl : Value) (vs : List Value) (p : Option Addr) (n c : Nat) (hbk : BookIs w B bp vl vs) (hB : B ≤ w.heap.size) (hsz : vs.length ≤ 1000000) :
    Calls Tryd.prog 16 #[.pointer (some ⟨bp, 0, none⟩), .slice p n c] w fun e w' => e = .returned (.tuple #[]) ∧ ∃ vl', BookIs w' B bp vl' (vs ++ [.slice p n c]) ∧ w.heap.size ≤ w'.heap.size ∧ (∀ k, k < w.heap.size → k ≠ bp → some k ≠ vl.ownBlock → w'.heap[k]? = w.heap[k]?) ∧ w'.os = w.os ∧ w'.tape = w.tape ∧ w'.output = w.output := by
  have hc := hbk.cell
  go_enter Tryd.func16, Tryd.ntmps16
  go_wp2_with (at_builtin; refine wpList_append_val rfl (.tmp 8) (.tmp 10) 28 rfl B 24 (.slice none 0 0) 24 Tryd.underlying28 info_row rfl vl vs.length vs (.slice p n c) rfl rfl rfl hbk.row ?h63 ?hbytes hB ?_)
  case h63 => unfold maxLen; omega
  case hbytes => omega
  intro vl' w1 r1 g1 b1 n1
  obtain ⟨g0, cap0, rfl, _, _⟩ := r1.form (by omega)
  have hne : vl.ownBlock ≠ some bp := hbk.apart
  have hat : w1.heap[bp]? = some (.cells #[vl] 30 (0, 0)) := by
    rw [g1.block bp hbk.lt (fun h => hne h.symm)]; exact hbk.at_
  have hc1 : w1.cell? ⟨bp, 0, none⟩ = some vl := by simp only [World.cell?, hat]; rfl
  have hf1 : w1.frozen? ⟨bp, 0, none⟩ = false := by simp [World.frozen?, hat]
  have hbk1 : BookIs w1 B bp vl vs → True := fun _ => trivial
  have ha1 : (Value.slice (some ⟨g0, 0, none⟩) (vs.length + 1) cap0).ownBlock ≠ some bp := by
    rcases r1.2 with ⟨hq, _⟩ | ⟨g, cap, cur, hq, _, hh, _⟩
    · cases hq
    · intro he
      simp only [Value.slice.injEq, Option.some.injEq, Addr.mk.injEq] at hq
      obtain ⟨⟨rfl, _⟩, _⟩ := hq
      simp only [Value.ownBlock, Option.some.injEq] at he
      subst he
      rw [hh] at hat
      simp at hat
  have R1 := Lib.hid r1
  clear r1
  go_wp2_with fail
  refine bodyPost_end (results_none rfl _ _ _) rfl ?_
  refine ⟨rfl, .slice (some ⟨g0, 0, none⟩) (vs.length + 1) cap0, ⟨?_, ?_⟩, ?_, ?_, ?_⟩
  · simp [World.setCell, Array.getElem?_modify, hat]
  · rw [List.length_append, List.length_singleton]
    exact R1.out.kept (grownBy_setCell w1 bp 0 _) (.inr ha1)
  · have := g1.size
    simpa [World.setCell] using this
  · intro k hk hkb hkv
    rw [(grownBy_setCell w1 bp 0 _).block k (by have := g1.size; omega) (by simpa using hkb)]
    exact g1.block k hk hkv
  · exact ⟨g1.os, g1.tape, g1.output⟩
end Go.Proofs.YtabemlpkajhglaaDoor
