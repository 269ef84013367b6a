/-
  The reference's Deliver, Arrive. Conditions: its session lies in memory.
  The reference's Deliver. Conditions: its session lies in memory.
  One of the reference's rows turned. Conditions: its session lies in memory. (Printed by a program.)
-/
import Derived.Test.YtbkimebmoafbnaaMg13
namespace Go.Proofs.Ytbkimebmoafbnaa
open Go.RowKit Go.Maps
set_option linter.unusedVariables false

theorem App1.cell {w w' : World} {base e size n : Nat} {v v' : Value} {xs : List Value} (h : App1 w w' base e size n v v' xs) {a : Addr} {u : Value} (hc : w.cell? a = some u) (hn : v.ownBlock ≠ some a.block) : w'.cell? a = some u :=
  (World.cell?_of_block (h.grown.block a.block (World.block_lt_of_cell? w _ hc) (fun e => hn e.symm))).trans hc
theorem App1.frozen {w w' : World} {base e size n : Nat} {v v' : Value} {xs : List Value} (h : App1 w w' base e size n v v' xs) {a : Addr} (hc : a.block < w.heap.size) (hn : v.ownBlock ≠ some a.block) : w'.frozen? a = w.frozen? a :=
  World.frozen?_of_block (h.grown.block a.block hc (fun e => hn e.symm))

theorem RX.offS {w : World} {r B : Nat} {s : SS} {hs : List Int} {rs : List (Int × Int)} {vh vr vs va : Value} (h : RX w r B s hs rs vh vr vs va) : vs.ownBlock ≠ some r := fun e => by have := (h.inn.vs.lt r e).1; have := h.inn.lt; omega
theorem RX.offA {w : World} {r B : Nat} {s : SS} {hs : List Int} {rs : List (Int × Int)} {vh vr vs va : Value} (h : RX w r B s hs rs vh vr vs va) : va.ownBlock ≠ some r := fun e => by have := (h.inn.va.lt r e).1; have := h.inn.lt; omega

theorem RTo.same {w w' : World} {r B : Nat} {s : SS} {hs : List Int} {rs : List (Int × Int)} {vh vr vs va : Value} (h : RX w r B s hs rs vh vr vs va) (e : w' = w) : RTo w w' r B s hs rs vh vr vs va := by
  subst e
  exact RTo.of_row h h.inn (grow_refl _ _)
/-- an operation that turns the row alone, behind another one -/
theorem RTo.then_row {w w1 w' : World} {r B : Nat} {s1 s' : SS} {hs1 : List Int} {rs1 : List (Int × Int)} {vh vr vs va : Value} (h : RTo w w1 r B s1 hs1 rs1 vh vr vs va)
    (k : ∀ vh' vr' vs' va', RX w1 r B s1 hs1 rs1 vh' vr' vs' va' → RIn w' r B s' hs1 rs1 vh' vr' vs' va' ∧ w1.grownBy w' (some r)) : RTo w w' r B s' hs1 rs1 vh vr vs va := by
  obtain ⟨vh', vr', vs', va', h1, h2, h3⟩ := h
  obtain ⟨k1, k2⟩ := k _ _ _ _ h1
  exact ⟨vh', vr', vs', va', ⟨k1, h1.dj⟩, h2, ⟨k2.os.trans h3.os, k2.tape.trans h3.tape, k2.output.trans h3.output, Nat.le_trans h3.size k2.size, fun j hj hn => (k2.block j (Nat.lt_of_lt_of_le hj h3.size) (fun e => hn (.inl (Option.some.inj e)))).trans (h3.block j hj hn)⟩⟩

set_option maxRecDepth 20000 in
set_option maxHeartbeats 4000000 in
theorem rarrive_any (w : World) (r B : Nat) (s : SS) (hs : List Int) (rs : List (Int × Int)) (vh vr vs va : Value) (id n : Int) (tag : ByteArray) (settled : Bool) (h : RX w r B s hs rs vh vr vs va) (ht : hs = s.rem.map Prod.fst) (hl : s.arr.length ≤ 1073741824) :
    Calls Try.prog 45 #[.pointer (some ⟨r, 0, none⟩), .int .i64 id, .int .i64 n, .string tag, .bool settled] w fun e w' => e = .returned (.int .i64 (arriveS s id n tag settled).2) ∧ RTo w w' r B (arriveS s id n tag settled).1 hs rs vh vr vs va := by
  have hwd := rword_any id w
  have hu := rused_any w r B s hs rs vh vr vs va n h.inn
  obtain ⟨pa, ca, hva, hpa, _⟩ := PndRd.of_row h.inn.va
  have c16 : w.cell? ⟨r, 16, none⟩ = some va := h.inn.cs 16 _ rfl
  have hoff := h.offA
  obtain ⟨N, hN⟩ : ∃ N, s.arr.length = N := ⟨_, rfl⟩
  have hnm := numbered_any w pa ca s.arr N id hN hpa
  obtain ⟨i1, i2, _⟩ := hpa.info hN
  rw [hN] at hva
  have HVA := Lib.hid hva
  rw [hva] at c16 hoff
  have fz := h.inn.fz
  obtain ⟨D, hD⟩ : ∃ D, arriveS s id n tag settled = D := ⟨_, rfl⟩
  rw [hD]
  have HD := Lib.hid hD
  have H := Lib.hid h
  have HL := Lib.hid (And.intro hl hN)
  rw [ht] at hu
  clear h hD ht hpa hva hl hN
  by_cases h0 : Word id
  · rw [decide_eq_true h0] at hwd
    have H0 := Lib.hid h0
    clear h0
    by_cases h1 : n ∈ s.rem.map Prod.fst
    · rw [decide_eq_true h1] at hu
      have H1 := Lib.hid h1
      clear h1
      by_cases h2 : id ∈ s.arr.map Pnd.id
      · rw [decide_eq_true h2] at hnm
        have hd : D = (s, 131) := by rw [← HD.out, arriveS, if_neg (fun q => q H0.out), if_neg (fun q => q H1.out), if_pos h2]
        subst hd
        clear h2
        go_enter Try.func45, Try.ntmps45
        go_wp2_with fail
        refine hwd.mono ?_
        clear hwd
        rintro e w1 ⟨rfl, rfl⟩
        go_wp2_with fail
        refine hu.mono ?_
        clear hu
        rintro e w1 ⟨rfl, rfl⟩
        go_wp2_with fail
        refine hnm.mono ?_
        clear hnm
        rintro e w1 ⟨rfl, rfl⟩
        go_wp2_with fail
        go_ret
        exact ⟨rfl, RTo.same H.out rfl⟩
      · rw [decide_eq_false h2] at hnm
        have hd : D = (s.putA ⟨id, n, tag⟩ settled, 0) := by rw [← HD.out, arriveS, if_neg (fun q => q H0.out), if_neg (fun q => q H1.out), if_neg h2]
        subst hd
        clear h2
        cases settled
        · obtain ⟨i0, hi, hz0, hz1, hz2⟩ := info_parts info_pend
          have hNb : N + 1 ≤ 1073741825 := by have := HL.out; omega
          go_enter Try.func45, Try.ntmps45
          go_wp2_with fail
          refine hwd.mono ?_
          clear hwd
          rintro e w1 ⟨rfl, rfl⟩
          go_wp2_with fail
          refine hu.mono ?_
          clear hu
          rintro e w1 ⟨rfl, rfl⟩
          go_wp2_with fail
          refine hnm.mono ?_
          clear hnm
          rintro e w1 ⟨rfl, rfl⟩
          have hrow : w1.ownsRow B 59 3 (.slice pa N ca) N (pndRow s.arr) := by
            have := H.out.inn.va
            rw [HL.out.2, HVA.out] at this
            exact this
          have HROW := Lib.hid hrow
          clear hrow
          go_wp2_with (first
            | (at_builtin; refine wpList_append_two _ rfl (.tmp 36) (.tmp 41) 56 rfl B 59 i0 _ 3 32 Try.underlying56 hi hz0 hz1 hz2 rfl _ _ _ rfl (HROW.out.alloc _) ⟨w1.heap.size, 0, none⟩ 1 [.int .i64 id, .int .i64 n, .string tag] rfl rfl (fun j u hj => cell_of_newrow hj) (by simp [Value.oneCell']) (by unfold maxLen; omega) (by omega) ?_; intro v' w2 hA; have e16 := hA.cell (a := ⟨r, 16, none⟩) (bs_cell ((Below.refl _ _).alloc (Nat.le_refl _) _) c16) hoff; have f16 : w2.frozen? ⟨r, 16, none⟩ = false := (hA.frozen (a := ⟨r, 16, none⟩) (World.block_lt_of_cell? _ _ (bs_cell ((Below.refl _ _).alloc (Nat.le_refl _) _) c16)) hoff).trans ((H.out.below ((Below.refl _ _).alloc (Nat.le_refl _) _)).inn.fz 16); have HA := Lib.hid hA; obtain ⟨p', c', rfl⟩ := hA.slice; clear hA))
          go_ret
          have hAp := HA.out
          rw [← HVA.out, ← HL.out.2] at hAp
          rw [← HL.out.2]
          exact ⟨rfl, RX.pushA (p := ⟨id, n, tag⟩) H.out ((Below.refl _ _).alloc (Nat.le_refl _) _) hAp⟩
        · go_enter Try.func45, Try.ntmps45
          go_wp2_with fail
          refine hwd.mono ?_
          clear hwd
          rintro e w1 ⟨rfl, rfl⟩
          go_wp2_with fail
          refine hu.mono ?_
          clear hu
          rintro e w1 ⟨rfl, rfl⟩
          go_wp2_with fail
          refine hnm.mono ?_
          clear hnm
          rintro e w1 ⟨rfl, rfl⟩
          go_wp2_with fail
          go_ret
          exact ⟨rfl, RTo.of_row H.out H.out.inn (grow_refl _ _)⟩
    · rw [decide_eq_false h1] at hu
      have hd : D = (s, 132) := by rw [← HD.out, arriveS, if_neg (fun q => q H0.out), if_pos h1]
      subst hd
      clear h1
      go_enter Try.func45, Try.ntmps45
      go_wp2_with fail
      refine hwd.mono ?_
      clear hwd
      rintro e w1 ⟨rfl, rfl⟩
      go_wp2_with fail
      refine hu.mono ?_
      clear hu
      rintro e w1 ⟨rfl, rfl⟩
      go_wp2_with fail
      go_ret
      exact ⟨rfl, RTo.same H.out rfl⟩
  · rw [decide_eq_false h0] at hwd
    have hd : D = (s, 1) := by rw [← HD.out, arriveS, if_pos h0]
    subst hd
    clear h0 hu
    go_enter Try.func45, Try.ntmps45
    go_wp2_with fail
    refine hwd.mono ?_
    clear hwd
    rintro e w1 ⟨rfl, rfl⟩
    go_wp2_with fail
    go_ret
    exact ⟨rfl, RTo.same H.out rfl⟩
end Go.Proofs.Ytbkimebmoafbnaa

namespace Go.Proofs.Ytbkimebmoafbnaa
open Go.RowKit Go.Maps
set_option linter.unusedVariables false

theorem SS.nd_ok {s : SS} (h : s.ok) {n : Int} (hn : Word n) : ({ s with nd := n } : SS).ok := ⟨h.first, h.no, h.ow, h.ni, h.iw, h.ri, h.ro, hn, h.hm, h.rh⟩

set_option maxRecDepth 20000 in
set_option maxHeartbeats 4000000 in
theorem rdeliver_any (w : World) (r B : Nat) (s : SS) (hs : List Int) (rs : List (Int × Int)) (vh vr vs va : Value) (n : Int) (tag : ByteArray) (settled : Bool) (h : RX w r B s hs rs vh vr vs va) (ht : hs = s.rem.map Prod.fst) (hl : s.snd.length ≤ 1073741824) :
    Calls Try.prog 44 #[.pointer (some ⟨r, 0, none⟩), .int .i64 n, .string tag, .bool settled] w fun e w' => e = .returned (.tuple #[.int .i64 (deliverS s n tag settled).2.1, .int .i64 (deliverS s n tag settled).2.2]) ∧ RTo w w' r B (deliverS s n tag settled).1 hs rs vh vr vs va := by
  have hu := rused_any w r B s hs rs vh vr vs va n h.inn
  obtain ⟨pa, ca, hva, hpa, _⟩ := PndRd.of_row h.inn.vs
  have c15 : w.cell? ⟨r, 15, none⟩ = some vs := h.inn.cs 15 _ rfl
  have c8 : w.cell? ⟨r, 8, none⟩ = some (.int .i64 s.nd) := h.inn.cs 8 _ rfl
  have hoff := h.offS
  obtain ⟨N, hN⟩ : ∃ N, s.snd.length = N := ⟨_, rfl⟩
  have hnm := numbered_any w pa ca s.snd N s.nd hN hpa
  obtain ⟨i1, i2, _⟩ := hpa.info hN
  rw [hN] at hva
  have HVA := Lib.hid hva
  rw [hva] at c15 hoff
  have fz := h.inn.fz
  obtain ⟨D, hD⟩ : ∃ D, deliverS s n tag settled = D := ⟨_, rfl⟩
  rw [hD]
  have HD := Lib.hid hD
  have H := Lib.hid h
  have HL := Lib.hid (And.intro hl hN)
  rw [ht] at hu
  clear h hD ht hpa hva hl hN
  by_cases h1 : n ∈ s.rem.map Prod.fst
  · rw [decide_eq_true h1] at hu
    have H1 := Lib.hid h1
    clear h1
    by_cases h2 : s.nd ∈ s.snd.map Pnd.id
    · rw [decide_eq_true h2] at hnm
      have hd : D = (s, 0, 131) := by rw [← HD.out, deliverS, if_neg (fun q => q H1.out), if_pos h2]
      subst hd
      clear h2
      go_enter Try.func44, Try.ntmps44
      go_wp2_with fail
      refine hu.mono ?_
      clear hu
      rintro e w1 ⟨rfl, rfl⟩
      go_wp2_with fail
      refine hnm.mono ?_
      clear hnm
      rintro e w1 ⟨rfl, rfl⟩
      go_wp2_with fail
      go_ret2
      exact ⟨rfl, RTo.same H.out rfl⟩
    · rw [decide_eq_false h2] at hnm
      have hd : D = ({ s.put ⟨s.nd, n, tag⟩ settled with nd := addS s.nd 1 }, s.nd, 0) := by rw [← HD.out, deliverS, if_neg (fun q => q H1.out), if_neg h2]
      subst hd
      clear h2
      cases settled
      · obtain ⟨i0, hi, hz0, hz1, hz2⟩ := info_parts info_pend
        have hNb : N + 1 ≤ 1073741825 := by have := HL.out; omega
        go_enter Try.func44, Try.ntmps44
        go_wp2_with fail
        refine hu.mono ?_
        clear hu
        rintro e w1 ⟨rfl, rfl⟩
        go_wp2_with fail
        refine hnm.mono ?_
        clear hnm
        rintro e w1 ⟨rfl, rfl⟩
        have hrow : w1.ownsRow B 59 3 (.slice pa N ca) N (pndRow s.snd) := by
          have := H.out.inn.vs
          rw [HL.out.2, HVA.out] at this
          exact this
        have HROW := Lib.hid hrow
        clear hrow
        go_upto_region 10 with (first
          | (at_builtin; refine wpList_append_two _ rfl (.tmp 36) (.tmp 41) 56 rfl B 59 i0 _ 3 32 Try.underlying56 hi hz0 hz1 hz2 rfl _ _ _ rfl (HROW.out.alloc _) ⟨w1.heap.size, 0, none⟩ 1 [.int .i64 s.nd, .int .i64 n, .string tag] rfl rfl (fun j u hj => cell_of_newrow hj) (by simp [Value.oneCell']) (by unfold maxLen; omega) (by omega) ?_; intro v' w2 hA; have e15 := hA.cell (a := ⟨r, 15, none⟩) (bs_cell ((Below.refl _ _).alloc (Nat.le_refl _) _) c15) hoff; have f15 : w2.frozen? ⟨r, 15, none⟩ = false := (hA.frozen (a := ⟨r, 15, none⟩) (World.block_lt_of_cell? _ _ (bs_cell ((Below.refl _ _).alloc (Nat.le_refl _) _) c15)) hoff).trans ((H.out.below ((Below.refl _ _).alloc (Nat.le_refl _) _)).inn.fz 15); have HA := Lib.hid hA; obtain ⟨p', c', rfl⟩ := hA.slice; clear hA))
        have hAp := HA.out
        rw [← HVA.out, ← HL.out.2] at hAp
        have hRT := RX.pushS (p := ⟨s.nd, n, tag⟩) H.out ((Below.refl _ _).alloc (Nat.le_refl _) _) hAp
        rw [HL.out.2] at hRT
        generalize w2.setCell ⟨r, 15, none⟩ (.slice p' (N + 1) c') = w3 at *
        obtain ⟨vh', vr', vs', va', hX3, _, _⟩ := id hRT
        have d8 : w3.cell? ⟨r, 8, none⟩ = some (.int .i64 s.nd) := hX3.inn.cs 8 _ rfl
        have fz3 := hX3.inn.fz
        have hadd := refAdd_any s.nd 1 w3 H.out.inn.ok.nd.i64 (by unfold IsI64; omega)
        have HRT := Lib.hid hRT
        clear hRT hAp e15 f15 c15 c8 fz hX3
        go_wp2_with fail
        refine hadd.mono ?_
        clear hadd
        rintro e w4 ⟨rfl, rfl⟩
        go_wp2_with fail
        go_ret2
        refine ⟨rfl, HRT.out.then_row (fun vh' vr' vs' va' hX => ⟨hX.inn.turn ?_ (grow_cell (grow_refl _ _)) rfl rfl (SS.nd_ok hX.inn.ok (addS_word _ _)), grow_cell (grow_refl _ _)⟩)⟩
        rw [heap_setCell_same _ r 8 _ _ _ hX.inn.row]
        simp [rcells, SS.put]
      · have hadd := refAdd_any s.nd 1 w H.out.inn.ok.nd.i64 (by unfold IsI64; omega)
        go_enter Try.func44, Try.ntmps44
        go_wp2_with fail
        refine hu.mono ?_
        clear hu
        rintro e w1 ⟨rfl, rfl⟩
        go_wp2_with fail
        refine hnm.mono ?_
        clear hnm
        rintro e w1 ⟨rfl, rfl⟩
        go_wp2_with fail
        refine hadd.mono ?_
        clear hadd
        rintro e w4 ⟨rfl, rfl⟩
        go_wp2_with fail
        go_ret2
        refine ⟨rfl, RTo.of_row H.out (H.out.inn.turn ?_ (grow_cell (grow_refl _ _)) rfl rfl (SS.nd_ok H.out.inn.ok (addS_word _ _))) (grow_cell (grow_refl _ _))⟩
        rw [heap_setCell_same _ r 8 _ _ _ H.out.inn.row]
        simp [rcells, SS.put]
  · rw [decide_eq_false h1] at hu
    have hd : D = (s, 0, 132) := by rw [← HD.out, deliverS, if_pos h1]
    subst hd
    clear h1
    go_enter Try.func44, Try.ntmps44
    go_wp2_with fail
    refine hu.mono ?_
    clear hu
    rintro e w1 ⟨rfl, rfl⟩
    go_wp2_with fail
    go_ret2
    exact ⟨rfl, RTo.same H.out rfl⟩
end Go.Proofs.Ytbkimebmoafbnaa

namespace Go.Proofs.Ytbkimebmoafbnaa
open Go.RowKit Go.Maps
set_option linter.unusedVariables false

/-- what goes ahead of a row's store: nothing that was there turns but the row v -/
structure PreV (w w2 : World) (v : Value) : Prop where
  os : w2.os = w.os
  tape : w2.tape = w.tape
  output : w2.output = w.output
  size : w.heap.size ≤ w2.heap.size
  block : ∀ j, j < w.heap.size → v.ownBlock ≠ some j → w2.heap[j]? = w.heap[j]?

theorem PreV.of_below {w w2 : World} {v : Value} (h : Below w.heap.size w w2) : PreV w w2 v := ⟨h.os, h.tape, h.output, h.size, fun j hj _ => h.block j hj⟩
theorem PreV.of_app {w w1 w2 : World} {base e size n : Nat} {v v' : Value} {xs : List Value} (hb : Below w.heap.size w w1) (h : App1 w1 w2 base e size n v v' xs) : PreV w w2 v :=
  have g := h.grown
  ⟨g.os.trans hb.os, g.tape.trans hb.tape, g.output.trans hb.output, Nat.le_trans hb.size g.size, fun j hj hn => (g.block j (Nat.lt_of_lt_of_le hj hb.size) (fun e => hn e.symm)).trans (hb.block j hj)⟩
theorem App1.newer {w w1 w2 : World} {base e size n : Nat} {v v' : Value} {xs : List Value} (hb : Below w.heap.size w w1) (h : App1 w1 w2 base e size n v v' xs) : ∀ j, v'.ownBlock = some j → v.ownBlock = some j ∨ w.heap.size ≤ j := fun j hj => by
  rcases h.own hj with q | q
  · exact .inl q
  · exact .inr (by have := hb.size; omega)

variable {w : World} {r B : Nat} {s : SS} {hs : List Int} {rs : List (Int × Int)} {vh vr vs va : Value}

theorem RX.setH (h : RX w r B s hs rs vh vr vs va) {w2 : World} {v' : Value} {l' : List Int} {s' : SS} (hp : PreV w w2 vh) (hown : w2.ownsRow B 3 1 v' l'.length (l'.map encZ)) (hnew : ∀ j, v'.ownBlock = some j → vh.ownBlock = some j ∨ w.heap.size ≤ j) (hc : ∀ a b c d, rcells s' a b c d = rcells s a b c d) (hsnd : s'.snd = s.snd) (harr : s'.arr = s.arr) (hok : s'.ok) :
    RTo w (w2.setCell ⟨r, 13, none⟩ v') r B s' l' rs vh vr vs va := by
  have hno : ∀ {b e z n : Nat} {v : Value} {x : List Value}, w.ownsRow b e z v n x → (∀ j, vh.ownBlock = some j → v.ownBlock ≠ some j) → r < b → (w2.setCell ⟨r, 13, none⟩ v').ownsRow b e z v n x := fun hv hd hrb => ownsRow_same' hv (fun j hj => (set_far (by have := (hv.lt j hj).1; omega)).trans (hp.block j (hv.lt j hj).2 (fun e => hd j e hj)))
  have hrow : w2.heap[r]? = _ := (hp.block r (h.inn.blt r (.inl rfl)) (fun e => by have := (h.inn.vh.lt r e).1; have := h.inn.lt; omega)).trans h.inn.row
  have hownr := ownsRow_same' (w' := w2.setCell ⟨r, 13, none⟩ v') hown (fun j hj => set_far (by have := (hown.lt j hj).1; have := h.inn.lt; omega))
  refine ⟨v', vr, vs, va, ⟨⟨?_, hownr, hno h.inn.vr (fun j hj => kind_ne h.inn.vh h.inn.vr (by decide) hj) h.inn.lt, ?_, ?_, h.inn.lt, ?_, hok⟩, ?_⟩, ?_, ⟨hp.os, hp.tape, hp.output, ?_, ?_⟩⟩
  · rw [heap_setCell_same _ r 13 _ _ _ hrow]
    have e := hc vh vr vs va
    rw [← hc]
    simp [rcells]
  · rw [hsnd]
    exact hno h.inn.vs (fun j hj => kind_ne h.inn.vh h.inn.vs (by decide) hj) h.inn.lt
  · rw [harr]
    exact hno h.inn.va (fun j hj => kind_ne h.inn.vh h.inn.va (by decide) hj) h.inn.lt
  · have := h.inn.le; have := hp.size; simp [World.setCell]; omega
  · exact h.dj
  · rintro j (q | q | q | q | q)
    · exact .inl (.inl q)
    · rcases hnew j q with q | q
      · exact .inl (.inr (.inl q))
      · exact .inr q
    · exact .inl (.inr (.inr (.inl q)))
    · exact .inl (.inr (.inr (.inr (.inl q))))
    · exact .inl (.inr (.inr (.inr (.inr q))))
  · have := hp.size; simp [World.setCell]; omega
  · intro j hj hn
    exact (set_far (fun e => hn (.inl e))).trans (hp.block j hj (fun e => hn (.inr (.inl e))))

theorem RX.setR (h : RX w r B s hs rs vh vr vs va) {w2 : World} {v' : Value} {l' : List (Int × Int)} {s' : SS} (hp : PreV w w2 vr) (hown : w2.ownsRow B 111 2 v' l'.length (pairRow l')) (hnew : ∀ j, v'.ownBlock = some j → vr.ownBlock = some j ∨ w.heap.size ≤ j) (hc : ∀ a b c d, rcells s' a b c d = rcells s a b c d) (hsnd : s'.snd = s.snd) (harr : s'.arr = s.arr) (hok : s'.ok) :
    RTo w (w2.setCell ⟨r, 14, none⟩ v') r B s' hs l' vh vr vs va := by
  have hno : ∀ {b e z n : Nat} {v : Value} {x : List Value}, w.ownsRow b e z v n x → (∀ j, vr.ownBlock = some j → v.ownBlock ≠ some j) → r < b → (w2.setCell ⟨r, 14, none⟩ v').ownsRow b e z v n x := fun hv hd hrb => ownsRow_same' hv (fun j hj => (set_far (by have := (hv.lt j hj).1; omega)).trans (hp.block j (hv.lt j hj).2 (fun e => hd j e hj)))
  have hrow : w2.heap[r]? = _ := (hp.block r (h.inn.blt r (.inl rfl)) (fun e => by have := (h.inn.vr.lt r e).1; have := h.inn.lt; omega)).trans h.inn.row
  have hownr := ownsRow_same' (w' := w2.setCell ⟨r, 14, none⟩ v') hown (fun j hj => set_far (by have := (hown.lt j hj).1; have := h.inn.lt; omega))
  refine ⟨vh, v', vs, va, ⟨⟨?_, hno h.inn.vh (fun j hj => kind_ne h.inn.vr h.inn.vh (by decide) hj) h.inn.lt, hownr, ?_, ?_, h.inn.lt, ?_, hok⟩, ?_⟩, ?_, ⟨hp.os, hp.tape, hp.output, ?_, ?_⟩⟩
  · rw [heap_setCell_same _ r 14 _ _ _ hrow]
    have e := hc vh vr vs va
    rw [← hc]
    simp [rcells]
  · rw [hsnd]
    exact hno h.inn.vs (fun j hj => kind_ne h.inn.vr h.inn.vs (by decide) hj) h.inn.lt
  · rw [harr]
    exact hno h.inn.va (fun j hj => kind_ne h.inn.vr h.inn.va (by decide) hj) h.inn.lt
  · have := h.inn.le; have := hp.size; simp [World.setCell]; omega
  · exact h.dj
  · rintro j (q | q | q | q | q)
    · exact .inl (.inl q)
    · exact .inl (.inr (.inl q))
    · rcases hnew j q with q | q
      · exact .inl (.inr (.inr (.inl q)))
      · exact .inr q
    · exact .inl (.inr (.inr (.inr (.inl q))))
    · exact .inl (.inr (.inr (.inr (.inr q))))
  · have := hp.size; simp [World.setCell]; omega
  · intro j hj hn
    exact (set_far (fun e => hn (.inl e))).trans (hp.block j hj (fun e => hn (.inr (.inr (.inl e)))))

theorem RX.setS (h : RX w r B s hs rs vh vr vs va) {w2 : World} {v' : Value} {l' : List Pnd} {s' : SS} (hp : PreV w w2 vs) (hown : w2.ownsRow B 59 3 v' l'.length (pndRow l')) (hnew : ∀ j, v'.ownBlock = some j → vs.ownBlock = some j ∨ w.heap.size ≤ j) (hc : ∀ a b c d, rcells s' a b c d = rcells s a b c d) (hsnd : s'.snd = l') (harr : s'.arr = s.arr) (hok : s'.ok) :
    RTo w (w2.setCell ⟨r, 15, none⟩ v') r B s' hs rs vh vr vs va := by
  have hno : ∀ {b e z n : Nat} {v : Value} {x : List Value}, w.ownsRow b e z v n x → (∀ j, vs.ownBlock = some j → v.ownBlock ≠ some j) → r < b → (w2.setCell ⟨r, 15, none⟩ v').ownsRow b e z v n x := fun hv hd hrb => ownsRow_same' hv (fun j hj => (set_far (by have := (hv.lt j hj).1; omega)).trans (hp.block j (hv.lt j hj).2 (fun e => hd j e hj)))
  have hrow : w2.heap[r]? = _ := (hp.block r (h.inn.blt r (.inl rfl)) (fun e => by have := (h.inn.vs.lt r e).1; have := h.inn.lt; omega)).trans h.inn.row
  have hownr := ownsRow_same' (w' := w2.setCell ⟨r, 15, none⟩ v') hown (fun j hj => set_far (by have := (hown.lt j hj).1; have := h.inn.lt; omega))
  refine ⟨vh, vr, v', va, ⟨⟨?_, hno h.inn.vh (fun j hj => kind_ne h.inn.vs h.inn.vh (by decide) hj) h.inn.lt, hno h.inn.vr (fun j hj => kind_ne h.inn.vs h.inn.vr (by decide) hj) h.inn.lt, ?_, ?_, h.inn.lt, ?_, hok⟩, ?_⟩, ?_, ⟨hp.os, hp.tape, hp.output, ?_, ?_⟩⟩
  · rw [heap_setCell_same _ r 15 _ _ _ hrow]
    have e := hc vh vr vs va
    rw [← hc]
    simp [rcells]
  · rw [hsnd]
    exact hownr
  · rw [harr]
    exact hno h.inn.va (fun j hj hj2 => h.dj j hj hj2) h.inn.lt
  · have := h.inn.le; have := hp.size; simp [World.setCell]; omega
  · intro j hj hj2
    rcases hnew j hj with q | q
    · exact h.dj j q hj2
    · have := (h.inn.va.lt j hj2).2; omega
  · rintro j (q | q | q | q | q)
    · exact .inl (.inl q)
    · exact .inl (.inr (.inl q))
    · exact .inl (.inr (.inr (.inl q)))
    · rcases hnew j q with q | q
      · exact .inl (.inr (.inr (.inr (.inl q))))
      · exact .inr q
    · exact .inl (.inr (.inr (.inr (.inr q))))
  · have := hp.size; simp [World.setCell]; omega
  · intro j hj hn
    exact (set_far (fun e => hn (.inl e))).trans (hp.block j hj (fun e => hn (.inr (.inr (.inr (.inl e))))))

theorem RX.setA (h : RX w r B s hs rs vh vr vs va) {w2 : World} {v' : Value} {l' : List Pnd} {s' : SS} (hp : PreV w w2 va) (hown : w2.ownsRow B 59 3 v' l'.length (pndRow l')) (hnew : ∀ j, v'.ownBlock = some j → va.ownBlock = some j ∨ w.heap.size ≤ j) (hc : ∀ a b c d, rcells s' a b c d = rcells s a b c d) (hsnd : s'.snd = s.snd) (harr : s'.arr = l') (hok : s'.ok) :
    RTo w (w2.setCell ⟨r, 16, none⟩ v') r B s' hs rs vh vr vs va := by
  have hno : ∀ {b e z n : Nat} {v : Value} {x : List Value}, w.ownsRow b e z v n x → (∀ j, va.ownBlock = some j → v.ownBlock ≠ some j) → r < b → (w2.setCell ⟨r, 16, none⟩ v').ownsRow b e z v n x := fun hv hd hrb => ownsRow_same' hv (fun j hj => (set_far (by have := (hv.lt j hj).1; omega)).trans (hp.block j (hv.lt j hj).2 (fun e => hd j e hj)))
  have hrow : w2.heap[r]? = _ := (hp.block r (h.inn.blt r (.inl rfl)) (fun e => by have := (h.inn.va.lt r e).1; have := h.inn.lt; omega)).trans h.inn.row
  have hownr := ownsRow_same' (w' := w2.setCell ⟨r, 16, none⟩ v') hown (fun j hj => set_far (by have := (hown.lt j hj).1; have := h.inn.lt; omega))
  refine ⟨vh, vr, vs, v', ⟨⟨?_, hno h.inn.vh (fun j hj => kind_ne h.inn.va h.inn.vh (by decide) hj) h.inn.lt, hno h.inn.vr (fun j hj => kind_ne h.inn.va h.inn.vr (by decide) hj) h.inn.lt, ?_, ?_, h.inn.lt, ?_, hok⟩, ?_⟩, ?_, ⟨hp.os, hp.tape, hp.output, ?_, ?_⟩⟩
  · rw [heap_setCell_same _ r 16 _ _ _ hrow]
    have e := hc vh vr vs va
    rw [← hc]
    simp [rcells]
  · rw [hsnd]
    exact hno h.inn.vs (fun j hj hj2 => h.dj j hj2 hj) h.inn.lt
  · rw [harr]
    exact hownr
  · have := h.inn.le; have := hp.size; simp [World.setCell]; omega
  · intro j hj hj2
    rcases hnew j hj2 with q | q
    · exact h.dj j hj q
    · have := (h.inn.vs.lt j hj).2; omega
  · rintro j (q | q | q | q | q)
    · exact .inl (.inl q)
    · exact .inl (.inr (.inl q))
    · exact .inl (.inr (.inr (.inl q)))
    · exact .inl (.inr (.inr (.inr (.inl q))))
    · rcases hnew j q with q | q
      · exact .inl (.inr (.inr (.inr (.inr q))))
      · exact .inr q
  · have := hp.size; simp [World.setCell]; omega
  · intro j hj hn
    exact (set_far (fun e => hn (.inl e))).trans (hp.block j hj (fun e => hn (.inr (.inr (.inr (.inr e))))))
end Go.Proofs.Ytbkimebmoafbnaa
