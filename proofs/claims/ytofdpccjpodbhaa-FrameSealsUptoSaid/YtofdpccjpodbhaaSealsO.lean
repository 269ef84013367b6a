/-
  What FrameSeals keeps behind its first loop. No conditions.
-/
import Derived.Test.YtofdpccjpodbhaaSealsN
import Derived.Test.YtofdpccjpodbhaaTurn5
namespace Go.Proofs.Ytofdpccjpodbhaa
open Go.RowKit
set_option linter.unusedVariables false

theorem OwnBytes.same {wE wr : World} {B T : Nat} {v : Value} {l : List UInt8} (h : OwnBytes wE B T v l) (e : ∀ k, v.ownBlock = some k → wr.heap[k]? = wE.heap[k]?) : OwnBytes wr B T v l := by
  obtain ⟨h1, h2⟩ := h.row
  refine ⟨⟨h1, ?_⟩⟩
  rcases h2 with h2 | ⟨g, cap, cur, e1, hg, hh, r⟩
  · exact .inl h2
  · exact .inr ⟨g, cap, cur, e1, hg, (e g (by rw [e1]; rfl)).trans hh, r⟩

/-- x's and t's cells, t's rows -/
structure SEnv (w : World) (N ab x6 x7 : Nat) (T C : Int) (e6 b6 e7 b7 : Value) (r1 r2 : List UInt8) : Prop where
  f6 : FrAt w x6 T C e6 b6
  f7 : FrAt w x7 T C e7 b7
  t1 : OwnBytes w N 5 e7 r1
  t2 : OwnBytes w N 5 b7 r2
  l1 : ∀ k, e7.ownBlock = some k → N ≤ k ∧ k < ab
  l2 : ∀ k, b7.ownBlock = some k → N ≤ k ∧ k < ab
  h6 : x6 < ab
  h7 : x7 < ab
theorem SEnv.kept {w w' : World} {N ab x6 x7 : Nat} {T C : Int} {e6 b6 e7 b7 : Value} {r1 r2 : List UInt8} {row : Option Nat} (h : SEnv w N ab x6 x7 T C e6 b6 e7 b7 r1 r2) (hg : w.grownBy w' row)
    (hr : ∀ k, row = some k → k ≠ x6 ∧ k ≠ x7 ∧ (k < N ∨ ab ≤ k)) : SEnv w' N ab x6 x7 T C e6 b6 e7 b7 r1 r2 := by
  have off : ∀ {v : Value}, (∀ k, v.ownBlock = some k → N ≤ k ∧ k < ab) → v.ownBlock = none ∨ v.ownBlock ≠ row := fun {v} hv => by
    cases e : v.ownBlock with
    | none => exact .inl rfl
    | some g =>
      refine .inr (fun he => ?_)
      have h1 := hv g e
      have h2 := (hr g he.symm).2.2
      omega
  exact ⟨h.f6.of_block (hg.block x6 h.f6.lt (fun he => (hr x6 he.symm).1 rfl)), h.f7.of_block (hg.block x7 h.f7.lt (fun he => (hr x7 he.symm).2.1 rfl)), h.t1.kept hg (off h.l1), h.t2.kept hg (off h.l2), h.l1, h.l2, h.h6, h.h7⟩
theorem SEnv.below {w w' : World} {N ab x6 x7 : Nat} {T C : Int} {e6 b6 e7 b7 : Value} {r1 r2 : List UInt8} (h : SEnv w N ab x6 x7 T C e6 b6 e7 b7 r1 r2) (hb : Below w.heap.size w w') : SEnv w' N ab x6 x7 T C e6 b6 e7 b7 r1 r2 :=
  h.kept (row := none) ⟨hb.os, hb.tape, hb.output, hb.size, fun k hk _ => hb.block k hk⟩ (fun k hk => by simp at hk)

theorem Shelf5.lent {w0 wr w' : World} {bp B g : Nat} {vl : Value} {vs : List Value} {ls : Nat → List UInt8} (h : Shelf5 w0 wr bp B vl vs ls) (hg : wr.grownBy w' (some g)) (h1 : w0.heap.size ≤ g) (h2 : g < B) (h3 : g ≠ bp) : Shelf5 w0 w' bp B vl vs ls := by
  have hr : ∀ b, some g = some b → b < B := fun b hb => by simp only [Option.some.injEq] at hb; omega
  refine h.kept hg (fun k hk => by simp only [Option.some.injEq] at hk; omega) (fun he => by simp only [Option.some.injEq] at he; omega) (off_row h.book.row hr) (fun j hj => ?_)
  obtain ⟨T, hu⟩ := (h.rows j hj).own
  exact off_row hu.row hr

theorem kept_lent (w : World) (g n cap : Nat) (r : List UInt8) (a : Option Addr) (c : Nat) (h : LentAt w g n cap r) (hb : BytesIn w a n c r) (hz : n ≤ 1048576) :
    Calls Try.prog 15 #[.slice (some ⟨g, 0, none⟩) n cap, .slice a n c] w fun e w' => e = .returned (.bool true) ∧ w.grownBy w' (some g) := by
  obtain ⟨L, h1, h2, h3⟩ := h.ex
  exact kept_any w g n cap L r a c h1 h2 h3 h.le h.cap hb hz

theorem wpList_copy_lentAt {P : Program} {w : World} {ops : Array Oper} {rest : List Oper} {o : Oper} {a : Act} {Q : Exit → Act → World → Prop} (hgd : o.guard = none) (d s : Operand) (dT : TypeId)
    (ho : o.op = .call { callee := .builtin .copy, args := #[d, s], argTypes := #[dT, dT] }) (hu : P.underlying dT = some (.slice 5)) (hinfo : (P.info? 5).map (fun i => (i.zero, i.size, i.bytes)) = some (some (.int .u8 0), 1, 1))
    (sp : Option Addr) (n cap sCap : Nat) (g : Nat) (hd : a.eval d = .slice (some ⟨g, 0, none⟩) n cap) (hs : a.eval s = .slice sp n sCap)
    (l src : List UInt8) (hb : LentAt w g n cap l) (hsrc : BytesIn w sp n sCap src)
    (h : ∀ w', LentAt w' g n cap src → w.grownBy w' (some g) → wpList P ops Q rest (a.put o.dst (goInt (n : Int))) w') :
    wpList P ops Q (o :: rest) a w := by
  obtain ⟨L, h1, h2, h3⟩ := hb.ex
  have hle := hb.le
  refine wpList_copy_lent hgd d s dT ho hu hinfo sp n cap sCap g hd hs L src h1 hsrc (by omega) fun w' k1 k2 k3 k4 => ?_
  exact h w' (hb.copied h1 k1 hsrc.len h2 h3) ⟨k2.os, k2.tape, k2.output, by omega, fun k hk hne => k4 k (fun e => hne (by rw [e]))⟩

/-- a block laid whole is a row of the call's own -/
theorem owns_block {w : World} {B T k n ab : Nat} {cs : Array Value} (h : w.heap[ab]? = some (.cells cs T (0, 0))) (hB : B ≤ ab) (hBs : B ≤ w.heap.size) (hn : cs.size = n * k) (hm : n ≤ maxLen) : w.ownsRow B T k (.slice (some ⟨ab, 0, none⟩) n n) n cs.toList :=
  ⟨by simpa using hn, .inr ⟨ab, n, cs, rfl, hB, h, Nat.le_refl _, hm, hn, List.take_of_length_le (by simpa using Nat.le_of_eq hn)⟩⟩
end Go.Proofs.Ytofdpccjpodbhaa
