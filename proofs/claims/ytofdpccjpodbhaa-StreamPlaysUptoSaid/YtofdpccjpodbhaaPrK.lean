/-
  A stream beside the document's, within the round of ranges: how all lies between the round's last statements; inner, whatever M. Conditions: both stand alike; the bytes lie elsewhere.
-/
import Derived.Test.YtofdpccjpodbhaaPr7
import Derived.Test.YtofdpccjpodbhaaStrB
namespace Go.Proofs.Ytofdpccjpodbhaa
open Go.RowKit
set_option linter.unusedVariables false

theorem Sync.le {K : PK} {N N' : Nat} {s : SM} {O : Nat → Prop} {hv : Value} {W : World} (h : Sync K N s O hv W) (hN : N ≤ N') : Sync K N' s O hv W := by
  obtain ⟨fr, rv, vc, vd, L, M, hp, h2, h3⟩ := h
  exact ⟨fr, rv, vc, vd, L, M, hp, h2, Nat.le_trans h3 hN⟩

theorem EPost.le {K : PK} {N N' : Nat} {v : Value} {O : Nat → Prop} {hv : Value} {W : World} {e : Ending} {W' : World} (h : EPost K N v O hv W e W') (hN : N ≤ N') : EPost K N' v O hv W e W' := by
  obtain ⟨s, h1, O', hv', hs, hk⟩ := h
  exact ⟨s, h1, O', hv', hs.le hN, hk⟩

theorem pinner_any (w : World) (K : PK) (N : Nat) (s : SM) (O : Nat → Prop) (hv : Value) (kd nn mm : Int) (da : Option Addr) (dn dc : Nat) (ma : Option Addr) (mn mc : Nat) (more : List UInt8) (h : Sync K N s O hv w) (hN : N + mn ≤ 549755813888) (hby : BytesIn w ma mn mc more) (hz : mn ≤ 1048576) (hlow : LowA K.B ma mc) :
    Calls Try.prog 68 #[.pointer (some ⟨K.pb, 0, none⟩), .agg #[.int .i64 kd, .int .i64 nn, .int .i64 mm, .slice da dn dc, .slice ma mn mc]] w (EPost K (N + mn) (.bool true) O hv w) := by
  by_cases hm : mm < 0
  · exact pinner_high w K N s O hv kd nn mm da dn dc ma mn mc more h hm hN hby hz hlow
  · exact (pinner_low w K N s O hv kd nn mm da dn dc ma mn mc h (by omega)).mono (fun e W h => EPost.le h (Nat.le_add_right _ _))

/-- where ranges keeps its variables -/
structure OffR (K : PK) (N lp gp gk gl go gn gv : Nat) (hv : Value) (O : Nat → Prop) : Prop where
  off : ∀ j, j = gp ∨ j = gk ∨ j = gl ∨ j = go ∨ j = gn ∨ j = gv → ¬ O j ∧ j ≠ K.b ∧ hv.ownBlock ≠ some j ∧ K.B ≤ j ∧ j < N ∧ j ≠ lp
  kv : gk ≠ gv

/-- the cells of ranges within a round -/
structure CellsR (K : PK) (gp gk gl go gn gv : Nat) (ro : Array Value) (c : Int) (vv : Bool) (vl : Value) (W : World) : Prop where
  cp : W.heap[gp]? = some (.cells #[.pointer (some ⟨K.pb, 0, none⟩)] 55 (0, 0))
  ck : W.heap[gk]? = some (.cells #[.bool true] 4 (0, 0))
  cel : W.heap[gl]? = some (.cells #[vl] 22 (0, 0))
  co : W.heap[go]? = some (.cells ro 64 (0, 0))
  cn : W.heap[gn]? = some (.cells #[.int .i64 c] 3 (0, 0))
  cv : W.heap[gv]? = some (.cells #[.bool vv] 4 (0, 0))

/-- the round's end -/
structure EndR (K : PK) (N gp gk gl go gn gv : Nat) (hv : Value) (O : Nat → Prop) (ro : Array Value) (vl : Value) (len : Nat) (W : World) (c : Int) (vv : Bool) (s2 : SM) (W3 : World) : Prop where
  cells : CellsR K gp gk gl go gn gv ro c vv vl W3
  frame : ∀ j, j < N → ¬ O j → j ≠ gk → j ≠ gl → j ≠ gn → j ≠ gv → j ≠ K.b → hv.ownBlock ≠ some j → W3.heap[j]? = W.heap[j]?
  os : W3.os = W.os ∧ W3.tape = W.tape ∧ W3.output = W.output ∧ W.heap.size ≤ W3.heap.size
  st : ∃ hv2 fr rv vc vd L M O3, Pair K fr s2 s2 hv2 rv vc vd L M O3 W3 ∧ L.map Prod.fst = M.map Prod.fst ∧ L.length ≤ len ∧ (∀ j, O3 j → O j ∨ N ≤ j) ∧ ∀ j, hv2.ownBlock = some j → hv.ownBlock = some j ∨ N ≤ j

theorem CellsR.keep {K : PK} {gp gk gl go gn gv : Nat} {ro : Array Value} {c : Int} {vv : Bool} {vl : Value} {W W' : World} (h : CellsR K gp gk gl go gn gv ro c vv vl W) (e : ∀ j, j = gp ∨ j = gk ∨ j = gl ∨ j = go ∨ j = gn ∨ j = gv → W'.heap[j]? = W.heap[j]?) : CellsR K gp gk gl go gn gv ro c vv vl W' :=
  ⟨(e _ (.inl rfl)).trans h.cp, (e _ (.inr (.inl rfl))).trans h.ck, (e _ (.inr (.inr (.inl rfl)))).trans h.cel, (e _ (.inr (.inr (.inr (.inl rfl))))).trans h.co, (e _ (.inr (.inr (.inr (.inr (.inl rfl)))))).trans h.cn, (e _ (.inr (.inr (.inr (.inr (.inr rfl)))))).trans h.cv⟩

theorem EndR.below {K : PK} {N gp gk gl go gn gv : Nat} {hv : Value} {O : Nat → Prop} {ro : Array Value} {vl : Value} {len : Nat} {W : World} {c : Int} {vv : Bool} {s2 : SM} {W3 W4 : World} (h : EndR K N gp gk gl go gn gv hv O ro vl len W c vv s2 W3) (hN : N ≤ W.heap.size) (hb : Below W3.heap.size W3 W4) : EndR K N gp gk gl go gn gv hv O ro vl len W c vv s2 W4 := by
  obtain ⟨hv2, fr, rv, vc, vd, L, M, O3, hp, h1⟩ := h.st
  have hlt : ∀ {j : Nat} {o : Obj}, W3.heap[j]? = some o → j < W3.heap.size := fun hj => (Array.getElem?_eq_some_iff.1 hj).1
  refine ⟨h.cells.keep (fun j hj => hb.block j ?_), fun j h1 h2 h3 h4 h5 h6 h7 h8 => (hb.block j (by have := h.os.2.2.2; omega)).trans (h.frame j h1 h2 h3 h4 h5 h6 h7 h8), ⟨hb.os.trans h.os.1, hb.tape.trans h.os.2.1, hb.output.trans h.os.2.2.1, Nat.le_trans h.os.2.2.2 hb.size⟩, ⟨hv2, fr, rv, vc, vd, L, M, O3, hp.below hb, h1⟩⟩
  rcases hj with rfl | rfl | rfl | rfl | rfl | rfl
  · exact hlt h.cells.cp
  · exact hlt h.cells.ck
  · exact hlt h.cells.cel
  · exact hlt h.cells.co
  · exact hlt h.cells.cn
  · exact hlt h.cells.cv

/-- inner, within a round -/
theorem EndR.inner {K : PK} {N N2 lp gp gk gl go gn gv : Nat} {hv : Value} {O : Nat → Prop} {ro : Array Value} {vl : Value} {len : Nat} {W : World} {c : Int} {vv : Bool} {hv2 : Value} {O3 : Nat → Prop} {W3 W4 : World} {v : Value} {e : Ending} (hoff : OffR K N lp gp gk gl go gn gv hv O) (hN : N ≤ W.heap.size)
    (hc : CellsR K gp gk gl go gn gv ro c vv vl W3) (hf : ∀ j, j < N → ¬ O j → j ≠ gk → j ≠ gl → j ≠ gn → j ≠ gv → j ≠ K.b → hv.ownBlock ≠ some j → W3.heap[j]? = W.heap[j]?) (ho : W3.os = W.os ∧ W3.tape = W.tape ∧ W3.output = W.output ∧ W.heap.size ≤ W3.heap.size)
    (hown : ∀ j, O3 j → O j ∨ N ≤ j) (hheld : ∀ j, hv2.ownBlock = some j → hv.ownBlock = some j ∨ N ≤ j) (h : EPost K N2 v O3 hv2 W3 e W4) (hN2 : N2 ≤ len) : e = .returned v ∧ ∃ s3, EndR K N gp gk gl go gn gv hv O ro vl len W c vv s3 W4 := by
  obtain ⟨s3, rfl, O4, hv4, ⟨fr4, rv4, vc4, vd4, L4, M4, hp4, hm4, hl4⟩, hk⟩ := h
  have hz3 := ho.2.2.2
  have blk : ∀ j, j < N → ¬ O j → j ≠ K.b → hv.ownBlock ≠ some j → W4.heap[j]? = W3.heap[j]? := fun j h1 h2 h3 h4 => hk.block j (by omega) (fun h => by
    rcases hown j h with h5 | h5
    · exact h2 h5
    · omega) h3 (fun h => by
    rcases hheld j h with h5 | h5
    · exact h4 h5
    · omega)
  refine ⟨rfl, s3, hc.keep (fun j hj => ?_), fun j h1 h2 h3 h4 h5 h6 h7 h8 => (blk j h1 h2 h7 h8).trans (hf j h1 h2 h3 h4 h5 h6 h7 h8), ⟨hk.os.trans ho.1, hk.tape.trans ho.2.1, hk.output.trans ho.2.2.1, Nat.le_trans hz3 hk.size⟩, ⟨hv4, fr4, rv4, vc4, vd4, L4, M4, O4, hp4, hm4, Nat.le_trans hl4 hN2, fun j hj => ?_, fun j hj => ?_⟩⟩
  · have o := hoff.off j hj
    exact blk j o.2.2.2.2.1 o.1 o.2.1 o.2.2.1
  · rcases hk.own j hj with h5 | h5
    · exact hown j h5
    · exact .inr (by omega)
  · rcases hk.held j hj with h5 | h5
    · exact hheld j h5
    · exact .inr (by omega)

/-- a store into the count -/
theorem EndR.setN {K : PK} {N lp gp gk gl go gn gv : Nat} {hv : Value} {O : Nat → Prop} {ro : Array Value} {vl : Value} {len : Nat} {W : World} {c : Int} {vv : Bool} {s2 : SM} {W3 : World} (h : EndR K N gp gk gl go gn gv hv O ro vl len W c vv s2 W3) (hoff : OffR K N lp gp gk gl go gn gv hv O) (hN : N ≤ W.heap.size) (c' : Int) :
    EndR K N gp gk gl go gn gv hv O ro vl len W c' vv s2 (W3.setCell ⟨gn, 0, none⟩ (.int .i64 c')) := by
  obtain ⟨hv2, fr, rv, vc, vd, L, M, O3, hp, h1, h2, h3, h4⟩ := h.st
  have hg := setCell_grown W3 gn 0 (.int .i64 c')
  have o := hoff.off gn (.inr (.inr (.inr (.inr (.inl rfl)))))
  have at_ : ∀ {j : Nat} {cs : Array Value} {T : Nat} {f : Nat × Nat}, W3.heap[j]? = some (.cells cs T f) → T ≠ 3 → (W3.setCell ⟨gn, 0, none⟩ (.int .i64 c')).heap[j]? = some (.cells cs T f) := fun hj hT => (hg.block _ (Array.getElem?_eq_some_iff.1 hj).1 (fun e => cells_ne hj h.cells.cn hT (Option.some.inj e))).trans hj
  have hsz := h.os.2.2.2
  refine ⟨⟨at_ h.cells.cp (by decide), at_ h.cells.ck (by decide), at_ h.cells.cel (by decide), at_ h.cells.co (by decide), heap_setCell_same W3 gn 0 _ _ _ h.cells.cn, at_ h.cells.cv (by decide)⟩, fun j q1 q2 q3 q4 q5 q6 q7 q8 => (hg.block j (by omega) (fun e => q5 (Option.some.inj e))).trans (h.frame j q1 q2 q3 q4 q5 q6 q7 q8), ⟨hg.os.trans h.os.1, hg.tape.trans h.os.2.1, hg.output.trans h.os.2.2.1, Nat.le_trans hsz hg.size⟩,
    ⟨hv2, fr, rv, vc, vd, L, M, O3, hp.grown hg (fun ho => ?_) o.2.1 (fun ho => ?_), h1, h2, h3, h4⟩⟩
  · rcases h3 _ ho with h5 | h5
    · exact o.1 h5
    · omega
  · rcases h4 _ ho with h5 | h5
    · exact o.2.2.1 h5
    · omega

theorem EndR.setV {K : PK} {N lp gp gk gl go gn gv : Nat} {hv : Value} {O : Nat → Prop} {ro : Array Value} {vl : Value} {len : Nat} {W : World} {c : Int} {vv : Bool} {s2 : SM} {W3 : World} (h : EndR K N gp gk gl go gn gv hv O ro vl len W c vv s2 W3) (hoff : OffR K N lp gp gk gl go gn gv hv O) (hN : N ≤ W.heap.size) (v' : Bool) :
    EndR K N gp gk gl go gn gv hv O ro vl len W c v' s2 (W3.setCell ⟨gv, 0, none⟩ (.bool v')) := by
  obtain ⟨hv2, fr, rv, vc, vd, L, M, O3, hp, h1, h2, h3, h4⟩ := h.st
  have hg := setCell_grown W3 gv 0 (.bool v')
  have o := hoff.off gv (.inr (.inr (.inr (.inr (.inr rfl)))))
  have at_ : ∀ {j : Nat} {cs : Array Value} {T : Nat} {f : Nat × Nat}, W3.heap[j]? = some (.cells cs T f) → j ≠ gv → (W3.setCell ⟨gv, 0, none⟩ (.bool v')).heap[j]? = some (.cells cs T f) := fun hj hT => (hg.block _ (Array.getElem?_eq_some_iff.1 hj).1 (fun e => hT (Option.some.inj e))).trans hj
  have hsz := h.os.2.2.2
  refine ⟨⟨at_ h.cells.cp (cells_ne h.cells.cp h.cells.cv (by decide)), at_ h.cells.ck hoff.kv, at_ h.cells.cel (cells_ne h.cells.cel h.cells.cv (by decide)), at_ h.cells.co (cells_ne h.cells.co h.cells.cv (by decide)), at_ h.cells.cn (cells_ne h.cells.cn h.cells.cv (by decide)), heap_setCell_same W3 gv 0 _ _ _ h.cells.cv⟩, fun j q1 q2 q3 q4 q5 q6 q7 q8 => (hg.block j (by omega) (fun e => q6 (Option.some.inj e))).trans (h.frame j q1 q2 q3 q4 q5 q6 q7 q8), ⟨hg.os.trans h.os.1, hg.tape.trans h.os.2.1, hg.output.trans h.os.2.2.1, Nat.le_trans hsz hg.size⟩,
    ⟨hv2, fr, rv, vc, vd, L, M, O3, hp.grown hg (fun ho => ?_) o.2.1 (fun ho => ?_), h1, h2, h3, h4⟩⟩
  · rcases h3 _ ho with h5 | h5
    · exact o.1 h5
    · omega
  · rcases h4 _ ho with h5 | h5
    · exact o.2.2.1 h5
    · omega

theorem EndR.setK {K : PK} {N lp gp gk gl go gn gv : Nat} {hv : Value} {O : Nat → Prop} {ro : Array Value} {vl : Value} {len : Nat} {W : World} {c : Int} {vv : Bool} {s2 : SM} {W3 : World} (h : EndR K N gp gk gl go gn gv hv O ro vl len W c vv s2 W3) (hoff : OffR K N lp gp gk gl go gn gv hv O) (hN : N ≤ W.heap.size) :
    EndR K N gp gk gl go gn gv hv O ro vl len W c vv s2 (W3.setCell ⟨gk, 0, none⟩ (.bool true)) := by
  obtain ⟨hv2, fr, rv, vc, vd, L, M, O3, hp, h1, h2, h3, h4⟩ := h.st
  have hg := setCell_grown W3 gk 0 (.bool true)
  have o := hoff.off gk (.inr (.inl rfl))
  have at_ : ∀ {j : Nat} {cs : Array Value} {T : Nat} {f : Nat × Nat}, W3.heap[j]? = some (.cells cs T f) → j ≠ gk → (W3.setCell ⟨gk, 0, none⟩ (.bool true)).heap[j]? = some (.cells cs T f) := fun hj hT => (hg.block _ (Array.getElem?_eq_some_iff.1 hj).1 (fun e => hT (Option.some.inj e))).trans hj
  have hsz := h.os.2.2.2
  refine ⟨⟨at_ h.cells.cp (cells_ne h.cells.cp h.cells.ck (by decide)), heap_setCell_same W3 gk 0 _ _ _ h.cells.ck, at_ h.cells.cel (cells_ne h.cells.cel h.cells.ck (by decide)), at_ h.cells.co (cells_ne h.cells.co h.cells.ck (by decide)), at_ h.cells.cn (cells_ne h.cells.cn h.cells.ck (by decide)), at_ h.cells.cv hoff.kv.symm⟩, fun j q1 q2 q3 q4 q5 q6 q7 q8 => (hg.block j (by omega) (fun e => q3 (Option.some.inj e))).trans (h.frame j q1 q2 q3 q4 q5 q6 q7 q8), ⟨hg.os.trans h.os.1, hg.tape.trans h.os.2.1, hg.output.trans h.os.2.2.1, Nat.le_trans hsz hg.size⟩,
    ⟨hv2, fr, rv, vc, vd, L, M, O3, hp.grown hg (fun ho => ?_) o.2.1 (fun ho => ?_), h1, h2, h3, h4⟩⟩
  · rcases h3 _ ho with h5 | h5
    · exact o.1 h5
    · omega
  · rcases h4 _ ho with h5 | h5
    · exact o.2.2.1 h5
    · omega

theorem EndR.le {K : PK} {N gp gk gl go gn gv : Nat} {hv : Value} {O : Nat → Prop} {ro : Array Value} {vl : Value} {len len' : Nat} {W : World} {c : Int} {vv : Bool} {s2 : SM} {W3 : World} (h : EndR K N gp gk gl go gn gv hv O ro vl len W c vv s2 W3) (hl : len ≤ len') : EndR K N gp gk gl go gn gv hv O ro vl len' W c vv s2 W3 := by
  obtain ⟨hv2, fr, rv, vc, vd, L, M, O3, hp, h1, h2, h3, h4⟩ := h.st
  exact ⟨h.cells, h.frame, h.os, ⟨hv2, fr, rv, vc, vd, L, M, O3, hp, h1, Nat.le_trans h2 hl, h3, h4⟩⟩

/-- behind the comparison of a round's items -/
theorem endR_of {K : PK} {N lp gp gk gl go gn gv : Nat} {hv : Value} {O O7 Ox : Nat → Prop} {ro : Array Value} {vl : Value} {len : Nat} {Wb w7 w8 : World} {c : Int} {vv : Bool} {s' : SM} {fr : Nat} {rv vc vd : Value} {L M : List (Itm × Value × Value)} (hoff : OffR K N lp gp gk gl go gn gv hv O) (hp : Pair K fr s' s' hv rv vc vd L M O7 w7)
    (hk : KeepO N (OX gk gl O) K.b hv Wb Ox hv w7) (hown : ∀ j, O7 j → O j ∨ N ≤ j) (c1 : w7.heap[gp]? = some (.cells #[.pointer (some ⟨K.pb, 0, none⟩)] 55 (0, 0))) (c2 : w7.heap[gk]? = some (.cells #[.bool true] 4 (0, 0))) (c3 : w7.heap[gl]? = some (.cells #[vl] 22 (0, 0)))
    (c4 : Wb.heap[go]? = some (.cells ro 64 (0, 0))) (c5 : Wb.heap[gn]? = some (.cells #[.int .i64 c] 3 (0, 0))) (c6 : Wb.heap[gv]? = some (.cells #[.bool vv] 4 (0, 0))) (d1 : go ≠ gk ∧ go ≠ gl ∧ gn ≠ gk ∧ gn ≠ gl ∧ gv ≠ gl) (hN : N ≤ Wb.heap.size) (hm : L.map Prod.fst = M.map Prod.fst) (hl : L.length ≤ len) (hb : Below w7.heap.size w7 w8) :
    EndR K N gp gk gl go gn gv hv O ro vl len Wb c vv s' w8 := by
  have hz := hk.size
  have hlt : ∀ {j : Nat} {o : Obj}, w7.heap[j]? = some o → w8.heap[j]? = some o := fun hj => (hb.block _ (Array.getElem?_eq_some_iff.1 hj).1).trans hj
  have hb7 : ∀ j, j < N → ¬ O j → j ≠ gk → j ≠ gl → j ≠ K.b → hv.ownBlock ≠ some j → w7.heap[j]? = Wb.heap[j]? := fun j h1 h2 h3 h4 h5 h6 => hk.block j (by omega) (by rintro (h | h | h); exact h2 h; exact h3 h; exact h4 h) h5 h6
  have og := hoff.off go (.inr (.inr (.inr (.inl rfl))))
  have on := hoff.off gn (.inr (.inr (.inr (.inr (.inl rfl)))))
  have ov := hoff.off gv (.inr (.inr (.inr (.inr (.inr rfl)))))
  refine ⟨⟨hlt c1, hlt c2, hlt c3, hlt ((hb7 go og.2.2.2.2.1 og.1 d1.1 d1.2.1 og.2.1 og.2.2.1).trans c4), hlt ((hb7 gn on.2.2.2.2.1 on.1 d1.2.2.1 d1.2.2.2.1 on.2.1 on.2.2.1).trans c5), hlt ((hb7 gv ov.2.2.2.2.1 ov.1 hoff.kv.symm d1.2.2.2.2 ov.2.1 ov.2.2.1).trans c6)⟩,
    fun j q1 q2 q3 q4 _ _ q7 q8 => (hb.block j (by omega)).trans (hb7 j q1 q2 q3 q4 q7 q8), ⟨hb.os.trans hk.os, hb.tape.trans hk.tape, hb.output.trans hk.output, Nat.le_trans hz hb.size⟩, ⟨hv, fr, rv, vc, vd, L, M, O7, hp.below hb, hm, hl, hown, fun j h => .inl h⟩⟩

theorem EndR.busy {D lp : Nat} {Kb : LoopBook D lp} {K : PK} {N gp gk gl go gn gv : Nat} {hv : Value} {O : Nat → Prop} {ro : Array Value} {vl : Value} {len : Nat} {Wb : World} {c : Int} {vv : Bool} {s2 : SM} {W3 : World} (h : EndR K N gp gk gl go gn gv hv O ro vl len Wb c vv s2 W3) (hB : Kb.busy Wb)
    (hD : ¬ O D ∧ D ≠ gk ∧ D ≠ gl ∧ D ≠ gn ∧ D ≠ gv ∧ D ≠ K.b ∧ hv.ownBlock ≠ some D ∧ D < N) (hl : ¬ O lp ∧ lp ≠ gk ∧ lp ≠ gl ∧ lp ≠ gn ∧ lp ≠ gv ∧ lp ≠ K.b ∧ hv.ownBlock ≠ some lp ∧ lp < N) : Kb.busy W3 :=
  Kb.keepB Wb W3 hB (h.frame D hD.2.2.2.2.2.2.2 hD.1 hD.2.1 hD.2.2.1 hD.2.2.2.1 hD.2.2.2.2.1 hD.2.2.2.2.2.1 hD.2.2.2.2.2.2.1) (h.frame lp hl.2.2.2.2.2.2.2 hl.1 hl.2.1 hl.2.2.1 hl.2.2.2.1 hl.2.2.2.2.1 hl.2.2.2.2.2.1 hl.2.2.2.2.2.2.1)

theorem EndR.bytes {lp : Nat} {K : PK} {N gp gk gl go gn gv : Nat} {hv : Value} {O : Nat → Prop} {ro : Array Value} {vl : Value} {len : Nat} {W Wb : World} {c : Int} {vv : Bool} {s2 : SM} {W3 : World} {ma : Option Addr} {mn mc : Nat} {more : List UInt8} (h : EndR K N gp gk gl go gn gv hv O ro vl len Wb c vv s2 W3) (hoff : OffR K N lp gp gk gl go gn gv hv O)
    (hO : ∀ j, O j → K.B ≤ j) (hb : K.B ≤ K.b) (hh : ∀ j, hv.ownBlock = some j → K.B ≤ j) (hW : W.grownBy Wb (some lp)) (hl : K.B ≤ lp) (hN : N ≤ W.heap.size) (hby : BytesIn W ma mn mc more) (hlow : LowA K.B ma mc) : BytesIn W3 ma mn mc more := by
  have o1 := hoff.off gk (.inr (.inl rfl))
  have o2 := hoff.off gl (.inr (.inr (.inl rfl)))
  have o3 := hoff.off gn (.inr (.inr (.inr (.inr (.inl rfl)))))
  have o4 := hoff.off gv (.inr (.inr (.inr (.inr (.inr rfl)))))
  refine hby.low (B := K.B) (fun j hj => (h.frame j (by omega) (fun e => by have := hO j e; omega) (by omega) (by omega) (by omega) (by omega) (by omega) (fun e => by have := hh j e; omega)).trans (hW.block j (by omega) (fun e => by have := Option.some.inj e; omega))) (Nat.le_trans hW.size h.os.2.2.2) hlow
end Go.Proofs.Ytofdpccjpodbhaa
