/-
  The reference's stream: Take answers as the stream's own. Conditions: it lies in a block of its own; the chunk lies elsewhere.
  The stream's machine over many bytes, in plain Lean: what comes of chunks comes of all bytes in one; how it stands. It speaks of no program. Conditions: fewer bytes than 2 to the 63rd.
-/
import Derived.Test.YtofdpccjpodbhaaRs6
import Derived.Test.YtofdpccjpodbhaaMg22
import Derived.Test.YtofdpccjpodbhaaStr9
namespace Go.Proofs.Ytofdpccjpodbhaa
open Go.RowKit
set_option linter.unusedVariables false

theorem InR.alike {w : World} {r B fr : Nat} {a b : SM} {rv : Value} (h : InR w r B fr a rv) (e : Alike a b) : InR w r B fr b rv := by
  obtain ⟨h1, h2, h3, h4⟩ := h
  rw [e.most, e.taken, e.at_, e.hdr, e.kind, e.err] at h1
  rw [e.held] at h2
  exact ⟨h1, h2, h3, h4⟩

/-- what Take leaves -/
def RTPost (w : World) (r B : Nat) (rv : Value) (s : SM) (ch : List UInt8) (e : Ending) (w' : World) : Prop :=
  ∃ fr' rv' ve vb, e = .returned (.tuple #[(takeR s ch).2.1.val ve vb, .int .i64 (takeR s ch).2.2]) ∧ InR w' r B fr' (takeR s ch).1 rv' ∧ Rel fr' (takeR s ch).1 ∧ Ok (takeR s ch).1 ∧ Mv r rv w rv' w' ∧ ItO w.heap.size w' (takeR s ch).2.1 ve vb ∧ Apart ve rv' ∧ Apart vb rv'

/-- between two bytes -/
def RTAt (w : World) (r B x : Nat) (rv : Value) (s : SM) (ch : List UInt8) (k : Nat) (s' : SM) (fr' : Nat) (rv' : Value) (W : World) : Prop :=
  TakeAt s ch k s' ∧ InR W r B fr' s' rv' ∧ Rel fr' s' ∧ Ok s' ∧ Mv r rv w rv' W ∧ W.heap[x]? = some (.cells #[.int .i64 0, .int .i64 0, .int .i64 0, .int .i64 0, .slice none 0 0, .slice none 0 0] 71 (0, 0)) ∧ rv'.ownBlock ≠ some x

theorem Ok.held_le {s : SM} (h : Ok s) : s.held.length ≤ 1048576 := by
  by_cases he : s.err = 0
  · have := h.len he
    have := h.size
    omega
  · rw [h.bad he]; simp

set_option maxRecDepth 20000 in
set_option maxHeartbeats 2000000 in
theorem rtake_any (w : World) (r B fr : Nat) (s : SM) (rv : Value) (pa : Option Addr) (n c : Nat) (ch : List UInt8) (hS : InR w r B fr s rv) (hok : Ok s) (hrel : Rel fr s) (hby : BytesIn w pa n c ch) (hof : 0 < c → ∀ a, pa = some a → a.block ≠ r ∧ rv.ownBlock ≠ some a.block) :
    Calls Try.prog 67 #[.pointer (some ⟨r, 0, none⟩), .slice pa n c] w (RTPost w r B rv s ch) := by
  have hrx : r < w.heap.size := (Array.getElem?_eq_some_iff.1 hS.row).1
  have hvl : ∀ j, rv.ownBlock = some j → j < w.heap.size := fun j h => (hS.held_lt j h).2
  have hcl := hby.len
  have hcap := hby.cap
  have hle := hby.le
  unfold maxLen at hcap
  have hb1 : Below w.heap.size w (w.alloc (.cells #[.int .i64 0, .int .i64 0, .int .i64 0, .int .i64 0, .slice none 0 0, .slice none 0 0] 71)) := (Below.refl _ w).alloc (Nat.le_refl _) _
  have a1 : (w.alloc (.cells #[.int .i64 0, .int .i64 0, .int .i64 0, .int .i64 0, .slice none 0 0, .slice none 0 0] 71)).heap[w.heap.size]? = some (.cells #[.int .i64 0, .int .i64 0, .int .i64 0, .int .i64 0, .slice none 0 0, .slice none 0 0] 71 (0, 0)) := heap_alloc_new _ _
  obtain ⟨x, hx⟩ : ∃ x, w.heap.size = x := ⟨_, rfl⟩
  rw [hx] at a1
  have h0 : RTAt w r B x rv s ch 0 s fr rv (w.alloc (.cells #[.int .i64 0, .int .i64 0, .int .i64 0, .int .i64 0, .slice none 0 0, .slice none 0 0] 71)) :=
    ⟨.start s ch, hS.below hb1, hrel, hok, Mv.of_below hb1, a1, fun e => by have := hvl _ e; omega⟩
  have H0 := Lib.hid h0
  have HX := Lib.hid hx
  have HRX := Lib.hid hrx
  have HBY := Lib.hid hby
  have HOF := Lib.hid hof
  have HCL := Lib.hid hcl
  clear h0 hrx hvl hb1 a1 hS hok hrel hof hby hcl
  go_enter Try.func67, Try.ntmps67
  go_wp2_with fail
  generalize (w.alloc (.cells #[.int .i64 0, .int .i64 0, .int .i64 0, .int .i64 0, .slice none 0 0, .slice none 0 0] 71)) = w1 at *
  clear hx
  go_loopw [6] (fun i wr => ∃ (k : Nat) (s' : SM) (fr' : Nat) (rv' : Value), k ≤ n ∧ i = .int .i64 k ∧ RTAt w r B x rv s ch k s' fr' rv' wr) (fun i _ => n - (intOf i).toNat)
  case atStart => exact ⟨0, s, fr, rv, Nat.zero_le _, rfl, H0.out⟩
  case round =>
    obtain ⟨k, s', fr', rv', hkn, rfl, hJ⟩ := hrel
    have HJ := Lib.hid hJ
    have hrow := hJ.2.1.row
    clear hJ
    by_cases hk : (k : Int) < n
    · have hk' : k < n := by omega
      have c7 : wr.cell? ⟨r, 7, none⟩ = some (.int .i64 s'.err) := (cell_of_row _ _ 7 _ _ _ hrow).trans rfl
      clear hrow
      by_cases he : s'.err = 0
      · have te : (s'.err == 0) = true := by simpa using he
        have hby2 := HBY.out.mv HJ.out.2.2.2.2.1 HOF.out
        obtain ⟨g, o, rfl, hgl, hcell⟩ := hby2.at_ (by omega)
        have hck := hcell k hk'
        have hcall := rbyte_any wr r B fr' s' rv' (ch.getD k 0) HJ.out.2.1 (by have := HJ.out.2.2.2.1.held_le; omega)
        have hst := rel_step fr' s' (ch.getD k 0) HJ.out.2.2.2.1 HJ.out.2.2.1 he
        have hoks := HJ.out.2.2.2.1.step he (ch.getD k 0)
        obtain ⟨y, hy⟩ : ∃ y, ch.getD k 0 = y := ⟨_, rfl⟩
        rw [hy] at hck hcall hst hoks
        obtain ⟨fr2, s2, it, hq⟩ : ∃ fr2 s2 it, rbyteN fr' (s'.take1 y) = (fr2, s2, it) := ⟨_, _, _, rfl⟩
        rw [hq] at hcall hst
        have HY := Lib.hid hy
        have HST := Lib.hid hst
        have HOKS := Lib.hid hoks
        have HE := Lib.hid he
        have hk0 : ¬ (k : Int) < 0 := by omega
        clear hy hq hst hoks he hby2 hcell H0
        go_wp2_with fail
        refine hcall.mono ?_
        clear hcall
        rintro e w2 ⟨rv2, ve, vb, rfl, hin, hmv, hit, hkn2⟩
        try simp only at hin hit hkn2
        obtain ⟨pe, ce, rfl, _⟩ := hit.ext.bytes
        obtain ⟨pb, cb, rfl, _⟩ := hit.body.bytes
        obtain ⟨q1, q2, q3⟩ := HST.out
        have hin2 := hin.alike q2
        have xr := (Array.getElem?_eq_some_iff.1 HJ.out.2.2.2.2.2.1).1
        have hne : x ≠ r := by have := HX.out; have := HRX.out; omega
        have a2 := (hmv.block x xr hne HJ.out.2.2.2.2.2.2).trans HJ.out.2.2.2.2.2.1
        have hrv2 : rv2.ownBlock ≠ some x := fun e => by
          rcases hmv.hv with h1 | h1 | ⟨g, h1, h2⟩
          · rw [h1] at e; simp at e
          · exact HJ.out.2.2.2.2.2.2 (h1 ▸ e)
          · rw [h1] at e
            have := Option.some.inj e
            omega
        have M2 := HJ.out.2.2.2.2.1.trans hmv
        have x2 := (Array.getElem?_eq_some_iff.1 a2).1
        have it2 : ItO w.heap.size w2 it (.slice pe it.ext.length ce) (.slice pb it.body.length cb) := ⟨hit.nil, ⟨row_mono5 hit.ext.row HJ.out.2.2.2.2.1.size⟩, ⟨row_mono5 hit.body.row HJ.out.2.2.2.2.1.size⟩, hit.apart⟩
        have hve : (Value.slice pe it.ext.length ce).ownBlock ≠ some x := fun e => by have := (hit.ext.row.lt x e).1; omega
        have hvb : (Value.slice pb it.body.length cb).ownBlock ≠ some x := fun e => by have := (hit.body.row.lt x e).1; omega
        have HIN := Lib.hid hin2
        have HM2 := Lib.hid M2
        have HIT := Lib.hid it2
        have HKN := Lib.hid hkn2
        have HA2 := Lib.hid a2
        have HRV := Lib.hid (And.intro hrv2 (And.intro hve hvb))
        have HQ1 := Lib.hid q1
        have HQ3 := Lib.hid q3
        have HX2 := Lib.hid x2
        have HNE := Lib.hid hne
        clear hin hmv hit hkn2 q1 q2 q3 hin2 xr hne a2 hrv2 M2 x2 it2 hve hvb c7 te hck hgl
        simp only [Itm.val]
        go_upto_region 5 with fail
        have hb3 : Below w2.heap.size w2 (w2.alloc (.cells #[.int .i64 it.kind, .int .i64 it.proto, .int .i64 it.T, .int .i64 it.ch, .slice pe it.ext.length ce, .slice pb it.body.length cb] 71)) := (Below.refl _ w2).alloc (Nat.le_refl _) _
        have y3 : (w2.alloc (.cells #[.int .i64 it.kind, .int .i64 it.proto, .int .i64 it.T, .int .i64 it.ch, .slice pe it.ext.length ce, .slice pb it.body.length cb] 71)).heap[w2.heap.size]? = some (.cells #[.int .i64 it.kind, .int .i64 it.proto, .int .i64 it.T, .int .i64 it.ch, .slice pe it.ext.length ce, .slice pb it.body.length cb] 71 (0, 0)) := heap_alloc_new _ _
        generalize (w2.alloc (.cells #[.int .i64 it.kind, .int .i64 it.proto, .int .i64 it.T, .int .i64 it.ch, .slice pe it.ext.length ce, .slice pb it.body.length cb] 71)) = w3 at *
        have hax := (hb3.block x HX2.out).trans HA2.out
        have HIN3 := Lib.hid (HIN.out.below hb3)
        have HM3 := Lib.hid (HM2.out.trans (Mv.of_below hb3))
        have HIT3 : Hid (ItO w.heap.size w3 it (.slice pe it.ext.length ce) (.slice pb it.body.length cb)) := Lib.hid ⟨HIT.out.nil, HIT.out.ext.of_below hb3, HIT.out.body.of_below hb3, HIT.out.apart⟩
        obtain ⟨z, hz⟩ : ∃ z, w2.heap.size = z := ⟨_, rfl⟩
        rw [hz] at y3 ⊢
        by_cases hik : it.kind = 0
        · have hno : (step s' (ch.getD k 0)).2.kind = 0 := by rw [HY.out, ← HQ1.out]; exact hik
          have hta := HJ.out.1.quiet (by rw [HCL.out]; exact hk') HE.out hno
          rw [HY.out] at hta
          have HTA := Lib.hid hta
          rw [hik] at y3
          have v0 : w3.cell? ⟨z, 0, none⟩ = some (.int .i64 0) := (cell_of_row _ _ 0 _ _ _ y3).trans rfl
          have HAX := Lib.hid hax
          clear hno hta hik y3 hax hb3 hz
          go_wp2_with fail
          go_roundw
          case rel => exact ⟨k + 1, _, _, _, by omega, by go_num, HTA.out, HIN3.out, HQ3.out, HOKS.out, HM3.out, HAX.out, HRV.out.1⟩
          case measure => simp [intOf]; omega
        · have hno : (step s' (ch.getD k 0)).2.kind ≠ 0 := by rw [HY.out, ← HQ1.out]; exact hik
          have hta := HJ.out.1.found (by rw [HCL.out]; exact hk') HE.out hno
          rw [HY.out, ← HQ1.out] at hta
          have HTA := Lib.hid hta
          have tk : (it.kind != 0) = true := by simpa using hik
          have HIK := Lib.hid hik
          have v0 : w3.cell? ⟨z, 0, none⟩ = some (.int .i64 it.kind) := (cell_of_row _ _ 0 _ _ _ y3).trans rfl
          have v1 : w3.cell? ⟨z, 1, none⟩ = some (.int .i64 it.proto) := (cell_of_row _ _ 1 _ _ _ y3).trans rfl
          have v2 : w3.cell? ⟨z, 2, none⟩ = some (.int .i64 it.T) := (cell_of_row _ _ 2 _ _ _ y3).trans rfl
          have v3 : w3.cell? ⟨z, 3, none⟩ = some (.int .i64 it.ch) := (cell_of_row _ _ 3 _ _ _ y3).trans rfl
          have v4 : w3.cell? ⟨z, 4, none⟩ = some (.slice pe it.ext.length ce) := (cell_of_row _ _ 4 _ _ _ y3).trans rfl
          have v5 : w3.cell? ⟨z, 5, none⟩ = some (.slice pb it.body.length cb) := (cell_of_row _ _ 5 _ _ _ y3).trans rfl
          clear hno hta hik y3 hb3 hz
          go_wp2_with (refine wpList_store_row rfl 71 (.tmp 4) _ rfl x _ rfl rfl 71 _ hax (by as_aux_lemma => kernel_rfl) (by as_aux_lemma => kernel_rfl) (by as_aux_lemma => kernel_rfl) ?_)
          have hh := setRow_heap w3 x _ #[.int .i64 it.kind, .int .i64 it.proto, .int .i64 it.T, .int .i64 it.ch, .slice pe it.ext.length ce, .slice pb it.body.length cb] _ _ hax
          refine bodyPost_ret (results_cell_tmp rfl _ _ x _ _ _ _ _ rfl rfl hh Try.underlying71 rfl (by kernel_rfl)) rfl ?_
          have gx := setRow_grown w3 x #[.int .i64 it.kind, .int .i64 it.proto, .int .i64 it.T, .int .i64 it.ch, .slice pe it.ext.length ce, .slice pb it.body.length cb]
          refine ⟨fr2, rv2, .slice pe it.ext.length ce, .slice pb it.body.length cb, ?_, ?_, ?_, ?_, HM3.out.grown_after gx (.inr (Nat.le_of_eq HX.out)), ?_, ?_⟩
          all_goals try rw [HTA.out]
          · simp only [Itm.val]
            congr 4
          · exact HIN3.out.grown gx HNE.out HRV.out.1
          · exact HQ3.out
          · exact HOKS.out
          · exact ⟨HIT3.out.nil, HIT3.out.ext.kept gx (.inr HRV.out.2.1), HIT3.out.body.kept gx (.inr HRV.out.2.2), HIT3.out.apart⟩
          · rw [HKN.out HIK.out]
            exact ⟨.inr (.inl rfl), .inr (.inl rfl)⟩
      · have te : (s'.err == 0) = false := by simpa using he
        have htd := HJ.out.1.done (.inr ⟨by rw [HCL.out]; exact hkn, he⟩)
        have HTD := Lib.hid htd
        have hax := HJ.out.2.2.2.2.2.1
        clear htd he H0
        go_wp2_with (refine wpList_store_row rfl 71 (.tmp 4) _ rfl x _ rfl rfl 71 _ hax (by as_aux_lemma => kernel_rfl) (by as_aux_lemma => kernel_rfl) (by as_aux_lemma => kernel_rfl) ?_)
        have hh := setRow_heap wr x _ #[.int .i64 0, .int .i64 0, .int .i64 0, .int .i64 0, .slice none 0 0, .slice none 0 0] _ _ hax
        refine bodyPost_ret (results_cell_tmp rfl _ _ x _ _ _ _ (.int .i64 n) rfl rfl hh Try.underlying71 rfl (by kernel_rfl)) rfl ?_
        have gx := setRow_grown wr x #[.int .i64 0, .int .i64 0, .int .i64 0, .int .i64 0, .slice none 0 0, .slice none 0 0]
        have hne : x ≠ r := by have := HX.out; have := HRX.out; omega
        refine ⟨fr', rv', .slice none 0 0, .slice none 0 0, ?_, ?_, ?_, ?_, HJ.out.2.2.2.2.1.grown_after gx (.inr (Nat.le_of_eq HX.out)), ?_, ?_⟩
        all_goals try rw [HTD.out]
        · rw [HCL.out]; rfl
        · exact HJ.out.2.1.grown gx hne HJ.out.2.2.2.2.2.2
        · exact HJ.out.2.2.1
        · exact HJ.out.2.2.2.1
        · exact .no _ _
        · exact ⟨.inl rfl, .inl rfl⟩
    · have hkn' : k = n := by omega
      have htd := HJ.out.1.done (.inl (by rw [HCL.out]; exact hkn'))
      have HTD := Lib.hid htd
      have hax := HJ.out.2.2.2.2.2.1
      clear htd H0 hkn' hrow
      go_wp2_with (refine wpList_store_row rfl 71 (.tmp 4) _ rfl x _ rfl rfl 71 _ hax (by as_aux_lemma => kernel_rfl) (by as_aux_lemma => kernel_rfl) (by as_aux_lemma => kernel_rfl) ?_)
      have hh := setRow_heap wr x _ #[.int .i64 0, .int .i64 0, .int .i64 0, .int .i64 0, .slice none 0 0, .slice none 0 0] _ _ hax
      refine bodyPost_ret (results_cell_tmp rfl _ _ x _ _ _ _ (.int .i64 n) rfl rfl hh Try.underlying71 rfl (by kernel_rfl)) rfl ?_
      have gx := setRow_grown wr x #[.int .i64 0, .int .i64 0, .int .i64 0, .int .i64 0, .slice none 0 0, .slice none 0 0]
      have hne : x ≠ r := by have := HX.out; have := HRX.out; omega
      refine ⟨fr', rv', .slice none 0 0, .slice none 0 0, ?_, ?_, ?_, ?_, HJ.out.2.2.2.2.1.grown_after gx (.inr (Nat.le_of_eq HX.out)), ?_, ?_⟩
      all_goals try rw [HTD.out]
      · rw [HCL.out]; rfl
      · exact HJ.out.2.1.grown gx hne HJ.out.2.2.2.2.2.2
      · exact HJ.out.2.2.1
      · exact HJ.out.2.2.2.1
      · exact .no _ _
      · exact ⟨.inl rfl, .inl rfl⟩
end Go.Proofs.Ytofdpccjpodbhaa

namespace Go.Proofs.Ytofdpccjpodbhaa
open Go.RowKit
set_option linter.unusedVariables false

/-- a byte, at a stream that may be closed -/
def stepE (s : SM) (c : UInt8) : SM × Itm := if s.err = 0 then step s c else (s, .no)
def feedF (p : SM × List Itm) (c : UInt8) : SM × List Itm := ((stepE p.1 c).1, if (stepE p.1 c).2.kind = 0 then p.2 else p.2 ++ [(stepE p.1 c).2])
/-- all items of some bytes -/
def feed (s : SM) (l : List UInt8) : SM × List Itm := l.foldl feedF (s, [])

theorem feedF_acc (l : List UInt8) (s : SM) (a : List Itm) : l.foldl feedF (s, a) = ((feed s l).1, a ++ (feed s l).2) := by
  induction l generalizing s a with
  | nil => simp [feed]
  | cons c t ih =>
    unfold feed
    simp only [List.foldl_cons]
    rw [ih, ih (feedF (s, []) c).1 (feedF (s, []) c).2]
    have h1 : (feedF (s, a) c).1 = (feedF (s, []) c).1 := rfl
    have h2 : (feedF (s, a) c).2 = a ++ (feedF (s, []) c).2 := by
      simp only [feedF]
      split <;> simp
    rw [h1, h2, List.append_assoc]

theorem feed_append (s : SM) (a b : List UInt8) : feed s (a ++ b) = ((feed (feed s a).1 b).1, (feed s a).2 ++ (feed (feed s a).1 b).2) := by
  show List.foldl feedF (s, []) (a ++ b) = _
  rw [List.foldl_append]
  exact feedF_acc b (feed s a).1 (feed s a).2

theorem feed_closed (s : SM) (l : List UInt8) (h : s.err ≠ 0) : feed s l = (s, []) := by
  induction l with
  | nil => rfl
  | cons c t ih =>
    show List.foldl feedF (feedF (s, []) c) t = _
    have : feedF (s, []) c = (s, []) := by simp [feedF, stepE, h, Itm.no]
    rw [this]
    exact ih

/-- so far a range has come -/
def FeedAt (s : SM) (ch : List UInt8) (k : Nat) (s' : SM) (its : List Itm) : Prop := feed s (ch.take k) = (s', its)

theorem FeedAt.start (s : SM) (ch : List UInt8) : FeedAt s ch 0 s [] := by simp [FeedAt, feed]

theorem FeedAt.next {s s' : SM} {ch : List UInt8} {k : Nat} {its : List Itm} (h : FeedAt s ch k s' its) (hk : k < ch.length) (he : s'.err = 0) :
    FeedAt s ch (k + 1) (step s' (ch.getD k 0)).1 (if (step s' (ch.getD k 0)).2.kind = 0 then its else its ++ [(step s' (ch.getD k 0)).2]) := by
  unfold FeedAt at *
  have ht : ch.take (k + 1) = ch.take k ++ [ch.getD k 0] := by
    rw [List.getD_eq_getElem?_getD, List.getElem?_eq_getElem hk]
    simp
  rw [ht]
  show List.foldl feedF (s, []) _ = _
  rw [List.foldl_append, show List.foldl feedF (s, []) (List.take k ch) = (s', its) from h]
  simp only [List.foldl_cons, List.foldl_nil, feedF, stepE, if_pos he]

theorem FeedAt.done {s s' : SM} {ch : List UInt8} {k : Nat} {its : List Itm} (h : FeedAt s ch k s' its) (hk : k = ch.length ∨ s'.err ≠ 0) : feed s ch = (s', its) := by
  unfold FeedAt at h
  rcases hk with rfl | he
  · rwa [List.take_length] at h
  · have := feed_append s (ch.take k) (ch.drop k)
    rw [List.take_append_drop] at this
    rw [this, h, feed_closed s' _ he]
    simp

/-- how it stands when k bytes have come -/
structure Std (s : SM) (k : Nat) : Prop where
  most : 512 ≤ s.most
  good : s.err = 0 → s.taken = k ∧ s.at_ + s.held.length = k ∧ (s.hdr = true → s.ph = 0) ∧ (2 ≤ s.ph → s.size ≤ s.most)
  bad : s.err ≠ 0 → s.taken ≤ k ∧ s.at_ < s.taken

theorem Std.new (m : Nat) (h : 512 ≤ m) : Std (SM.new m) 0 := ⟨h, fun _ => ⟨rfl, rfl, fun _ => rfl, fun h => by simp [SM.new] at h⟩, fun h => absurd rfl h⟩

theorem Std.step {s : SM} {k : Nat} (h : Std s k) (ho : Ok s) (he : s.err = 0) (hk : k < 9000000000000000000) (c : UInt8) : Std (step s c).1 (k + 1) := by
  obtain ⟨h1, h2, h3, h4⟩ := h.good he
  have hm := h.most
  have hp := ho.pre he c
  have hl := ho.len he
  obtain ⟨ph, l, t, a, mo, sz, hr, kd, er⟩ := s
  simp only at he h1 h2 h3 h4 hm hl
  subst he h1
  have hw : wrap64 ((k : Int) + 1) = (k : Int) + 1 := by unfold wrap64; omega
  have hlen : ((l ++ [c]).length : Int) = l.length + 1 := by simp
  unfold Go.Proofs.Ytofdpccjpodbhaa.step SM.take1
  simp only [hw]
  generalize hL : l ++ [c] = L at hlen ⊢
  unfold next1
  simp only
  split
  · rename_i h0
    split
    · exact ⟨hm, fun _ => ⟨by simp, by simp only; push_cast; omega, h3, fun h => by simp only at h; omega⟩, fun h => absurd rfl h⟩
    · split
      · exact ⟨hm, fun _ => ⟨by simp [SM.tell], by simp [SM.tell], fun h => by simp [SM.tell] at h, fun h => by simp [SM.tell] at h⟩, fun h => absurd rfl h⟩
      · rename_i q1 q2
        exact ⟨hm, fun h => absurd h q2, fun _ => ⟨by simp [SM.fail], by simp only [SM.fail]; omega⟩⟩
  · rename_i h0
    have hh : hr = false := by
      cases hr with
      | true => exact absurd (h3 rfl) h0
      | false => rfl
    split
    · rename_i hp1
      split
      · exact ⟨hm, fun _ => ⟨by simp, by simp only; push_cast; omega, h3, fun h => by simp only at h; omega⟩, fun h => absurd rfl h⟩
      · split
        · exact ⟨hm, fun h => by simp [SM.fail] at h, fun _ => ⟨by simp [SM.fail], by simp only [SM.fail]; omega⟩⟩
        · split
          · exact ⟨hm, fun h => by simp [SM.fail] at h, fun _ => ⟨by simp [SM.fail], by simp only [SM.fail]; omega⟩⟩
          · rename_i q
            exact ⟨hm, fun _ => ⟨by simp, by simp only; push_cast; omega, fun h => by simp [hh] at h, fun _ => by simp only; omega⟩, fun h => absurd rfl h⟩
    · split
      · rename_i hp1
        split
        · exact ⟨hm, fun h => by simp [SM.fail] at h, fun _ => ⟨by simp [SM.fail], by simp only [SM.fail]; omega⟩⟩
        · exact ⟨hm, fun _ => ⟨by simp, by simp only; push_cast; omega, fun h => by simp [hh] at h, fun _ => h4 (by omega)⟩, fun h => absurd rfl h⟩
      · split
        · rename_i hp1
          split
          · exact ⟨hm, fun h => by simp [SM.fail] at h, fun _ => ⟨by simp [SM.fail], by simp only [SM.fail]; omega⟩⟩
          · split
            · exact ⟨hm, fun h => by simp [SM.fail] at h, fun _ => ⟨by simp [SM.fail], by simp only [SM.fail]; omega⟩⟩
            · exact ⟨hm, fun _ => ⟨by simp, by simp only; push_cast; omega, fun h => by simp [hh] at h, fun _ => h4 (by omega)⟩, fun h => absurd rfl h⟩
        · split
          · exact ⟨hm, fun _ => ⟨by simp, by simp only; push_cast; omega, fun h => by simp [hh] at h, fun h => h4 h⟩, fun h => absurd rfl h⟩
          · split
            · exact ⟨hm, fun _ => ⟨by simp [SM.tell], by simp [SM.tell], fun h => by simp [SM.tell, hh] at h, fun h => by simp [SM.tell] at h⟩, fun h => absurd rfl h⟩
            · rename_i q1 q2
              exact ⟨hm, fun h => absurd h q2, fun _ => ⟨by simp [SM.fail], by simp only [SM.fail]; omega⟩⟩

theorem Std.mono {s : SM} {k : Nat} (h : Std s k) (he : s.err ≠ 0) : Std s (k + 1) := ⟨h.most, fun h => absurd h he, fun hq => ⟨by have := (h.bad hq).1; push_cast; omega, (h.bad hq).2⟩⟩

theorem feed_std (l : List UInt8) (s : SM) (k : Nat) (h : Std s k) (ho : Ok s) (hk : k + l.length ≤ 9000000000000000000) : Std (feed s l).1 (k + l.length) ∧ Ok (feed s l).1 := by
  induction l generalizing s k with
  | nil => exact ⟨h, ho⟩
  | cons c t ih =>
    have hc : feed s (c :: t) = feed s ([c] ++ t) := rfl
    rw [hc, feed_append]
    simp only
    simp only [List.length_cons] at hk ⊢
    have h1 : (feed s [c]).1 = (stepE s c).1 := rfl
    rw [h1]
    have h2 : Std (stepE s c).1 (k + 1) ∧ Ok (stepE s c).1 := by
      unfold stepE
      split
      · rename_i he
        exact ⟨h.step ho he (by omega) c, ho.step he c⟩
      · rename_i he
        exact ⟨h.mono he, ho⟩
    have := ih (stepE s c).1 (k + 1) h2.1 h2.2 (by omega)
    rw [show k + (t.length + 1) = k + 1 + t.length by omega]
    exact this

theorem step_most (s : SM) (c : UInt8) : (step s c).1.most = s.most := by
  unfold Go.Proofs.Ytofdpccjpodbhaa.step next1
  repeat' split
  all_goals rfl

theorem feed_most (l : List UInt8) (s : SM) : (feed s l).1.most = s.most := by
  induction l generalizing s with
  | nil => rfl
  | cons c t ih =>
    have hc : feed s (c :: t) = feed s ([c] ++ t) := rfl
    rw [hc, feed_append]
    simp only
    rw [ih]
    show (stepE s c).1.most = s.most
    unfold stepE
    split
    · exact step_most s c
    · rfl
end Go.Proofs.Ytofdpccjpodbhaa
