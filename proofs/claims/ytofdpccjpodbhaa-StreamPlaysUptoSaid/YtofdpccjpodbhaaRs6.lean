/-
  The reference's stream: byte, its walk. Conditions: it lies in a block of its own.
-/
import Derived.Test.YtofdpccjpodbhaaMg24
namespace Go.Proofs.Ytofdpccjpodbhaa
open Go.RowKit
set_option linter.unusedVariables false

theorem Mv.grown_after {b d : Nat} {hv hv1 : Value} {W W1 W2 : World} (h : Mv b hv W hv1 W1) (g : W1.grownBy W2 (some d)) (hd : d = b ∨ W.heap.size ≤ d) : Mv b hv W hv1 W2 :=
  ⟨g.os.trans h.os, g.tape.trans h.tape, g.output.trans h.output, Nat.le_trans h.size g.size, fun k hk hb hh => (g.block k (Nat.lt_of_lt_of_le hk h.size) (fun e => by have := Option.some.inj e; omega)).trans (h.block k hk hb hh), h.hv⟩

/-- the item is laid into the result's block -/
theorem RBPost.fin {w wx : World} {r B x fr : Nat} {rv rv' : Value} {s2 : SM} {it : Itm} {ve vb : Value} {q : Nat × SM × Itm} {cs : Array Value} (hq : q = (fr, s2, it)) (hs : InR wx r B fr s2 rv') (hm : Mv r rv w rv' wx) (hit : ItO w.heap.size wx it ve vb) (hx : w.heap.size ≤ x) (hxl : x < wx.heap.size) (hxr : x ≠ r)
    (hd : rv'.ownBlock ≠ some x) (h1 : ve.ownBlock ≠ some x) (h2 : vb.ownBlock ≠ some x) (hk : it.kind ≠ 0 → rv' = .slice none 0 0) (hc : .agg cs = it.val ve vb) : RBPost w r B rv q (.returned (.agg cs)) (wx.setRow x cs) := by
  subst hq
  have g := setRow_grown wx x cs
  exact ⟨rv', ve, vb, by rw [hc], hs.grown g hxr hd, hm.grown_after g (.inr hx), ⟨hit.nil, hit.ext.kept g (.inr h1), hit.body.kept g (.inr h2), hit.apart⟩, hk⟩

theorem InR.nil {W W' : World} {r B fr : Nat} {s s2 : SM} {rv : Value} (h : InR W r B fr s rv) (hz : W.heap.size ≤ W'.heap.size) (hr : W'.heap[r]? = some (.cells #[.int .i64 s2.most, .int .i64 fr, .slice none 0 0, .int .i64 s2.taken, .int .i64 s2.at_, .bool s2.hdr, .int .i64 s2.kind, .int .i64 s2.err] 93 (0, 0))) (he : s2.held = []) : InR W' r B fr s2 (.slice none 0 0) :=
  ⟨hr, by rw [he]; exact OwnBytes.nil _ _ _, h.lt, Nat.le_trans h.le hz⟩

theorem Mv.nil {b : Nat} {hv hv1 : Value} {W W1 : World} (h : Mv b hv W hv1 W1) : Mv b hv W (.slice none 0 0) W1 := ⟨h.os, h.tape, h.output, h.size, h.block, .inl rfl⟩

set_option maxRecDepth 20000 in
set_option maxHeartbeats 2000000 in
theorem rbyte_any (w : World) (r B fr : Nat) (s : SM) (rv : Value) (c : UInt8) (hS : InR w r B fr s rv) (hz : s.held.length + 1 ≤ 140737488355328) :
    Calls Try.prog 72 #[.pointer (some ⟨r, 0, none⟩), .int .u8 (c.toNat : Int)] w (RBPost w r B rv (rbyteN fr (s.take1 c))) := by
  have hrx : r < w.heap.size := (Array.getElem?_eq_some_iff.1 hS.row).1
  have hvl : ∀ j, rv.ownBlock = some j → j < w.heap.size := fun j h => (hS.held_lt j h).2
  obtain ⟨p, d, rfl, hrow⟩ := hS.cells
  obtain ⟨n, hn⟩ : ∃ n, s.held.length = n := ⟨_, rfl⟩
  rw [hn] at hz hrow hvl hS ⊢
  obtain ⟨x, hx⟩ : ∃ x, w.heap.size = x := ⟨_, rfl⟩
  have hb1 : Below w.heap.size w (w.alloc (.cells #[.int .i64 0, .int .i64 0, .int .i64 0, .int .i64 0, .slice none 0 0, .slice none 0 0] 71)) := (Below.refl _ w).alloc (Nat.le_refl _) _
  have a1 : (w.alloc (.cells #[.int .i64 0, .int .i64 0, .int .i64 0, .int .i64 0, .slice none 0 0, .slice none 0 0] 71)).heap[w.heap.size]? = some (.cells #[.int .i64 0, .int .i64 0, .int .i64 0, .int .i64 0, .slice none 0 0, .slice none 0 0] 71 (0, 0)) := heap_alloc_new _ _
  have h1 := hS.below hb1
  have M1 := Mv.of_below (b := r) (hv := .slice p n d) hb1
  obtain ⟨fr', s', it, er, hq⟩ : ∃ fr' s' it er, rsel fr (s.take1 c) = (fr', s', it, er) := ⟨_, _, _, _, rfl⟩
  have hfin := rsel_byte fr (s.take1 c)
  have hno := rsel_no fr (s.take1 c)
  rw [hq] at hfin hno
  simp only at hfin hno
  have HX := Lib.hid hx
  have HN := Lib.hid hn
  have HVL := Lib.hid hvl
  have HQ := Lib.hid hq
  have HFIN := Lib.hid hfin
  have HNO := Lib.hid hno
  have HRX := Lib.hid hrx
  have HZ1 := Lib.hid hb1.size
  clear hS hrow hvl hb1 hq hfin hno hrx
  go_enter Try.func72, Try.ntmps72
  go_upto_region 1 with fail
  generalize (w.alloc (.cells #[.int .i64 0, .int .i64 0, .int .i64 0, .int .i64 0, .slice none 0 0, .slice none 0 0] 71)) = w1 at *
  rw [hx] at a1
  have r1 := h1.row
  have c2 : w1.cell? ⟨r, 2, none⟩ = some (.slice p n d) := (cell_of_row _ _ 2 _ _ _ r1).trans rfl
  have HO := Lib.hid h1.held
  have HLE := Lib.hid h1.le
  have hle := h1.le
  have HLT := Lib.hid h1.lt
  have HR1 := Lib.hid r1
  have HM1 := Lib.hid M1
  have HA1 := Lib.hid a1
  clear h1 r1 M1 a1 hx hn
  go_wp2_with (at_builtin; refine wpList_append_grew' rfl (.tmp 11) (.tmp 13) 22 rfl B 5 Try.underlying22 info_u8 (.slice p n d) s.held c _ rfl rfl ?hyv HO.out ?hlen ?hbase ?_)
  case hyv => simp
  case hlen => rw [HN.out]; exact hz
  case hbase => exact hle
  intro v2 w2 ho2 hg2 hf2
  obtain ⟨p2, d2, rfl, _⟩ := ho2.bytes
  have hl2 : (s.held ++ [c]).length = n + 1 := by rw [List.length_append, HN.out]; rfl
  rw [hl2] at ho2 hf2 ⊢
  have r2 := (hg2.block r (Array.getElem?_eq_some_iff.1 HR1.out).1 (fun h => by
    rcases HO.out.off' HLT.out with h1 | h1
    · rw [h1] at h; simp at h
    · exact h1 h.symm)).trans HR1.out
  have x1 := (Array.getElem?_eq_some_iff.1 HA1.out).1
  have a2 := (hg2.block x x1 (fun h => by
    have h1 := HVL.out x h.symm
    have := HX.out
    omega)).trans HA1.out
  have m2 : w2.cell? ⟨r, 2, none⟩ = some (.slice p n d) := (cell_of_row _ _ 2 _ _ _ r2).trans rfl
  have fz : ∀ k, w2.frozen? ⟨r, k, none⟩ = false := fun k => by simp [World.frozen?, r2]
  have HR2 := Lib.hid r2
  have HA2 := Lib.hid a2
  have HO2 := Lib.hid ho2
  have HG2 := Lib.hid hg2
  have HF2 := Lib.hid hf2
  have hp2 : ∀ j, (Value.slice p2 (n + 1) d2).ownBlock = some j → j ≠ x ∧ j < w2.heap.size := by
    intro j hj
    refine ⟨?_, (ho2.row.lt j hj).2⟩
    rcases hf2 with ⟨g, n', cap', e1, e2⟩ | ⟨g, e1, e2, _⟩
    · have h1 := HVL.out j (by rw [e1]; rw [e2] at hj; exact hj)
      have := HX.out
      omega
    · rw [e1] at hj
      have := Option.some.inj hj
      omega
  have HP2 := Lib.hid hp2
  clear r2 a2 ho2 hg2 hf2 hp2 hl2 c2 x1
  go_upto_region 2 with fail
  have s3 := heap_setCell_same w2 r 2 _ _ (.slice p2 (n + 1) d2) HR2.out
  simp only [List.setIfInBounds_toArray, List.set] at s3
  have g3 := setCell_grown w2 r 2 (.slice p2 (n + 1) d2)
  generalize (w2.setCell ⟨r, 2, none⟩ (.slice p2 (n + 1) d2)) = w3 at *
  clear m2 fz
  have m3 : w3.cell? ⟨r, 3, none⟩ = some (.int .i64 s.taken) := (cell_of_row _ _ 3 _ _ _ s3).trans rfl
  have fz : ∀ k, w3.frozen? ⟨r, k, none⟩ = false := fun k => by simp [World.frozen?, s3]
  have HS3 := Lib.hid s3
  have HG3 := Lib.hid g3
  clear s3 g3
  go_upto_region 3 with fail
  have s4 := heap_setCell_same w3 r 3 _ _ (.int .i64 (wrap64 (s.taken + 1))) HS3.out
  simp only [List.setIfInBounds_toArray, List.set] at s4
  have g4 := grown_trans HG3.out (setCell_grown w3 r 3 (.int .i64 (wrap64 (s.taken + 1))))
  generalize (w3.setCell ⟨r, 3, none⟩ (.int .i64 (wrap64 (s.taken + 1)))) = w4 at *
  clear m3 fz
  have h4 : InR w4 r B fr (s.take1 c) (.slice p2 (n + 1) d2) := ⟨s4, HO2.out.kept g4 (HO2.out.off' HLT.out), HLT.out, Nat.le_trans HLE.out (Nat.le_trans HG2.out.size g4.size)⟩
  have M4 : Mv r (.slice p n d) w (.slice p2 (n + 1) d2) w4 := HM1.out.trans (mv_of HG2.out HF2.out g4 (.inr rfl))
  have a4 := (g4.block x (Array.getElem?_eq_some_iff.1 HA2.out).1 (fun e => by have := Option.some.inj e; have := HX.out; have := HRX.out; omega)).trans HA2.out
  have hp4 : ∀ j, (Value.slice p2 (n + 1) d2).ownBlock = some j → j ≠ x ∧ j < w4.heap.size := fun j hj => ⟨(HP2.out j hj).1, Nat.lt_of_lt_of_le (HP2.out j hj).2 g4.size⟩
  have HM4 := Lib.hid M4
  have HA4 := Lib.hid a4
  have H4 := Lib.hid h4
  have HP4 := Lib.hid hp4
  clear M4 a4 h4 hp4 s4 g4 HP2 HS3 HG3 HR2 HA2 HO2 HG2 HF2
  go_upto_region 4 with fail
  have hb5 : Below w4.heap.size w4 (w4.alloc (.cells #[.int .i64 0, .int .i64 0, .int .i64 0, .int .i64 0, .slice none 0 0, .slice none 0 0] 71)) := (Below.refl _ w4).alloc (Nat.le_refl _) _
  have y5 : (w4.alloc (.cells #[.int .i64 0, .int .i64 0, .int .i64 0, .int .i64 0, .slice none 0 0, .slice none 0 0] 71)).heap[w4.heap.size]? = some (.cells #[.int .i64 0, .int .i64 0, .int .i64 0, .int .i64 0, .slice none 0 0, .slice none 0 0] 71 (0, 0)) := heap_alloc_new _ _
  generalize (w4.alloc (.cells #[.int .i64 0, .int .i64 0, .int .i64 0, .int .i64 0, .slice none 0 0, .slice none 0 0] 71)) = w5 at *
  have h5 := H4.out.below hb5
  have HM5 := Lib.hid (HM4.out.trans (Mv.of_below hb5))
  have HA5 := Lib.hid ((hb5.block x (Array.getElem?_eq_some_iff.1 HA4.out).1).trans HA4.out)
  have hxy : x < w4.heap.size := (Array.getElem?_eq_some_iff.1 HA4.out).1
  obtain ⟨y, hy⟩ : ∃ y, w4.heap.size = y := ⟨_, rfl⟩
  have HP5 : Hid (∀ j, (Value.slice p2 (n + 1) d2).ownBlock = some j → j ≠ x ∧ j ≠ y) := Lib.hid (fun j hj => ⟨(HP4.out j hj).1, by have := (HP4.out j hj).2; omega⟩)
  rw [hy] at y5 hxy ⊢
  have HY5 := Lib.hid y5
  have HXY := Lib.hid hxy
  have hry : r < y := by have := HX.out; have := HRX.out; omega
  have HRY := Lib.hid hry
  have hl5 : (s.take1 c).held.length ≤ 140737488355328 := by simp only [SM.take1, List.length_append, HN.out]; exact hz
  have H5 := Lib.hid h5
  have HL5 := Lib.hid hl5
  clear hb5 y5 hy hxy hry h5 hl5 HP4 HM4 HA4 H4 HZ1
  have c5 : w5.cell? ⟨r, 5, none⟩ = some (.bool s.hdr) := (cell_of_row _ _ 5 _ _ _ H5.out.row).trans rfl
  go_upto_if 27 with fail
  clear c5
  go_cut [6] (fun s6 wx => s6 = .int .i64 er ∧ RMid w r B x y (.slice p n d) (.slice p2 (n + 1) d2) (fr', s', it, er) wx)
  case first =>
    have tail : ∀ w6 ve vb, InR w6 r B fr' s' (.slice p2 (n + 1) d2) → w5.grownBy w6 (some r) → ItO w5.heap.size w6 it ve vb → ∀ cs, .agg cs = it.val ve vb → RMid w r B x y (.slice p n d) (.slice p2 (n + 1) d2) (fr', s', it, er) (w6.setRow y cs) ∧ w6.heap[y]? = some (.cells #[.int .i64 0, .int .i64 0, .int .i64 0, .int .i64 0, .slice none 0 0, .slice none 0 0] 71 (0, 0)) := by
      intro w6 ve vb hin hg6 hit cs hcs
      have hrx := HRX.out
      have hx' := HX.out
      have hxy := HXY.out
      have hry := HRY.out
      have y6 := (hg6.block y (Array.getElem?_eq_some_iff.1 HY5.out).1 (fun e => by have := Option.some.inj e; omega)).trans HY5.out
      have x6 := (hg6.block x (Array.getElem?_eq_some_iff.1 HA5.out).1 (fun e => by have := Option.some.inj e; omega)).trans HA5.out
      have gy := setRow_grown w6 y cs
      have hy5 := (Array.getElem?_eq_some_iff.1 HY5.out).1
      have hve : ∀ j, ve.ownBlock = some j → j ≠ x ∧ j ≠ y := fun j hj => by have := (hit.ext.row.lt j hj).1; omega
      have hvb : ∀ j, vb.ownBlock = some j → j ≠ x ∧ j ≠ y := fun j hj => by have := (hit.body.row.lt j hj).1; omega
      have hm6 := (HM5.out.grown_after hg6 (.inl rfl)).grown_after gy (.inr (by omega))
      have hw5 := HM5.out.size
      refine ⟨⟨ve, vb, hin.grown gy (by omega) (fun e => (HP5.out _ e).2 rfl), hm6, ?_, ?_, (gy.block x (Array.getElem?_eq_some_iff.1 x6).1 (fun e => by have := Option.some.inj e; omega)).trans x6, HP5.out, hve, hvb⟩, y6⟩
      · exact hit.move hw5 gy (fun k hk => by cases hk; exact hy5)
      · have hh := setRow_heap w6 y _ cs _ _ y6
        unfold Itm.val at hcs
        have e2 : cs = _ := Value.agg.inj hcs
        unfold ItAt
        rw [hh, e2]
    have TAIL := Lib.hid tail
    clear tail
    by_cases hh : s.hdr = true
    · have hcall : Calls Try.prog 74 #[.pointer (some ⟨r, 0, none⟩)] w5 (RNPost w5 r B (.slice p2 (n + 1) d2) (fr', s', it, er)) := by
        have h := rproto_any w5 r B fr (s.take1 c) _ H5.out HL5.out
        have e := HQ.out
        unfold rsel at e
        rw [if_pos (show (s.take1 c).hdr = true from hh)] at e
        rwa [e] at h
      rw [hh]
      clear hh
      go_wp2_with fail
      refine hcall.mono ?_
      clear hcall
      rintro e w6 ⟨ve, vb, rfl, hin, hg6, hit⟩
      obtain ⟨pe, ce, rfl, _⟩ := hit.ext.bytes
      obtain ⟨pb, cb, rfl, _⟩ := hit.body.bytes
      have ht := TAIL.out w6 _ _ hin hg6 hit #[.int .i64 it.kind, .int .i64 it.proto, .int .i64 it.T, .int .i64 it.ch, .slice pe it.ext.length ce, .slice pb it.body.length cb] rfl
      have y6 := ht.2
      have HT := Lib.hid ht.1
      clear ht hin hg6 hit
      simp only [Itm.val]
      go_wp2_with (refine wpList_store_row rfl 71 (.tmp 5) _ rfl y _ rfl rfl 71 _ y6 (by as_aux_lemma => kernel_rfl) (by as_aux_lemma => kernel_rfl) (by as_aux_lemma => kernel_rfl) ?_)
      go_meet
      case rel => exact ⟨rfl, HT.out⟩
    · have hcall : Calls Try.prog 75 #[.pointer (some ⟨r, 0, none⟩)] w5 (RNPost w5 r B (.slice p2 (n + 1) d2) (fr', s', it, er)) := by
        have h := rframe_any w5 r B fr (s.take1 c) _ H5.out HL5.out
        have e := HQ.out
        unfold rsel at e
        rw [if_neg (show ¬ (s.take1 c).hdr = true from hh)] at e
        rw [← e]
        exact h
      have hh' : s.hdr = false := by simpa using hh
      rw [hh']
      clear hh hh'
      go_wp2_with fail
      refine hcall.mono ?_
      clear hcall
      rintro e w6 ⟨ve, vb, rfl, hin, hg6, hit⟩
      obtain ⟨pe, ce, rfl, _⟩ := hit.ext.bytes
      obtain ⟨pb, cb, rfl, _⟩ := hit.body.bytes
      have ht := TAIL.out w6 _ _ hin hg6 hit #[.int .i64 it.kind, .int .i64 it.proto, .int .i64 it.T, .int .i64 it.ch, .slice pe it.ext.length ce, .slice pb it.body.length cb] rfl
      have y6 := ht.2
      have HT := Lib.hid ht.1
      clear ht hin hg6 hit
      simp only [Itm.val]
      go_wp2_with (refine wpList_store_row rfl 71 (.tmp 5) _ rfl y _ rfl rfl 71 _ y6 (by as_aux_lemma => kernel_rfl) (by as_aux_lemma => kernel_rfl) (by as_aux_lemma => kernel_rfl) ?_)
      go_meet
      case rel => exact ⟨rfl, HT.out⟩
  case rest =>
    obtain ⟨rfl, ve, vb, hin, hmv, hit, hay, hax, d1, d2', d3⟩ := hcut
    simp only at hin hit hay
    obtain ⟨pe, ce, rfl, _⟩ := hit.ext.bytes
    obtain ⟨pb, cb, rfl, _⟩ := hit.body.bytes
    have hrow := hin.row
    have HIN := Lib.hid hin
    have HMV := Lib.hid hmv
    have HIT := Lib.hid hit
    have HAY := Lib.hid hay
    have HAX := Lib.hid hax
    have HD := Lib.hid (And.intro d1 (And.intro d2' d3))
    have HROW := Lib.hid hrow
    obtain ⟨hrx, hxx, hxy, hry⟩ : r ≠ x ∧ w.heap.size ≤ x ∧ x ≠ y ∧ r ≠ y := by
      have h1 := HX.out
      have h2 := HRX.out
      have h3 := HXY.out
      have h4 := HRY.out
      omega
    have hxl : x < wc.heap.size := (Array.getElem?_eq_some_iff.1 hax).1
    have HNE := Lib.hid (And.intro hrx (And.intro hxx (And.intro hxy hry)))
    have HXL := Lib.hid hxl
    clear hin hmv hit hay hax d1 d2' d3 hrow hrx hxx hxy hry hxl
    by_cases he : er = 0
    · subst he
      by_cases hk : it.kind = 0
      · have hf := HFIN.out
        rw [if_neg (by decide), if_neg (by simpa using hk)] at hf
        have HF := Lib.hid hf
        have hay := HAY.out
        unfold ItAt at hay
        rw [hk] at hay
        have hko : ¬ it.kind ≠ 0 := by simpa using hk
        have HK := Lib.hid hk
        clear hf hk
        have v0 : wc.cell? ⟨y, 0, none⟩ = some (.int .i64 0) := (cell_of_row _ _ 0 _ _ _ hay).trans rfl
        have v1 : wc.cell? ⟨y, 1, none⟩ = some (.int .i64 it.proto) := (cell_of_row _ _ 1 _ _ _ hay).trans rfl
        have v2 : wc.cell? ⟨y, 2, none⟩ = some (.int .i64 it.T) := (cell_of_row _ _ 2 _ _ _ hay).trans rfl
        have v3 : wc.cell? ⟨y, 3, none⟩ = some (.int .i64 it.ch) := (cell_of_row _ _ 3 _ _ _ hay).trans rfl
        have v4 : wc.cell? ⟨y, 4, none⟩ = some (.slice pe it.ext.length ce) := (cell_of_row _ _ 4 _ _ _ hay).trans rfl
        have v5 : wc.cell? ⟨y, 5, none⟩ = some (.slice pb it.body.length cb) := (cell_of_row _ _ 5 _ _ _ hay).trans rfl
        have hax := HAX.out
        have HKO := Lib.hid hko
        clear hay hko
        go_wp2_with (refine wpList_store_row rfl 71 (.tmp 4) _ rfl x _ rfl rfl 71 _ hax (by as_aux_lemma => kernel_rfl) (by as_aux_lemma => kernel_rfl) (by as_aux_lemma => kernel_rfl) ?_)
        have hh := setRow_heap wc x _ #[.int .i64 0, .int .i64 it.proto, .int .i64 it.T, .int .i64 it.ch, .slice pe it.ext.length ce, .slice pb it.body.length cb] _ _ hax
        refine bodyPost_ret (results_cell_row rfl _ _ x _ _ _ _ rfl hh Try.underlying71 rfl (by kernel_rfl)) rfl ?_
        exact RBPost.fin HF.out HIN.out HMV.out HIT.out HNE.out.2.1 HXL.out (fun e => HNE.out.1 e.symm) (fun e => (HD.out.1 x e).1 rfl) (fun e => (HD.out.2.1 x e).1 rfl) (fun e => (HD.out.2.2 x e).1 rfl) (fun h => absurd h HKO.out) (by unfold Itm.val; rw [HK.out])
      · have hf := HFIN.out
        rw [if_neg (by decide), if_pos (by simpa using hk)] at hf
        have HF := Lib.hid hf
        have hay := HAY.out
        unfold ItAt at hay
        have tk : (it.kind != 0) = true := by simpa using hk
        have HK := Lib.hid hk
        have v0 : wc.cell? ⟨y, 0, none⟩ = some (.int .i64 it.kind) := (cell_of_row _ _ 0 _ _ _ hay).trans rfl
        have m2 : wc.cell? ⟨r, 2, none⟩ = some (.slice p2 (n + 1) d2) := (cell_of_row _ _ 2 _ _ _ HROW.out).trans rfl
        have fz : ∀ k, wc.frozen? ⟨r, k, none⟩ = false := fun k => by have := HROW.out; simp [World.frozen?, this]
        clear hf hk hay
        go_upto_region 13 with fail
        have s7 := heap_setCell_same wc r 2 _ _ (.slice none 0 0) HROW.out
        simp only [List.setIfInBounds_toArray, List.set] at s7
        have g7 := setCell_grown wc r 2 (.slice none 0 0)
        generalize (wc.setCell ⟨r, 2, none⟩ (.slice none 0 0)) = w7 at *
        clear m2 fz v0
        have m3 : w7.cell? ⟨r, 3, none⟩ = some (.int .i64 s'.taken) := (cell_of_row _ _ 3 _ _ _ s7).trans rfl
        have m4 : w7.cell? ⟨r, 4, none⟩ = some (.int .i64 s'.at_) := (cell_of_row _ _ 4 _ _ _ s7).trans rfl
        have fz : ∀ k, w7.frozen? ⟨r, k, none⟩ = false := fun k => by simp [World.frozen?, s7]
        have HS7 := Lib.hid s7
        have HG7 := Lib.hid g7
        clear s7 g7
        go_upto_region 14 with fail
        have s8 := heap_setCell_same w7 r 4 _ _ (.int .i64 s'.taken) HS7.out
        simp only [List.setIfInBounds_toArray, List.set] at s8
        have g8 := grown_trans HG7.out (setCell_grown w7 r 4 (.int .i64 s'.taken))
        generalize (w7.setCell ⟨r, 4, none⟩ (.int .i64 s'.taken)) = w8 at *
        clear m3 m4 fz
        have hin8 : InR w8 r B fr' s'.tell (.slice none 0 0) := HIN.out.nil g8.size s8 rfl
        have hmv8 : Mv r (.slice p n d) w (.slice none 0 0) w8 := (HMV.out.grown_after g8 (.inl rfl)).nil
        have hit8 := HIT.out.move (Nat.le_refl _) g8 (fun k hk => by cases hk; exact HRX.out)
        have hay := (g8.block y (Array.getElem?_eq_some_iff.1 HAY.out).1 (fun e => HNE.out.2.2.2 (Option.some.inj e).symm)).trans HAY.out
        have hax := (g8.block x HXL.out (fun e => HNE.out.1 (Option.some.inj e).symm)).trans HAX.out
        have HIN8 := Lib.hid hin8
        have HMV8 := Lib.hid hmv8
        have HIT8 := Lib.hid hit8
        have HXL8 := Lib.hid (Array.getElem?_eq_some_iff.1 hax).1
        have v0 : w8.cell? ⟨y, 0, none⟩ = some (.int .i64 it.kind) := (cell_of_row _ _ 0 _ _ _ hay).trans rfl
        have v1 : w8.cell? ⟨y, 1, none⟩ = some (.int .i64 it.proto) := (cell_of_row _ _ 1 _ _ _ hay).trans rfl
        have v2 : w8.cell? ⟨y, 2, none⟩ = some (.int .i64 it.T) := (cell_of_row _ _ 2 _ _ _ hay).trans rfl
        have v3 : w8.cell? ⟨y, 3, none⟩ = some (.int .i64 it.ch) := (cell_of_row _ _ 3 _ _ _ hay).trans rfl
        have v4 : w8.cell? ⟨y, 4, none⟩ = some (.slice pe it.ext.length ce) := (cell_of_row _ _ 4 _ _ _ hay).trans rfl
        have v5 : w8.cell? ⟨y, 5, none⟩ = some (.slice pb it.body.length cb) := (cell_of_row _ _ 5 _ _ _ hay).trans rfl
        clear s8 g8 hin8 hmv8 hit8 hay
        go_wp2_with (refine wpList_store_row rfl 71 (.tmp 4) _ rfl x _ rfl rfl 71 _ hax (by as_aux_lemma => kernel_rfl) (by as_aux_lemma => kernel_rfl) (by as_aux_lemma => kernel_rfl) ?_)
        have hh := setRow_heap w8 x _ #[.int .i64 it.kind, .int .i64 it.proto, .int .i64 it.T, .int .i64 it.ch, .slice pe it.ext.length ce, .slice pb it.body.length cb] _ _ hax
        refine bodyPost_ret (results_cell_row rfl _ _ x _ _ _ _ rfl hh Try.underlying71 rfl (by kernel_rfl)) rfl ?_
        exact RBPost.fin HF.out HIN8.out HMV8.out HIT8.out HNE.out.2.1 HXL8.out (fun e => HNE.out.1 e.symm) (by simp [Value.ownBlock]) (fun e => (HD.out.2.1 x e).1 rfl) (fun e => (HD.out.2.2 x e).1 rfl) (fun h => rfl) rfl
    · have hk := HNO.out he
      have hf := HFIN.out
      rw [if_pos he] at hf
      have HF := Lib.hid hf
      have te : (er != 0) = true := by simpa using he
      have m7 : wc.cell? ⟨r, 7, none⟩ = some (.int .i64 s'.err) := (cell_of_row _ _ 7 _ _ _ HROW.out).trans rfl
      have fz : ∀ k, wc.frozen? ⟨r, k, none⟩ = false := fun k => by have := HROW.out; simp [World.frozen?, this]
      have HE := Lib.hid he
      have HK := Lib.hid hk
      clear he hf hk
      go_upto_region 10 with fail
      have s7 := heap_setCell_same wc r 7 _ _ (.int .i64 er) HROW.out
      simp only [List.setIfInBounds_toArray, List.set] at s7
      have g7 := setCell_grown wc r 7 (.int .i64 er)
      generalize (wc.setCell ⟨r, 7, none⟩ (.int .i64 er)) = w7 at *
      clear m7 fz
      have m2 : w7.cell? ⟨r, 2, none⟩ = some (.slice p2 (n + 1) d2) := (cell_of_row _ _ 2 _ _ _ s7).trans rfl
      have fz : ∀ k, w7.frozen? ⟨r, k, none⟩ = false := fun k => by simp [World.frozen?, s7]
      have HS7 := Lib.hid s7
      have HG7 := Lib.hid g7
      clear s7 g7
      go_upto_region 11 with fail
      have s8 := heap_setCell_same w7 r 2 _ _ (.slice none 0 0) HS7.out
      simp only [List.setIfInBounds_toArray, List.set] at s8
      have g8 := grown_trans HG7.out (setCell_grown w7 r 2 (.slice none 0 0))
      generalize (w7.setCell ⟨r, 2, none⟩ (.slice none 0 0)) = w8 at *
      clear m2 fz te
      have hin8 : InR w8 r B fr' (s'.fail er) (.slice none 0 0) := HIN.out.nil g8.size s8 rfl
      have hmv8 : Mv r (.slice p n d) w (.slice none 0 0) w8 := (HMV.out.grown_after g8 (.inl rfl)).nil
      have hit8 := HIT.out.move (Nat.le_refl _) g8 (fun k hk => by cases hk; exact HRX.out)
      have hay := (g8.block y (Array.getElem?_eq_some_iff.1 HAY.out).1 (fun e => HNE.out.2.2.2 (Option.some.inj e).symm)).trans HAY.out
      have hax := (g8.block x HXL.out (fun e => HNE.out.1 (Option.some.inj e).symm)).trans HAX.out
      have HIN8 := Lib.hid hin8
      have HMV8 := Lib.hid hmv8
      have HIT8 := Lib.hid hit8
      have HXL8 := Lib.hid (Array.getElem?_eq_some_iff.1 hax).1
      rw [HK.out] at hay
      have v0 : w8.cell? ⟨y, 0, none⟩ = some (.int .i64 0) := (cell_of_row _ _ 0 _ _ _ hay).trans rfl
      have v1 : w8.cell? ⟨y, 1, none⟩ = some (.int .i64 it.proto) := (cell_of_row _ _ 1 _ _ _ hay).trans rfl
      have v2 : w8.cell? ⟨y, 2, none⟩ = some (.int .i64 it.T) := (cell_of_row _ _ 2 _ _ _ hay).trans rfl
      have v3 : w8.cell? ⟨y, 3, none⟩ = some (.int .i64 it.ch) := (cell_of_row _ _ 3 _ _ _ hay).trans rfl
      have v4 : w8.cell? ⟨y, 4, none⟩ = some (.slice pe it.ext.length ce) := (cell_of_row _ _ 4 _ _ _ hay).trans rfl
      have v5 : w8.cell? ⟨y, 5, none⟩ = some (.slice pb it.body.length cb) := (cell_of_row _ _ 5 _ _ _ hay).trans rfl
      clear s8 g8 hin8 hmv8 hit8 hay
      go_wp2_with (refine wpList_store_row rfl 71 (.tmp 4) _ rfl x _ rfl rfl 71 _ hax (by as_aux_lemma => kernel_rfl) (by as_aux_lemma => kernel_rfl) (by as_aux_lemma => kernel_rfl) ?_)
      have hh := setRow_heap w8 x _ #[.int .i64 0, .int .i64 it.proto, .int .i64 it.T, .int .i64 it.ch, .slice pe it.ext.length ce, .slice pb it.body.length cb] _ _ hax
      refine bodyPost_ret (results_cell_row rfl _ _ x _ _ _ _ rfl hh Try.underlying71 rfl (by kernel_rfl)) rfl ?_
      exact RBPost.fin HF.out HIN8.out HMV8.out HIT8.out HNE.out.2.1 HXL8.out (fun e => HNE.out.1 e.symm) (by simp [Value.ownBlock]) (fun e => (HD.out.2.1 x e).1 rfl) (fun e => (HD.out.2.2 x e).1 rfl) (fun h => rfl) (by unfold Itm.val; rw [HK.out])
end Go.Proofs.Ytofdpccjpodbhaa
