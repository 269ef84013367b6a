/-
  awake: the chapter's first examples. Conditions: the tables stand.
  CodecCuts: a beginning of a value's bytes is none's. Conditions: the value lies in memory; the tables stand.
  CodecApart: two values have the same bytes just if they are the same. Conditions: the values lie in memory; the tables stand.
  CodecAgain: what is read may be, is written in no more bytes, and is read as the same. Conditions: the bytes lie in memory; the tables stand.
  CodecBack: what was written is read as it was, whatever stands around it. Conditions: the value and the bytes lie in memory, the bytes are not too many; the tables stand.
  Where an error is told: within the bytes. Plain lemmas. No conditions.
-/
import Derived.Test.YtjipennigjlklaaDoorMg45
namespace Go.Proofs.YtjipennigjlklaaDoor
open Go.RowKit
set_option linter.unusedVariables false
set_option maxHeartbeats 4000000

attribute [local go_sem] Oper.semAt_some

theorem own_litL (w : World) (B : Nat) (l : List UInt8) (hl : l.length ≤ maxLen) (hB : B ≤ w.heap.size) (cs : Array Value) (hc : cs = (l.map byteV).toArray) (n : Nat) (hn : n = l.length) : OwnBytes (w.alloc (.cells cs 5)) B 5 (.slice (some ⟨w.heap.size, 0, none⟩) n n) l := by
  subst hc hn
  exact ⟨⟨by simp, .inr ⟨w.heap.size, l.length, _, rfl, hB, _root_.Go.heap_alloc_new w _, Nat.le_refl _, hl, by simp, by simp; exact List.take_of_length_le (by simp)⟩⟩⟩
theorem wpList_build2 {ops : Array Oper} {rest : List Oper} {o : Oper} {a : Act} {w : World} {Q : Exit → Act → World → Prop} (hg : o.guard = none) (x y : Operand) (ho : o.op = .buildSlice 23 2 #[(0, x), (1, y)]) (a0 a1 a2 a3 a4 b0 b1 b2 b3 b4 : Value)
    (hx : a.eval x = .agg #[a0, a1, a2, a3, a4]) (hy : a.eval y = .agg #[b0, b1, b2, b3, b4])
    (h : wpList Tryd.prog ops Q rest (a.put o.dst (.slice (some ⟨w.heap.size, 0, none⟩) 2 2)) (w.alloc (.cells #[a0, a1, a2, a3, a4, b0, b1, b2, b3, b4] 25))) : wpList Tryd.prog ops Q (o :: rest) a w :=
  wpList_plain hg fun _ hK => wp_build2 o.dst rfl x y ho a0 a1 a2 a3 a4 b0 b1 b2 b3 b4 hx hy (hK _ _ h)
theorem aw_wf : aw.Wf := ⟨by constructor <;> decide, by constructor <;> decide, by decide, by constructor <;> decide⟩
theorem awA_wf : awA.Wf := ⟨by constructor <;> decide, by constructor <;> decide, by decide, by constructor <;> decide⟩
theorem awB_wf : awB.Wf := ⟨by constructor <;> decide, by constructor <;> decide, by decide, by constructor <;> decide⟩
set_option maxRecDepth 20000 in
theorem awake_any (w : World) (hT : Tabs w) : Calls Tryd.prog 8 #[] w fun e w' => e = .returned (.bool true) ∧ Below w.heap.size w w' := by
  have HT := Lib.hid hT
  clear hT
  go_enter Tryd.func8, Tryd.ntmps8
  go_upto_region 2 with (first
    | refine wpList_build2 rfl (.tmp 14) (.tmp 15) rfl _ _ _ _ _ _ _ _ _ _ rfl rfl ?_
    | refine wpList_store_rowTo rfl 25 (.tmp 1) (.tmp 17) rfl rfl (w.heap.size + 1) #[.int .i64 21, .int .u64 0, .string ⟨#[]⟩, .slice (some ⟨w.heap.size, 0, none⟩) 2 2, .int .i64 0] rfl rfl 25 zR (by rw [show w.heap.size + 1 = (w.alloc (.cells #[.int .i64 1, .int .u64 1, .string ⟨#[]⟩, .slice none 0 0, .int .i64 0, .int .i64 4, .int .u64 1, .string ⟨#[]⟩, .slice none 0 0, .int .i64 0] 25)).heap.size by simp]; exact _root_.Go.heap_alloc_new _ _) (by as_aux_lemma => kernel_rfl) (by as_aux_lemma => kernel_rfl) (by simp [Value.oneCell']) ?_)
  have hz1 : (w.alloc (.cells #[.int .i64 1, .int .u64 1, .string ⟨#[]⟩, .slice none 0 0, .int .i64 0, .int .i64 4, .int .u64 1, .string ⟨#[]⟩, .slice none 0 0, .int .i64 0] 25)).heap.size = w.heap.size + 1 := by simp
  have hb1 : Below w.heap.size w (((w.alloc (.cells #[.int .i64 1, .int .u64 1, .string ⟨#[]⟩, .slice none 0 0, .int .i64 0, .int .i64 4, .int .u64 1, .string ⟨#[]⟩, .slice none 0 0, .int .i64 0] 25)).alloc (.cells zR 25)).setRow (w.heap.size + 1) #[.int .i64 21, .int .u64 0, .string ⟨#[]⟩, .slice (some ⟨w.heap.size, 0, none⟩) 2 2, .int .i64 0]) := below_setRow ((((Below.refl w.heap.size w).alloc (Nat.le_refl _) _)).alloc (by rw [hz1]; omega) _) (by omega) _
  have o1 : ((w.alloc (.cells #[.int .i64 1, .int .u64 1, .string ⟨#[]⟩, .slice none 0 0, .int .i64 0, .int .i64 4, .int .u64 1, .string ⟨#[]⟩, .slice none 0 0, .int .i64 0] 25)).alloc (.cells zR 25)).heap[w.heap.size + 1]? = some (.cells zR 25 (0, 0)) := by rw [← hz1]; exact _root_.Go.heap_alloc_new _ _
  have ox := setRow_heap ((w.alloc (.cells #[.int .i64 1, .int .u64 1, .string ⟨#[]⟩, .slice none 0 0, .int .i64 0, .int .i64 4, .int .u64 1, .string ⟨#[]⟩, .slice none 0 0, .int .i64 0] 25)).alloc (.cells zR 25)) (w.heap.size + 1) _ #[.int .i64 21, .int .u64 0, .string ⟨#[]⟩, .slice (some ⟨w.heap.size, 0, none⟩) 2 2, .int .i64 0] _ _ o1
  have og : (((w.alloc (.cells #[.int .i64 1, .int .u64 1, .string ⟨#[]⟩, .slice none 0 0, .int .i64 0, .int .i64 4, .int .u64 1, .string ⟨#[]⟩, .slice none 0 0, .int .i64 0] 25)).alloc (.cells zR 25)).setRow (w.heap.size + 1) #[.int .i64 21, .int .u64 0, .string ⟨#[]⟩, .slice (some ⟨w.heap.size, 0, none⟩) 2 2, .int .i64 0]).heap[w.heap.size]? = some (.cells #[.int .i64 1, .int .u64 1, .string ⟨#[]⟩, .slice none 0 0, .int .i64 0, .int .i64 4, .int .u64 1, .string ⟨#[]⟩, .slice none 0 0, .int .i64 0] 25 (0, 0)) := (setRow_other _ (w.heap.size + 1) w.heap.size _ (by omega)).trans ((Go.heap_alloc_old (w.alloc (.cells #[.int .i64 1, .int .u64 1, .string ⟨#[]⟩, .slice none 0 0, .int .i64 0, .int .i64 4, .int .u64 1, .string ⟨#[]⟩, .slice none 0 0, .int .i64 0] 25)) (.cells zR 25) (by rw [hz1]; omega)).trans (_root_.Go.heap_alloc_new _ _))
  change Code.wp _ _ _ _ (((w.alloc (.cells #[.int .i64 1, .int .u64 1, .string ⟨#[]⟩, .slice none 0 0, .int .i64 0, .int .i64 4, .int .u64 1, .string ⟨#[]⟩, .slice none 0 0, .int .i64 0] 25)).alloc (.cells zR 25)).setRow (w.heap.size + 1) #[.int .i64 21, .int .u64 0, .string ⟨#[]⟩, .slice (some ⟨w.heap.size, 0, none⟩) 2 2, .int .i64 0])
  generalize (((w.alloc (.cells #[.int .i64 1, .int .u64 1, .string ⟨#[]⟩, .slice none 0 0, .int .i64 0, .int .i64 4, .int .u64 1, .string ⟨#[]⟩, .slice none 0 0, .int .i64 0] 25)).alloc (.cells zR 25)).setRow (w.heap.size + 1) #[.int .i64 21, .int .u64 0, .string ⟨#[]⟩, .slice (some ⟨w.heap.size, 0, none⟩) 2 2, .int .i64 0]) = w1 at *
  obtain ⟨g, hg⟩ : ∃ g, w.heap.size = g := ⟨_, rfl⟩
  rw [hg] at ox og ⊢
  have hvo := (VO.pair (w := w1) (B := g) (a := awA) (b := awB) (s := .slice none 0 0) (t := .slice none 0 0) og (VO.nil w1 g awA_wf rfl) (VO.nil w1 g awB_wf rfl) (fun _ h _ => h.elim) (fun h => h.elim) (fun h => h.elim) (Nat.le_refl _)).as (v' := aw) rfl aw_wf
  have HV := Lib.hid hvo.vin
  have H1 := Lib.hid (And.intro hb1 ox)
  have HW := Lib.hid (show aw.wt ≤ 2000000 by have : aw.wt = 3 := by kernel_rfl
                                              omega)
  clear hz1 hb1 o1 ox og hg hvo
  have x0 : w1.cell? ⟨g + 1, 0, none⟩ = some (.int .i64 21) := (cell_of_row _ _ 0 _ _ _ H1.out.2).trans rfl
  have x1 : w1.cell? ⟨g + 1, 1, none⟩ = some (.int .u64 0) := (cell_of_row _ _ 1 _ _ _ H1.out.2).trans rfl
  have x2 : w1.cell? ⟨g + 1, 2, none⟩ = some (.string ⟨#[]⟩) := (cell_of_row _ _ 2 _ _ _ H1.out.2).trans rfl
  have x3 : w1.cell? ⟨g + 1, 3, none⟩ = some (.slice (some ⟨g, 0, none⟩) 2 2) := (cell_of_row _ _ 3 _ _ _ H1.out.2).trans rfl
  have x4 : w1.cell? ⟨g + 1, 4, none⟩ = some (.int .i64 0) := (cell_of_row _ _ 4 _ _ _ H1.out.2).trans rfl
  go_wp2_with fail
  refine (encode_any aw w1 _ HV.out (HT.out.below H1.out.1) HW.out).mono ?_
  rintro e w2 ⟨u, rfl, hou, hb2⟩
  rw [aw_enc] at hou ⊢
  simp only at hou ⊢
  obtain ⟨pu, cu, hu, _⟩ := hou.bytes
  subst hu
  have y0 := bs_cellV hb2 x0
  have y1 := bs_cellV hb2 x1
  have y2 := bs_cellV hb2 x2
  have y3 := bs_cellV hb2 x3
  have y4 := bs_cellV hb2 x4
  have HU := Lib.hid hou
  have H2 := Lib.hid (And.intro (H1.out.1.trans (hb2.mono H1.out.1.size)) hb2)
  clear x0 x1 x2 x3 x4 hou hb2
  go_wp2_with fail
  refine (length_any aw w2 _ (HV.out.blw H2.out.2) (HT.out.below H2.out.1) HW.out).mono ?_
  rintro e w3 ⟨rfl, hb3⟩
  rw [aw_enc]
  have H3 := Lib.hid (And.intro (H2.out.1.trans (hb3.mono H2.out.1.size)) (HU.out.of_below hb3))
  clear y0 y1 y2 y3 y4 hb3
  go_wp2_with fail
  have hla := own_litL w3 w3.heap.size [64, 86, 1] (by decide) (Nat.le_refl _) #[.int .u8 64, .int .u8 86, .int .u8 1] rfl 3 rfl
  have hbla : Below w3.heap.size w3 (w3.alloc (.cells #[.int .u8 64, .int .u8 86, .int .u8 1] 5)) := (Below.refl _ _).alloc (Nat.le_refl _) _
  change Calls _ _ _ (w3.alloc (.cells #[.int .u8 64, .int .u8 86, .int .u8 1] 5)) _
  generalize w3.alloc (.cells #[.int .u8 64, .int .u8 86, .int .u8 1] 5) = wla at *
  have HLa := Lib.hid (And.intro (H3.out.1.trans (hbla.mono H3.out.1.size)) (And.intro hla hbla))
  clear hla hbla
  refine (decode_any wla _ 3 3 [64, 86, 1] HLa.out.2.1.sl.2 (HT.out.below HLa.out.1) (by omega) 1).mono ?_
  rintro e w4 ⟨s6, F6, rfl, hvo6, hb4⟩
  have hd4 : decS [64, 86, 1] 1 = (.mk 1 1 ⟨#[]⟩ [] 0, 3, 0) := aw_dec
  rw [hd4] at hvo6 ⊢
  simp only at hvo6 ⊢
  obtain ⟨p6, c6, hs6, _, _⟩ := hvo6.slice
  subst hs6
  have H4 := Lib.hid (And.intro (HLa.out.1.trans (hb4.mono HLa.out.1.size)) ((H3.out.2.of_below HLa.out.2.2).of_below hb4))
  clear hd4 hvo6 hb4
  go_upto_region 5 with (refine wpList_store_rowTo rfl 25 (.tmp 6) (.tmp 31) rfl rfl w4.heap.size #[.int .i64 1, .int .u64 1, .string ⟨#[]⟩, .slice p6 0 c6, .int .i64 0] rfl rfl 25 zR (_root_.Go.heap_alloc_new _ _) (by as_aux_lemma => kernel_rfl) (by as_aux_lemma => kernel_rfl) (by simp [Value.oneCell']) ?_)
  have hb5 : Below w4.heap.size w4 ((w4.alloc (.cells zR 25)).setRow w4.heap.size #[.int .i64 1, .int .u64 1, .string ⟨#[]⟩, .slice p6 0 c6, .int .i64 0]) := below_setRow ((Below.refl _ _).alloc (Nat.le_refl _) _) (Nat.le_refl _) _
  have o6 := setRow_heap (w4.alloc (.cells zR 25)) w4.heap.size _ #[.int .i64 1, .int .u64 1, .string ⟨#[]⟩, .slice p6 0 c6, .int .i64 0] _ _ (_root_.Go.heap_alloc_new w4 _)
  change Code.wp _ _ _ _ ((w4.alloc (.cells zR 25)).setRow w4.heap.size #[.int .i64 1, .int .u64 1, .string ⟨#[]⟩, .slice p6 0 c6, .int .i64 0])
  generalize ((w4.alloc (.cells zR 25)).setRow w4.heap.size #[.int .i64 1, .int .u64 1, .string ⟨#[]⟩, .slice p6 0 c6, .int .i64 0]) = w5 at *
  obtain ⟨x6, hx6⟩ : ∃ x6, w4.heap.size = x6 := ⟨_, rfl⟩
  rw [hx6] at o6 ⊢
  have H5 := Lib.hid (And.intro (H4.out.1.trans (hb5.mono H4.out.1.size)) (And.intro (H4.out.2.of_below hb5) o6))
  clear hb5 o6 hx6
  go_wp2_with fail
  have hlb := own_litL w5 w5.heap.size [64, 64] (by decide) (Nat.le_refl _) #[.int .u8 64, .int .u8 64] rfl 2 rfl
  have hblb : Below w5.heap.size w5 (w5.alloc (.cells #[.int .u8 64, .int .u8 64] 5)) := (Below.refl _ _).alloc (Nat.le_refl _) _
  change Calls _ _ _ (w5.alloc (.cells #[.int .u8 64, .int .u8 64] 5)) _
  generalize w5.alloc (.cells #[.int .u8 64, .int .u8 64] 5) = wlb at *
  have HLb := Lib.hid (And.intro (H5.out.1.trans (hblb.mono H5.out.1.size)) (And.intro hlb hblb))
  clear hlb hblb
  refine (whole_any wlb _ 2 2 [64, 64] HLb.out.2.1.sl.2 (HT.out.below HLb.out.1) (by omega)).mono ?_
  rintro e w6 ⟨s9, F9, rfl, hvo9, hb6⟩
  have hd6 : wholeS [64, 64] = (zeroV, 1, 35) := aw_whole
  rw [hd6] at hvo9 ⊢
  simp only at hvo9 ⊢
  obtain ⟨p9, c9, hs9, _, _⟩ := hvo9.slice
  subst hs9
  have hbb6 := HLb.out.2.2.trans (hb6.mono HLb.out.2.2.size)
  have H6 := Lib.hid (And.intro (H5.out.1.trans (hbb6.mono H5.out.1.size)) (And.intro (H5.out.2.1.of_below hbb6) ((hbb6.block x6 (gl H5.out.2.2)).trans H5.out.2.2)))
  clear hd6 hvo9 hb6 hbb6
  go_upto_region 6 with (refine wpList_store_rowTo rfl 25 (.tmp 9) (.tmp 37) rfl rfl w6.heap.size #[.int .i64 zeroV.kind, .int .u64 zeroV.num, .string zeroV.text, .slice p9 zeroV.list.length c9, .int .i64 zeroV.elem] rfl rfl 25 zR (_root_.Go.heap_alloc_new _ _) (by as_aux_lemma => kernel_rfl) (by as_aux_lemma => kernel_rfl) (by simp [Value.oneCell']) ?_)
  have hb7 : Below w6.heap.size w6 ((w6.alloc (.cells zR 25)).setRow w6.heap.size #[.int .i64 zeroV.kind, .int .u64 zeroV.num, .string zeroV.text, .slice p9 zeroV.list.length c9, .int .i64 zeroV.elem]) := below_setRow ((Below.refl _ _).alloc (Nat.le_refl _) _) (Nat.le_refl _) _
  change Code.wp _ _ _ _ ((w6.alloc (.cells zR 25)).setRow w6.heap.size #[.int .i64 zeroV.kind, .int .u64 zeroV.num, .string zeroV.text, .slice p9 zeroV.list.length c9, .int .i64 zeroV.elem])
  generalize ((w6.alloc (.cells zR 25)).setRow w6.heap.size #[.int .i64 zeroV.kind, .int .u64 zeroV.num, .string zeroV.text, .slice p9 zeroV.list.length c9, .int .i64 zeroV.elem]) = w7 at *
  have H7 := Lib.hid (And.intro (H6.out.1.trans (hb7.mono H6.out.1.size)) (And.intro (H6.out.2.1.of_below hb7) ((hb7.block x6 (gl H6.out.2.2)).trans H6.out.2.2)))
  clear hb7
  go_wp2_with fail
  have hlc := own_litL w7 w7.heap.size [82, 255] (by decide) (Nat.le_refl _) #[.int .u8 82, .int .u8 255] rfl 2 rfl
  have hblc : Below w7.heap.size w7 (w7.alloc (.cells #[.int .u8 82, .int .u8 255] 5)) := (Below.refl _ _).alloc (Nat.le_refl _) _
  change Calls _ _ _ (w7.alloc (.cells #[.int .u8 82, .int .u8 255] 5)) _
  generalize w7.alloc (.cells #[.int .u8 82, .int .u8 255] 5) = wlc at *
  have HLc := Lib.hid (And.intro (H7.out.1.trans (hblc.mono H7.out.1.size)) (And.intro hlc hblc))
  clear hlc hblc
  refine (shortest_any wlc _ 2 2 [82, 255] HLc.out.2.1.sl.2 (HT.out.below HLc.out.1) (by omega)).mono ?_
  rintro e w8 ⟨rfl, hb8⟩
  have hd8 : shortestS [82, 255] = true := aw_short
  rw [hd8]
  have hbb8 := HLc.out.2.2.trans (hb8.mono HLc.out.2.2.size)
  have H8 := Lib.hid (And.intro (H7.out.1.trans (hbb8.mono H7.out.1.size)) (And.intro (H7.out.2.1.of_below hbb8) ((hbb8.block x6 (gl H7.out.2.2)).trans H7.out.2.2)))
  clear hd8 hb8 hbb8
  go_wp2_with fail
  have hld := own_litL w8 w8.heap.size [112, 0, 0, 0, 255] (by decide) (Nat.le_refl _) #[.int .u8 112, .int .u8 0, .int .u8 0, .int .u8 0, .int .u8 255] rfl 5 rfl
  have hbld : Below w8.heap.size w8 (w8.alloc (.cells #[.int .u8 112, .int .u8 0, .int .u8 0, .int .u8 0, .int .u8 255] 5)) := (Below.refl _ _).alloc (Nat.le_refl _) _
  change Calls _ _ _ (w8.alloc (.cells #[.int .u8 112, .int .u8 0, .int .u8 0, .int .u8 0, .int .u8 255] 5)) _
  generalize w8.alloc (.cells #[.int .u8 112, .int .u8 0, .int .u8 0, .int .u8 0, .int .u8 255] 5) = wld at *
  have HLd := Lib.hid (And.intro (H8.out.1.trans (hbld.mono H8.out.1.size)) (And.intro hld hbld))
  clear hld hbld
  refine (shortest_any wld _ 5 5 [112, 0, 0, 0, 255] HLd.out.2.1.sl.2 (HT.out.below HLd.out.1) (by omega)).mono ?_
  rintro e w9 ⟨rfl, hb9⟩
  have hd9 : shortestS [112, 0, 0, 0, 255] = false := aw_long
  rw [hd9]
  have hbb9 := HLd.out.2.2.trans (hb9.mono HLd.out.2.2.size)
  have ou := H8.out.2.1.of_below hbb9
  have o6 := (hbb9.block x6 (gl H8.out.2.2)).trans H8.out.2.2
  have HB9 := Lib.hid (H8.out.1.trans (hbb9.mono H8.out.1.size))
  have hcv : (convert 28 9 (.slice pu 6 cu)).run Tryd.prog w9 = .ok (.string ⟨#[192, 4, 2, 65, 82, 1]⟩) w9 := run_string_bytes w9 _ _ 5 Tryd.underlying28 Tryd.underlying5 Tryd.underlying9 _ _ _ _ ou.sl.2
  have v0 : w9.cell? ⟨x6, 0, none⟩ = some (.int .i64 1) := (cell_of_row _ _ 0 _ _ _ o6).trans rfl
  have v1 : w9.cell? ⟨x6, 1, none⟩ = some (.int .u64 1) := (cell_of_row _ _ 1 _ _ _ o6).trans rfl
  clear hd9 hb9 hbb9 ou o6
  go_wp2_with fail
  go_ret
  exact ⟨rfl, HB9.out⟩
set_option maxHeartbeats 4000000

attribute [local go_sem] Oper.semAt_some

theorem BytesIn.pre {w : World} {p : Option Addr} {n c k : Nat} {l : List UInt8} (h : BytesIn w p n c l) (hk : k ≤ n) : BytesIn w p k c (l.take k) := by
  obtain ⟨h1, h2, h3, h4⟩ := h
  refine ⟨by rw [List.length_take]; omega, by omega, h3, fun hc => ?_⟩
  obtain ⟨b, o, e, hlt, hcell⟩ := h4 hc
  refine ⟨b, o, e, hlt, fun i hi => ?_⟩
  rw [hcell i (by omega)]
  rw [List.getD_eq_getElem?_getD, List.getD_eq_getElem?_getD, List.getElem?_take_of_lt hi]
set_option maxHeartbeats 4000000

attribute [local go_sem] Oper.semAt_some

theorem VIn.pair {w : World} {g : Nat} {a b : V} {s t : Value} (hg : w.heap[g]? = some (.cells (vcells a s ++ vcells b t).toArray 25 (0, 0))) (h1 : VIn w a s) (h2 : VIn w b t) : VIn w (V.mk 0 0 ⟨#[]⟩ [a, b] 0) (.slice (some ⟨g, 0, none⟩) 2 2) := by
  have hl : (V.mk 0 0 ⟨#[]⟩ [a, b] 0).list = [a, b] := rfl
  have hwf : (V.mk 0 0 ⟨#[]⟩ [] 0).Wf := ⟨by constructor <;> decide, by constructor <;> decide, by decide, by constructor <;> decide⟩
  refine .mk _ (some ⟨g, 0, none⟩) 2 (fun i => if i = 0 then s else t) ⟨hwf.k, hwf.n, hwf.t, hwf.e⟩ (Nat.le_refl _) (by unfold maxLen; omega) (fun _ => ⟨g, 0, rfl⟩) (fun b' o e i hi j u hu => ?_) (fun i hi => ?_)
  · simp only [Option.some.injEq, Addr.mk.injEq] at e
    obtain ⟨rfl, rfl, _⟩ := e
    rw [hl] at hi
    have hj : j < 5 := (List.getElem?_eq_some_iff.1 hu).1
    rw [cell_of_row _ _ _ _ _ _ hg]
    match i, hi with
    | 0, _ =>
      simp only [Nat.zero_add, Nat.zero_mul, List.getElem?_toArray]
      rw [List.getElem?_append_left hj]
      exact hu
    | 1, _ =>
      simp only [Nat.zero_add, Nat.one_mul, List.getElem?_toArray]
      rw [List.getElem?_append_right (show (vcells a s).length ≤ 5 + j from Nat.le_add_right 5 j), show 5 + j - (vcells a s).length = j from Nat.add_sub_cancel_left 5 j]
      exact hu
  · rw [hl] at hi
    match i, hi with
    | 0, _ => exact h1
    | 1, _ => exact h2
set_option maxHeartbeats 4000000

attribute [local go_sem] Oper.semAt_some

set_option maxHeartbeats 4000000

attribute [local go_sem] Oper.semAt_some

set_option maxHeartbeats 4000000

def PlB (y : Er) (L : Nat) : Prop := match y with
  | .pl r _ => r ≤ L
  | _ => True
theorem PlB.short (L : Nat) : PlB .short L := trivial
theorem PlB.zero (e : EC) (L : Nat) : PlB (.pl 0 e) L := Nat.zero_le _
theorem PlB.shift {y : Er} {L k M : Nat} (h : PlB y L) (hk : L + k ≤ M) : PlB (shiftE k y) M := by
  cases y with
  | short => trivial
  | own e => trivial
  | pl r e => show r + k ≤ M; have : r ≤ L := h; omega
theorem PlB.span {y : Er} {L k M : Nat} (h : PlB y L) (hk : L + k ≤ M) : PlB (spanE k y) M := by
  cases y with
  | short => exact Nat.zero_le _
  | own e => trivial
  | pl r e => show r + k ≤ M; have : r ≤ L := h; omega
theorem PlB.head {y : Er} {L M : Nat} (h : PlB y L) (hk : L + 1 ≤ M) : PlB (headE y) M := by
  cases y with
  | short => trivial
  | own e => exact Nat.zero_le _
  | pl r e => show r + 1 ≤ M; have : r ≤ L := h; omega
theorem PlB.bare {y : Er} {L : Nat} (h : PlB y L) : PlB (bareE y) L := by
  cases y with
  | short => trivial
  | own e => exact Nat.zero_le _
  | pl r e => exact h
theorem els_pl {r : List UInt8 → Res} (hle : ∀ s v k, r s = .ok (v, k) → k ≤ s.length) (hr : ∀ s y, r s = .error y → PlB y s.length) : ∀ (n : Nat) (s : List UInt8) (y : Er), els r n s = .error y → PlB y s.length
  | 0, s, y, h => by rw [els] at h; cases h
  | n + 1, s, y, h => by
    rw [els] at h
    cases h1 : r s with
    | error e => rw [h1] at h; cases h; exact hr _ _ h1
    | ok z =>
      obtain ⟨v, k⟩ := z
      rw [h1] at h
      simp only at h
      cases h2 : els r n (s.drop k) with
      | error e =>
        rw [h2] at h
        cases h
        have q1 := hle _ _ _ h1
        have q2 := els_pl hle hr n _ _ h2
        rw [List.length_drop] at q2
        exact q2.shift (by omega)
      | ok z2 => rw [h2] at h; cases h
theorem badT_bd (k : Int) (t : ByteArray) : badT k t ≤ t.size := by
  unfold badT
  split
  · exact (utf8F_bd _ _ _).2
  · split
    · exact (asciiF_bd _ _ _).2
    · omega
theorem dat_pl {rv : List UInt8 → Res} {rd : Nat → List UInt8 → Res} (hvl : ∀ s v k, rv s = .ok (v, k) → k ≤ s.length) (hvp : ∀ s y, rv s = .error y → PlB y s.length) (hdl : ∀ c s v k, rd c s = .ok (v, k) → k ≤ s.length) (hdp : ∀ c s y, rd c s = .error y → PlB y s.length)
    (c : Nat) (s : List UInt8) (y : Er) (h : datR rv rd c s = .error y) : PlB y s.length := by
  have hw := wOf_bd c
  unfold datR at h
  by_cases a : c / 16 = 9
  · rw [if_pos a] at h
    unfold rawR at h
    split at h <;> cases h
    trivial
  rw [if_neg a] at h
  by_cases a : c / 16 = 10 ∨ c / 16 = 11
  · rw [if_pos a] at h
    unfold textR at h
    by_cases b1 : s.length < wOf c
    · rw [if_pos b1] at h; cases h; trivial
    rw [if_neg b1] at h
    by_cases b2 : s.length < wOf c + beVal (s.take (wOf c))
    · rw [if_pos b2] at h; cases h; trivial
    rw [if_neg b2] at h
    split at h
    · rename_i h0
      cases h
      have q := badT_bd (kindC c) (txB ((s.drop (wOf c)).take (beVal (s.take (wOf c)))))
      rw [txB_size, List.length_take, List.length_drop] at q
      show wOf c + (badT (kindC c) (txB ((s.drop (wOf c)).take (beVal (s.take (wOf c)))))).toNat ≤ s.length
      omega
    · cases h
  rw [if_neg a] at h
  by_cases a : c / 16 = 12 ∨ c / 16 = 13
  · rw [if_pos a] at h
    unfold withinR at h
    by_cases b1 : s.length < wOf c
    · rw [if_pos b1] at h; cases h; trivial
    rw [if_neg b1] at h
    by_cases b2 : beVal (s.take (wOf c)) < wOf c
    · rw [if_pos b2] at h; cases h; exact Nat.zero_le _
    rw [if_neg b2] at h
    by_cases b3 : s.length < wOf c + beVal (s.take (wOf c))
    · rw [if_pos b3] at h; cases h; trivial
    rw [if_neg b3] at h
    obtain ⟨N, hN⟩ : ∃ N, beVal (s.take (wOf c)) = N := ⟨_, rfl⟩
    rw [hN] at h b2 b3
    obtain ⟨q, hq⟩ : ∃ q, (s.drop (wOf c)).take N = q := ⟨_, rfl⟩
    have hql : q.length = N := by rw [← hq, List.length_take, List.length_drop]; omega
    rw [hq] at h
    unfold spanIn at h
    by_cases o1 : kindC c = 22 ∧ beVal (q.take (wOf c)) % 2 ≠ 0
    · rw [if_pos o1] at h; cases h; trivial
    rw [if_neg o1] at h
    by_cases o2 : kindC c = 22 ∧ 1024 < beVal (q.take (wOf c)) / 2
    · rw [if_pos o2] at h; cases h; trivial
    rw [if_neg o2] at h
    cases he : els rv (beVal (q.take (wOf c))) (q.drop (wOf c)) with
    | error e =>
      rw [he] at h
      cases h
      have q2 := els_pl hvl hvp _ _ _ he
      rw [List.length_drop] at q2
      exact q2.span (by omega)
    | ok z =>
      obtain ⟨l, k⟩ := z
      rw [he] at h
      simp only at h
      by_cases o3 : wOf c + k < N
      · rw [if_pos o3] at h; cases h; exact Nat.zero_le _
      rw [if_neg o3] at h
      split at h <;> cases h
      trivial
  rw [if_neg a] at h
  by_cases a : c / 16 = 14 ∨ c / 16 = 15
  · rw [if_pos a] at h
    unfold withinR at h
    by_cases b1 : s.length < wOf c
    · rw [if_pos b1] at h; cases h; trivial
    rw [if_neg b1] at h
    by_cases b2 : beVal (s.take (wOf c)) < wOf c + 1
    · rw [if_pos b2] at h; cases h; exact Nat.zero_le _
    rw [if_neg b2] at h
    by_cases b3 : s.length < wOf c + beVal (s.take (wOf c))
    · rw [if_pos b3] at h; cases h; trivial
    rw [if_neg b3] at h
    obtain ⟨N, hN⟩ : ∃ N, beVal (s.take (wOf c)) = N := ⟨_, rfl⟩
    rw [hN] at h b2 b3
    obtain ⟨q, hq⟩ : ∃ q, (s.drop (wOf c)).take N = q := ⟨_, rfl⟩
    have hql : q.length = N := by rw [← hq, List.length_take, List.length_drop]; omega
    rw [hq] at h
    unfold arrIn at h
    simp only at h
    obtain ⟨c2, hc2⟩ : ∃ c2, ((q.drop (wOf c)).headD 0).toNat = c2 := ⟨_, rfl⟩
    rw [hc2] at h
    by_cases o1 : kindC c2 < 0 ∨ c2 = 0 ∨ c2 / 16 = 4
    · rw [if_pos o1] at h
      cases h
      show wOf c + wOf c ≤ s.length
      omega
    rw [if_neg o1] at h
    cases he : els (bareR rd c2) (beVal (q.take (wOf c))) (q.drop (wOf c + 1)) with
    | error e =>
      rw [he] at h
      cases h
      have q2 := els_pl (r := bareR rd c2) (fun s v k hh => by
        unfold bareR at hh
        cases hr : rd c2 s with
        | error y => rw [hr] at hh; cases hh
        | ok x => rw [hr] at hh; cases hh; exact hdl _ _ _ _ hr) (fun s y hh => by
        unfold bareR at hh
        cases hr : rd c2 s with
        | error y2 => rw [hr] at hh; cases hh; exact (hdp _ _ _ hr).bare
        | ok x => rw [hr] at hh; cases hh) _ _ _ he
      rw [List.length_drop] at q2
      exact q2.span (by omega)
    | ok z =>
      obtain ⟨l, k⟩ := z
      rw [he] at h
      simp only at h
      by_cases o3 : wOf c + 1 + k < N
      · rw [if_pos o3] at h; cases h; exact Nat.zero_le _
      rw [if_neg o3] at h
      cases h
  rw [if_neg a] at h
  unfold fixedR at h
  by_cases b1 : s.length < widC c
  · rw [if_pos b1] at h; cases h; trivial
  rw [if_neg b1] at h
  split at h
  · cases h; exact Nat.zero_le _
  split at h
  · cases h; exact Nat.zero_le _
  cases h
theorem val_pl {rv : List UInt8 → Res} {rd : Nat → List UInt8 → Res} (hvl : ∀ s v k, rv s = .ok (v, k) → k ≤ s.length) (hvp : ∀ s y, rv s = .error y → PlB y s.length) (hdl : ∀ c s v k, rd c s = .ok (v, k) → k ≤ s.length) (hdp : ∀ c s y, rd c s = .error y → PlB y s.length) :
    ∀ (s : List UInt8) (y : Er), valR rv rd s = .error y → PlB y s.length
  | [], y, h => by cases h; trivial
  | x :: t, y, h => by
    rw [valR_cons] at h
    rw [List.length_cons]
    by_cases a : kindC x.toNat < 0
    · rw [if_pos a] at h; cases h; exact Nat.zero_le _
    rw [if_neg a] at h
    by_cases a : x.toNat = 0
    · rw [if_pos a] at h
      unfold pairR at h
      cases h1 : rv t with
      | error e => rw [h1] at h; cases h; exact (hvp _ _ h1).shift (by omega)
      | ok z =>
        obtain ⟨d, k⟩ := z
        rw [h1] at h
        simp only at h
        cases h2 : rv (t.drop k) with
        | error e =>
          rw [h2] at h
          cases h
          have q1 := hvl _ _ _ h1
          have q2 := hvp _ _ h2
          rw [List.length_drop] at q2
          exact q2.shift (by omega)
        | ok z2 => rw [h2] at h; cases h
    rw [if_neg a] at h
    by_cases a : x.toNat / 16 = 4
    · rw [if_pos a] at h; cases h
    rw [if_neg a] at h
    cases h1 : datR rv rd x.toNat t with
    | error e => rw [h1] at h; cases h; exact (dat_pl hvl hvp hdl hdp _ _ _ h1).head (by omega)
    | ok z => rw [h1] at h; cases h
theorem rd_pl : ∀ n : Nat, (∀ s y, rdV n s = .error y → PlB y s.length) ∧ (∀ c s y, rdD n c s = .error y → PlB y s.length)
  | 0 => by
    refine ⟨fun s y h => ?_, fun c s y h => ?_⟩
    · have h2 : deepR s = .error y := h
      cases s with
      | nil => cases h2; trivial
      | cons x t =>
        rw [deepR_cons] at h2
        split at h2 <;> cases h2 <;> exact Nat.zero_le _
    · cases h; exact Nat.zero_le _
  | n + 1 => by
    obtain ⟨h1, h2⟩ := rd_pl n
    refine ⟨fun s y h => ?_, fun c s y h => ?_⟩
    · rw [rdV_succ] at h
      exact val_pl (rdV_le n) h1 (rdD_le n) h2 s y h
    · rw [rdD_succ] at h
      exact dat_pl (rdV_le n) h1 (rdD_le n) h2 c s y h
theorem place_bd (B : List UInt8) : 0 ≤ (decS B 0).2.1 ∧ (decS B 0).2.1 ≤ B.length := by
  have h := decS_in (b := B) (n := 0) (Nat.zero_le _)
  rw [show ((0 : Nat) : Int) = 0 from rfl, List.drop_zero] at h
  rw [h]
  cases hx : rdV 32 B with
  | error y =>
    have hp := (rd_pl 32).1 B y hx
    cases y with
    | short => show (0 : Int) ≤ B.length ∧ (B.length : Int) ≤ B.length; omega
    | own e => show (0 : Int) ≤ 0 ∧ (0 : Int) ≤ B.length; omega
    | pl r e => show (0 : Int) ≤ 0 + (r : Int) ∧ 0 + (r : Int) ≤ B.length; have : r ≤ B.length := hp; omega
  | ok z =>
    obtain ⟨v, k⟩ := z
    have hk := rdV_le 32 B v k hx
    by_cases hb : 1048576 < k
    · rw [show ansS B.length 0 (.ok (v, k)) = (zeroV, 0, 2) from if_pos hb]
      show (0 : Int) ≤ 0 ∧ (0 : Int) ≤ B.length; omega
    · rw [show ansS B.length 0 (.ok (v, k)) = (v, (0 : Int) + k, 0) from if_neg hb]
      show (0 : Int) ≤ 0 + (k : Int) ∧ 0 + (k : Int) ≤ B.length; omega
end Go.Proofs.YtjipennigjlklaaDoor
