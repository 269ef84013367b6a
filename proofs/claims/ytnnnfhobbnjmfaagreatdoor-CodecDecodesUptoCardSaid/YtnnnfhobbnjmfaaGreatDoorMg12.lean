/-
  Lemmas on the codec. Conditions: as each says.
-/
import Derived.Test.YtnnnfhobbnjmfaaGreatDoorDc
import Derived.Deep.OwnRows
import Derived.Test.YtnnnfhobbnjmfaaGreatDoorCd
import Derived.Test.YtnnnfhobbnjmfaaGreatDoorMg02
import Derived.Test.YtnnnfhobbnjmfaaGreatDoorRows
import Derived.ProofKit
import Derived.OpenShut
import Derived.ChangeArms
import Derived.Deep.Slices
import Derived.Test.YtnnnfhobbnjmfaaGreatDoorMg04
import Derived.Test.YtnnnfhobbnjmfaaGreatDoorMg03
namespace Go.Proofs.YtnnnfhobbnjmfaaGreatDoor
open Go.RowKit Go.Proofs.Tryz
set_option linter.all false
set_option maxHeartbeats 40000000
set_option maxRecDepth 20000

attribute [local go_sem] Oper.semAt_some

theorem info_rows : (prog.info? 28).map (fun i => (i.zero, i.size, i.bytes)) = some (some (.slice none 0 0), 1, 24) := by kernel_rfl
def bhL (e : Int) (x : V) : List UInt8 := if IsSp e then inn x else []
theorem datB_plain {c : Nat} {x : V} (hc : DatC c) (h : ¬ IsSp (kindC c)) : datB c x [] = datV c x := by
 unfold datV datB
 by_cases a : c / 16 = 9
 ·rw [if_pos a, if_pos a]
 rw [if_neg a, if_neg a]
 by_cases a : c / 16 = 10 ∨ c / 16 = 11
 ·rw [if_pos a, if_pos a]
 rw [if_neg a, if_neg a]
 by_cases a : 12 <= c / 16
 ·exact absurd (span_kind hc a) h
 rw [if_neg a, if_neg a]
theorem datB_bhL {c : Nat} {x : V} (hc : DatC c) : datB c x (bhL (kindC c) x) = datV c x := by
 unfold bhL
 by_cases h : IsSp (kindC c)
 ·rw [if_pos h]; rfl
 ·rw [if_neg h]; exact datB_plain hc h
theorem own_lit (w : World) (B c : Nat) (hc : c < 256) (hB : B <= w.heap.size) : OwnBytes (w.alloc (.cells #[.int .u8 (c : Int)] 5)) B 5 (.slice (some ⟨w.heap.size, 0, none⟩) 1 1) [UInt8.ofNat c] :=
 ⟨⟨rfl, .inr ⟨w.heap.size, 1, #[.int .u8 (c : Int)], rfl, hB, zN w _, Nat.le_refl _, by unfold maxLen; omega, rfl, by simp [byteV]; omega⟩⟩⟩
theorem datVs_len (c : Nat) (l : List V) : (datVs c l).length <= 81 * wts l := lens_le (datV c) l (fun x _ => datV_len c x)
theorem wts_take (l : List V) (k : Nat) : wts (l.take k) <= wts l := by
 have := wts_append (l.take k) (l.drop k)
 rw [List.take_append_drop] at this
 omega
structure Beh (w : World) (bb n : Nat) (f : Nat -> Value) (ls : Nat -> List UInt8) : Prop where
 row : w.rowIs bb 28 n f
 own : ∀ i, i < n -> OwnBytes w (bb + 1) 5 (f i) (ls i)
section
variable {w w' : World} {bb n : Nat} {f : Nat -> Value} {ls : Nat -> List UInt8}
theorem Beh.below (h : Beh w bb n f ls) (hb : Below w.heap.size w w') : Beh w' bb n f ls := ⟨h.row.of_block (hb.block bb h.row.lt), fun i hi => (h.own i hi).of_below hb⟩
end
theorem uni_of (v : V) (ih : ∀ x ∈ v.list, InnOn x) : UniOn v := by
 intro hr hwt hk w s hv
 have f := hr.fields
 have ha := f.arr hk
 simp only [arrOk, decide_eq_true_eq] at ha
 obtain ⟨p, cs, hs, h1, h2, h3⟩ := hv.slice
 obtain ⟨N, hN⟩ : ∃ N, v.list.length = N := ⟨_, rfl⟩
 rw [hN] at hs h1 h3
 subst hs
 have hlw := list_wt v
 have hNb : (N : Int) <= 4294967296 := by omega
 have hmk := run_make_row' (P := prog) 36 28 (.slice none 0 0) 24 underlying36 info_rows rfl .i64 .i64 N (by omega) (by omega)
 have HV := zH (And.intro hv (And.intro hN h3))
 have HR := zH (And.intro hr (And.intro hwt (And.intro ha hk)))
 clear hv hN h1 h2 h3 hr hwt f ha hlw hk
 go_enter func75, ntmps75
 go_upto_region 1 with fail
 have hb0 : Below w.heap.size w (w.alloc (.cells #[.int .i64 v.kind, .int .u64 v.num, .string v.text, (.slice p N cs), .int .i64 v.elem] 25)) := ((Below.refl _ _).alloc (Nat.le_refl _) _)
 have ox := zN w (.cells #[.int .i64 v.kind, .int .u64 v.num, .string v.text, (.slice p N cs), .int .i64 v.elem] 25)
 generalize (w.alloc (.cells #[.int .i64 v.kind, .int .u64 v.num, .string v.text, (.slice p N cs), .int .i64 v.elem] 25)) = w0 at *
 obtain ⟨x, hx⟩ : ∃ x, w.heap.size = x := ⟨_, rfl⟩
 rw [hx] at ox ⊢
 have HB0 := zH hb0
 have x3 : w0.cell? ⟨x, 3, none⟩ = some ((.slice p N cs)) := (cell_of_row _ _ 3 _ _ _ ox).trans rfl
 have x4 : w0.cell? ⟨x, 4, none⟩ = some (.int .i64 v.elem) := (cell_of_row _ _ 4 _ _ _ ox).trans rfl
 have HX := zH hx
 have HOX := zH ox
 clear hb0 hx
 clear ox
 go_upto_region 2 with fail
 clear hmk
 have hrow := World.rowIs_made w0 (.slice none 0 0) N 28
 have hb1 : Below w0.heap.size w0 (w0.alloc (.cells (madeCells #[.slice none 0 0] N) 28)) := (Below.refl _ _).alloc (Nat.le_refl _) _
 have hz1 : (w0.alloc (.cells (madeCells #[.slice none 0 0] N) 28)).heap.size = w0.heap.size + 1 := by simp
 generalize (w0.alloc (.cells (madeCells #[.slice none 0 0] N) 28)) = w1 at *
 obtain ⟨bb, hbb⟩ : ∃ bb, w0.heap.size = bb := ⟨_, rfl⟩
 rw [hbb] at hrow hz1 ⊢
 have HW1 := zH (HB0.out.trans (hb1.mono HB0.out.size))
 have HX1 := zH ((hb1.block x (gl HOX.out)).trans HOX.out)
 have HZ1 := zH (And.intro hz1 (And.intro hbb (gl HOX.out)))
 have HR0 := zH hrow
 replace x3 := bs_cellV hb1 x3
 replace x4 := bs_cellV hb1 x4
 clear hb1 hz1 hbb hrow
 go_wp2_with fail
 go_loopw [4, 18] (fun v4 v18 wr => ∃ (k : Nat) (f : Nat -> Value), k <= N ∧ v18 = .int .i64 k ∧ v4 = .bool ((v.list.take k).all smV) ∧ Beh wr bb N f (fun i => if i < k then bhL v.elem (v.list.getD i zeroV) else []) ∧ Below bb w1 wr ∧ w1.heap.size <= wr.heap.size) (fun _ v18 _ => N - (intOf v18).toNat)
 case atStart => exact ⟨0, fun _ => .slice none 0 0, Nat.zero_le _, rfl, by simp, ⟨HR0.out, fun i hi => by rw [if_neg (by omega)]; exact OwnBytes.nil _ _ _⟩, Below.refl _ _, Nat.le_refl _⟩
 obtain ⟨k, f, hkN, rfl, rfl, hbe, hbl, hzr⟩ := hrel
 have HWR := zH (show Below w.heap.size w wr from HW1.out.trans (hbl.mono (by have h1 := HX.out; have h2 := HZ1.out; omega)))
 have hxr : wr.heap[x]? = some (.cells #[.int .i64 v.kind, .int .u64 v.num, .string v.text, .slice p N cs, .int .i64 v.elem] 25 (0, 0)) := (hbl.block x (by have h2 := HZ1.out; omega)).trans HX1.out
 have HXR := zH hxr
 have HBE := zH (And.intro hbe (And.intro hbl hzr))
 have x3' : wr.cell? ⟨x, 3, none⟩ = some (.slice p N cs) := (cell_of_row _ _ 3 _ _ _ hxr).trans rfl
 have x4' : wr.cell? ⟨x, 4, none⟩ = some (.int .i64 v.elem) := (cell_of_row _ _ 4 _ _ _ hxr).trans rfl
 obtain ⟨sm, hsm⟩ : ∃ sm, (v.list.take k).all smV = sm := ⟨_, rfl⟩
 have HSM := zH hsm
 rw [hsm]
 clear hbe hbl hzr hxr x3 x4 hsm
 by_cases hlt : (k : Int) < N
 ·have ka : k < v.list.length := by rw [HV.out.2.1]; omega
  obtain ⟨b, o, rfl⟩ := HV.out.2.2 (by omega)
  obtain ⟨t, hct, hvx⟩ := HV.out.1.part rfl ka
  have hmx := List.getElem_mem ka
  obtain ⟨px, nx, hsx, _⟩ := hvx.slice
  have hgd : v.list.getD k zeroV = v.list[k] := by simp [List.getD_eq_getElem?_getD, ka]
  have hix := ih _ hmx (HR.out.1.part hmx) (by have := V.wt_lt hmx; have := HR.out.2.1; omega)
  have htk : (v.list.take (k + 1)).all smV = (sm && smV v.list[k]) := by rw [List.take_add_one, List.getElem?_eq_getElem ka, Option.toList_some, List.all_append, HSM.out]; simp
  have hkx := HR.out.2.2.1.2.2 _ hmx
  have hrx := HR.out.1.part hmx
  have hwx : v.list[k].wt <= 4294967296 := by have := V.wt_lt hmx; have := HR.out.2.1; omega
  obtain ⟨c0, c1, c2, c3, c4⟩ := part_cells (rangeAt_rd hct (rd_below HWR.out))
  generalize v.list[k] = y at *
  obtain ⟨ny, hny⟩ : ∃ ny, y.list.length = ny := ⟨_, rfl⟩
  rw [hny] at hsx
  subst hsx
  have HY := zH (And.intro hvx (And.intro hix (And.intro htk (And.intro hkx (And.intro hrx (And.intro hwx hgd))))))
  clear hct hvx hix htk hkx hrx hwx hmx ka hgd hny
  skip
  go_upto_region 6 with (refine stV (.tmp 6) (.tmp 22) rfl rfl rfl rfl rfl (zN wr _) rfl ?_)
  refine layW wr ?_
  intro w2 hb_w2 oxy
  obtain ⟨xy, hx_xy⟩ : ∃ x, wr.heap.size = x := ⟨_, rfl⟩
  rw [hx_xy] at oxy ⊢
  have HX_xy := zH hx_xy
  clear hx_xy
  have HXY := zH oxy
  have HB2 := zH hb_w2
  have x3 := bs_cellV HB2.out x3'
  have x4 := bs_cellV HB2.out x4'
  have HX2 := zH ((HB2.out.block x (gl HXR.out)).trans HXR.out)
  clear oxy hb_w2 c0 c1 c2 c3 c4 x3' x4'
  obtain ⟨y0, y1, y2, y3, y4⟩ := c5 HXY.out
  by_cases hsp : v.elem = 21 ∨ v.elem = 22 ∨ v.elem = 23
  ·have HSP := zH hsp
   have hi := HY.out.2.1 w2 (.slice px ny nx) (HY.out.1.blw (HWR.out.trans (HB2.out.mono HWR.out.size)))
   have HI := zH hi
   have hgo : ((v.elem == 21) = true) ∨ ((v.elem == 21) = false ∧ (v.elem == 22) = true) ∨ ((v.elem == 21) = false ∧ (v.elem == 22) = false ∧ (v.elem == 23) = true) := by
    rcases hsp with e | e | e
    ·exact .inl (by simp [e])
    ·exact .inr (.inl ⟨by simp [e], by simp [e]⟩)
    ·exact .inr (.inr ⟨by simp [e], by simp [e], by simp [e]⟩)
   clear hi hsp
   rcases hgo with e1 | ⟨e1, e2⟩ | ⟨e1, e2, e3⟩
   all_goals
    go_wp2_with fail
    refine HI.out.mono ?_
    rintro e w3 ⟨u0, rfl, hu, hb3⟩
    obtain ⟨qs, cc, hbs, _⟩ := hu.bytes
    subst hbs
    obtain ⟨m, hm⟩ : ∃ m, (inn y).length = m := ⟨_, rfl⟩
    rw [hm] at hu ⊢
    have HM := zH hm
    clear hm
    have HB3 := zH hb3
    have HU := zH hu
    have hbe3 := (HBE.out.1.below HB2.out).below hb3
    have hsz3 := hb3.size
    have hsz2 := HB2.out.size
    have hzr := HBE.out.2.2
    have hz1 := HZ1.out
    have r3 := hbe3.row.frozen k
    have r4 : w3.cell? ⟨bb, k, none⟩ = some (f k) := hbe3.row.cell (by omega)
    have hset : (w3.setCell ⟨bb, k, none⟩ (.slice qs m cc)).rowIs bb 28 N (fun i => if i = k then (.slice qs m cc) else f i) := hbe3.row.set k (.slice qs m cc)
    have hofs : ∀ j, j ≠ bb -> (w3.setCell ⟨bb, k, none⟩ (.slice qs m cc)).heap[j]? = w3.heap[j]? := fun j hj => set_farV hj
    have hbe4 : Beh (w3.setCell ⟨bb, k, none⟩ (.slice qs m cc)) bb N (fun i => if i = k then (.slice qs m cc) else f i) (fun i => if i < k + 1 then bhL v.elem (v.list.getD i zeroV) else []) := by
     refine ⟨hset, fun i hi => ?_⟩
     have kept : ∀ {B : Nat} {q : Value} {l : List UInt8}, bb + 1 <= B -> OwnBytes w3 B 5 q l -> OwnBytes (w3.setCell ⟨bb, k, none⟩ (.slice qs m cc)) B 5 q l := fun hB hq =>
      ⟨ownsRow_keep hq.row (fun j hj => hofs j (by have := (hq.row.lt j hj).1; omega))⟩
     by_cases e : i = k
     ·subst e
      rw [if_pos rfl, if_pos (by omega), HY.out.2.2.2.2.2.2]
      have : bhL v.elem y = inn y := if_pos HSP.out
      rw [this]
      exact ⟨ownsRow_base (kept (by omega) HU.out).row (fun j hj => by have := (HU.out.row.lt j hj).1; omega)⟩
     ·rw [if_neg e]
      have h5 := kept (Nat.le_refl _) (hbe3.own i hi)
      by_cases e2 : i < k
      ·rw [if_pos e2] at h5
       rw [if_pos (by omega)]; exact h5
      ·rw [if_neg e2] at h5
       rw [if_neg (by omega)]; exact h5
    have hbl4 : Below bb w1 (w3.setCell ⟨bb, k, none⟩ (.slice qs m cc)) := (HBE.out.2.1.trans (((HB2.out.trans (hb3.mono HB2.out.size))).mono (by omega))).setCell (p := ⟨bb, k, none⟩) (Nat.le_refl _) _
    have hsz4 : w3.heap.size <= (w3.setCell ⟨bb, k, none⟩ (.slice qs m cc)).heap.size := by simp
    have hxy4 := (hofs xy (by have := HX_xy.out; omega)).trans ((hb3.block xy (gl HXY.out)).trans HXY.out)
    have HE := zH (And.intro hbe4 (And.intro hbl4 (And.intro hxy4 (show w1.heap.size <= (w3.setCell ⟨bb, k, none⟩ (.slice qs m cc)).heap.size by omega))))
    clear y0 y1 y2 y3 y4 x3 x4 hbe3 hsz3 hsz2 hzr hz1 hset hofs hbe4 hbl4 hsz4 hxy4 hu hb3
    go_upto_region 8 with fail
    clear r3 r4
    generalize (w3.setCell ⟨bb, k, none⟩ (.slice qs m cc)) = w4 at *
    have HW4 := zH (show Below w.heap.size w w4 from HW1.out.trans (HE.out.2.1.mono (by have h1 := HX.out; have h2 := HZ1.out; omega)))
    have r4 : w4.cell? ⟨bb, k, none⟩ = some (.slice qs m cc) := by have h := HE.out.1.row.cell (i := k) (by omega); rwa [if_pos rfl] at h
    obtain ⟨y0, y1, y2, y3, y4⟩ := c5 HE.out.2.2.1
    have hsm2 : smV y = spansB y.list.length m := by unfold smV smallV; rw [if_pos (show IsSp y.kind from by rw [HY.out.2.2.2.1]; exact HSP.out), HM.out]
    have hss := fun (W : World) (hW : Below w4.heap.size w4 W) => spans_any y W (.slice px ny nx) (HY.out.1.blw (HW4.out.trans (hW.mono HW4.out.size))) qs m cc (by have h1 := inn_wt y; have h2 := HY.out.2.2.2.2.2.1; have h3 := HM.out; omega)
    rw [← hsm2] at hss
    obtain ⟨sy, hsy⟩ : ∃ sy, smV y = sy := ⟨_, rfl⟩
    have htk2 := HY.out.2.2.1
    rw [hsy] at hss htk2
    have HSS := zH hss
    have HTK := zH htk2
    clear hss htk2 hsm2 hsy
    cases sm
    ·go_still_tail 7, (by kernel_rfl)
     have HDR := zH (bdrew (Below.refl w4.heap.size w4))
     have HBE4 := zH (And.intro HE.out.1 HE.out.2.1)
     change wpList _ _ _ _ _ w4.drew
     generalize w4.drew = w5 at *
     clear r4 y0 y1 y2 y3 y4
     go_wp2_with fail
     go_roundw
     case rel => exact ⟨k + 1, _, by omega, by go_num, by rw [HTK.out]; rfl, HE.out.1.below HDR.out, HE.out.2.1.trans (HDR.out.mono (by have := HE.out.2.2.2; have := HZ1.out; omega)), by have := HE.out.2.2.2; have := HDR.out.size; omega⟩
     case measure => simp [intOf]; omega
    ·go_still_tail 7, (by kernel_rfl)
     have HDR := zH (bdrew (Below.refl w4.heap.size w4))
     change wpList _ _ _ _ _ w4.drew
     generalize w4.drew = w5 at *
     clear r4 y0 y1 y2 y3 y4
     go_wp2_with fail
     refine (HSS.out w5 HDR.out).mono ?_
     rintro e w6 ⟨rfl, hb6⟩
     have HB6 := zH (HDR.out.trans (hb6.mono HDR.out.size))
     clear hb6
     go_wp2_with fail
     go_roundw
     case rel => exact ⟨k + 1, _, by omega, by go_num, by rw [HTK.out]; simp, HE.out.1.below HB6.out, HE.out.2.1.trans (HB6.out.mono (by have := HE.out.2.2.2; have := HZ1.out; omega)), by have := HE.out.2.2.2; have := HB6.out.size; omega⟩
     case measure => simp [intOf]; omega
  ·have hbhe : Beh wr bb N f (fun i => if i < k + 1 then bhL v.elem (v.list.getD i zeroV) else []) := ⟨HBE.out.1.row, fun i hi => by
    have h5 := HBE.out.1.own i hi
    have h6 : bhL v.elem (v.list.getD i zeroV) = [] := if_neg hsp
    simp only [h6, ite_self] at h5 ⊢
    exact h5⟩
   have HE := zH hbhe
   have n21 : (v.elem == 21) = false := by simp; omega
   have n22 : (v.elem == 22) = false := by simp; omega
   have n23 : (v.elem == 23) = false := by simp; omega
   have hsm2 : narrowV y = smV y := by unfold smV smallV; rw [if_neg (show ¬ IsSp y.kind from by rw [HY.out.2.2.2.1]; exact hsp)]
   have hnn := narrow_any y w2 (.slice px ny nx) (HY.out.1.blw (HWR.out.trans (HB2.out.mono HWR.out.size)))
   rw [hsm2] at hnn
   obtain ⟨sy, hsy⟩ : ∃ sy, smV y = sy := ⟨_, rfl⟩
   have htk2 := HY.out.2.2.1
   rw [hsy] at hnn htk2
   have HNN := zH hnn
   have HTK := zH htk2
   clear hnn htk2 hsm2 hsy hsp hbhe
   cases sm
   ·go_wp2_with fail
    go_roundw
    case rel => exact ⟨k + 1, _, by omega, by go_num, by rw [HTK.out]; rfl, HE.out.below HB2.out, HBE.out.2.1.trans (HB2.out.mono (by have := HBE.out.2.2; have := HZ1.out; omega)), by have := HBE.out.2.2; have := HB2.out.size; omega⟩
    case measure => simp [intOf]; omega
   ·go_wp2_with fail
    refine HNN.out.mono ?_
    rintro e w6 ⟨rfl, hb6⟩
    have HB6 := zH (HB2.out.trans (hb6.mono HB2.out.size))
    clear hb6 x3 x4 y0 y1 y2 y3 y4
    go_wp2_with fail
    go_roundw
    case rel => exact ⟨k + 1, _, by omega, by go_num, by rw [HTK.out]; simp, HE.out.below HB6.out, HBE.out.2.1.trans (HB6.out.mono (by have := HBE.out.2.2; have := HZ1.out; omega)), by have := HBE.out.2.2; have := HB6.out.size; omega⟩
    case measure => simp [intOf]; omega
 have hkN2 : k = N := by omega
 have hall : v.list.all smV = sm := by rw [← HSM.out, List.take_of_length_le (by rw [HV.out.2.1, hkN2]; exact Nat.le_refl _)]
 have hcode := fun W => code_any v.elem sm W
 have hcd := codeK_kind v.elem sm (by have := HR.out.2.2.1; omega) (by have := HR.out.2.2.1; omega)
 have hlt256 := codeK_lt v.elem sm
 obtain ⟨cd, hce⟩ : ∃ cd, codeK v.elem sm = cd := ⟨_, rfl⟩
 rw [hce] at hcode hcd hlt256
 have HCO := zH hcode
 have HCD := zH (And.intro hcd (And.intro hlt256 (And.intro hce hall)))
 have HKN := zH hkN2
 clear hkN2 hall hcode hcd hlt256 hce
 go_wp2_with fail
 refine (HCO.out wr).mono ?_
 rintro e w2 ⟨rfl, hb2⟩
 have HB2 := zH hb2
 have hx2 := (hb2.block x (gl HXR.out)).trans HXR.out
 have HX2 := zH hx2
 have HW2 := zH (HWR.out.trans (hb2.mono HWR.out.size))
 have hbe2 := HBE.out.1.below hb2
 have HBE2 := zH hbe2
 clear hb2 hx2 hbe2 x3' x4'
 go_upto_region 13 with fail
 have ho3 := own_lit w2 w2.heap.size cd HCD.out.2.1 (Nat.le_refl _)
 have hb3 : Below w2.heap.size w2 (w2.alloc (.cells #[.int .u8 cd] 5)) := (Below.refl _ _).alloc (Nat.le_refl _) _
 generalize (w2.alloc (.cells #[.int .u8 cd] 5)) = w3 at *
 obtain ⟨z2, hz2⟩ : ∃ z2, w2.heap.size = z2 := ⟨_, rfl⟩
 rw [hz2] at ho3 hb3 ⊢
 have HZ2 := zH (And.intro hz2 (gl HX2.out))
 have HO3 := zH (And.intro ho3 hb3)
 have x3 : w3.cell? ⟨x, 3, none⟩ = some (.slice p N cs) := (cell_of_row _ _ 3 _ _ _ ((hb3.block x (by have := HZ2.out; omega)).trans HX2.out)).trans rfl
 clear hz2 ho3 hb3
 go_wp2_with fail
 go_loopw [8, 65] (fun v8 v65 wq => ∃ (j : Nat) (u8 : Value), j <= N ∧ v65 = .int .i64 j ∧ u8 = v8 ∧ OwnBytes wq z2 5 u8 (UInt8.ofNat cd :: datVs cd (v.list.take j)) ∧ Below z2 w2 wq) (fun _ v65 _ => N - (intOf v65).toNat)
 case atStart => exact ⟨0, _, Nat.zero_le _, rfl, rfl, by simpa [datVs] using HO3.out.1, HO3.out.2⟩
 obtain ⟨j, u8, hjN, rfl, rfl, hoq, hbq⟩ := hrel
 rename World => wq
 have HOQ := zH (And.intro hoq hbq)
 have HWQ := zH (show Below w.heap.size w wq from HW2.out.trans (hbq.mono (by have h1 := HW2.out.size; have h2 := HZ2.out; omega)))
 clear hoq hbq x3
 by_cases hjl : (j : Int) < N
 ·have ka : j < v.list.length := by rw [HV.out.2.1]; omega
  obtain ⟨b, o, rfl⟩ := HV.out.2.2 (by omega)
  obtain ⟨t, hct, hvx⟩ := HV.out.1.part rfl ka
  have hmx := List.getElem_mem ka
  obtain ⟨px, nx, hsx, _⟩ := hvx.slice
  have hgd : v.list.getD j zeroV = v.list[j] := by simp [List.getD_eq_getElem?_getD, ka]
  have hdv : datVs cd (v.list.take (j + 1)) = datVs cd (v.list.take j) ++ datV cd v.list[j] := by unfold datVs; rw [List.take_add_one, List.getElem?_eq_getElem ka, Option.toList_some, List.flatMap_append]; simp
  have hwx : v.list[j].wt <= 4294967296 := by have := V.wt_lt hmx; have := HR.out.2.1; omega
  obtain ⟨c0, c1, c2, c3, c4⟩ := part_cells (rangeAt_rd hct (rd_below HWQ.out))
  generalize v.list[j] = y at *
  obtain ⟨ny, hny⟩ : ∃ ny, y.list.length = ny := ⟨_, rfl⟩
  rw [hny] at hsx
  subst hsx
  have HY := zH (And.intro hvx (And.intro hdv (And.intro hwx hgd)))
  have hbeq : Beh wq bb N f _ := HBE2.out.below (show Below w2.heap.size w2 wq from by rw [HZ2.out.1]; exact HOQ.out.2)
  have hown := hbeq.own j (by omega)
  rw [if_pos (by have := HKN.out; omega), hgd] at hown
  obtain ⟨qa, qc, hq, _⟩ := hown.bytes
  obtain ⟨m, hm⟩ : ∃ m, (bhL v.elem y).length = m := ⟨_, rfl⟩
  rw [hq] at hown
  rw [hm] at hown hq
  have r4 := hbeq.row.cell (i := j) (by omega)
  rw [hq] at r4
  have hqlt : ∀ g, (Value.slice qa m qc).ownBlock = some g -> g < z2 := fun g hg => by
   have h2 := HBE2.out.own j (by omega)
   rw [hq] at h2
   have h1 := (h2.row.lt g hg).2
   have h3 := HZ2.out.1
   omega
  have HBH := zH (And.intro hown (And.intro hqlt hm))
  have HRW := zH r4
  clear hct hvx hdv hwx hmx ka hgd hny hbeq hown hq hm hqlt r4
  skip
  go_upto_region 16 with (refine stV (.tmp 10) (.tmp 69) rfl rfl rfl rfl rfl (zN wq _) rfl ?_)
  refine layW wq ?_
  intro w5 hb_w5 oxy
  obtain ⟨xy, hx_xy⟩ : ∃ x, wq.heap.size = x := ⟨_, rfl⟩
  rw [hx_xy] at oxy ⊢
  have HX_xy := zH hx_xy
  clear hx_xy
  have HXY := zH oxy
  have HB5 := zH hb_w5
  have r4 := bs_cellV hb_w5 HRW.out
  clear oxy hb_w5 c0 c1 c2 c3 c4
  obtain ⟨y0, y1, y2, y3, y4⟩ := c5 HXY.out
  go_still_tail 7, (by kernel_rfl)
  have HDR := zH (bdrew (Below.refl w5.heap.size w5))
  change wpList _ _ _ _ _ w5.drew
  generalize w5.drew = w6 at *
  have HB6 := zH (HB5.out.trans (HDR.out.mono HB5.out.size))
  clear r4 y0 y1 y2 y3 y4
  have hoq6 := HOQ.out.1.of_below HB6.out
  have hbz6 : Below z2 w2 w6 := HOQ.out.2.trans (HB6.out.mono (by have h1 := HOQ.out.2.size; have h2 := HZ2.out.1; omega))
  have hap : (Value.slice qa m qc).ownBlock = none ∨ (Value.slice qa m qc).ownBlock ≠ u8.ownBlock := by
   cases hq : (Value.slice qa m qc).ownBlock with
   | none => exact .inl rfl
   | some g =>
    refine .inr (fun q => ?_)
    have h1 := HBH.out.2.1 g hq
    have h2 := (hoq6.row.lt g q.symm).1
    omega
  have hd := data_any (c := cd) HCD.out.1.2 y w6 _ (HY.out.1.blw (HWQ.out.trans (HB6.out.mono HWQ.out.size))) u8 _ z2 hoq6 (by have h1 := hbz6.size; have h2 := HZ2.out.1; omega) (.slice qa m qc) (bhL v.elem y) (bb + 1) (HBH.out.1.of_below HB6.out) hap (by
   have h1 := datVs_len cd (v.list.take j)
   have h2 := wts_take v.list j
   have h3 := v.wt_eq
   have h4 := HR.out.2.1
   have h5 := text_wt y
   have h6 := HY.out.2.2.1
   have h7 := inn_wt y
   have h8 := list_wt y
   have h9 : (bhL v.elem y).length <= (inn y).length := by unfold bhL; split; exact Nat.le_refl _; exact Nat.zero_le _
   simp only [List.length_cons]
   omega)
  have HD := zH hd
  have HQ6 := zH (And.intro hoq6 hbz6)
  clear hd hap hoq6 hbz6
  go_wp2_with fail
  refine HD.out.mono ?_
  rintro e w7 ⟨u7, rfl, ho7, hg7⟩
  have HO7 := zH ho7
  have HB7 := zH (show Below z2 w2 w7 from HQ6.out.2.trans (hg7.below HQ6.out.1 (by have h1 := HQ6.out.2.size; have h2 := HZ2.out.1; omega)))
  clear ho7 hg7
  go_wp2_with fail
  go_roundw
  case rel => exact ⟨j + 1, _, by omega, by go_num, rfl, by
   rw [HY.out.2.1]
   have h := HO7.out
   have e := datB_bhL (x := y) HCD.out.1.2
   rw [HCD.out.1.1] at e
   rw [e] at h
   exact h, HB7.out⟩
  case measure => simp [intOf]; omega
 have hjN2 : j = N := by omega
 have HE := zH (show OwnBytes wq w.heap.size 5 u8 (inn v) from by
  have h := HOQ.out.1
  rw [hjN2, List.take_of_length_le (by rw [HV.out.2.1]; exact Nat.le_refl _)] at h
  have e : inn v = UInt8.ofNat cd :: datVs cd v.list := by
   rw [inn_eq, if_pos HR.out.2.2.2]
   have : uniC v = cd := by unfold uniC; rw [HCD.out.2.2.2, HCD.out.2.2.1]
   rw [this]
  rw [e]
  exact ⟨ownsRow_base h.row (fun i hi => by have h1 := (h.row.lt i hi).1; have h2 := HZ2.out; have h3 := HW2.out.size; omega)⟩)
 clear hjN2
 go_wp2_with fail
 go_ret
 exact ⟨_, rfl, HE.out, HWQ.out⟩

/-! ### the bytes of a value alone -/
/-! ### apart -/

theorem right_iff {v : V} (hw : AllP V.Wf v 1) : firstBad (v.pre 1) = 0 ↔ Right v ∧ v.dep ≤ 32 := by
 rw [check_law v 1 (by omega)]
 constructor
 ·rintro ⟨h1, h2⟩
  exact ⟨fun p hp => ⟨h1 p hp, hw p hp⟩, by omega⟩
 ·rintro ⟨h1, h2⟩
  exact ⟨h1.ok, by omega⟩
theorem vin_wf {w : World} : ∀ (v : V) (s : Value), VIn w v s → AllP V.Wf v 1 := by
 refine V.ind (fun v ih s h => ?_)
 refine (allP_iff v 1).2 ⟨h.wf, fun x hx => (allP_any x 1 2).1 ?_⟩
 obtain ⟨i, hi, rfl⟩ := List.getElem_of_mem hx
 obtain ⟨p, c, hs, h1, h2, h3⟩ := h.slice
 obtain ⟨b, o, rfl⟩ := h3 (by omega)
 obtain ⟨t, _, ht⟩ := h.part hs hi
 exact ih _ hx t ht
noncomputable def ansS (len : Int) (at_ : Int) : Res → V × Int × Int
 | .error .short => (zeroV, len, 10)
 | .error (.own e) => (zeroV, at_, e.1)
 | .error (.pl r e) => (zeroV, at_ + r, e.1)
 | .ok (v, k) => if 1048576 < k then (zeroV, at_, 2) else (v, at_ + k, 0)
theorem decS_in {b : List UInt8} {n : Nat} (h : n ≤ b.length) : decS b n = ansS b.length n (rdV 32 (b.drop n)) := by
 unfold decS
 rw [if_neg (by omega), show ((n : Nat) : Int).toNat = n by omega]
 cases rdV 32 (b.drop n) with
 | error e => cases e <;> rfl
 | ok p => rfl
theorem decS_out {b : List UInt8} {at_ : Int} (h : at_ < 0 ∨ (b.length : Int) < at_) : decS b at_ = (zeroV, 0, 1) := by
 unfold decS
 rw [if_pos h]
theorem ansS_err {len at_ : Int} {r : Res} (h : (ansS len at_ r).2.2 ≠ 0) : (ansS len at_ r).1 = zeroV := by
 cases r with
 | error e => cases e <;> rfl
 | ok p =>
  obtain ⟨v, k⟩ := p
  unfold ansS at h ⊢
  by_cases a : 1048576 < k
  ·simp only [if_pos a]
  ·simp only [if_neg a] at h
   exact absurd rfl h
theorem decS_err {b : List UInt8} {at_ : Int} (h : (decS b at_).2.2 ≠ 0) : (decS b at_).1 = zeroV := by
 by_cases a : at_ < 0 ∨ (b.length : Int) < at_
 ·rw [decS_out a]
 ·obtain ⟨n, rfl⟩ : ∃ n : Nat, at_ = n := ⟨at_.toNat, by omega⟩
  rw [decS_in (by omega)] at h ⊢
  exact ansS_err h
theorem decS_good {b : List UInt8} {at_ : Int} (hb : b.length ≤ maxLen) (h : (decS b at_).2.2 = 0) : ∃ n k : Nat, at_ = n ∧ n + k ≤ b.length ∧ 1 ≤ k ∧ k ≤ 1048576 ∧ (decS b at_).2.1 = (n : Int) + k ∧ rdV 32 (b.drop n) = .ok ((decS b at_).1, k) ∧ GoodV 32 (b.drop n) (decS b at_).1 k := by
 by_cases a : at_ < 0 ∨ (b.length : Int) < at_
 ·rw [decS_out a] at h; simp at h
 ·obtain ⟨n, rfl⟩ : ∃ n : Nat, at_ = n := ⟨at_.toNat, by omega⟩
  have hn : n ≤ b.length := by omega
  rw [decS_in hn] at h ⊢
  cases hr : rdV 32 (b.drop n) with
  | error e =>
   rw [hr] at h
   cases e with
   | short => simp [ansS] at h
   | own e => exact absurd h e.2
   | pl r e => exact absurd h e.2
  | ok p =>
   obtain ⟨v, k⟩ := p
   rw [hr] at h
   unfold ansS at h
   simp only at h
   by_cases c : 1048576 < k
   ·rw [if_pos c] at h; simp at h
   have hl : (b.drop n).length = b.length - n := List.length_drop
   have g := read_good (by omega) hr
   have gl := g.le
   refine ⟨n, k, rfl, by omega, g.pos, by omega, ?_, ?_, ?_⟩
   ·simp only [ansS, if_neg c]
   ·simp only [ansS, if_neg c]; exact hr
   ·simp only [ansS, if_neg c]; exact g
section
variable {v : V} (hv : Right v) (hd : v.dep ≤ 32) (hw : v.wt ≤ 2000000) (hl : (putV v).length ≤ 1048576)
include hv hd hw hl
end

attribute [local go_sem] Oper.semAt_some

theorem inn_of (v : V) (ih : ∀ x ∈ v.list, PutOn x) (hu : UniOn v) : InnOn v := by
 intro hr hwt w s hv
 obtain ⟨p, cs, hs, h1, h2, h3⟩ := hv.slice
 obtain ⟨N, hN⟩ : ∃ N, v.list.length = N := ⟨_, rfl⟩
 rw [hN] at hs h1 h3
 subst hs
 have hlw := list_wt v
 have hNb : (N : Int) <= 4294967296 := by omega
 have HV := zH (And.intro hv (And.intro hN h3))
 have HR := zH (And.intro hr hwt)
 have HU := zH hu
 clear hv hN h1 h2 h3 hr hwt hlw hu
 go_enter func51, ntmps51
 go_upto_region 1 with fail
 have hb0 : Below w.heap.size w (w.alloc (.cells #[.int .i64 v.kind, .int .u64 v.num, .string v.text, (.slice p N cs), .int .i64 v.elem] 25)) := ((Below.refl _ _).alloc (Nat.le_refl _) _)
 have ox := zN w (.cells #[.int .i64 v.kind, .int .u64 v.num, .string v.text, (.slice p N cs), .int .i64 v.elem] 25)
 generalize (w.alloc (.cells #[.int .i64 v.kind, .int .u64 v.num, .string v.text, (.slice p N cs), .int .i64 v.elem] 25)) = w0 at *
 obtain ⟨x, hx⟩ : ∃ x, w.heap.size = x := ⟨_, rfl⟩
 rw [hx] at ox ⊢
 have HB0 := zH hb0
 obtain ⟨x0, x1, x2, x3, x4⟩ := c5 ox
 have HX := zH hx
 have HOX := zH ox
 clear hb0 ox hx
 have HW0 := zH (And.intro HB0.out HB0.out.size)
 by_cases hk : v.kind = 23
 ·have hc := HU.out HR.out.1 HR.out.2 hk w0 _ (HV.out.1.blw HB0.out)
  have HC := zH hc
  have hk2 : (v.kind == 23) = true := by simp [hk]
  clear hc hk
  go_wp2_with fail
  refine HC.out.mono ?_
  clear x0 x1 x2 x3 x4
  rintro e w1 ⟨u, rfl, hu, hb1⟩
  have HO := zH (show OwnBytes w1 w.heap.size 5 u (inn v) from ⟨ownsRow_base hu.row (fun i hi => by have h1 := (hu.row.lt i hi).1; have h2 := HW0.out.2; omega)⟩)
  have HB1 := zH (HB0.out.trans (hb1.mono HW0.out.2))
  clear hu hb1
  go_wp2_with fail
  go_ret
  exact ⟨_, rfl, HO.out, HB1.out⟩
 have hk2 : (v.kind == 23) = false := by simp [hk]
 have HK := zH hk
 clear hk
 go_wp2_with fail
 go_loopw [3, 14] (fun v3 v14 wr => ∃ (k : Nat) (u : Value), k <= N ∧ v14 = .int .i64 k ∧ u = v3 ∧ OwnBytes wr w.heap.size 5 u (putVs (v.list.take k)) ∧ Below w.heap.size w wr) (fun _ v14 _ => N - (intOf v14).toNat)
 case atStart => exact ⟨0, _, Nat.zero_le _, rfl, rfl, by simpa [putVs] using OwnBytes.nil _ _ _, HB0.out⟩
 obtain ⟨k, u, hkN, rfl, rfl, ho, hb⟩ := hrel
 have HOB := zH (And.intro ho hb)
 clear ho hb x0 x1 x2 x3 x4
 by_cases hlt : (k : Int) < N
 ·have ka : k < v.list.length := by rw [HV.out.2.1]; omega
  obtain ⟨b, o, rfl⟩ := HV.out.2.2 (by omega)
  obtain ⟨t, hct, hvx⟩ := HV.out.1.part rfl ka
  have hmx := List.getElem_mem ka
  obtain ⟨px, nx, hsx, _⟩ := hvx.slice
  have hpv : putVs (v.list.take (k + 1)) = putVs (v.list.take k) ++ putV v.list[k] := by unfold putVs; rw [List.take_add_one, List.getElem?_eq_getElem ka, Option.toList_some, List.flatMap_append]; simp
  have hlen : (putVs (v.list.take k)).length + 81 * v.list[k].wt <= 81 * v.wt := by
   have h1 : (putVs (v.list.take k)).length <= 81 * wts (v.list.take k) := lens_le putV _ (fun x _ => (putV_len x).2)
   have h2 := wts_append (v.list.take k) (v.list.drop k)
   rw [List.take_append_drop] at h2
   have h3 : v.list[k].wt <= wts (v.list.drop k) := wts_mem (List.mem_of_getElem? (i := 0) (by rw [List.getElem?_drop, Nat.add_zero, List.getElem?_eq_getElem ka]))
   have h4 := v.wt_eq
   omega
  have hpx := ih _ hmx (HR.out.1.part hmx) (by have := V.wt_lt hmx; have := HR.out.2; omega)
  obtain ⟨c0, c1, c2, c3, c4⟩ := part_cells (rangeAt_rd hct (rd_below HOB.out.2))
  generalize v.list[k] = y at *
  obtain ⟨ny, hny⟩ : ∃ ny, y.list.length = ny := ⟨_, rfl⟩
  rw [hny] at hsx
  subst hsx
  have HY := zH (And.intro hvx (And.intro hpv (And.intro hlen hpx)))
  clear hct hvx hpv hlen hpx hmx ka hny
  skip
  go_upto_region 7 with (refine stV (.tmp 5) (.tmp 17) rfl rfl rfl rfl rfl (zN wr _) rfl ?_)
  refine layW wr ?_
  intro w5 hb_w5 oxy
  obtain ⟨xy, hx_xy⟩ : ∃ x, wr.heap.size = x := ⟨_, rfl⟩
  rw [hx_xy] at oxy ⊢
  have HX_xy := zH hx_xy
  clear hx_xy
  have HB5 := zH hb_w5
  have HXY := zH oxy
  clear hb_w5 oxy c0 c1 c2 c3 c4
  obtain ⟨y0, y1, y2, y3, y4⟩ := c5 HXY.out
  have hbz : Below w.heap.size w w5 := HOB.out.2.trans (HB5.out.mono HOB.out.2.size)
  have hd := HY.out.2.2.2 w5 w _ u _ HY.out.1 hbz (HOB.out.1.of_below HB5.out) (by have h1 := HY.out.2.2.1; have h2 := HR.out.2; omega)
  have HD := zH hd
  have HZ := zH hbz
  clear hd hbz
  go_wp2_with fail
  refine HD.out.mono ?_
  rintro e w7 ⟨u7, rfl, ho7, hg7⟩
  have HO7 := zH ho7
  have HB7 := zH (HZ.out.trans (hg7.below (HOB.out.1.of_below HB5.out) HZ.out.size))
  clear ho7 hg7 y0 y1 y2 y3 y4
  go_wp2_with fail
  go_roundw
  case rel => exact ⟨k + 1, _, by omega, by go_num, rfl, by rw [HY.out.2.1]; exact HO7.out, HB7.out⟩
  case measure => simp [intOf]; omega
 have hkN2 : k = N := by omega
 have HE := zH (show OwnBytes wr w.heap.size 5 u (inn v) from by
  have h := HOB.out.1
  rw [hkN2, List.take_of_length_le (by rw [HV.out.2.1]; exact Nat.le_refl _)] at h
  rw [inn_eq, if_neg HK.out]
  exact h)
 clear hkN2
 go_wp2_with fail
 go_ret
 exact ⟨_, rfl, HE.out, HOB.out.2⟩
theorem both_on : ∀ v : V, InnOn v ∧ PutOn v := by
 refine V.ind (fun v ih => ?_)
 have h1 : InnOn v := inn_of v (fun x hx => (ih x hx).2) (uni_of v (fun x hx => (ih x hx).1))
 exact ⟨h1, put_of v (fun x hx => (ih x hx).2) h1⟩
def EncTo (w : World) (v : V) (e : Ending) (w' : World) : Prop := ∃ u, e = .returned (.tuple #[u, .int .i64 (encS v).2]) ∧ OwnBytes w' w.heap.size 5 u (encS v).1 ∧ Below w.heap.size w w'
theorem encode_any (v : V) (w : World) (s : Value) (hv : VIn w v s) (hT : Tabs w) (hwt : v.wt <= 2000000) :
  Calls prog 10 #[.agg #[.int .i64 v.kind, .int .u64 v.num, .string v.text, s, .int .i64 v.elem]] w (EncTo w v) := by
 have hc := fun W (hW : Below w.heap.size w W) => check_any v W s (hv.blw hW) (hT.below hW) hwt
 obtain ⟨E, hE⟩ : ∃ E, firstBad (v.pre 1) = E := ⟨_, rfl⟩
 rw [hE] at hc
 have HC := zH hc
 have HV := zH (And.intro hv (And.intro hwt hE))
 clear hc hv hT hwt hE
 go_enter func10, ntmps10
 go_upto_region 1 with fail
 have hb0 : Below w.heap.size w (w.alloc (.cells #[.int .i64 v.kind, .int .u64 v.num, .string v.text, s, .int .i64 v.elem] 25)) := ((Below.refl _ _).alloc (Nat.le_refl _) _)
 have ox := zN w (.cells #[.int .i64 v.kind, .int .u64 v.num, .string v.text, s, .int .i64 v.elem] 25)
 generalize (w.alloc (.cells #[.int .i64 v.kind, .int .u64 v.num, .string v.text, s, .int .i64 v.elem] 25)) = w0 at *
 obtain ⟨x, hx⟩ : ∃ x, w.heap.size = x := ⟨_, rfl⟩
 rw [hx] at ox ⊢
 have HB0 := zH hb0
 obtain ⟨x0, x1, x2, x3, x4⟩ := c5 ox
 have HX := zH hx
 have HOX := zH ox
 clear hb0 ox hx
 go_wp2_with fail
 refine (HC.out w0 HB0.out).mono ?_
 clear x0 x1 x2 x3 x4
 rintro e w1 ⟨rfl, hb1⟩
 have HX1 := zH ((hb1.block x (gl HOX.out)).trans HOX.out)
 have HB1 := zH (HB0.out.trans (hb1.mono HB0.out.size))
 clear hb1
 by_cases hE : E = 0
 ·subst hE
  obtain ⟨hr, hd⟩ := (right_iff (vin_wf v s HV.out.1)).1 HV.out.2.2
  have hp := (both_on v).2 hr (by have := HV.out.2.1; omega) w1 w s (.slice none 0 0) [] HV.out.1 HB1.out (OwnBytes.nil _ _ _) (by have := HV.out.2.1; simp; omega)
  have HP := zH hp
  have HR := zH hr
  clear hp hr hd
  have x0 : w1.cell? ⟨x, 0, none⟩ = some (.int .i64 v.kind) := (cell_of_row _ _ 0 _ _ _ HX1.out).trans rfl
  have x1 : w1.cell? ⟨x, 1, none⟩ = some (.int .u64 v.num) := (cell_of_row _ _ 1 _ _ _ HX1.out).trans rfl
  have x2 : w1.cell? ⟨x, 2, none⟩ = some (.string v.text) := (cell_of_row _ _ 2 _ _ _ HX1.out).trans rfl
  have x3 : w1.cell? ⟨x, 3, none⟩ = some s := (cell_of_row _ _ 3 _ _ _ HX1.out).trans rfl
  have x4 : w1.cell? ⟨x, 4, none⟩ = some (.int .i64 v.elem) := (cell_of_row _ _ 4 _ _ _ HX1.out).trans rfl
  go_wp2_with fail
  refine HP.out.mono ?_
  clear x0 x1 x2 x3 x4
  rintro e w2 ⟨u, rfl, ho, hg⟩
  rw [List.nil_append] at ho
  have hb2 := HB1.out.trans (hg.below (OwnBytes.nil w1 w.heap.size _) HB1.out.size)
  obtain ⟨q, cc, hu, _⟩ := ho.bytes
  subst hu
  obtain ⟨m, hm⟩ : ∃ m, (putV v).length = m := ⟨_, rfl⟩
  rw [hm] at ho ⊢
  have HO := zH (And.intro ho (And.intro hb2 hm))
  clear ho hg hb2 hm
  by_cases hl : 1048576 < (m : Int)
  ·have he : encS v = ([], 2) := by unfold encS; rw [if_neg (by rw [HV.out.2.2]; simp), if_pos (by have := HO.out.2.2; omega)]
   have HE := zH he
   clear he
   go_wp2_with fail
   go_ret2
   exact ⟨.slice none 0 0, by rw [HE.out]; rfl, by rw [HE.out]; exact OwnBytes.nil _ _ _, HO.out.2.1⟩
  ·have he : encS v = (putV v, 0) := by unfold encS; rw [if_neg (by rw [HV.out.2.2]; simp), if_neg (by have := HO.out.2.2; omega)]
   have HE := zH he
   clear he
   go_wp2_with fail
   go_ret2
   exact ⟨.slice q m cc, by rw [HE.out]; rfl, by rw [HE.out]; exact HO.out.1, HO.out.2.1⟩
 have he : encS v = ([], E) := by unfold encS; rw [HV.out.2.2, if_pos hE]
 have HE := zH he
 have hE2 : (E == 0) = false := by simp [hE]
 clear he
 go_wp2_with fail
 go_ret2
 exact ⟨.slice none 0 0, by rw [HE.out]; rfl, by rw [HE.out]; exact OwnBytes.nil _ _ _, HB1.out⟩
theorem length_any (v : V) (w : World) (s : Value) (hv : VIn w v s) (hT : Tabs w) (hwt : v.wt <= 2000000) :
  Calls prog 11 #[.agg #[.int .i64 v.kind, .int .u64 v.num, .string v.text, s, .int .i64 v.elem]] w fun e w' => e = .returned (.tuple #[.int .i64 (encS v).1.length, .int .i64 (encS v).2]) ∧ Below w.heap.size w w' := by
 have hc := fun W (hW : Below w.heap.size w W) => encode_any v W s (hv.blw hW) (hT.below hW) hwt
 have HC := zH hc
 clear hc hv hT hwt
 go_enter func11, ntmps11
 go_upto_region 1 with fail
 have hb0 : Below w.heap.size w (w.alloc (.cells #[.int .i64 v.kind, .int .u64 v.num, .string v.text, s, .int .i64 v.elem] 25)) := ((Below.refl _ _).alloc (Nat.le_refl _) _)
 have ox := zN w (.cells #[.int .i64 v.kind, .int .u64 v.num, .string v.text, s, .int .i64 v.elem] 25)
 generalize (w.alloc (.cells #[.int .i64 v.kind, .int .u64 v.num, .string v.text, s, .int .i64 v.elem] 25)) = w0 at *
 obtain ⟨x, hx⟩ : ∃ x, w.heap.size = x := ⟨_, rfl⟩
 rw [hx] at ox ⊢
 have HB0 := zH hb0
 obtain ⟨x0, x1, x2, x3, x4⟩ := c5 ox
 have HX := zH hx
 have HOX := zH ox
 clear hb0 ox hx
 go_wp2_with fail
 refine (HC.out w0 HB0.out).mono ?_
 clear x0 x1 x2 x3 x4
 rintro e w1 ⟨u, rfl, ho, hb1⟩
 have HB1 := zH (HB0.out.trans (hb1.mono HB0.out.size))
 obtain ⟨q, cc, hu, _⟩ := ho.bytes
 subst hu
 clear ho hb1
 go_wp2_with fail
 go_ret2
 exact ⟨rfl, HB1.out⟩
end Go.Proofs.YtnnnfhobbnjmfaaGreatDoor

namespace Go.Proofs.YtnnnfhobbnjmfaaGreatDoor
open Go.RowKit Go.Proofs.Tryz Go.ChangeShapes Go.WideShapes Go.ChangeAt Go.Deep
set_option linter.all false
set_option maxHeartbeats 40000000
set_option maxRecDepth 20000

theorem wf_u64V {n : Int} (h : (Lit.int .u64 n).wf = true) : IsU64 n := by
 obtain ⟨m, rfl, hm⟩ := bd_u64 h
 exact ⟨by omega, by omega⟩
theorem choose_ltV {α : Type} (d : α) {n : Nat} {p : Nat -> α -> Prop} (h : ∀ i, i < n -> ∃ x, p i x) : ∃ F : Nat -> α, ∀ i, i < n -> p i (F i) := by
 refine ⟨fun i => if hi : i < n then (h i hi).choose else d, fun i hi => ?_⟩
 simp only [dif_pos hi]
 exact (h i hi).choose_spec

section
variable {H : Type} {enc : TypeId × Value -> H} {w : World}

end

structure KeepF (F : Nat -> Prop) (W W2 : World) : Prop where
 os : W2.os = W.os
 tape : W2.tape = W.tape
 output : W2.output = W.output
 size : W.heap.size <= W2.heap.size
 block : ∀ j, j < W.heap.size -> ¬ F j -> W2.heap[j]? = W.heap[j]?
theorem KeepF.refl (F : Nat -> Prop) (W : World) : KeepF F W W := ⟨rfl, rfl, rfl, Nat.le_refl _, fun _ _ _ => rfl⟩
theorem KeepF.trans {F : Nat -> Prop} {W W2 W3 : World} (h : KeepF F W W2) (h' : KeepF F W2 W3) : KeepF F W W3 :=
 ⟨h'.os.trans h.os, h'.tape.trans h.tape, h'.output.trans h.output, Nat.le_trans h.size h'.size, fun j hj ho => (h'.block j (Nat.lt_of_lt_of_le hj h.size) ho).trans (h.block j hj ho)⟩
theorem KeepF.wide {F G : Nat -> Prop} {W W2 : World} (h : KeepF F W W2) (hg : ∀ j, F j -> G j) : KeepF G W W2 := ⟨h.os, h.tape, h.output, h.size, fun j hj ho => h.block j hj (fun q => ho (hg j q))⟩
theorem KeepF.of_below {F : Nat -> Prop} {W W2 : World} (h : Below W.heap.size W W2) : KeepF F W W2 := ⟨h.os, h.tape, h.output, h.size, fun j hj _ => h.block j hj⟩
theorem KeepF.below {F : Nat -> Prop} {n : Nat} {w W W2 : World} (hb : Below n w W) (h : KeepF F W W2) (hF : ∀ j, F j -> n <= j) (hn : n <= W.heap.size) : Below n w W2 :=
 ⟨h.os.trans hb.os, h.tape.trans hb.tape, h.output.trans hb.output, Nat.le_trans hb.size h.size, fun j hj => (h.block j (by omega) (fun q => by have := hF j q; omega)).trans (hb.block j hj)⟩
theorem KeepF.setCells {F : Nat -> Prop} {w W : World} {b : Nat} (h : KeepF F w W) (hb : F b) (o : Nat) (vs : List Value) : KeepF F w (W.setCells b o vs) := by
 have g := setCells_grown W b o vs
 exact h.trans ⟨g.os, g.tape, g.output, g.size, fun j hj ho => g.block j hj (fun e => by have := Option.some.inj e; subst this; exact ho hb)⟩
theorem KeepF.grown {F : Nat -> Prop} {w W W' : World} {d : Nat} (h : KeepF F w W) (hg : W.grownBy W' (some d)) (hd : w.heap.size <= d) : KeepF F w W' :=
 ⟨hg.os.trans h.os, hg.tape.trans h.tape, hg.output.trans h.output, Nat.le_trans h.size hg.size, fun j hj ho => (hg.block j (Nat.lt_of_lt_of_le hj h.size) (fun e => by have := Option.some.inj e; omega)).trans (h.block j hj ho)⟩
theorem KeepF.drew {F : Nat -> Prop} {w W : World} (h : KeepF F w W) : KeepF F w W.drew := ⟨h.os, h.tape, h.output, h.size, h.block⟩

/-! ### rows of five cells each, by number -/
def rowsF : Nat -> (Nat -> List Value) -> List Value
 | 0, _ => []
 | n + 1, c => rowsF n c ++ c n
def updF (c : Nat -> List Value) (k : Nat) (m : List Value) : Nat -> List Value := fun i => if i = k then m else c i
theorem updF_same (c : Nat -> List Value) (k : Nat) (m : List Value) : updF c k m k = m := if_pos rfl
theorem updF_other {c : Nat -> List Value} {k i : Nat} {m : List Value} (h : i ≠ k) : updF c k m i = c i := if_neg h
theorem updF_len {c : Nat -> List Value} {k : Nat} {m : List Value} (hc : ∀ i, (c i).length = 5) (hm : m.length = 5) (i : Nat) : (updF c k m i).length = 5 := by
 unfold updF; split
 ·exact hm
 ·exact hc i
theorem rowsF_len {c : Nat -> List Value} (hc : ∀ i, (c i).length = 5) : ∀ n, (rowsF n c).length = n * 5
 | 0 => rfl
 | n + 1 => by rw [rowsF, List.length_append, rowsF_len hc n, hc n]; omega
theorem rowsF_get {c : Nat -> List Value} (hc : ∀ i, (c i).length = 5) : ∀ (n i j : Nat), i < n -> j < 5 -> (rowsF n c)[i * 5 + j]? = (c i)[j]?
 | 0, i, j, h, _ => by omega
 | n + 1, i, j, h, hj => by
  rw [rowsF]
  by_cases e : i < n
  ·rw [List.getElem?_append_left (by rw [rowsF_len hc]; omega)]
   exact rowsF_get hc n i j e hj
  ·obtain rfl : i = n := by omega
   rw [List.getElem?_append_right (by rw [rowsF_len hc]; omega), rowsF_len hc]
   congr 1
   omega
theorem rowsF_set {c : Nat -> List Value} (hc : ∀ i, (c i).length = 5) {m : List Value} (hm : m.length = 5) {n k : Nat} (hk : k < n) : splice (rowsF n c) (k * 5) m = rowsF n (updF c k m) := by
 apply List.ext_getElem?
 intro q
 have hu := updF_len (k := k) hc hm
 have hl := rowsF_len hc n
 have hl2 := rowsF_len hu n
 have hs := splice_length (rowsF n c) (k * 5) m (by rw [hl, hm]; omega)
 by_cases hq : q < n * 5
 ·have hq2 : q = q / 5 * 5 + q % 5 := by omega
  have h5 : q % 5 < 5 := by omega
  have hqn : q / 5 < n := by omega
  generalize q / 5 = i at *
  generalize q % 5 = j at *
  subst hq2
  rw [rowsF_get hu n i j hqn h5]
  have t1 : ((rowsF n c).take (k * 5)).length = k * 5 := by rw [List.length_take, hl]; omega
  unfold splice
  rw [List.append_assoc]
  by_cases e : i = k
  ·subst e
   rw [updF_same, List.getElem?_append_right (by omega), t1, List.getElem?_append_left (by omega)]
   congr 1
   omega
  ·rw [updF_other e]
   by_cases e2 : i < k
   ·rw [List.getElem?_append_left (by omega), List.getElem?_take_of_lt (by omega)]
    exact rowsF_get hc n i j hqn h5
   ·rw [List.getElem?_append_right (by omega), t1, List.getElem?_append_right (by omega), List.getElem?_drop, hm, ← rowsF_get hc n i j hqn h5]
    congr 1
    omega
 ·rw [List.getElem?_eq_none (by omega), List.getElem?_eq_none (by omega)]

def RowF (w : World) (B b n : Nat) (c : Nat -> List Value) : Prop := w.ownsRow B 25 5 (.slice (some ⟨b, 0, none⟩) n n) n (rowsF n c)
section
variable {w w' : World} {B b n : Nat} {c : Nat -> List Value}
theorem RowF.lt (h : RowF w B b n c) : B <= b ∧ b < w.heap.size := World.ownsRow.lt h b rfl
theorem RowF.keep (h : RowF w B b n c) (e : w'.heap[b]? = w.heap[b]?) : RowF w' B b n c := ownsRow_keep h (fun j hj => by
 have : b = j := by simpa [Value.ownBlock] using hj
 subst this; exact e)
theorem RowF.cell (h : RowF w B b n c) (hc : ∀ i, (c i).length = 5) {i j : Nat} {u : Value} (hi : i < n) (hu : (c i)[j]? = some u) : w.cell? ⟨b, i * 5 + j, none⟩ = some u := by
 have hj : j < 5 := by rw [← hc i]; exact (List.getElem?_eq_some_iff.1 hu).1
 exact ownsRow_cell h (by rw [rowsF_get hc n i j hi hj]; exact hu)
theorem RowF.there (h : RowF w B b n c) {k : Nat} (hk : k < n) : w.there b (k * 5) 5 := ownsRow_there h hk
theorem RowF.set (h : RowF w B b n c) (hc : ∀ i, (c i).length = 5) {k : Nat} (hk : k < n) {m : List Value} (hm : m.length = 5) : RowF (w.setCells b (k * 5) m) B b n (updF c k m) := by
 have := ownsRow_set h hk hm
 rwa [rowsF_set hc hm hk] at this
theorem RowF.cap (h : RowF w B b n c) : n <= maxLen := by
 rcases h.2 with ⟨q, _⟩ | ⟨g, cap, cur, q, _, _, h1, h2, _⟩
 ·simp at q
 ·simp only [Value.slice.injEq] at q
  omega
theorem RowF.base (h : RowF w B b n c) {B' : Nat} (hB : B' <= B) : RowF w B' b n c := ownsRow_base h (fun j hj => by
 have : b = j := by simpa [Value.ownBlock] using hj
 subst this; exact Nat.le_trans hB h.lt.1)
end

/-! ### lent -/
def mkV (i : Nat) : V := .mk (-7) i ⟨#[]⟩ [] 0
def nilS : Value := .slice none 0 0
inductive VL (w : World) (B : Nat) : V -> Value -> (Nat -> Prop) -> Prop
 | mk (v : V) (b : Nat) (F : Nat -> Prop) (c : Nat -> List Value) (ss : Nat -> Value) (Fs : Nat -> Nat -> Prop) (wf : v.Wf) (hc : ∀ i, (c i).length = 5) (hrow : RowF w B b (v.list.length + 3) c)
   (h1 : ∀ i (h : i < v.list.length), c i = vcells v.list[i] (ss i)) (h2 : ∀ i, v.list.length <= i -> i < v.list.length + 3 -> c i = vcells (mkV i) nilS) (hin : ∀ i (h : i < v.list.length), VL w B v.list[i] (ss i) (Fs i))
   (hd : ∀ i j, i < v.list.length -> j < v.list.length -> i ≠ j -> ∀ g, Fs i g -> ¬ Fs j g) (hs : ∀ i, i < v.list.length -> ¬ Fs i b) (hF : ∀ g, F g ↔ (g = b ∨ ∃ i, i < v.list.length ∧ Fs i g)) : VL w B v (.slice (some ⟨b, 0, none⟩) v.list.length (v.list.length + 3)) F
section
variable {w w' : World} {v : V} {s : Value} {B B' : Nat} {F : Nat -> Prop}
theorem VL.wf (h : VL w B v s F) : v.Wf := by cases h; assumption
theorem VL.lt (h : VL w B v s F) : ∀ b, F b -> B <= b ∧ b < w.heap.size := by
 induction h with
 | mk v b F c ss Fs wf hc hrow h1 h2 hin hd hs hF ih =>
  intro g hg
  rcases (hF g).1 hg with rfl | ⟨i, hi, q⟩
  ·exact hrow.lt
  ·exact ih i hi g q
theorem VL.keep (h : VL w B v s F) (e : ∀ b, F b -> w'.heap[b]? = w.heap[b]?) : VL w' B v s F := by
 induction h with
 | mk v b F c ss Fs wf hc hrow h1 h2 hin hd hs hF ih =>
  exact .mk v b F c ss Fs wf hc (hrow.keep (e b ((hF b).2 (.inl rfl)))) h1 h2 (fun i hi => ih i hi (fun g hg => e g ((hF g).2 (.inr ⟨i, hi, hg⟩)))) hd hs hF
theorem VL.blw (h : VL w B v s F) (hb : Below w.heap.size w w') : VL w' B v s F := h.keep (fun b q => hb.block b (h.lt b q).2)
theorem VL.keepF {G : Nat -> Prop} (h : VL w B v s F) (hk : KeepF G w w') (hd : ∀ b, F b -> ¬ G b) : VL w' B v s F := h.keep (fun b q => hk.block b (h.lt b q).2 (hd b q))
theorem VL.mono (h : VL w B v s F) (hB : B' <= B) : VL w B' v s F := by
 induction h with
 | mk v b F c ss Fs wf hc hrow h1 h2 hin hd hs hF ih =>
  exact .mk v b F c ss Fs wf hc (hrow.base hB) h1 h2 (fun i hi => ih i hi) hd hs hF
theorem VL.as {v' : V} (h : VL w B v s F) (hl : v'.list = v.list) (hw : v'.Wf) : VL w B v' s F := by
 cases h with
 | mk _ b _ c ss Fs wf hc hrow h1 h2 hin hd hs hF =>
  have key : ∀ (L : List V) (e : L = v.list), v'.list = L -> VL w B v' (.slice (some ⟨b, 0, none⟩) L.length (L.length + 3)) F := by
   intro L e e2
   subst e2
   have hln : v'.list.length = v.list.length := by rw [e]
   refine .mk v' b F c ss Fs hw hc (by rw [hln]; exact hrow) (fun i hi => ?_) (fun i q1 q2 => h2 i (hln ▸ q1) (hln ▸ q2)) (fun i hi => ?_) (fun i j hi hj => hd i j (hln ▸ hi) (hln ▸ hj)) (fun i hi => hs i (hln ▸ hi)) (fun g => by rw [hF g, hln])
   ·rw [h1 i (hln ▸ hi)]
    simp only [e]
   ·have := hin i (hln ▸ hi)
    simpa only [e] using this
  exact key v.list rfl hl
theorem VL.slice (h : VL w B v s F) : ∃ b, s = .slice (some ⟨b, 0, none⟩) v.list.length (v.list.length + 3) ∧ F b ∧ v.list.length + 3 <= maxLen := by
 cases h with
 | mk _ b _ c ss Fs wf hc hrow h1 h2 hin hd hs hF => exact ⟨b, rfl, (hF b).2 (.inl rfl), hrow.cap⟩
theorem VL.vin (h : VL w B v s F) : VIn w v s := by
 induction h with
 | mk v b F c ss Fs wf hc hrow h1 h2 hin hd hs hF ih =>
  refine .mk v (some ⟨b, 0, none⟩) _ ss wf (by omega) hrow.cap (fun _ => ⟨b, 0, rfl⟩) (fun b' o e i hi j u hu => ?_) ih
  simp only [Option.some.injEq, Addr.mk.injEq] at e
  obtain ⟨rfl, rfl, _⟩ := e
  rw [Nat.zero_add]
  exact hrow.cell hc (by omega) (by rw [h1 i hi]; exact hu)
end
/-! ### turned -/
def xor1 (n : Int) : Int := bits BinOp.xor IntKind.u64 n 1
theorem xor1_u64 (n : Int) : IsU64 (xor1 n) := wf_u64V (wf_bits _ _ _ _)
mutual
def V.turned : V -> V
 | .mk k n t l e => .mk k (xor1 n) t (turneds l) e
def turneds : List V -> List V
 | [] => []
 | v :: r => v.turned :: turneds r
end
theorem turneds_map (l : List V) : turneds l = l.map V.turned := by
 induction l with
 | nil => rfl
 | cons a r ih => rw [turneds, ih]; rfl
theorem V.turned_eq (v : V) : v.turned = .mk v.kind (xor1 v.num) v.text (v.list.map V.turned) v.elem := by cases v; rw [V.turned, turneds_map]; rfl
theorem V.Wf.turned {v : V} (h : v.Wf) : v.turned.Wf := by
 rw [V.turned_eq]
 exact ⟨h.k, xor1_u64 _, h.t, h.e⟩
end Go.Proofs.YtnnnfhobbnjmfaaGreatDoor
