/-
  Lemmas on the codec. Conditions: as each says.
-/
import Derived.Test.YtnnnfhobbnjmfaaGreatDoorWn14
import Derived.Deep.OwnRows
namespace Go.Proofs.YtnnnfhobbnjmfaaGreatDoor
open Go.RowKit Go.Proofs.Tryz
set_option linter.all false
set_option maxHeartbeats 40000000
set_option maxRecDepth 20000

attribute [local go_sem] Oper.semAt_some

theorem info_rows:(prog.info? 28).map (fun i=>(i.zero,i.size,i.bytes)) = some (some (.slice none 0 0),1,24):=by kernel_rfl
def bhL (e:Int) (x:V):List UInt8:=if IsSp e then inn x else []
theorem datB_plain {c:Nat} {x:V} (hc:DatC c) (h:¬ IsSp (kindC c)):datB c x [] = datV c x:=by
 unfold datV datB
 by_cases a:c / 16 = 9
 ·rw [if_pos a,if_pos a]
 rw [if_neg a,if_neg a]
 by_cases a:c / 16 = 10 ∨ c / 16 = 11
 ·rw [if_pos a,if_pos a]
 rw [if_neg a,if_neg a]
 by_cases a:12 <= c / 16
 ·exact absurd (span_kind hc a) h
 rw [if_neg a,if_neg a]
theorem datB_bhL {c:Nat} {x:V} (hc:DatC c):datB c x (bhL (kindC c) x) = datV c x:=by
 unfold bhL
 by_cases h:IsSp (kindC c)
 ·rw [if_pos h];rfl
 ·rw [if_neg h];exact datB_plain hc h
theorem own_lit (w:World) (B c:Nat) (hc:c < 256) (hB:B <= w.heap.size):OwnBytes (w.alloc (.cells #[.int .u8 (c:Int)] 5)) B 5 (.slice (some ⟨w.heap.size,0,none⟩) 1 1) [UInt8.ofNat c] :=
 ⟨⟨rfl,.inr ⟨w.heap.size,1,#[.int .u8 (c:Int)],rfl,hB,zN w _,Nat.le_refl _,by unfold maxLen;omega,rfl,by simp [byteV];omega⟩⟩⟩
theorem datVs_len (c:Nat) (l:List V):(datVs c l).length <= 81 * wts l:=lens_le (datV c) l (fun x _=>datV_len c x)
theorem wts_take (l:List V) (k:Nat):wts (l.take k) <= wts l:=by
 have:=wts_append (l.take k) (l.drop k)
 rw [List.take_append_drop] at this
 omega
structure Beh (w:World) (bb n:Nat) (f:Nat -> Value) (ls:Nat -> List UInt8):Prop where
 row:w.rowIs bb 28 n f
 own:∀ i,i < n -> OwnBytes w (bb+1) 5 (f i) (ls i)
section
variable {w w':World} {bb n:Nat} {f:Nat -> Value} {ls:Nat -> List UInt8}
theorem Beh.below (h:Beh w bb n f ls) (hb:Below w.heap.size w w'):Beh w' bb n f ls:=⟨h.row.of_block (hb.block bb h.row.lt),fun i hi=>(h.own i hi).of_below hb⟩
end
theorem uni_of (v:V) (ih:∀ x ∈ v.list,InnOn x):UniOn v:=by
 intro hr hwt hk w s hv
 have f:=hr.fields
 have ha:=f.arr hk
 simp only [arrOk,decide_eq_true_eq] at ha
 obtain ⟨p,cs,hs,h1,h2,h3⟩:=hv.slice
 obtain ⟨N,hN⟩:∃ N,v.list.length = N:=⟨_,rfl⟩
 rw [hN] at hs h1 h3
 subst hs
 have hlw:=list_wt v
 have hNb:(N:Int) <= 4294967296:=by omega
 have hmk:=run_make_row' (P:=prog) 36 28 (.slice none 0 0) 24 underlying36 info_rows rfl .i64 .i64 N (by omega) (by omega)
 have HV:=zH (And.intro hv (And.intro hN h3))
 have HR:=zH (And.intro hr (And.intro hwt (And.intro ha hk)))
 clear hv hN h1 h2 h3 hr hwt f ha hlw hk
 go_enter func75,ntmps75
 go_upto_region 1 with fail
 have hb0:Below w.heap.size w (w.alloc (.cells #[.int .i64 v.kind,.int .u64 v.num,.string v.text,(.slice p N cs),.int .i64 v.elem] 25)):=((Below.refl _ _).alloc (Nat.le_refl _) _)
 have ox:=zN w (.cells #[.int .i64 v.kind,.int .u64 v.num,.string v.text,(.slice p N cs),.int .i64 v.elem] 25)
 generalize (w.alloc (.cells #[.int .i64 v.kind,.int .u64 v.num,.string v.text,(.slice p N cs),.int .i64 v.elem] 25)) = w0 at *
 obtain ⟨x,hx⟩:∃ x,w.heap.size = x:=⟨_,rfl⟩
 rw [hx] at ox ⊢
 have HB0:=zH hb0
 have x3:w0.cell? ⟨x,3,none⟩ = some ((.slice p N cs)):=(cell_of_row _ _ 3 _ _ _ ox).trans rfl
 have x4:w0.cell? ⟨x,4,none⟩ = some (.int .i64 v.elem):=(cell_of_row _ _ 4 _ _ _ ox).trans rfl
 have HX:=zH hx
 have HOX:=zH ox
 clear hb0 hx
 clear ox
 go_upto_region 2 with fail
 clear hmk
 have hrow:=World.rowIs_made w0 (.slice none 0 0) N 28
 have hb1:Below w0.heap.size w0 (w0.alloc (.cells (madeCells #[.slice none 0 0] N) 28)):=(Below.refl _ _).alloc (Nat.le_refl _) _
 have hz1:(w0.alloc (.cells (madeCells #[.slice none 0 0] N) 28)).heap.size = w0.heap.size+1:=by simp
 generalize (w0.alloc (.cells (madeCells #[.slice none 0 0] N) 28)) = w1 at *
 obtain ⟨bb,hbb⟩:∃ bb,w0.heap.size = bb:=⟨_,rfl⟩
 rw [hbb] at hrow hz1 ⊢
 have HW1:=zH (HB0.out.trans (hb1.mono HB0.out.size))
 have HX1:=zH ((hb1.block x (gl HOX.out)).trans HOX.out)
 have HZ1:=zH (And.intro hz1 (And.intro hbb (gl HOX.out)))
 have HR0:=zH hrow
 replace x3:=bs_cellV hb1 x3
 replace x4:=bs_cellV hb1 x4
 clear hb1 hz1 hbb hrow
 go_wp2_with fail
 go_loopw [4,18] (fun v4 v18 wr=>∃ (k:Nat) (f:Nat -> Value),k <= N∧v18 = .int .i64 k∧v4 = .bool ((v.list.take k).all smV)∧Beh wr bb N f (fun i=>if i < k then bhL v.elem (v.list.getD i zeroV) else [])∧Below bb w1 wr∧w1.heap.size <= wr.heap.size) (fun _ v18 _=>N - (intOf v18).toNat)
 case atStart=>exact ⟨0,fun _=>.slice none 0 0,Nat.zero_le _,rfl,by simp,⟨HR0.out,fun i hi=>by rw [if_neg (by omega)];exact OwnBytes.nil _ _ _⟩,Below.refl _ _,Nat.le_refl _⟩
 obtain ⟨k,f,hkN,rfl,rfl,hbe,hbl,hzr⟩:=hrel
 have HWR:=zH (show Below w.heap.size w wr from HW1.out.trans (hbl.mono (by have h1:=HX.out;have h2:=HZ1.out;omega)))
 have hxr:wr.heap[x]? = some (.cells #[.int .i64 v.kind,.int .u64 v.num,.string v.text,.slice p N cs,.int .i64 v.elem] 25 (0,0)):=(hbl.block x (by have h2:=HZ1.out;omega)).trans HX1.out
 have HXR:=zH hxr
 have HBE:=zH (And.intro hbe (And.intro hbl hzr))
 have x3':wr.cell? ⟨x,3,none⟩ = some (.slice p N cs):=(cell_of_row _ _ 3 _ _ _ hxr).trans rfl
 have x4':wr.cell? ⟨x,4,none⟩ = some (.int .i64 v.elem):=(cell_of_row _ _ 4 _ _ _ hxr).trans rfl
 obtain ⟨sm,hsm⟩:∃ sm,(v.list.take k).all smV = sm:=⟨_,rfl⟩
 have HSM:=zH hsm
 rw [hsm]
 clear hbe hbl hzr hxr x3 x4 hsm
 by_cases hlt:(k:Int) < N
 ·have ka:k < v.list.length:=by rw [HV.out.2.1];omega
  obtain ⟨b,o,rfl⟩:=HV.out.2.2 (by omega)
  obtain ⟨t,hct,hvx⟩:=HV.out.1.part rfl ka
  have hmx:=List.getElem_mem ka
  obtain ⟨px,nx,hsx,_⟩:=hvx.slice
  have hgd:v.list.getD k zeroV = v.list[k]:=by simp [List.getD_eq_getElem?_getD,ka]
  have hix:=ih _ hmx (HR.out.1.part hmx) (by have:=V.wt_lt hmx;have:=HR.out.2.1;omega)
  have htk:(v.list.take (k+1)).all smV = (sm && smV v.list[k]):=by rw [List.take_add_one,List.getElem?_eq_getElem ka,Option.toList_some,List.all_append,HSM.out];simp
  have hkx:=HR.out.2.2.1.2.2 _ hmx
  have hrx:=HR.out.1.part hmx
  have hwx:v.list[k].wt <= 4294967296:=by have:=V.wt_lt hmx;have:=HR.out.2.1;omega
  obtain ⟨c0,c1,c2,c3,c4⟩:=part_cells (rangeAt_rd hct (rd_below HWR.out))
  generalize v.list[k] = y at *
  obtain ⟨ny,hny⟩:∃ ny,y.list.length = ny:=⟨_,rfl⟩
  rw [hny] at hsx
  subst hsx
  have HY:=zH (And.intro hvx (And.intro hix (And.intro htk (And.intro hkx (And.intro hrx (And.intro hwx hgd))))))
  clear hct hvx hix htk hkx hrx hwx hmx ka hgd hny
  skip
  go_upto_region 6 with (refine stV (.tmp 6) (.tmp 22) rfl rfl rfl rfl rfl (zN wr _) rfl ?_)
  refine layW wr ?_
  intro w2 hb_w2 oxy
  obtain ⟨xy,hx_xy⟩:∃ x,wr.heap.size = x:=⟨_,rfl⟩
  rw [hx_xy] at oxy ⊢
  have HX_xy:=zH hx_xy
  clear hx_xy
  have HXY:=zH oxy
  have HB2:=zH hb_w2
  have x3:=bs_cellV HB2.out x3'
  have x4:=bs_cellV HB2.out x4'
  have HX2:=zH ((HB2.out.block x (gl HXR.out)).trans HXR.out)
  clear oxy hb_w2 c0 c1 c2 c3 c4 x3' x4'
  obtain ⟨y0,y1,y2,y3,y4⟩:=c5 HXY.out
  by_cases hsp:v.elem = 21 ∨ v.elem = 22 ∨ v.elem = 23
  ·have HSP:=zH hsp
   have hi:=HY.out.2.1 w2 (.slice px ny nx) (HY.out.1.blw (HWR.out.trans (HB2.out.mono HWR.out.size)))
   have HI:=zH hi
   have hgo:((v.elem == 21) = true) ∨ ((v.elem == 21) = false∧(v.elem == 22) = true) ∨ ((v.elem == 21) = false∧(v.elem == 22) = false∧(v.elem == 23) = true):=by
    rcases hsp with e|e|e
    ·exact .inl (by simp [e])
    ·exact .inr (.inl ⟨by simp [e],by simp [e]⟩)
    ·exact .inr (.inr ⟨by simp [e],by simp [e],by simp [e]⟩)
   clear hi hsp
   rcases hgo with e1|⟨e1,e2⟩|⟨e1,e2,e3⟩
   all_goals
    go_wp2_with fail
    refine HI.out.mono ?_
    rintro e w3 ⟨u0,rfl,hu,hb3⟩
    obtain ⟨qs,cc,hbs,_⟩:=hu.bytes
    subst hbs
    obtain ⟨m,hm⟩:∃ m,(inn y).length = m:=⟨_,rfl⟩
    rw [hm] at hu ⊢
    have HM:=zH hm
    clear hm
    have HB3:=zH hb3
    have HU:=zH hu
    have hbe3:=(HBE.out.1.below HB2.out).below hb3
    have hsz3:=hb3.size
    have hsz2:=HB2.out.size
    have hzr:=HBE.out.2.2
    have hz1:=HZ1.out
    have r3:=hbe3.row.frozen k
    have r4:w3.cell? ⟨bb,k,none⟩ = some (f k):=hbe3.row.cell (by omega)
    have hset:(w3.setCell ⟨bb,k,none⟩ (.slice qs m cc)).rowIs bb 28 N (fun i=>if i = k then (.slice qs m cc) else f i):=hbe3.row.set k (.slice qs m cc)
    have hofs:∀ j,j ≠ bb -> (w3.setCell ⟨bb,k,none⟩ (.slice qs m cc)).heap[j]? = w3.heap[j]?:=fun j hj=>set_farV hj
    have hbe4:Beh (w3.setCell ⟨bb,k,none⟩ (.slice qs m cc)) bb N (fun i=>if i = k then (.slice qs m cc) else f i) (fun i=>if i < k+1 then bhL v.elem (v.list.getD i zeroV) else []):=by
     refine ⟨hset,fun i hi=>?_⟩
     have kept:∀ {B:Nat} {q:Value} {l:List UInt8},bb+1 <= B -> OwnBytes w3 B 5 q l -> OwnBytes (w3.setCell ⟨bb,k,none⟩ (.slice qs m cc)) B 5 q l:=fun hB hq =>
      ⟨ownsRow_keep hq.row (fun j hj=>hofs j (by have:=(hq.row.lt j hj).1;omega))⟩
     by_cases e:i = k
     ·subst e
      rw [if_pos rfl,if_pos (by omega),HY.out.2.2.2.2.2.2]
      have:bhL v.elem y = inn y:=if_pos HSP.out
      rw [this]
      exact ⟨ownsRow_base (kept (by omega) HU.out).row (fun j hj=>by have:=(HU.out.row.lt j hj).1;omega)⟩
     ·rw [if_neg e]
      have h5:=kept (Nat.le_refl _) (hbe3.own i hi)
      by_cases e2:i < k
      ·rw [if_pos e2] at h5
       rw [if_pos (by omega)];exact h5
      ·rw [if_neg e2] at h5
       rw [if_neg (by omega)];exact h5
    have hbl4:Below bb w1 (w3.setCell ⟨bb,k,none⟩ (.slice qs m cc)):=(HBE.out.2.1.trans (((HB2.out.trans (hb3.mono HB2.out.size))).mono (by omega))).setCell (p:=⟨bb,k,none⟩) (Nat.le_refl _) _
    have hsz4:w3.heap.size <= (w3.setCell ⟨bb,k,none⟩ (.slice qs m cc)).heap.size:=by simp
    have hxy4:=(hofs xy (by have:=HX_xy.out;omega)).trans ((hb3.block xy (gl HXY.out)).trans HXY.out)
    have HE:=zH (And.intro hbe4 (And.intro hbl4 (And.intro hxy4 (show w1.heap.size <= (w3.setCell ⟨bb,k,none⟩ (.slice qs m cc)).heap.size by omega))))
    clear y0 y1 y2 y3 y4 x3 x4 hbe3 hsz3 hsz2 hzr hz1 hset hofs hbe4 hbl4 hsz4 hxy4 hu hb3
    go_upto_region 8 with fail
    clear r3 r4
    generalize (w3.setCell ⟨bb,k,none⟩ (.slice qs m cc)) = w4 at *
    have HW4:=zH (show Below w.heap.size w w4 from HW1.out.trans (HE.out.2.1.mono (by have h1:=HX.out;have h2:=HZ1.out;omega)))
    have r4:w4.cell? ⟨bb,k,none⟩ = some (.slice qs m cc):=by have h:=HE.out.1.row.cell (i:=k) (by omega);rwa [if_pos rfl] at h
    obtain ⟨y0,y1,y2,y3,y4⟩:=c5 HE.out.2.2.1
    have hsm2:smV y = spansB y.list.length m:=by unfold smV smallV;rw [if_pos (show IsSp y.kind from by rw [HY.out.2.2.2.1];exact HSP.out),HM.out]
    have hss:=fun (W:World) (hW:Below w4.heap.size w4 W)=>spans_any y W (.slice px ny nx) (HY.out.1.blw (HW4.out.trans (hW.mono HW4.out.size))) qs m cc (by have h1:=inn_wt y;have h2:=HY.out.2.2.2.2.2.1;have h3:=HM.out;omega)
    rw [← hsm2] at hss
    obtain ⟨sy,hsy⟩:∃ sy,smV y = sy:=⟨_,rfl⟩
    have htk2:=HY.out.2.2.1
    rw [hsy] at hss htk2
    have HSS:=zH hss
    have HTK:=zH htk2
    clear hss htk2 hsm2 hsy
    cases sm
    ·go_still_tail 7,(by kernel_rfl)
     have HDR:=zH (bdrew (Below.refl w4.heap.size w4))
     have HBE4:=zH (And.intro HE.out.1 HE.out.2.1)
     change wpList _ _ _ _ _ w4.drew
     generalize w4.drew = w5 at *
     clear r4 y0 y1 y2 y3 y4
     go_wp2_with fail
     go_roundw
     case rel=>exact ⟨k+1,_,by omega,by go_num,by rw [HTK.out];rfl,HE.out.1.below HDR.out,HE.out.2.1.trans (HDR.out.mono (by have:=HE.out.2.2.2;have:=HZ1.out;omega)),by have:=HE.out.2.2.2;have:=HDR.out.size;omega⟩
     case measure=>simp [intOf];omega
    ·go_still_tail 7,(by kernel_rfl)
     have HDR:=zH (bdrew (Below.refl w4.heap.size w4))
     change wpList _ _ _ _ _ w4.drew
     generalize w4.drew = w5 at *
     clear r4 y0 y1 y2 y3 y4
     go_wp2_with fail
     refine (HSS.out w5 HDR.out).mono ?_
     rintro e w6 ⟨rfl,hb6⟩
     have HB6:=zH (HDR.out.trans (hb6.mono HDR.out.size))
     clear hb6
     go_wp2_with fail
     go_roundw
     case rel=>exact ⟨k+1,_,by omega,by go_num,by rw [HTK.out];simp,HE.out.1.below HB6.out,HE.out.2.1.trans (HB6.out.mono (by have:=HE.out.2.2.2;have:=HZ1.out;omega)),by have:=HE.out.2.2.2;have:=HB6.out.size;omega⟩
     case measure=>simp [intOf];omega
  ·have hbhe:Beh wr bb N f (fun i=>if i < k+1 then bhL v.elem (v.list.getD i zeroV) else []):=⟨HBE.out.1.row,fun i hi=>by
    have h5:=HBE.out.1.own i hi
    have h6:bhL v.elem (v.list.getD i zeroV) = []:=if_neg hsp
    simp only [h6,ite_self] at h5 ⊢
    exact h5⟩
   have HE:=zH hbhe
   have n21:(v.elem == 21) = false:=by simp;omega
   have n22:(v.elem == 22) = false:=by simp;omega
   have n23:(v.elem == 23) = false:=by simp;omega
   have hsm2:narrowV y = smV y:=by unfold smV smallV;rw [if_neg (show ¬ IsSp y.kind from by rw [HY.out.2.2.2.1];exact hsp)]
   have hnn:=narrow_any y w2 (.slice px ny nx) (HY.out.1.blw (HWR.out.trans (HB2.out.mono HWR.out.size)))
   rw [hsm2] at hnn
   obtain ⟨sy,hsy⟩:∃ sy,smV y = sy:=⟨_,rfl⟩
   have htk2:=HY.out.2.2.1
   rw [hsy] at hnn htk2
   have HNN:=zH hnn
   have HTK:=zH htk2
   clear hnn htk2 hsm2 hsy hsp hbhe
   cases sm
   ·go_wp2_with fail
    go_roundw
    case rel=>exact ⟨k+1,_,by omega,by go_num,by rw [HTK.out];rfl,HE.out.below HB2.out,HBE.out.2.1.trans (HB2.out.mono (by have:=HBE.out.2.2;have:=HZ1.out;omega)),by have:=HBE.out.2.2;have:=HB2.out.size;omega⟩
    case measure=>simp [intOf];omega
   ·go_wp2_with fail
    refine HNN.out.mono ?_
    rintro e w6 ⟨rfl,hb6⟩
    have HB6:=zH (HB2.out.trans (hb6.mono HB2.out.size))
    clear hb6 x3 x4 y0 y1 y2 y3 y4
    go_wp2_with fail
    go_roundw
    case rel=>exact ⟨k+1,_,by omega,by go_num,by rw [HTK.out];simp,HE.out.below HB6.out,HBE.out.2.1.trans (HB6.out.mono (by have:=HBE.out.2.2;have:=HZ1.out;omega)),by have:=HBE.out.2.2;have:=HB6.out.size;omega⟩
    case measure=>simp [intOf];omega
 have hkN2:k = N:=by omega
 have hall:v.list.all smV = sm:=by rw [← HSM.out,List.take_of_length_le (by rw [HV.out.2.1,hkN2];exact Nat.le_refl _)]
 have hcode:=fun W=>code_any v.elem sm W
 have hcd:=codeK_kind v.elem sm (by have:=HR.out.2.2.1;omega) (by have:=HR.out.2.2.1;omega)
 have hlt256:=codeK_lt v.elem sm
 obtain ⟨cd,hce⟩:∃ cd,codeK v.elem sm = cd:=⟨_,rfl⟩
 rw [hce] at hcode hcd hlt256
 have HCO:=zH hcode
 have HCD:=zH (And.intro hcd (And.intro hlt256 (And.intro hce hall)))
 have HKN:=zH hkN2
 clear hkN2 hall hcode hcd hlt256 hce
 go_wp2_with fail
 refine (HCO.out wr).mono ?_
 rintro e w2 ⟨rfl,hb2⟩
 have HB2:=zH hb2
 have hx2:=(hb2.block x (gl HXR.out)).trans HXR.out
 have HX2:=zH hx2
 have HW2:=zH (HWR.out.trans (hb2.mono HWR.out.size))
 have hbe2:=HBE.out.1.below hb2
 have HBE2:=zH hbe2
 clear hb2 hx2 hbe2 x3' x4'
 go_upto_region 13 with fail
 have ho3:=own_lit w2 w2.heap.size cd HCD.out.2.1 (Nat.le_refl _)
 have hb3:Below w2.heap.size w2 (w2.alloc (.cells #[.int .u8 cd] 5)):=(Below.refl _ _).alloc (Nat.le_refl _) _
 generalize (w2.alloc (.cells #[.int .u8 cd] 5)) = w3 at *
 obtain ⟨z2,hz2⟩:∃ z2,w2.heap.size = z2:=⟨_,rfl⟩
 rw [hz2] at ho3 hb3 ⊢
 have HZ2:=zH (And.intro hz2 (gl HX2.out))
 have HO3:=zH (And.intro ho3 hb3)
 have x3:w3.cell? ⟨x,3,none⟩ = some (.slice p N cs):=(cell_of_row _ _ 3 _ _ _ ((hb3.block x (by have:=HZ2.out;omega)).trans HX2.out)).trans rfl
 clear hz2 ho3 hb3
 go_wp2_with fail
 go_loopw [8,65] (fun v8 v65 wq=>∃ (j:Nat) (u8:Value),j <= N∧v65 = .int .i64 j∧u8 = v8∧OwnBytes wq z2 5 u8 (UInt8.ofNat cd :: datVs cd (v.list.take j))∧Below z2 w2 wq) (fun _ v65 _=>N - (intOf v65).toNat)
 case atStart=>exact ⟨0,_,Nat.zero_le _,rfl,rfl,by simpa [datVs] using HO3.out.1,HO3.out.2⟩
 obtain ⟨j,u8,hjN,rfl,rfl,hoq,hbq⟩:=hrel
 rename World=>wq
 have HOQ:=zH (And.intro hoq hbq)
 have HWQ:=zH (show Below w.heap.size w wq from HW2.out.trans (hbq.mono (by have h1:=HW2.out.size;have h2:=HZ2.out;omega)))
 clear hoq hbq x3
 by_cases hjl:(j:Int) < N
 ·have ka:j < v.list.length:=by rw [HV.out.2.1];omega
  obtain ⟨b,o,rfl⟩:=HV.out.2.2 (by omega)
  obtain ⟨t,hct,hvx⟩:=HV.out.1.part rfl ka
  have hmx:=List.getElem_mem ka
  obtain ⟨px,nx,hsx,_⟩:=hvx.slice
  have hgd:v.list.getD j zeroV = v.list[j]:=by simp [List.getD_eq_getElem?_getD,ka]
  have hdv:datVs cd (v.list.take (j+1)) = datVs cd (v.list.take j) ++ datV cd v.list[j]:=by unfold datVs;rw [List.take_add_one,List.getElem?_eq_getElem ka,Option.toList_some,List.flatMap_append];simp
  have hwx:v.list[j].wt <= 4294967296:=by have:=V.wt_lt hmx;have:=HR.out.2.1;omega
  obtain ⟨c0,c1,c2,c3,c4⟩:=part_cells (rangeAt_rd hct (rd_below HWQ.out))
  generalize v.list[j] = y at *
  obtain ⟨ny,hny⟩:∃ ny,y.list.length = ny:=⟨_,rfl⟩
  rw [hny] at hsx
  subst hsx
  have HY:=zH (And.intro hvx (And.intro hdv (And.intro hwx hgd)))
  have hbeq:Beh wq bb N f _:=HBE2.out.below (show Below w2.heap.size w2 wq from by rw [HZ2.out.1];exact HOQ.out.2)
  have hown:=hbeq.own j (by omega)
  rw [if_pos (by have:=HKN.out;omega),hgd] at hown
  obtain ⟨qa,qc,hq,_⟩:=hown.bytes
  obtain ⟨m,hm⟩:∃ m,(bhL v.elem y).length = m:=⟨_,rfl⟩
  rw [hq] at hown
  rw [hm] at hown hq
  have r4:=hbeq.row.cell (i:=j) (by omega)
  rw [hq] at r4
  have hqlt:∀ g,(Value.slice qa m qc).ownBlock = some g -> g < z2:=fun g hg=>by
   have h2:=HBE2.out.own j (by omega)
   rw [hq] at h2
   have h1:=(h2.row.lt g hg).2
   have h3:=HZ2.out.1
   omega
  have HBH:=zH (And.intro hown (And.intro hqlt hm))
  have HRW:=zH r4
  clear hct hvx hdv hwx hmx ka hgd hny hbeq hown hq hm hqlt r4
  skip
  go_upto_region 16 with (refine stV (.tmp 10) (.tmp 69) rfl rfl rfl rfl rfl (zN wq _) rfl ?_)
  refine layW wq ?_
  intro w5 hb_w5 oxy
  obtain ⟨xy,hx_xy⟩:∃ x,wq.heap.size = x:=⟨_,rfl⟩
  rw [hx_xy] at oxy ⊢
  have HX_xy:=zH hx_xy
  clear hx_xy
  have HXY:=zH oxy
  have HB5:=zH hb_w5
  have r4:=bs_cellV hb_w5 HRW.out
  clear oxy hb_w5 c0 c1 c2 c3 c4
  obtain ⟨y0,y1,y2,y3,y4⟩:=c5 HXY.out
  go_still_tail 7,(by kernel_rfl)
  have HDR:=zH (bdrew (Below.refl w5.heap.size w5))
  change wpList _ _ _ _ _ w5.drew
  generalize w5.drew = w6 at *
  have HB6:=zH (HB5.out.trans (HDR.out.mono HB5.out.size))
  clear r4 y0 y1 y2 y3 y4
  have hoq6:=HOQ.out.1.of_below HB6.out
  have hbz6:Below z2 w2 w6:=HOQ.out.2.trans (HB6.out.mono (by have h1:=HOQ.out.2.size;have h2:=HZ2.out.1;omega))
  have hap:(Value.slice qa m qc).ownBlock = none ∨ (Value.slice qa m qc).ownBlock ≠ u8.ownBlock:=by
   cases hq:(Value.slice qa m qc).ownBlock with
   | none=>exact .inl rfl
   | some g =>
    refine .inr (fun q=>?_)
    have h1:=HBH.out.2.1 g hq
    have h2:=(hoq6.row.lt g q.symm).1
    omega
  have hd:=data_any (c:=cd) HCD.out.1.2 y w6 _ (HY.out.1.blw (HWQ.out.trans (HB6.out.mono HWQ.out.size))) u8 _ z2 hoq6 (by have h1:=hbz6.size;have h2:=HZ2.out.1;omega) (.slice qa m qc) (bhL v.elem y) (bb+1) (HBH.out.1.of_below HB6.out) hap (by
   have h1:=datVs_len cd (v.list.take j)
   have h2:=wts_take v.list j
   have h3:=v.wt_eq
   have h4:=HR.out.2.1
   have h5:=text_wt y
   have h6:=HY.out.2.2.1
   have h7:=inn_wt y
   have h8:=list_wt y
   have h9:(bhL v.elem y).length <= (inn y).length:=by unfold bhL;split;exact Nat.le_refl _;exact Nat.zero_le _
   simp only [List.length_cons]
   omega)
  have HD:=zH hd
  have HQ6:=zH (And.intro hoq6 hbz6)
  clear hd hap hoq6 hbz6
  go_wp2_with fail
  refine HD.out.mono ?_
  rintro e w7 ⟨u7,rfl,ho7,hg7⟩
  have HO7:=zH ho7
  have HB7:=zH (show Below z2 w2 w7 from HQ6.out.2.trans (hg7.below HQ6.out.1 (by have h1:=HQ6.out.2.size;have h2:=HZ2.out.1;omega)))
  clear ho7 hg7
  go_wp2_with fail
  go_roundw
  case rel=>exact ⟨j+1,_,by omega,by go_num,rfl,by
   rw [HY.out.2.1]
   have h:=HO7.out
   have e:=datB_bhL (x:=y) HCD.out.1.2
   rw [HCD.out.1.1] at e
   rw [e] at h
   exact h,HB7.out⟩
  case measure=>simp [intOf];omega
 have hjN2:j = N:=by omega
 have HE:=zH (show OwnBytes wq w.heap.size 5 u8 (inn v) from by
  have h:=HOQ.out.1
  rw [hjN2,List.take_of_length_le (by rw [HV.out.2.1];exact Nat.le_refl _)] at h
  have e:inn v = UInt8.ofNat cd :: datVs cd v.list:=by
   rw [inn_eq,if_pos HR.out.2.2.2]
   have:uniC v = cd:=by unfold uniC;rw [HCD.out.2.2.2,HCD.out.2.2.1]
   rw [this]
  rw [e]
  exact ⟨ownsRow_base h.row (fun i hi=>by have h1:=(h.row.lt i hi).1;have h2:=HZ2.out;have h3:=HW2.out.size;omega)⟩)
 clear hjN2
 go_wp2_with fail
 go_ret
 exact ⟨_,rfl,HE.out,HWQ.out⟩
end Go.Proofs.YtnnnfhobbnjmfaaGreatDoor
