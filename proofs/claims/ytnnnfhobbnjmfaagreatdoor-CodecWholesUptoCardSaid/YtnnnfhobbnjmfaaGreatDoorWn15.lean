/-
  Lemmas on the codec. Conditions: as each says.
-/
import Derived.Test.YtnnnfhobbnjmfaaGreatDoorWn13
import Derived.Test.YtnnnfhobbnjmfaaGreatDoorWn14
import Derived.StillTailTactics
namespace Go.Proofs.YtnnnfhobbnjmfaaGreatDoor
open Go.RowKit
set_option linter.all false
set_option maxHeartbeats 40000000
set_option maxRecDepth 20000

attribute [local go_sem] Oper.semAt_some

def FrmTo (w:World) (c:Int) (d:List UInt8) (e:Ending) (w':World):Prop:=∃ p n k,e = .returned (.agg #[.int .i64 c,.slice p n k])∧(BytesIn w' p n k d∧∀ a,p = some a → w.heap.size ≤ a.block)∧Below w.heap.size w w'
def ShoOn (v:V):Prop:=Right v → v.wt ≤ 4294967296 → ∀ (w:World) (s:Value),VIn w v s → Calls Tryz.prog 31 #[.agg #[.int .i64 v.kind,.int .u64 v.num,.string v.text,s,.int .i64 v.elem]] w fun e w'=>∃ c:Nat,c < 256∧∃ d,putV v = UInt8.ofNat c :: d∧FrmTo w c d e w'
def WitOn (v:V):Prop:=Right v → v.wt ≤ 4294967296 → ∀ (w:World) (s:Value),VIn w v s → Calls Tryz.prog 46 #[.agg #[.int .i64 v.kind,.int .u64 v.num,.string v.text,s,.int .i64 v.elem]] w (MkTo w (inn v))
def FrmIn (w:World) (B z:Nat) (best:Int × List UInt8):Prop:=∃ p n k,w.heap[z]? = some (.cells #[.int .i64 best.1,.slice p n k] 58 (0,0))∧BytesIn w p n k best.2∧∀ a,p = some a → B ≤ a.block
theorem gz_suf {w w1 w':World} {r:Option Nat} (h:w.grownBy w1 r) (hb:Below w1.heap.size w1 w'):w.grownBy w' r :=
 ⟨hb.os.trans h.os,hb.tape.trans h.tape,hb.output.trans h.output,Nat.le_trans h.size hb.size,fun j hj hn=>(hb.block j (Nat.lt_of_lt_of_le hj h.size)).trans (h.block j hj hn)⟩
theorem gz_set {w w1:World} {z:Nat} (h:w.grownBy w1 (some z)) (cs:Array Value):w.grownBy (w1.setRow z cs) (some z):=by
 have hb:=below_setRow (Below.refl 0 w1) (Nat.zero_le z) cs
 exact ⟨hb.os.trans h.os,hb.tape.trans h.tape,hb.output.trans h.output,Nat.le_trans h.size hb.size,fun j hj hn=>(setRow_other w1 z j cs (fun e=>hn (congrArg some e))).trans (h.block j hj hn)⟩
theorem gz_below {n:Nat} {w w1 w':World} {z:Nat} (hb:Below n w w1) (h:w1.grownBy w' (some z)) (hz:n ≤ z) (hn:n ≤ w1.heap.size):Below n w w':=hb.grown h hn (fun k e=>by cases e;exact hz)
theorem BytesIn.set_frm {w:World} {p:Option Addr} {n k z:Nat} {l:List UInt8} {c:Int} {u:Value} {q:Option Addr} {m kk:Nat} (h:BytesIn w p n k l) (hu:u = .slice q m kk) (hz:w.heap[z]? = some (.cells #[.int .i64 c,u] 58 (0,0))) (cs:Array Value):BytesIn (w.setRow z cs) p n k l:=by
 subst hu
 obtain ⟨h1,h2,h3,h4⟩:=h
 refine ⟨h1,h2,h3,fun hc=>?_⟩
 obtain ⟨b,o,e,hlt,hcell⟩:=h4 hc
 have hb:=below_setRow (Below.refl 0 w) (Nat.zero_le z) cs
 refine ⟨b,o,e,Nat.lt_of_lt_of_le hlt hb.size,fun i hi=>?_⟩
 have hi2:=hcell i hi
 by_cases hbz:b = z
 ·subst hbz
  exfalso
  rw [cell_of_row _ _ (o+i) _ _ _ hz] at hi2
  match o+i,hi2 with
  | 0,hi2=>simp at hi2
  | 1,hi2=>simp at hi2
  | j+2,hi2=>simp at hi2
 ·rw [← hi2]
  unfold World.cell?
  rw [setRow_other w z b cs hbz]
theorem best_take (v:V) (b:List UInt8) (cs:List Nat) (i:Nat) (hi:i < cs.length):bestR v b (cs.take (i+1)) = stepR (fitR (cs.getD i 0) v b.length) (cs.getD i 0) (datX (cs.getD i 0) v b) (bestR v b (cs.take i)):=by
 unfold bestR
 rw [List.take_add_one,List.getElem?_eq_getElem hi,Option.toList_some,List.foldl_append,List.getD_eq_getElem?_getD,List.getElem?_eq_getElem hi]
 rfl
theorem sho_of (v:V) (hin:WitOn v):ShoOn v:=by
 intro hr hwt w s hv
 obtain ⟨p,cs,hs,h1,h2,h3⟩:=hv.slice
 obtain ⟨N,hN⟩:∃ N,v.list.length = N:=⟨_,rfl⟩
 rw [hN] at hs h1 h3
 subst hs
 have f:=hr.fields
 obtain ⟨c,hc,d,hbest,hhead⟩:=best_head f hr.wf (inn v)
 have hkk:((v.kind.toNat:Nat):Int) = v.kind:=by have:=f.k0;omega
 have hk24:v.kind.toNat ≤ 24:=by have:=f.k1;omega
 have hcod:=fun W=>rcodes_any v.kind.toNat W hk24
 rw [hkk] at hcod
 obtain ⟨L,hL⟩:∃ L,codesL v.kind.toNat = L:=⟨_,rfl⟩
 have hL3:=codesL_len v.kind.toNat hk24
 have hLk:=fun c hc=>codes_kind v.kind.toNat hk24 c hc
 have hL0:0 < (codesL v.kind.toNat).length:=by
  have hm:v.kind.toNat = 0 ∨ v.kind.toNat = 1 ∨ v.kind.toNat = 2 ∨ v.kind.toNat = 3 ∨ v.kind.toNat = 4 ∨ v.kind.toNat = 5 ∨ v.kind.toNat = 6 ∨ v.kind.toNat = 7 ∨ v.kind.toNat = 8 ∨ v.kind.toNat = 9 ∨ v.kind.toNat = 10 ∨ v.kind.toNat = 11 ∨ v.kind.toNat = 12 ∨ v.kind.toNat = 13 ∨ v.kind.toNat = 14 ∨ v.kind.toNat = 15 ∨ v.kind.toNat = 16 ∨ v.kind.toNat = 17 ∨ v.kind.toNat = 18 ∨ v.kind.toNat = 19 ∨ v.kind.toNat = 20 ∨ v.kind.toNat = 21 ∨ v.kind.toNat = 22 ∨ v.kind.toNat = 23 ∨ v.kind.toNat = 24:=by omega
  rcases hm with e|e|e|e|e|e|e|e|e|e|e|e|e|e|e|e|e|e|e|e|e|e|e|e|e <;> rw [e] <;> decide
 rw [hL] at hbest hcod hL3 hLk hL0
 rw [hkk] at hLk
 have hwI:=hin hr hwt
 have hiw:=inn_wt v
 have HV:=Lib.hid (And.intro hv (And.intro hN h3))
 have HR:=Lib.hid (And.intro hr (And.intro hwt hiw))
 have HBE:=Lib.hid (And.intro hc (And.intro hbest hhead))
 have HC:=Lib.hid hcod
 have HLL:=Lib.hid (And.intro hL3 (And.intro hLk hL0))
 have HWI:=Lib.hid hwI
 clear hv hN h1 h2 h3 hr hwt f hc hbest hhead hkk hk24 hcod hL hL3 hLk hL0 hwI hiw
 go_enter Tryz.func31,Tryz.ntmps31
 go_upto_region 1 with fail
 have hb0:Below w.heap.size w (w.alloc (.cells #[.int .i64 v.kind,.int .u64 v.num,.string v.text,(.slice p N cs),.int .i64 v.elem] 25)):=((Below.refl _ _).alloc (Nat.le_refl _) _)
 have ox:=_root_.Go.heap_alloc_new w (.cells #[.int .i64 v.kind,.int .u64 v.num,.string v.text,(.slice p N cs),.int .i64 v.elem] 25)
 have hsz0:(w.alloc (.cells #[.int .i64 v.kind,.int .u64 v.num,.string v.text,(.slice p N cs),.int .i64 v.elem] 25)).heap.size = w.heap.size+1:=by simp
 generalize (w.alloc (.cells #[.int .i64 v.kind,.int .u64 v.num,.string v.text,(.slice p N cs),.int .i64 v.elem] 25)) = w0 at *
 obtain ⟨x,hx⟩:∃ x,w.heap.size = x:=⟨_,rfl⟩
 rw [hx] at ox hsz0 ⊢
 have HB0:=Lib.hid hb0
 have HX:=Lib.hid hx
 have HOX:=Lib.hid ox
 clear hb0 ox hx
 have hb1:Below w0.heap.size w0 (w0.alloc (.cells #[.int .i64 0,.slice none 0 0] 58)):=(Below.refl _ _).alloc (Nat.le_refl _) _
 have oy:=_root_.Go.heap_alloc_new w0 (.cells #[.int .i64 0,.slice none 0 0] 58)
 generalize (w0.alloc (.cells #[.int .i64 0,.slice none 0 0] 58)) = w1 at *
 obtain ⟨y,hy⟩:∃ y,x+1 = y:=⟨_,rfl⟩
 rw [hsz0] at oy
 rw [hy] at oy hsz0 ⊢
 have hy:=hsz0
 clear hsz0
 have hxy:x < y:=by rw [← hy];exact (gl HOX.out)
 have HB1:=Lib.hid (And.intro (HB0.out.trans (hb1.mono HB0.out.size)) (And.intro oy (hb1.block x (by omega))))
 have HXY:=Lib.hid (show w.heap.size ≤ x∧x < y∧y < w1.heap.size from ⟨by have:=HX.out;omega,hxy,(gl oy)⟩)
 clear hb1 oy hy hxy
 go_upto_region 2 with (refine wpList_store_rowTo rfl 58 (.tmp 3) (.tmp 9) rfl rfl w1.heap.size #[.int .i64 (-1),.slice none 0 0] rfl rfl 58 #[.int .i64 0,.slice none 0 0] (_root_.Go.heap_alloc_new w1 _) (by as_aux_lemma=>kernel_rfl) (by as_aux_lemma=>kernel_rfl) (by simp [Value.oneCell']) ?_)
 have hb2:Below w1.heap.size w1 ((w1.alloc (.cells #[.int .i64 0,.slice none 0 0] 58)).setRow w1.heap.size #[.int .i64 (-1),.slice none 0 0]):=below_setRow ((Below.refl _ _).alloc (Nat.le_refl _) _) (Nat.le_refl _) _
 have oz:=setRow_heap (w1.alloc (.cells #[.int .i64 0,.slice none 0 0] 58)) w1.heap.size _ #[.int .i64 (-1),.slice none 0 0] _ _ (_root_.Go.heap_alloc_new w1 _)
 change Code.wp _ _ _ _ ((w1.alloc (.cells #[.int .i64 0,.slice none 0 0] 58)).setRow w1.heap.size #[.int .i64 (-1),.slice none 0 0])
 generalize ((w1.alloc (.cells #[.int .i64 0,.slice none 0 0] 58)).setRow w1.heap.size #[.int .i64 (-1),.slice none 0 0]) = w2 at *
 obtain ⟨z,hz⟩:∃ z,w1.heap.size = z:=⟨_,rfl⟩
 rw [hz] at oz ⊢
 have HW2:=Lib.hid (HB1.out.1.trans (hb2.mono HB1.out.1.size))
 have HZ:=Lib.hid (show w.heap.size ≤ z∧x < z∧y < z∧z < w2.heap.size from ⟨by have:=HXY.out;omega,by have:=HXY.out;omega,by have:=HXY.out;omega,(gl oz)⟩)
 have HO2:=Lib.hid (And.intro ((hb2.block x (by have:=HXY.out;omega)).trans (HB1.out.2.2.trans HOX.out)) (And.intro ((hb2.block y HXY.out.2.2).trans HB1.out.2.1) oz))
 clear hb2 oz hz
 have x0:w2.cell? ⟨x,0,none⟩ = some (.int .i64 v.kind):=(cell_of_row _ _ 0 _ _ _ HO2.out.1).trans rfl
 go_wp2_with fail
 refine (HC.out w2).mono ?_
 rintro e w3 ⟨b,rfl,hca,hb3⟩
 have HB3:=Lib.hid hb3
 have HCA:=Lib.hid hca
 have HW3:=Lib.hid (HW2.out.trans (hb3.mono HW2.out.size))
 have HO3:=Lib.hid (And.intro ((hb3.block x (by have:=HZ.out;omega)).trans HO2.out.1) (And.intro ((hb3.block y (by have:=HZ.out;omega)).trans HO2.out.2.1) ((hb3.block z HZ.out.2.2.2).trans HO2.out.2.2)))
 have HBZ:=Lib.hid (show b ≠ z from by
  intro e
  subst e
  have h:=HCA.out 0 HLL.out.2.2
  rw [cell_of_row _ _ 0 _ _ _ HO3.out.2.2] at h
  simp at h)
 clear hca hb3 x0
 obtain ⟨x0,x1,x2,x3,x4⟩:=c5 HO3.out.1
 go_wp2_with fail
 refine (HWI.out w3 _ (HV.out.1.blw HW3.out)).mono ?_
 rintro e w4 ⟨u1,rfl,ho1,hb4⟩
 obtain ⟨q,m,cc,hu1,hy1,hqb⟩:=ho1.ex
 have HQB:=Lib.hid (show ∀ a,q = some a → w.heap.size ≤ a.block from fun a e=>Nat.le_trans HW3.out.size (hqb a e))
 subst hu1
 have hml:=hy1.len
 have HZ4:=Lib.hid (show z < w3.heap.size∧z < w4.heap.size∧w.heap.size ≤ w4.heap.size from ⟨Nat.lt_of_lt_of_le HZ.out.2.2.2 HB3.out.size,Nat.lt_of_lt_of_le HZ.out.2.2.2 (Nat.le_trans HB3.out.size hb4.size),Nat.le_trans HW3.out.size hb4.size⟩)
 have HML:=Lib.hid hml
 have HO1:=Lib.hid (And.intro ho1 (show (Value.slice q m cc).ownBlock = none ∨ (Value.slice q m cc).ownBlock ≠ some z from .inr (fun e=>by have h1:=(ho1.row.lt z e).1;have h2:=HZ4.out.1;omega)))
 have HMM:=Lib.hid (show (m:Int) ≤ 1000000000000∧(v.text.size:Int)+v.list.length ≤ 1000000000000 from by have h1:=inn_wt v;have h2:=HR.out.2.1;have h3:=text_wt v;have h4:=list_wt v;omega)
 have HW4:=Lib.hid (HW3.out.trans (hb4.mono HW3.out.size))
 have HO4:=Lib.hid (And.intro ((hb4.block x (by have:=HZ.out;have:=HZ4.out;omega)).trans HO3.out.1) (And.intro ((hb4.block y (by have:=HZ.out;have:=HZ4.out;omega)).trans HO3.out.2.1) ((hb4.block z HZ4.out.1).trans HO3.out.2.2)))
 have HCA4:=Lib.hid (HCA.out.below hb4)
 clear ho1 hb4 hy1 hml hqb x0 x1 x2 x3 x4
 have hL3:(L.length:Int) ≤ 3:=by have:=HLL.out.1;omega
 go_wp2_with fail
 go_loopw [6] (fun v6 wr=>∃ i:Nat,i ≤ L.length∧v6 = .int .i64 i∧FrmIn wr w.heap.size z (bestR v (inn v) (L.take i))∧w4.grownBy wr (some z)) (fun v6 _=>L.length - (intOf v6).toNat)
 case atStart=>exact ⟨0,Nat.zero_le _,rfl,⟨none,0,0,HO4.out.2.2,BytesIn.nil _,fun a e=>by cases e⟩,⟨rfl,rfl,rfl,Nat.le_refl _,fun _ _ _=>rfl⟩⟩
 obtain ⟨i,hiL,rfl,⟨pb,nb,kb,hz,hyb,hpb⟩,hg⟩:=hrel
 have hwr:=gz_below HW4.out hg HZ.out.1 HZ4.out.2.2
 have hxr:=(hg.block x (by have:=HZ.out;have:=HZ4.out;omega) (fun e=>by have:=HZ.out;cases e;omega)).trans HO4.out.1
 have hyr:=(hg.block y (by have:=HZ.out;have:=HZ4.out;omega) (fun e=>by have:=HZ.out;cases e;omega)).trans HO4.out.2.1
 obtain ⟨b1,b2,hb12⟩:∃ b1 b2,bestR v (inn v) (L.take i) = (b1,b2):=⟨_,_,rfl⟩
 rw [hb12] at hz hyb
 have HPB:=Lib.hid hpb
 have HZR:=Lib.hid (And.intro hz (And.intro hyb (And.intro hg (And.intro hwr (And.intro hxr (And.intro hyr hb12))))))
 clear hz hyb hpb hg hwr hxr hyr hb12
 by_cases hlt:(i:Int) < L.length
 ·have hil:i < L.length:=by omega
  have hcc:wr.cell? ⟨b,i,none⟩ = some (.int .i64 (L.getD i 0:Nat)):=HZR.out.2.2.1.cell (HCA4.out i hil) (fun e=>HBZ.out (Option.some.inj e))
  have hbt:=best_take v (inn v) L i hil
  rw [HZR.out.2.2.2.2.2.2] at hbt
  have hki:kindC (L.getD i 0) = v.kind:=HLL.out.2.1 _ (by rw [List.getD_eq_getElem?_getD,List.getElem?_eq_getElem hil];exact List.getElem_mem hil)
  generalize L.getD i 0 = ci at *
  have hbr:=(HO1.out.1.kept HZR.out.2.2.1 HO1.out.2).sl.2
  have hdr:Below wr.heap.size wr wr.drew:=(Below.refl _ _).drew
  obtain ⟨F,hF⟩:∃ F,fitR ci v m = F:=⟨_,rfl⟩
  have hda:=fdata_any ci (by have:=HR.out.1.fields.k0;omega) v wr.drew _ (HV.out.1.blw HZR.out.2.2.2.1.drew) hki q m cc (inn v) (hbr.below hdr) HMM.out.1 HMM.out.2 w.heap.size HZR.out.2.2.2.1.drew.size HQB.out
  rw [hF] at hda
  have HDA:=Lib.hid hda
  have HBT:=Lib.hid (And.intro (And.intro hbt hF) (And.intro hcc hil))
  clear hda hbr hdr hbt hki hil
  obtain ⟨x0,x1,x2,x3,x4⟩:=c5 HZR.out.2.2.2.2.1
  go_upto_region 7 with fail
  refine wp_region_heldN (fun V=>V.cell? ⟨b,i,none⟩ = some (.int .i64 ci)∧V.heap[x]? = some (.cells #[.int .i64 v.kind,.int .u64 v.num,.string v.text,(.slice p N cs),.int .i64 v.elem] 25 (0,0))) 12 rfl (by kernel_rfl) ?_
  have hS:wr.drew.cell? ⟨b,i,none⟩ = some (.int .i64 ci)∧wr.drew.heap[x]? = some (.cells #[.int .i64 v.kind,.int .u64 v.num,.string v.text,(.slice p N cs),.int .i64 v.elem] 25 (0,0)):=⟨hcc,HZR.out.2.2.2.2.1⟩
  refine tkI 0 (.slice (some ⟨b,0,none⟩) L.length L.length) 22 rfl rfl (by kernel_rfl) (fun _ _ _=>id) (by rfl) (by rintro V ⟨h0,hrow⟩;go_simp) hS ?_
  try simp only [Act.put,sA,sB,sC]
  refine tkI 1 (.int .i64 i) 23 rfl rfl (by kernel_rfl) (fun _ _ _=>id) (by rfl) (by rintro V ⟨h0,hrow⟩;go_simp) hS ?_
  try simp only [Act.put,sA,sB,sC]
  refine tkI 2 (.pointer (some ⟨b,i,none⟩)) 24 rfl rfl (by kernel_rfl) (fun _ _ _=>id) (by rfl) (by rintro V ⟨h0,hrow⟩;go_simp) hS ?_
  try simp only [Act.put,sA,sB,sC]
  refine tkI 3 (.int .i64 ci) 25 rfl rfl (by kernel_rfl) (fun _ _ _=>id) (by rfl) (by rintro V ⟨h0,hrow⟩;go_simp) hS ?_
  try simp only [Act.put,sA,sB,sC]
  refine tkI 4 (.agg #[.int .i64 v.kind,.int .u64 v.num,.string v.text,(.slice p N cs),.int .i64 v.elem]) 26 rfl rfl (by kernel_rfl) (fun _ _ _=>id) (by rfl) (by rintro V ⟨h0,hrow⟩;have y0:=(cell_of_row V _ 0 _ _ _ hrow).trans rfl;have y1:=(cell_of_row V _ 1 _ _ _ hrow).trans rfl;have y2:=(cell_of_row V _ 2 _ _ _ hrow).trans rfl;have y3:=(cell_of_row V _ 3 _ _ _ hrow).trans rfl;have y4:=(cell_of_row V _ 4 _ _ _ hrow).trans rfl;go_simp) hS ?_
  try simp only [Act.put,sA,sB,sC]
  refine tkI 5 (.slice q m cc) 27 rfl rfl (by kernel_rfl) (fun _ _ _=>id) (by rfl) (by rintro V ⟨h0,hrow⟩;go_simp) hS ?_
  try simp only [Act.put,sA,sB,sC]
  refine oneH (i:=6) (by kernel_rfl) ?_
  refine stepD (i:=6) rfl (by rfl) (fun K5 h5=>?_)
  go_simp
  (with_reducible refine HDA.out.mono ?_)
  rintro e w6 ⟨p7,n7,c7,rfl,⟨hy7,hp7⟩,hb7⟩
  have HP7:=Lib.hid hp7
  clear hp7
  have hb7:Below wr.heap.size wr w6:=⟨hb7.os,hb7.tape,hb7.output,hb7.size,hb7.block⟩
  clear hS
  have hS:w6.cell? ⟨b,i,none⟩ = some (.int .i64 ci)∧w6.heap[x]? = some (.cells #[.int .i64 v.kind,.int .u64 v.num,.string v.text,(.slice p N cs),.int .i64 v.elem] 25 (0,0)):=⟨bs_cellV hb7 hcc,(hb7.block x (gl HZR.out.2.2.2.2.1)).trans HZR.out.2.2.2.2.1⟩
  refine h5.out _ _ hS ?_
  clear h5
  try simp only [Act.put,sA,sB,sC]
  refine tkI 7 (.tuple #[.slice p7 n7 c7,.bool F]) 21 rfl rfl (by kernel_rfl) (fun _ _ _=>id) (by rfl) (by rintro V ⟨h0,hrow⟩;go_simp) hS ?_
  try simp only [Act.put,sA,sB,sC]
  refine tkI 8 (.slice p7 n7 c7) 29 rfl rfl (by kernel_rfl) (fun _ _ _=>id) (by rfl) (by rintro V ⟨h0,hrow⟩;go_simp) hS ?_
  try simp only [Act.put,sA,sB,sC]
  refine tkI 9 (.bool F) 30 rfl rfl (by kernel_rfl) (fun _ _ _=>id) (by rfl) (by rintro V ⟨h0,hrow⟩;go_simp) hS ?_
  try simp only [Act.put,sA,sB,sC]
  refine tkI 10 (.slice p7 n7 c7) 7 rfl rfl (by kernel_rfl) (fun _ _ _=>id) (by rfl) (by rintro V ⟨h0,hrow⟩;go_simp) hS ?_
  try simp only [Act.put,sA,sB,sC]
  refine tkI 11 (.bool F) 8 rfl rfl (by kernel_rfl) (fun _ _ _=>id) (by rfl) (by rintro V ⟨h0,hrow⟩;go_simp) hS ?_
  try simp only [Act.put,sA,sB,sC]
  refine wpAnyH_done (by kernel_rfl) ?_ _
  have hz6:=(hb7.block z (gl HZR.out.1)).trans HZR.out.1
  have z0:w6.cell? ⟨z,0,none⟩ = some (.int .i64 b1):=(cell_of_row _ _ 0 _ _ _ hz6).trans rfl
  have z1:w6.cell? ⟨z,1,none⟩ = some (.slice pb nb kb):=(cell_of_row _ _ 1 _ _ _ hz6).trans rfl
  have hcc:=hS.1
  have hst:bestR v (inn v) (L.take (i+1)) = if F = true∧(b1 < 0 ∨ n7 < nb) then ((ci:Int),datX ci v (inn v)) else (b1,b2):=by
   rw [HBT.out.1.1,HML.out,HBT.out.1.2]
   unfold stepR
   rw [hy7.len,HZR.out.2.1.len]
  have HST:=Lib.hid hst
  have H6:=Lib.hid (And.intro hz6 (And.intro hy7 (And.intro (HZR.out.2.1.below hb7) (gz_suf HZR.out.2.2.1 hb7))))
  clear hz6 hy7 hb7 hS hst
  cases F
  ·go_wp2_with fail
   go_roundw
   case rel=>exact ⟨i+1,by have:=HBT.out.2.2;omega,by go_num,by rw [HST.out,if_neg (by rintro ⟨h1,h2⟩;cases h1)];exact ⟨pb,nb,kb,H6.out.1,H6.out.2.2.1,HPB.out⟩,H6.out.2.2.2⟩
   case measure=>simp [intOf];omega
  ·by_cases hneg:b1 < 0
   ·go_wp2_with (refine wpList_store_rowTo rfl 58 (.tmp 3) (.tmp 50) rfl rfl z #[.int .i64 ci,.slice p7 n7 c7] rfl rfl 58 #[.int .i64 b1,.slice pb nb kb] H6.out.1 (by as_aux_lemma=>kernel_rfl) (by as_aux_lemma=>kernel_rfl) (by simp [Value.oneCell']) ?_)
    go_roundw
    case rel=>exact ⟨i+1,by have:=HBT.out.2.2;omega,by go_num,by rw [HST.out,if_pos ⟨rfl,.inl hneg⟩];exact ⟨p7,n7,c7,setRow_heap _ z _ _ _ _ H6.out.1,H6.out.2.1.set_frm rfl H6.out.1 _,HP7.out⟩,gz_set H6.out.2.2.2 _⟩
    case measure=>simp [intOf];omega
   ·by_cases hlt2:(n7:Int) < nb
    ·go_wp2_with (refine wpList_store_rowTo rfl 58 (.tmp 3) (.tmp 50) rfl rfl z #[.int .i64 ci,.slice p7 n7 c7] rfl rfl 58 #[.int .i64 b1,.slice pb nb kb] H6.out.1 (by as_aux_lemma=>kernel_rfl) (by as_aux_lemma=>kernel_rfl) (by simp [Value.oneCell']) ?_)
     go_roundw
     case rel=>exact ⟨i+1,by have:=HBT.out.2.2;omega,by go_num,by rw [HST.out,if_pos ⟨rfl,.inr (by omega)⟩];exact ⟨p7,n7,c7,setRow_heap _ z _ _ _ _ H6.out.1,H6.out.2.1.set_frm rfl H6.out.1 _,HP7.out⟩,gz_set H6.out.2.2.2 _⟩
     case measure=>simp [intOf];omega
    ·go_wp2_with fail
     go_roundw
     case rel=>exact ⟨i+1,by have:=HBT.out.2.2;omega,by go_num,by rw [HST.out,if_neg (by rintro ⟨h1,h2⟩;omega)];exact ⟨pb,nb,kb,H6.out.1,H6.out.2.2.1,HPB.out⟩,H6.out.2.2.2⟩
     case measure=>simp [intOf];omega
 have hiL2:i = L.length:=by omega
 have hbb:=HZR.out.2.2.2.2.2.2
 rw [hiL2,List.take_length,HBE.out.2.1] at hbb
 have hb1:b1 = (c:Int):=(congrArg Prod.fst hbb).symm
 have hb2:b2 = d:=(congrArg Prod.snd hbb).symm
 subst hb1 hb2
 have z0:wr.cell? ⟨z,0,none⟩ = some (.int .i64 c):=(cell_of_row _ _ 0 _ _ _ HZR.out.1).trans rfl
 have z1:wr.cell? ⟨z,1,none⟩ = some (.slice pb nb kb):=(cell_of_row _ _ 1 _ _ _ HZR.out.1).trans rfl
 clear hbb
 go_wp2_with (refine wpList_store_rowTo rfl 58 (.tmp 2) (.tmp 51) rfl rfl y #[.int .i64 c,.slice pb nb kb] rfl rfl 58 #[.int .i64 0,.slice none 0 0] HZR.out.2.2.2.2.2.1 (by as_aux_lemma=>kernel_rfl) (by as_aux_lemma=>kernel_rfl) (by simp [Value.oneCell']) ?_)
 have hh:=setRow_heap wr y _ #[.int .i64 c,.slice pb nb kb] _ _ HZR.out.2.2.2.2.2.1
 refine bodyPost_ret (results_cell_row (p:=2) (ty:=58) (by kernel_rfl) _ _ y 58 #[.int .i64 c,.slice pb nb kb] (0,0) _ rfl hh Tryz.underlying58 rfl (by as_aux_lemma=>kernel_rfl)) rfl ?_
 exact ⟨c,HBE.out.1,b2,HBE.out.2.2,pb,nb,kb,rfl,⟨HZR.out.2.1.set_frm rfl HZR.out.2.2.2.2.2.1 _,HPB.out⟩,below_setRow HZR.out.2.2.2.1 (by have:=HXY.out;omega) _⟩

attribute [local go_sem] Oper.semAt_some

theorem own_lit2 (w:World) (B:Nat) (y:UInt8) (yv:Value) (hyv:yv = .int .u8 (y.toNat:Int)) (hB:B ≤ w.heap.size):OwnBytes (w.alloc (.cells #[yv] 5)) B 5 (.slice (some ⟨w.heap.size,0,none⟩) 1 1) [y]:=by
 subst hyv
 exact ⟨⟨rfl,.inr ⟨w.heap.size,1,#[.int .u8 (y.toNat:Int)],rfl,hB,_root_.Go.heap_alloc_new w _,Nat.le_refl _,by unfold maxLen;omega,rfl,by simp [byteV]⟩⟩⟩
theorem bi_own {w w':World} {p:Option Addr} {n c:Nat} {l:List UInt8} {r:Option Nat} (h:BytesIn w p n c l) (hg:w.grownBy w' r) (hne:∀ a,p = some a → r = some a.block → False):BytesIn w' p n c l:=by
 obtain ⟨h1,h2,h3,h4⟩:=h
 refine ⟨h1,h2,h3,fun hc=>?_⟩
 obtain ⟨b,o,e,hlt,hcell⟩:=h4 hc
 exact ⟨b,o,e,Nat.lt_of_lt_of_le hlt hg.size,fun i hi=>hg.cell (hcell i hi) (fun q=>hne _ e q.symm)⟩
theorem elems_of (v:V) (ih:∀ x ∈ v.list,ShoOn x) (hr:Right v) (hwt:v.wt ≤ 4294967296) (w:World) (s:Value) (hv:VIn w v s):Calls Tryz.prog 62 #[s] w (MkTo w (putVs v.list)):=by
 obtain ⟨p,cs,hs,h1,h2,h3⟩:=hv.slice
 obtain ⟨N,hN⟩:∃ N,v.list.length = N:=⟨_,rfl⟩
 rw [hN] at hs h1 h3
 subst hs
 have hlw:=list_wt v
 have hNb:(N:Int) ≤ 4294967296:=by omega
 have HV:=Lib.hid (And.intro hv (And.intro hN h3))
 have HR:=Lib.hid (And.intro hr hwt)
 clear hv hN h1 h2 h3 hr hwt hlw
 go_enter Tryz.func62,Tryz.ntmps62
 go_wp2_with fail
 go_loopw [3,4] (fun v3 v4 wr=>∃ (k:Nat) (u:Value),k ≤ N∧v4 = .int .i64 k∧u = v3∧OwnBytes wr w.heap.size 5 u (putVs (v.list.take k))∧Below w.heap.size w wr) (fun _ v4 _=>N - (intOf v4).toNat)
 case atStart=>exact ⟨0,_,Nat.zero_le _,rfl,rfl,by simpa [putVs] using OwnBytes.nil _ _ _,Below.refl _ _⟩
 obtain ⟨k,u,hkN,rfl,rfl,ho,hb⟩:=hrel
 have HOB:=Lib.hid (And.intro ho hb)
 clear ho hb
 by_cases hlt:(k:Int) < N
 ·have ka:k < v.list.length:=by rw [HV.out.2.1];omega
  obtain ⟨b,o,rfl⟩:=HV.out.2.2 (by omega)
  obtain ⟨t,hct,hvx⟩:=HV.out.1.part rfl ka
  have hmx:=List.getElem_mem ka
  obtain ⟨px,nx,hsx,_⟩:=hvx.slice
  have hpv:putVs (v.list.take (k+1)) = putVs (v.list.take k) ++ putV v.list[k]:=by unfold putVs;rw [List.take_add_one,List.getElem?_eq_getElem ka,Option.toList_some,List.flatMap_append];simp
  have hlen:(putVs (v.list.take k)).length+81 * v.list[k].wt ≤ 81 * v.wt:=by
   have h1:(putVs (v.list.take k)).length ≤ 81 * wts (v.list.take k):=lens_le putV _ (fun x _=>(putV_len x).2)
   have h2:=wts_append (v.list.take k) (v.list.drop k)
   rw [List.take_append_drop] at h2
   have h3:v.list[k].wt ≤ wts (v.list.drop k):=wts_mem (List.mem_of_getElem? (i:=0) (by rw [List.getElem?_drop,Nat.add_zero,List.getElem?_eq_getElem ka]))
   have h4:=v.wt_eq
   omega
  have hpl:=(putV_len v.list[k]).2
  have hpx:=ih _ hmx (HR.out.1.part hmx) (by have:=V.wt_lt hmx;have:=HR.out.2;omega)
  obtain ⟨c0,c1,c2,c3,c4⟩:=part_cells (rangeAt_rd hct (rd_below HOB.out.2))
  generalize v.list[k] = y at *
  obtain ⟨ny,hny⟩:∃ ny,y.list.length = ny:=⟨_,rfl⟩
  rw [hny] at hsx
  subst hsx
  have HY:=Lib.hid (And.intro hvx (And.intro hpv (And.intro hlen (And.intro hpx hpl))))
  have HD:=Lib.hid (hpx wr _ (hvx.blw HOB.out.2))
  clear hct hvx hpv hlen hpx hmx ka hny hpl
  go_wp2_with fail
  refine HD.out.mono ?_
  clear c0 c1 c2 c3 c4
  rintro e w2 ⟨c,hc256,d,hput,fp,fn,fk,rfl,⟨hyc,hfp⟩,hb2⟩
  have HB2:=Lib.hid hb2.size
  have HPUT:=Lib.hid hput
  have HFP:=Lib.hid hfp
  clear hput hfp
  go_upto_region 6 with (refine wpList_store_rowTo rfl 58 (.tmp 5) (.tmp 16) rfl rfl w2.heap.size #[.int .i64 (c:Nat),.slice fp fn fk] rfl rfl 58 #[.int .i64 0,.slice none 0 0] (_root_.Go.heap_alloc_new w2 _) (by as_aux_lemma=>kernel_rfl) (by as_aux_lemma=>kernel_rfl) (by simp [Value.oneCell']) ?_)
  have hb_w3:Below w2.heap.size w2 ((w2.alloc (.cells #[.int .i64 0,.slice none 0 0] 58)).setRow w2.heap.size #[.int .i64 (c:Nat),.slice fp fn fk]):=below_setRow ((Below.refl _ _).alloc (Nat.le_refl _) _) (Nat.le_refl _) _
  have oz:=setRow_heap (w2.alloc (.cells #[.int .i64 0,.slice none 0 0] 58)) w2.heap.size _ #[.int .i64 (c:Nat),.slice fp fn fk] _ _ (_root_.Go.heap_alloc_new w2 _)
  change Code.wp _ _ _ _ ((w2.alloc (.cells #[.int .i64 0,.slice none 0 0] 58)).setRow w2.heap.size #[.int .i64 (c:Nat),.slice fp fn fk])
  generalize ((w2.alloc (.cells #[.int .i64 0,.slice none 0 0] 58)).setRow w2.heap.size #[.int .i64 (c:Nat),.slice fp fn fk]) = w3 at *
  obtain ⟨z,hx_z⟩:∃ x,w2.heap.size = x:=⟨_,rfl⟩
  rw [hx_z] at oz ⊢
  have HX_z:=Lib.hid hx_z
  clear hx_z
  have HZR:=Lib.hid oz
  have HB3:=Lib.hid (And.intro (hb2.trans (hb_w3.mono hb2.size)) (hyc.below hb_w3))
  have z0:w3.cell? ⟨z,0,none⟩ = some (.int .i64 c):=(cell_of_row _ _ 0 _ _ _ oz).trans rfl
  clear oz hb_w3 hyc hb2
  have HO3:=Lib.hid (HOB.out.1.of_below HB3.out.1)
  have HW3:=Lib.hid (HOB.out.2.trans (HB3.out.1.mono HOB.out.2.size))
  have HNZ:=Lib.hid (show u.ownBlock ≠ some z from fun e=>by have h1:=(HOB.out.1.row.lt z e).2;have h2:=HX_z.out;have h3:=HB2.out;omega)
  have hcm:IntKind.u8.wrap (c:Int) = ((UInt8.ofNat c).toNat:Int):=by rw [ofNat_toNat hc256];unfold IntKind.wrap;simp [IntKind.signed,IntKind.bits];omega
  have HCM:=Lib.hid hcm
  clear hcm
  go_upto_region 7 with (at_builtin;refine wpList_append_lit rfl (.tmp 17) (.tmp 21) 28 rfl w.heap.size Tryz.underlying28 info_u8 _ (putVs (v.list.take k)) (UInt8.ofNat c) _ rfl rfl ?hyv HO3.out ?hlen HW3.out.size ?_)
  case hyv=>rw [ofNat_toNat hc256]
  case hlen=>have h1:=HY.out.2.2.1;have h2:=HR.out.2;omega
  intro u4 w4 ho4 hg4
  have HO4:=Lib.hid ho4
  have HW4:=Lib.hid (HW3.out.trans (hg4.below HO3.out HW3.out.size))
  have hz4:=(hg4.g.block z (gl HZR.out) (fun e=>HNZ.out e.symm)).trans HZR.out
  have z1:w4.cell? ⟨z,1,none⟩ = some (.slice fp fn fk):=(cell_of_row _ _ 1 _ _ _ hz4).trans rfl
  have HYC:=Lib.hid (bi_own HB3.out.2 hg4.g (fun a e1 e2=>by have h1:=HFP.out a e1;have h2:=(HOB.out.1.row.lt a.block e2).2;omega))
  clear hz4 ho4 hg4 z0
  go_wp2_with (at_builtin;refine wpList_append_bytesF rfl (.tmp 23) (.tmp 25) 28 rfl w.heap.size Tryz.underlying28 info_u8 _ _ d _ fn fk rfl rfl HO4.out HYC.out ?hlen HW4.out.size ?_)
  case hlen =>
   have h0:=HYC.out.len
   have h1:=HY.out.2.2.1
   have h2:=HR.out.2
   have h3:d.length+1 ≤ 81 * y.wt:=by have h4:=HY.out.2.2.2.2;rw [HPUT.out,List.length_cons] at h4;exact h4
   rw [List.length_append,List.length_singleton]
   omega
  intro u6 w6 ho6 hg6
  have HO6:=Lib.hid ho6
  have HW6:=Lib.hid (HW4.out.trans (hg6.below HO4.out HW4.out.size))
  clear ho6 hg6
  go_wp2_with fail
  go_roundw
  case rel=>exact ⟨k+1,_,by omega,by go_num,rfl,by rw [HY.out.2.1,HPUT.out];first|exact HO6.out|simpa using HO6.out,HW6.out⟩
  case measure=>simp [intOf];omega
 have hkN2:k = N:=by omega
 have HE:=Lib.hid (show OwnBytes wr w.heap.size 5 u (putVs v.list) from by
  have h:=HOB.out.1
  rw [hkN2,List.take_of_length_le (by rw [HV.out.2.1];exact Nat.le_refl _)] at h
  exact h)
 clear hkN2
 go_wp2_with fail
 go_ret
 exact ⟨_,rfl,HE.out,HOB.out.2⟩
def RUniOn (v:V):Prop:=Right v → v.wt ≤ 4294967296 → v.kind = 23 → ∀ (w:World) (s:Value),VIn w v s → Calls Tryz.prog 63 #[.agg #[.int .i64 v.kind,.int .u64 v.num,.string v.text,s,.int .i64 v.elem]] w (FrmTo w (uniC v:Nat) (datVs (uniC v) v.list))
theorem wit_of (v:V) (ih:∀ x ∈ v.list,ShoOn x) (hu:RUniOn v):WitOn v:=by
 intro hr hwt w s hv
 have f:=hr.fields
 have hel:=fun W s h=>elems_of v ih hr hwt W s h
 have hun:=hu hr hwt
 obtain ⟨p,cs,hs,h1,h2,h3⟩:=hv.slice
 obtain ⟨N,hN⟩:∃ N,v.list.length = N:=⟨_,rfl⟩
 rw [hN] at hs h1 h3
 subst hs
 have HV:=Lib.hid hv
 have HEL:=Lib.hid hel
 have HUN:=Lib.hid hun
 have HFL:=Lib.hid (And.intro f hr)
 have HIW:=Lib.hid (And.intro (inn_wt v) hwt)
 clear hv hN h1 h2 h3 hr hwt hel hun f
 go_enter Tryz.func46,Tryz.ntmps46
 go_upto_region 1 with fail
 obtain ⟨w0,x,hw,hx,HB0,HX,HOX,x0,x1,x2,x3,x4⟩:=bxV w v (.slice p N cs)
 rw [hw,hx]
 clear hw hx
 by_cases hlist:v.kind = 21 ∨ v.kind = 22 ∨ v.kind = 24
 ·have HE:=Lib.hid (show inn v = putVs v.list from by rw [inn_eq,if_neg (by omega)])
  have hgo:((v.kind == 21) = true) ∨ ((v.kind == 21) = false∧(v.kind == 22) = true) ∨ ((v.kind == 21) = false∧(v.kind == 22) = false∧(v.kind == 24) = true):=by
   rcases hlist with e|e|e
   ·exact .inl (by simp [e])
   ·exact .inr (.inl ⟨by simp [e],by simp [e]⟩)
   ·exact .inr (.inr ⟨by simp [e],by simp [e],by simp [e]⟩)
  clear hlist
  rcases hgo with e1|⟨e1,e2⟩|⟨e1,e2,e3⟩
  all_goals
   go_wp2_with fail
   refine (HEL.out w0 _ (HV.out.blw HB0.out)).mono ?_
   rintro e w1 ⟨u,rfl,ho,hb⟩
   have HO:=Lib.hid (MkTo.at_ ho HB0.out.size)
   have HB1:=Lib.hid (HB0.out.trans (hb.mono HB0.out.size))
   clear ho hb
   go_wp2_with fail
   go_ret
   exact ⟨_,rfl,by rw [HE.out];exact HO.out,HB1.out⟩
 have n1:(v.kind == 21) = false:=by simp;omega
 have n2:(v.kind == 22) = false:=by simp;omega
 have n4:(v.kind == 24) = false:=by simp;omega
 by_cases h23:v.kind = 23
 ·have n3:(v.kind == 23) = true:=by simp [h23]
  have hcu:=HUN.out h23 w0 _ (HV.out.blw HB0.out)
  have hc256:=(uni_head HFL.out.2 h23).2
  have hin:inn v = UInt8.ofNat (uniC v) :: datVs (uniC v) v.list:=by rw [inn_eq,if_pos h23]
  generalize uniC v = c at *
  generalize datVs c v.list = d at *
  have HCU:=Lib.hid hcu
  have HIN:=Lib.hid hin
  clear hlist h23 hcu hin
  go_wp2_with fail
  refine HCU.out.mono ?_
  rintro e w2 ⟨fp,fn,fk,rfl,⟨hyc,hfp⟩,hb2⟩
  have HB2:=Lib.hid (And.intro hb2.size HB0.out.size)
  have HFP:=Lib.hid hfp
  clear hfp x0 x1 x2 x3 x4
  go_upto_region 8 with (refine wpList_store_rowTo rfl 58 (.tmp 3) (.tmp 16) rfl rfl w2.heap.size #[.int .i64 (c:Nat),.slice fp fn fk] rfl rfl 58 #[.int .i64 0,.slice none 0 0] (_root_.Go.heap_alloc_new w2 _) (by as_aux_lemma=>kernel_rfl) (by as_aux_lemma=>kernel_rfl) (by simp [Value.oneCell']) ?_)
  have hb_w3:Below w2.heap.size w2 ((w2.alloc (.cells #[.int .i64 0,.slice none 0 0] 58)).setRow w2.heap.size #[.int .i64 (c:Nat),.slice fp fn fk]):=below_setRow ((Below.refl _ _).alloc (Nat.le_refl _) _) (Nat.le_refl _) _
  have oz:=setRow_heap (w2.alloc (.cells #[.int .i64 0,.slice none 0 0] 58)) w2.heap.size _ #[.int .i64 (c:Nat),.slice fp fn fk] _ _ (_root_.Go.heap_alloc_new w2 _)
  change Code.wp _ _ _ _ ((w2.alloc (.cells #[.int .i64 0,.slice none 0 0] 58)).setRow w2.heap.size #[.int .i64 (c:Nat),.slice fp fn fk])
  generalize ((w2.alloc (.cells #[.int .i64 0,.slice none 0 0] 58)).setRow w2.heap.size #[.int .i64 (c:Nat),.slice fp fn fk]) = w3 at *
  obtain ⟨z,hx_z⟩:∃ x,w2.heap.size = x:=⟨_,rfl⟩
  rw [hx_z] at oz ⊢
  have HX_z:=Lib.hid hx_z
  clear hx_z
  have HZR:=Lib.hid oz
  have hb3:=hb2.trans (hb_w3.mono hb2.size)
  have HB3:=Lib.hid (And.intro (HB0.out.trans (hb3.mono HB0.out.size)) (hyc.below hb_w3))
  have z0:w3.cell? ⟨z,0,none⟩ = some (.int .i64 c):=(cell_of_row _ _ 0 _ _ _ oz).trans rfl
  have z1:w3.cell? ⟨z,1,none⟩ = some (.slice fp fn fk):=(cell_of_row _ _ 1 _ _ _ oz).trans rfl
  clear oz hb_w3 hyc hb2 hb3
  have z1a:∀ o,(w3.alloc o).cell? ⟨z,1,none⟩ = some (.slice fp fn fk):=fun o=>bs_cellV ((Below.refl w3.heap.size w3).alloc (Nat.le_refl _) o) z1
  have hz3:w.heap.size ≤ w3.heap.size:=HB3.out.1.size
  go_wp2_with (at_builtin;refine wpList_append_bytesF rfl (.tmp 20) (.tmp 22) 28 rfl w.heap.size Tryz.underlying28 info_u8 _ [UInt8.ofNat c] d _ fn fk rfl rfl (own_lit2 w3 w.heap.size _ _ ?hyv hz3) (HB3.out.2.below ((Below.refl w3.heap.size w3).alloc (Nat.le_refl _) _)) ?hlen (by simp;omega) ?_)
  case hyv=>rw [ofNat_toNat hc256]
  case hlen =>
   have h0:=HB3.out.2.len
   have h1:=HIW.out
   rw [HIN.out,List.length_cons] at h1
   rw [List.length_singleton]
   omega
  intro u4 w4 ho4 hg4
  have HO4:=Lib.hid ho4
  have HW4:=Lib.hid ((HB3.out.1.alloc hz3 _).trans (hg4.below (own_lit2 w3 w.heap.size _ _ (by rw [ofNat_toNat hc256]) hz3) (by simp;omega)))
  clear ho4 hg4
  go_wp2_with fail
  go_ret
  exact ⟨_,rfl,by rw [HIN.out];exact HO4.out,HW4.out⟩
 have n3:(v.kind == 23) = false:=by simp [h23]
 have HE:=Lib.hid (show inn v = [] from by
  rw [inn_eq,if_neg h23,HFL.out.1.list (by unfold hasP;simp;omega)]
  rfl)
 clear hlist h23
 go_wp2_with fail
 go_ret
 exact ⟨_,rfl,by rw [HE.out];exact OwnBytes.nil _ _ _,HB0.out⟩
end Go.Proofs.YtnnnfhobbnjmfaaGreatDoor

