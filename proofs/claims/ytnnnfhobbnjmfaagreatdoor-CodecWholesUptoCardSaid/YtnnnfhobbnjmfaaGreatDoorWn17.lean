/-
  Lemmas on the codec. Conditions: as each says.
-/
import Derived.Test.YtnnnfhobbnjmfaaGreatDoorWn15
import Derived.Test.YtnnnfhobbnjmfaaGreatDoorWn16
import Derived.Test.YtnnnfhobbnjmfaaGreatDoorWn09
namespace Go.Proofs.YtnnnfhobbnjmfaaGreatDoor
open Go.RowKit Go.Proofs.Tryz
set_option linter.all false
set_option maxHeartbeats 40000000
set_option maxRecDepth 20000

attribute [local go_sem] Oper.semAt_some

theorem wpList_append_oneG {P:Program} {wr:World} {ops:Array Oper} {rest:List Oper} {o:Oper} {a:Act} {Q:Exit → Act → World → Prop} (hgd:o.guard = none)
  (s x:Operand) (t:TypeId) (ho:o.op = .call { callee:=.builtin .append,args:=#[s,x],argTypes:=#[t,t] })
  (B e:Nat) (z:Value) (bytes:Nat) (ht:P.underlying t = some (.slice e)) (hinfo:(P.info? e).map (fun i=>(i.zero,i.size,i.bytes)) = some (some z,1,bytes)) (hz1:z.cells.size = 1)
  (v:Value) (n:Nat) (xs:List Value) (y:Value) (hy:y.oneCell' = true)
  (hs:a.eval s = v) (hx:a.eval x = .slice (some ⟨wr.heap.size,0,none⟩) 1 1) (hown:wr.ownsRow B e 1 v n xs)
  (h63:n+1 ≤ maxLen) (hbytes:(n+1) * bytes ≤ 140737488355328) (hbase:B ≤ wr.heap.size)
  (h:∀ v' w',w'.ownsRow B e 1 v' (n+1) (xs ++ [y]) → Gw wr w' v v' → wpList P ops Q rest (a.put o.dst v') w') :
  wpList P ops Q (o :: rest) a (wr.alloc (.cells #[y] e)):=by
 obtain ⟨i,hi,hzz⟩:=Option.map_eq_some_iff.1 hinfo
 simp only [Prod.mk.injEq] at hzz
 obtain ⟨hz,hsz,hb⟩:=hzz
 have hbl:Below wr.heap.size wr (wr.alloc (.cells #[y] e)):=(Below.refl _ _).alloc (Nat.le_refl _) _
 have hnews:∀ j u,[y][j]? = some u → (wr.alloc (.cells #[y] e)).cell? ((⟨wr.heap.size,0,none⟩:Addr).add j) = some u:=by
  intro j u hj
  match j,hj with
  | 0,hj=>simp at hj;subst hj;simp [Addr.add]
 have h1:∀ u ∈ [y],u.oneCell' = true:=by intro u hu;simp at hu;subst hu;exact hy
 refine wpList_plain hgd fun K hK=>?_
 obtain ⟨v',w',hr,h2,h3,h4⟩:=run_append_own (P:=P) (wr.alloc (.cells #[y] e)) B t o.type e i z 1 bytes ht hi hz hsz hb hz1 (by decide) v n xs (hown.alloc _) ⟨wr.heap.size,0,none⟩ 1 1 [y] rfl hnews h1 h63 hbytes (Nat.le_trans hbase hbl.size)
 have hf:=append_freshM (P:=P) ht hi hz hsz hb (hown.alloc (.cells #[y] e)) ⟨wr.heap.size,0,none⟩ 1 1 (by decide) rfl hnews h1 h63 hbytes hr
 unfold Oper.wp execOp
 simp only [ho,resolve,invoke,builtin,Sem.run_bind,Sem.run_pure,Result.andThen_ok,List.map_toArray,List.map_cons,List.map_nil,hs,hx,hr]
 exact hK _ _ (h v' w' h2 ((gw_of h3 hf).pre hbl))
theorem datX_len {c:Nat} {v:V}:(datX c v (inn v)).length ≤ 200 * v.wt:=by
 have h1:=text_wt v
 have h2:=inn_wt v
 have h3:v.tb.length = v.text.size:=rfl
 have hw:∀ c,wOf c ≤ 4:=fun c=>by unfold wOf;split <;> omega
 have hw2:∀ c,widC c ≤ 16:=fun c=>by unfold widC;exact ite_le (by omega) (ite_le (by omega) (ite_le (by omega) (ite_le (by omega) (by omega))))
 have h4:=hw c
 have h5:=hw2 c
 unfold datX datB
 split
 ·omega
 split
 ·simp
 split
 ·omega
 split
 ·rw [List.length_append,putL_length];omega
 split
 ·rw [List.length_append,List.length_append,putL_length,putL_length];omega
 ·rw [putL_length];omega
theorem allD_take {c:Nat} {l:List V} {k:Nat} (h:k < l.length):allD c (l.take (k+1)) = allD c (l.take k) ++ datX c l[k] (inn l[k]):=by
 unfold allD;rw [List.take_add_one,List.getElem?_eq_getElem h,Option.toList_some,List.flatMap_append];simp
theorem allF_take {c:Nat} {l:List V} {k:Nat} (h:k < l.length):allF c (l.take (k+1)) = (allF c (l.take k) && fitR c l[k] (inn l[k]).length):=by
 unfold allF;rw [List.take_add_one,List.getElem?_eq_getElem h,Option.toList_some,List.all_append];simp
theorem allD_wt {c:Nat} {l:List V}:(allD c l).length ≤ 200 * wts l:=by
 induction l with
 | nil=>simp [allD]
 | cons x l ih =>
  have h:=datX_len (c:=c) (v:=x)
  unfold allD at ih ⊢
  rw [List.flatMap_cons,List.length_append,wts]
  omega
theorem uni_take (l:List V) (cs:List Nat) (i:Nat) (hi:i < cs.length):uniR l (cs.take (i+1)) = if widR (cs.getD i 0) = 0 then uniR l (cs.take i) else stepR (allF (cs.getD i 0) l) (cs.getD i 0) (allD (cs.getD i 0) l) (uniR l (cs.take i)):=by
 unfold uniR
 rw [List.take_add_one,List.getElem?_eq_getElem hi,Option.toList_some,List.foldl_append,List.getD_eq_getElem?_getD,List.getElem?_eq_getElem hi]
 rfl
theorem gw_belowR {w w':World} {t t':Value} {B e K n:Nat} {xs:List Value} (h:Gw w w' t t') (ht:w.ownsRow B e K t n xs) (hB:B ≤ w.heap.size):Below B w w':=(Below.refl _ _).grown h.g hB fun j hj=>(ht.lt j hj).1
structure InnR (w:World) (B:Nat) (u:Value) (l:List V) (k:Nat) (fs:List Value):Prop where
 row:w.ownsRow B 28 1 u k fs
 len:fs.length = k
 own:∀ i (h:i < k),∃ t,fs[i]? = some t∧OwnBytes w B 5 t (inn (l.getD i zeroV))∧(t.ownBlock = none ∨ t.ownBlock ≠ u.ownBlock)
theorem InnR.below {w w':World} {B k:Nat} {u:Value} {l:List V} {fs:List Value} (h:InnR w B u l k fs) (hb:Below w.heap.size w w'):InnR w' B u l k fs :=
 ⟨h.row.kept (row:=none) ⟨hb.os,hb.tape,hb.output,hb.size,fun j hj _=>hb.block j hj⟩ (by cases u.ownBlock <;> simp),h.len,fun i hi=>by
  obtain ⟨t,h1,h2,h3⟩:=h.own i hi
  exact ⟨t,h1,h2.of_below hb,h3⟩⟩
theorem InnR.grown {w w':World} {B k z:Nat} {u:Value} {l:List V} {fs:List Value} (h:InnR w B u l k fs) (hg:w.grownBy w' (some z)) (hz:z < B):InnR w' B u l k fs :=
 ⟨h.row.kept hg (.inr (fun e=>by have:=(h.row.lt z e).1;omega)),h.len,fun i hi=>by
  obtain ⟨t,h1,h2,h3⟩:=h.own i hi
  exact ⟨t,h1,h2.kept hg (.inr (fun e=>by have:=(h2.row.lt z e).1;omega)),h3⟩⟩
theorem InnR.more {w w':World} {B k:Nat} {u u' t:Value} {l:List V} {fs:List Value} (h:InnR w B u l k fs) (hr:w'.ownsRow B 28 1 u' (k+1) (fs ++ [t])) (hg:Gw w w' u u') (ht:OwnBytes w B 5 t (inn (l.getD k zeroV))) (hap:t.ownBlock = none ∨ t.ownBlock ≠ u.ownBlock):InnR w' B u' l (k+1) (fs ++ [t]):=by
 refine ⟨hr,by simp [h.len],fun i hi=>?_⟩
 by_cases e:i = k
 ·subst e
  exact ⟨t,by rw [List.getElem?_append_right (by rw [h.len];exact Nat.le_refl _),h.len];simp,hg.own ht hap,hg.apart ht hap⟩
 ·obtain ⟨x,h1,h2,h3⟩:=h.own i (by omega)
  exact ⟨x,by rw [List.getElem?_append_left (by rw [h.len];omega)];exact h1,hg.own h2 h3,hg.apart h2 h3⟩
theorem runi_of (v:V) (ih:∀ x ∈ v.list,WitOn x):RUniOn v:=by
 intro hr hwt hk w s hv
 have f:=hr.fields
 have ha:=f.arr hk
 simp only [arrOk,decide_eq_true_eq] at ha
 obtain ⟨hbest,hc256⟩:=uni_head hr hk
 obtain ⟨p,cs,hs,h1,h2,h3⟩:=hv.slice
 obtain ⟨N,hN⟩:∃ N,v.list.length = N:=⟨_,rfl⟩
 rw [hN] at hs h1 h3
 subst hs
 have hlw:=list_wt v
 have hNb:(N:Int) ≤ 4294967296:=by omega
 have hkk:((v.elem.toNat:Nat):Int) = v.elem:=by omega
 have hk24:v.elem.toNat ≤ 24:=by omega
 have hcod:=fun W=>rcodes_any v.elem.toNat W hk24
 rw [hkk] at hcod
 obtain ⟨L,hL⟩:∃ L,codesL v.elem.toNat = L:=⟨_,rfl⟩
 have hL3:=codesL_len v.elem.toNat hk24
 have hLk:=fun c hc=>codes_kind v.elem.toNat hk24 c hc
 have hL0:0 < (codesL v.elem.toNat).length:=by
  obtain ⟨a,e,_⟩:=codes_tail (k:=v.elem) (by omega) (by omega)
  rw [e,List.length_append]
  unfold codesW
  split <;> simp
 rw [hL] at hbest hcod hL3 hLk hL0
 rw [hkk] at hLk
 have HV:=Lib.hid (And.intro hv (And.intro hN h3))
 have HR:=Lib.hid (And.intro hr (And.intro hwt ha))
 have HBE:=Lib.hid hbest
 have HC:=Lib.hid hcod
 have HLL:=Lib.hid (And.intro hL3 (And.intro hLk hL0))
 clear hv hN h1 h2 h3 hr hwt f ha hk hlw hbest hc256 hkk hk24 hcod hL hL3 hLk hL0
 go_enter Tryz.func63,Tryz.ntmps63
 go_upto_region 1 with fail
 have hb0:Below w.heap.size w (w.alloc (.cells #[.int .i64 v.kind,.int .u64 v.num,.string v.text,(.slice p N cs),.int .i64 v.elem] 25)):=((Below.refl _ _).alloc (Nat.le_refl _) _)
 have ox:=_root_.Go.heap_alloc_new w (.cells #[.int .i64 v.kind,.int .u64 v.num,.string v.text,(.slice p N cs),.int .i64 v.elem] 25)
 have hsz0:(w.alloc (.cells #[.int .i64 v.kind,.int .u64 v.num,.string v.text,(.slice p N cs),.int .i64 v.elem] 25)).heap.size = w.heap.size+1:=by simp
 generalize (w.alloc (.cells #[.int .i64 v.kind,.int .u64 v.num,.string v.text,(.slice p N cs),.int .i64 v.elem] 25)) = w0 at *
 obtain ⟨x,hx⟩:∃ x,w.heap.size = x:=⟨_,rfl⟩
 rw [hx] at ox hsz0 ⊢
 have HB0:=Lib.hid hb0
 have HX:=Lib.hid hx
 have HOX:=Lib.hid ox
 clear hb0 ox hx
 have hb1:Below w0.heap.size w0 (w0.alloc (.cells #[.int .i64 0,.slice none 0 0] 58)):=(Below.refl _ _).alloc (Nat.le_refl _) _
 have oy:=_root_.Go.heap_alloc_new w0 (.cells #[.int .i64 0,.slice none 0 0] 58)
 generalize (w0.alloc (.cells #[.int .i64 0,.slice none 0 0] 58)) = w1 at *
 obtain ⟨y,hy⟩:∃ y,x+1 = y:=⟨_,rfl⟩
 rw [hsz0] at oy
 rw [hy] at oy hsz0 ⊢
 have hxy:x < y:=by rw [← hsz0];exact (gl HOX.out)
 have HB1:=Lib.hid (HB0.out.trans (hb1.mono HB0.out.size))
 have HXY:=Lib.hid (show w.heap.size ≤ x∧x < y∧y < w1.heap.size from ⟨by have:=HX.out;omega,hxy,(gl oy)⟩)
 have HO1:=Lib.hid (And.intro ((hb1.block x (by omega)).trans HOX.out) oy)
 clear hb1 oy hy hxy hsz0
 have x4:w1.cell? ⟨x,4,none⟩ = some (.int .i64 v.elem):=(cell_of_row _ _ 4 _ _ _ HO1.out.1).trans rfl
 go_upto_region 2 with fail
 refine (HC.out w1).mono ?_
 rintro e w2 ⟨b,rfl,hca,hb2⟩
 have HW2:=Lib.hid (HB1.out.trans (hb2.mono HB1.out.size))
 have HB2:=Lib.hid (And.intro (Nat.lt_of_lt_of_le HXY.out.2.2 hb2.size) (show b < w2.heap.size from by
  have h:=hca 0 HLL.out.2.2
  unfold World.cell? at h
  cases e:w2.heap[b]? with
  | none=>simp [e] at h
  | some o=>exact (gl e)))
 have HO2:=Lib.hid (And.intro ((hb2.block x (by have:=HXY.out;omega)).trans HO1.out.1) (And.intro ((hb2.block y HXY.out.2.2).trans HO1.out.2) hca))
 clear hca hb2 x4
 go_upto_region 3 with (refine wpList_store_rowTo rfl 58 (.tmp 4) (.tmp 16) rfl rfl w2.heap.size #[.int .i64 (-1),.slice none 0 0] rfl rfl 58 #[.int .i64 0,.slice none 0 0] (_root_.Go.heap_alloc_new w2 _) (by as_aux_lemma=>kernel_rfl) (by as_aux_lemma=>kernel_rfl) (by simp [Value.oneCell']) ?_)
 have hb3:Below w2.heap.size w2 ((w2.alloc (.cells #[.int .i64 0,.slice none 0 0] 58)).setRow w2.heap.size #[.int .i64 (-1),.slice none 0 0]):=below_setRow ((Below.refl _ _).alloc (Nat.le_refl _) _) (Nat.le_refl _) _
 have oz:=setRow_heap (w2.alloc (.cells #[.int .i64 0,.slice none 0 0] 58)) w2.heap.size _ #[.int .i64 (-1),.slice none 0 0] _ _ (_root_.Go.heap_alloc_new w2 _)
 change Code.wp _ _ _ _ ((w2.alloc (.cells #[.int .i64 0,.slice none 0 0] 58)).setRow w2.heap.size #[.int .i64 (-1),.slice none 0 0])
 generalize ((w2.alloc (.cells #[.int .i64 0,.slice none 0 0] 58)).setRow w2.heap.size #[.int .i64 (-1),.slice none 0 0]) = w3 at *
 obtain ⟨z,hz⟩:∃ z,w2.heap.size = z:=⟨_,rfl⟩
 rw [hz] at oz ⊢
 have HW3:=Lib.hid (HW2.out.trans (hb3.mono HW2.out.size))
 have HZ:=Lib.hid (show w.heap.size ≤ z∧x < z∧y < z∧b < z∧z < w3.heap.size from ⟨by have:=HW2.out.size;omega,by have:=HXY.out;have:=HB2.out;omega,by have:=HB2.out;omega,by have:=HB2.out;omega,(gl oz)⟩)
 have HO3:=Lib.hid (And.intro ((hb3.block x (by have:=HZ.out;omega)).trans HO2.out.1) (And.intro ((hb3.block y (by have:=HZ.out;omega)).trans HO2.out.2.1) (And.intro oz (HO2.out.2.2.below hb3))))
 clear hb3 oz hz
 go_wp2_with fail
 go_loopw [5,6] (fun v5 v6 wr=>∃ (k:Nat) (fs:List Value) (r5:Value),k ≤ N∧v6 = .int .i64 k∧r5 = v5∧InnR wr w3.heap.size r5 v.list k fs∧Below w3.heap.size w3 wr) (fun _ v6 _=>N - (intOf v6).toNat)
 case atStart=>exact ⟨0,[],_,Nat.zero_le _,rfl,rfl,⟨World.ownsRow_nil _ _ _ _,rfl,fun i h=>absurd h (by omega)⟩,Below.refl _ _⟩
 obtain ⟨k,fs,r5,hkN,rfl,rfl,hin,hbr⟩:=hrel
 have hwr:=HW3.out.trans (hbr.mono HW3.out.size)
 have HK:=Lib.hid (And.intro hin (And.intro hbr hwr))
 have hxr:=(hbr.block x (by have:=HZ.out;omega)).trans HO3.out.1
 have x3:wr.cell? ⟨x,3,none⟩ = some (.slice p N cs):=(cell_of_row _ _ 3 _ _ _ hxr).trans rfl
 clear hin hbr hwr
 by_cases hlt:(k:Int) < N
 ·have ka:k < v.list.length:=by rw [HV.out.2.1];omega
  obtain ⟨b0,o0,rfl⟩:=HV.out.2.2 (by omega)
  obtain ⟨t,hct,hvx⟩:=HV.out.1.part rfl ka
  have hmx:=List.getElem_mem ka
  obtain ⟨px,nx,hsx,_⟩:=hvx.slice
  have hgd:v.list.getD k zeroV = v.list[k]:=by simp [List.getD_eq_getElem?_getD,ka]
  have hix:=ih _ hmx (HR.out.1.part hmx) (by have:=V.wt_lt hmx;have:=HR.out.2.1;omega)
  obtain ⟨c0,c1,c2,c3,c4⟩:=part_cells (rangeAt_rd hct (rd_below HK.out.2.2))
  generalize v.list[k] = q at *
  obtain ⟨ny,hny⟩:∃ ny,q.list.length = ny:=⟨_,rfl⟩
  rw [hny] at hsx
  subst hsx
  have HD:=Lib.hid (hix wr _ (hvx.blw HK.out.2.2))
  have HG:=Lib.hid hgd
  clear hct hvx hix hmx ka hny hgd hxr
  go_wp2_with fail
  refine HD.out.mono ?_
  clear c0 c1 c2 c3 c4 x3
  rintro e w4 ⟨u,rfl,ho,hb4⟩
  obtain ⟨up,un,uc,hu,_⟩:=ho.ex
  subst hu
  have HU:=Lib.hid ho
  have HIN:=Lib.hid (HK.out.1.below hb4)
  have HB4:=Lib.hid (And.intro (HK.out.2.1.trans (hb4.mono HK.out.2.1.size)) (show w3.heap.size ≤ w4.heap.size from Nat.le_trans HK.out.2.1.size hb4.size))
  have HAP:=Lib.hid (show (Value.slice up un uc).ownBlock = none ∨ (Value.slice up un uc).ownBlock ≠ r5.ownBlock from by
   cases e:(Value.slice up un uc).ownBlock with
   | none=>exact .inl rfl
   | some g =>
    refine .inr (fun e2=>?_)
    have h1:=(ho.row.lt g e).1
    have h2:=(HK.out.1.row.lt g e2.symm).2
    omega)
  have HUL:=Lib.hid (MkTo.at_ ho HK.out.2.1.size)
  clear ho hb4
  go_wp2_with (at_builtin;refine wpList_append_oneG rfl (.tmp 24) (.tmp 31) 36 rfl w3.heap.size 28 (.slice none 0 0) 24 Tryz.underlying36 info_rows rfl r5 k fs (.slice up un uc) rfl rfl rfl HIN.out.row (by unfold maxLen;omega) (by omega) HB4.out.2 ?_;intro v' w5 h1 h2;have HM:=Lib.hid (HIN.out.more h1 h2 (by rw [HG.out];exact HUL.out) HAP.out);have HB5:=Lib.hid (HB4.out.1.trans (gw_belowR h2 HIN.out.row HB4.out.2));clear h1 h2)
  go_roundw
  case rel=>exact ⟨k+1,_,_,by omega,by go_num,rfl,HM.out,HB5.out⟩
  case measure=>simp [intOf];omega
 have hkN2:k = N:=by omega
 have hK:=HK.out
 rw [hkN2] at hK
 have HK:=Lib.hid hK
 have hxs:=(gl hxr)
 have HO5:=Lib.hid (And.intro hxr (And.intro ((HK.out.2.1.block y (by have:=HZ.out;omega)).trans HO3.out.2.1) (And.intro ((HK.out.2.1.block z HZ.out.2.2.2.2).trans HO3.out.2.2.1) (HO3.out.2.2.2.below HK.out.2.1))))
 have HZ5:=Lib.hid (show z < wr.heap.size∧w.heap.size ≤ wr.heap.size from ⟨Nat.lt_of_lt_of_le HZ.out.2.2.2.2 HK.out.2.1.size,HK.out.2.2.size⟩)
 have hL3:(L.length:Int) ≤ 3:=by have:=HLL.out.1;omega
 clear hK hkN2 hxr hxs
 go_wp2_with fail
 clear x3 hlt hkN
 rename World=>w5
 go_loopw [7] (fun v7 wq=>∃ j:Nat,j ≤ L.length∧v7 = .int .i64 j∧FrmIn wq w.heap.size z (uniR v.list (L.take j))∧w5.grownBy wq (some z)) (fun v7 _=>L.length - (intOf v7).toNat)
 case atStart=>exact ⟨0,Nat.zero_le _,rfl,⟨none,0,0,HO5.out.2.2.1,BytesIn.nil _,fun a e=>by cases e⟩,⟨rfl,rfl,rfl,Nat.le_refl _,fun _ _ _=>rfl⟩⟩
 obtain ⟨j,hjL,rfl,⟨pb,nb,kb,hz,hyb,hpb⟩,hg⟩:=hrel
 rename World=>wq
 have hwq:=gz_below HK.out.2.2 hg HZ.out.1 HZ5.out.2
 have hxq:=(hg.block x (by have:=HZ.out;have:=HZ5.out;omega) (fun e=>by have:=HZ.out;cases e;omega)).trans HO5.out.1
 have hyq:=(hg.block y (by have:=HZ.out;have:=HZ5.out;omega) (fun e=>by have:=HZ.out;cases e;omega)).trans HO5.out.2.1
 obtain ⟨b1,b2,hb12⟩:∃ b1 b2,uniR v.list (L.take j) = (b1,b2):=⟨_,_,rfl⟩
 rw [hb12] at hz hyb
 have HPB:=Lib.hid hpb
 have HZR:=Lib.hid (And.intro hz (And.intro hyb (And.intro hg (And.intro hwq (And.intro hxq (And.intro hyq hb12))))))
 have HIQ:=Lib.hid (HK.out.1.grown hg HZ.out.2.2.2.2)
 clear hz hyb hpb hg hwq hxq hyq hb12
 by_cases hlt:(j:Int) < L.length
 ·have hjl:j < L.length:=by omega
  have hcc:wq.cell? ⟨b,j,none⟩ = some (.int .i64 (L.getD j 0:Nat)):=HZR.out.2.2.1.cell (HO5.out.2.2.2 j hjl) (fun e=>by have h1:=Option.some.inj e;have h2:=HZ.out;simp at h1;omega)
  have hbt:=uni_take v.list L j hjl
  rw [HZR.out.2.2.2.2.2.2] at hbt
  have hki:kindC (L.getD j 0) = v.elem:=HLL.out.2.1 _ (by rw [List.getD_eq_getElem?_getD,List.getElem?_eq_getElem hjl];exact List.getElem_mem hjl)
  generalize L.getD j 0 = ci at *
  have hc0:ci ≠ 0:=fun e=>by rw [e] at hki;have h:=HR.out.2.2;have h2:kindC 0 = 24:=rfl;omega
  have hkc:0 ≤ kindC ci:=by have h:=HR.out.2.2;omega
  have HWD:=Lib.hid (fun W=>rwidth_any ci W hkc hc0)
  have HBT:=Lib.hid (And.intro hbt (And.intro hcc (And.intro hjl (And.intro hki (And.intro hc0 hkc)))))
  clear hbt hki hc0 hkc hjl
  go_wp2_with fail
  refine (HWD.out wq).mono ?_
  rintro e w6 ⟨rfl,rfl⟩
  clear hcc
  by_cases hw0:widR ci = 0
  ·have hw1:(widR ci == 0) = true:=by simp [hw0]
   have HST:=Lib.hid (show uniR v.list (L.take (j+1)) = (b1,b2) from by rw [HBT.out.1,if_pos hw0])
   clear hw0
   go_wp2_with fail
   go_roundw
   case rel=>exact ⟨j+1,by have:=HBT.out.2.2.1;omega,by go_num,by rw [HST.out];exact ⟨pb,nb,kb,HZR.out.1,HZR.out.2.1,HPB.out⟩,HZR.out.2.2.1⟩
   case measure=>simp [intOf];omega
  ·have hw1:(widR ci == 0) = false:=by simp [hw0]
   have HST:=Lib.hid (show uniR v.list (L.take (j+1)) = stepR (allF ci v.list) ci (allD ci v.list) (b1,b2) from by rw [HBT.out.1,if_neg hw0])
   clear hw0
   go_wp2_with fail
   go_loopw [8,9,10] (fun v8 v9 v10 wk=>∃ (k:Nat) (u:Value),k ≤ N∧v10 = .int .i64 k∧u = v8∧v9 = .bool (allF ci (v.list.take k))∧OwnBytes wk wq.heap.size 5 u (allD ci (v.list.take k))∧Below wq.heap.size wq wk) (fun _ _ v10 _=>N - (intOf v10).toNat)
   case atStart=>exact ⟨0,_,Nat.zero_le _,rfl,rfl,rfl,OwnBytes.nil _ _ _,Below.refl _ _⟩
   case round =>
    obtain ⟨k,u,hkN,rfl,rfl,rfl,ho,hb⟩:=hrel
    rename World=>wk
    obtain ⟨fb,hfb⟩:∃ fb,allF ci (v.list.take k) = fb:=⟨_,rfl⟩
    rw [hfb]
    have HKO:=Lib.hid (And.intro ho (And.intro hb (And.intro (HZR.out.2.2.2.1.trans (hb.mono HZR.out.2.2.2.1.size)) hfb)))
    have hxk:=(hb.block x (gl HZR.out.2.2.2.2.1)).trans HZR.out.2.2.2.2.1
    have x3:wk.cell? ⟨x,3,none⟩ = some (.slice p N cs):=(cell_of_row _ _ 3 _ _ _ hxk).trans rfl
    have hcck:=bs_cellV hb HBT.out.2.1
    clear ho hb hfb hxk
    by_cases hlt2:(k:Int) < N
    ·have ka:k < v.list.length:=by rw [HV.out.2.1];omega
     obtain ⟨b0,o0,rfl⟩:=HV.out.2.2 (by omega)
     obtain ⟨t0,hct,hvx⟩:=HV.out.1.part rfl ka
     have hmx:=List.getElem_mem ka
     obtain ⟨px,nx,hsx,_⟩:=hvx.slice
     have hkx:=HR.out.2.2.2.2 _ hmx
     have hwx:v.list[k].wt ≤ 4294967296:=by have:=V.wt_lt hmx;have:=HR.out.2.1;omega
     have htd:=allD_take (c:=ci) ka
     have htf:=allF_take (c:=ci) ka
     have hlen2:(allD ci (v.list.take k)).length+200 * v.list[k].wt ≤ 200 * v.wt:=by
      have h1:=allD_wt (c:=ci) (l:=v.list.take k)
      have h2:=wts_append (v.list.take k) (v.list.drop k)
      rw [List.take_append_drop] at h2
      have h3:v.list[k].wt ≤ wts (v.list.drop k):=wts_mem (List.mem_of_getElem? (i:=0) (by rw [List.getElem?_drop,Nat.add_zero,List.getElem?_eq_getElem ka]))
      have h4:=v.wt_eq
      omega
     obtain ⟨t,hft,hot,_⟩:=HIQ.out.own k (by omega)
     rw [show v.list.getD k zeroV = v.list[k] by simp [List.getD_eq_getElem?_getD,ka]] at hot
     obtain ⟨c0,c1,c2,c3,c4⟩:=part_cells (rangeAt_rd hct (rd_below HKO.out.2.2.1))
     generalize v.list[k] = q at *
     obtain ⟨ny,hny⟩:∃ ny,q.list.length = ny:=⟨_,rfl⟩
     rw [hny] at hsx
     subst hsx
     have hrw:=HIQ.out.row
     obtain ⟨g,cap,hr5⟩:∃ g cap,r5 = .slice (some ⟨g,0,none⟩) N cap:=by
      rcases hrw.2 with ⟨_,h2⟩|⟨g,cap,cur,h2,_⟩
      ·omega
      ·exact ⟨g,cap,h2⟩
     subst hr5
     have hgc:=bs_cellV HKO.out.2.1 (hrw.cells (g:=g) rfl k t hft)
     rw [show (⟨g,0,none⟩:Addr).add k = ⟨g,k,none⟩ by unfold Addr.add;split <;> simp_all] at hgc
     obtain ⟨tp,tn,tc,htt,_⟩:=hot.ex
     subst htt
     have hbt:=((hot.of_below HKO.out.2.1).sl.2).below (Below.refl wk.heap.size wk).drew
     obtain ⟨F,hF⟩:∃ F,fitR ci q tn = F:=⟨_,rfl⟩
     have hda:=rdata_nz ci HBT.out.2.2.2.2.2 HBT.out.2.2.2.2.1 q wk.drew _ (hvx.blw HKO.out.2.2.1.drew) (HBT.out.2.2.2.1.trans hkx.symm) tp tn tc (inn q) hbt (by have h1:=inn_wt q;have h2:=hbt.len;omega) (by have h3:=text_wt q;have h4:=list_wt q;omega)
     rw [hF] at hda
     have HDA:=Lib.hid hda
     have HQ:=Lib.hid (And.intro htd (And.intro htf (And.intro hlen2 (And.intro hF (And.intro hbt.len hwx)))))
     clear hct hvx hmx hkx hwx htd htf hlen2 hft hot hrw hbt hF hda hny ka
     go_upto_region 17 with fail
     refine wp_region_heldN (fun V=>V.cell? ⟨b,j,none⟩ = some (.int .i64 ci)∧V.cell? ⟨x,3,none⟩ = some (.slice (some ⟨b0,o0,none⟩) N cs)∧V.cell? ⟨g,k,none⟩ = some (.slice tp tn tc)∧V.cell? ⟨b0,o0+k * 5,none⟩ = some (.int .i64 q.kind)∧V.cell? ⟨b0,o0+k * 5+1,none⟩ = some (.int .u64 q.num)∧V.cell? ⟨b0,o0+k * 5+2,none⟩ = some (.string q.text)∧V.cell? ⟨b0,o0+k * 5+3,none⟩ = some (.slice px ny nx)∧V.cell? ⟨b0,o0+k * 5+4,none⟩ = some (.int .i64 q.elem)) 19 rfl (by kernel_rfl) ?_
     have hS:wk.drew.cell? ⟨b,j,none⟩ = some (.int .i64 ci)∧wk.drew.cell? ⟨x,3,none⟩ = some (.slice (some ⟨b0,o0,none⟩) N cs)∧wk.drew.cell? ⟨g,k,none⟩ = some (.slice tp tn tc)∧wk.drew.cell? ⟨b0,o0+k * 5,none⟩ = some (.int .i64 q.kind)∧wk.drew.cell? ⟨b0,o0+k * 5+1,none⟩ = some (.int .u64 q.num)∧wk.drew.cell? ⟨b0,o0+k * 5+2,none⟩ = some (.string q.text)∧wk.drew.cell? ⟨b0,o0+k * 5+3,none⟩ = some (.slice px ny nx)∧wk.drew.cell? ⟨b0,o0+k * 5+4,none⟩ = some (.int .i64 q.elem):=⟨hcck,x3,hgc,c0,c1,c2,c3,c4⟩
     refine tkI 0 (.slice (some ⟨b,0,none⟩) L.length L.length) 53 rfl rfl (by kernel_rfl) (fun _ _ _=>id) (by rfl) (by rintro V ⟨h1,h2,h3,c0,c1,c2,c3,c4⟩;go_simp) hS ?_
     try simp only [Act.put,sA,sB,sC]
     refine tkI 1 (.int .i64 j) 54 rfl rfl (by kernel_rfl) (fun _ _ _=>id) (by rfl) (by rintro V ⟨h1,h2,h3,c0,c1,c2,c3,c4⟩;go_simp) hS ?_
     try simp only [Act.put,sA,sB,sC]
     refine tkI 2 (.pointer (some ⟨b,j,none⟩)) 55 rfl rfl (by kernel_rfl) (fun _ _ _=>id) (by rfl) (by rintro V ⟨h1,h2,h3,c0,c1,c2,c3,c4⟩;go_simp) hS ?_
     try simp only [Act.put,sA,sB,sC]
     refine tkI 3 (.int .i64 ci) 56 rfl rfl (by kernel_rfl) (fun _ _ _=>id) (by rfl) (by rintro V ⟨h1,h2,h3,c0,c1,c2,c3,c4⟩;go_simp) hS ?_
     try simp only [Act.put,sA,sB,sC]
     refine tkI 4 (.pointer (some ⟨x,3,none⟩)) 57 rfl rfl (by kernel_rfl) (fun _ _ _=>id) (by rfl) (by rintro V ⟨h1,h2,h3,c0,c1,c2,c3,c4⟩;go_simp) hS ?_
     try simp only [Act.put,sA,sB,sC]
     refine tkI 5 (.slice (some ⟨b0,o0,none⟩) N cs) 58 rfl rfl (by kernel_rfl) (fun _ _ _=>id) (by rfl) (by rintro V ⟨h1,h2,h3,c0,c1,c2,c3,c4⟩;go_simp) hS ?_
     try simp only [Act.put,sA,sB,sC]
     refine tkI 6 (.int .i64 k) 59 rfl rfl (by kernel_rfl) (fun _ _ _=>id) (by rfl) (by rintro V ⟨h1,h2,h3,c0,c1,c2,c3,c4⟩;go_simp) hS ?_
     try simp only [Act.put,sA,sB,sC]
     refine tkI 7 (.pointer (some ⟨b0,o0+k * 5,none⟩)) 60 rfl rfl (by kernel_rfl) (fun _ _ _=>id) (by rfl) (by rintro V ⟨h1,h2,h3,c0,c1,c2,c3,c4⟩;go_simp) hS ?_
     try simp only [Act.put,sA,sB,sC]
     refine tkI 8 (.agg #[.int .i64 q.kind,.int .u64 q.num,.string q.text,.slice px ny nx,.int .i64 q.elem]) 61 rfl rfl (by kernel_rfl) (fun _ _ _=>id) (by rfl) (by rintro V ⟨h1,h2,h3,c0,c1,c2,c3,c4⟩;go_simp) hS ?_
     try simp only [Act.put,sA,sB,sC]
     refine tkI 9 (.slice (some ⟨g,0,none⟩) N cap) 62 rfl rfl (by kernel_rfl) (fun _ _ _=>id) (by rfl) (by rintro V ⟨h1,h2,h3,c0,c1,c2,c3,c4⟩;go_simp) hS ?_
     try simp only [Act.put,sA,sB,sC]
     refine tkI 10 (.int .i64 k) 63 rfl rfl (by kernel_rfl) (fun _ _ _=>id) (by rfl) (by rintro V ⟨h1,h2,h3,c0,c1,c2,c3,c4⟩;go_simp) hS ?_
     try simp only [Act.put,sA,sB,sC]
     refine tkI 11 (.pointer (some ⟨g,k,none⟩)) 64 rfl rfl (by kernel_rfl) (fun _ _ _=>id) (by rfl) (by rintro V ⟨h1,h2,h3,c0,c1,c2,c3,c4⟩;go_simp) hS ?_
     try simp only [Act.put,sA,sB,sC]
     refine tkI 12 (.slice tp tn tc) 65 rfl rfl (by kernel_rfl) (fun _ _ _=>id) (by rfl) (by rintro V ⟨h1,h2,h3,c0,c1,c2,c3,c4⟩;go_simp) hS ?_
     try simp only [Act.put,sA,sB,sC]
     refine oneH (i:=13) (by kernel_rfl) ?_
     refine stepD (i:=13) rfl (by rfl) (fun K5 h5=>?_)
     go_simp
     (with_reducible refine HDA.out.mono ?_)
     rintro e w7 ⟨p7,n7,c7,rfl,⟨hy7,_⟩,hb7⟩
     have hb7:Below wk.heap.size wk w7:=⟨hb7.os,hb7.tape,hb7.output,hb7.size,hb7.block⟩
     clear hS
     have hS:w7.cell? ⟨b,j,none⟩ = some (.int .i64 ci)∧w7.cell? ⟨x,3,none⟩ = some (.slice (some ⟨b0,o0,none⟩) N cs)∧w7.cell? ⟨g,k,none⟩ = some (.slice tp tn tc)∧w7.cell? ⟨b0,o0+k * 5,none⟩ = some (.int .i64 q.kind)∧w7.cell? ⟨b0,o0+k * 5+1,none⟩ = some (.int .u64 q.num)∧w7.cell? ⟨b0,o0+k * 5+2,none⟩ = some (.string q.text)∧w7.cell? ⟨b0,o0+k * 5+3,none⟩ = some (.slice px ny nx)∧w7.cell? ⟨b0,o0+k * 5+4,none⟩ = some (.int .i64 q.elem):=⟨bs_cellV hb7 hcck,bs_cellV hb7 x3,bs_cellV hb7 hgc,bs_cellV hb7 c0,bs_cellV hb7 c1,bs_cellV hb7 c2,bs_cellV hb7 c3,bs_cellV hb7 c4⟩
     refine h5.out _ _ hS ?_
     clear h5
     try simp only [Act.put,sA,sB,sC]
     refine tkI 14 (.tuple #[.slice p7 n7 c7,.bool F]) 52 rfl rfl (by kernel_rfl) (fun _ _ _=>id) (by rfl) (by rintro V ⟨h1,h2,h3,c0,c1,c2,c3,c4⟩;go_simp) hS ?_
     try simp only [Act.put,sA,sB,sC]
     refine tkI 15 (.slice p7 n7 c7) 67 rfl rfl (by kernel_rfl) (fun _ _ _=>id) (by rfl) (by rintro V ⟨h1,h2,h3,c0,c1,c2,c3,c4⟩;go_simp) hS ?_
     try simp only [Act.put,sA,sB,sC]
     refine tkI 16 (.bool F) 68 rfl rfl (by kernel_rfl) (fun _ _ _=>id) (by rfl) (by rintro V ⟨h1,h2,h3,c0,c1,c2,c3,c4⟩;go_simp) hS ?_
     try simp only [Act.put,sA,sB,sC]
     refine tkI 17 (.slice p7 n7 c7) 11 rfl rfl (by kernel_rfl) (fun _ _ _=>id) (by rfl) (by rintro V ⟨h1,h2,h3,c0,c1,c2,c3,c4⟩;go_simp) hS ?_
     try simp only [Act.put,sA,sB,sC]
     refine tkI 18 (.bool F) 12 rfl rfl (by kernel_rfl) (fun _ _ _=>id) (by rfl) (by rintro V ⟨h1,h2,h3,c0,c1,c2,c3,c4⟩;go_simp) hS ?_
     try simp only [Act.put,sA,sB,sC]
     refine wpAnyH_done (by kernel_rfl) ?_ _
     have HO7:=Lib.hid (And.intro (HKO.out.1.of_below hb7) (And.intro hy7 (And.intro (HKO.out.2.1.trans (hb7.mono HKO.out.2.1.size)) (show wq.heap.size ≤ w7.heap.size from Nat.le_trans HKO.out.2.1.size hb7.size))))
     have HL7:=Lib.hid (show (allD ci (v.list.take k)).length+n7 ≤ 140737488355328 from by have h1:=hy7.len;have h2:=datX_len (c:=ci) (v:=q);have h3:=HQ.out.2.2.1;have h4:=HR.out.2.1;omega)
     clear hS hy7 hb7 hcck x3 hgc c0 c1 c2 c3 c4
     cases fb
     all_goals
      go_wp2_with (at_builtin;refine wpList_append_bytesF rfl (.tmp 73) (.tmp 74) 28 rfl wq.heap.size Tryz.underlying28 info_u8 _ _ (datX ci q (inn q)) _ n7 c7 rfl rfl HO7.out.1 HO7.out.2.1 HL7.out HO7.out.2.2.2 ?_;intro u8 w8 ho8 hg8;have HO8:=Lib.hid (And.intro ho8 (HO7.out.2.2.1.trans (hg8.below HO7.out.1 HO7.out.2.2.2)));clear ho8 hg8)
      go_roundw
      case rel=>exact ⟨k+1,_,by omega,by go_num,rfl,by rw [HQ.out.2.1,HKO.out.2.2.2,HQ.out.2.2.2.2.1,HQ.out.2.2.2.1];rfl,by rw [HQ.out.1];exact HO8.out.1,HO8.out.2⟩
      case measure=>simp [intOf];omega
    ·have hkN3:k = N:=by omega
     have hall:v.list.take k = v.list:=List.take_of_length_le (by rw [HV.out.2.1,hkN3];exact Nat.le_refl _)
     have hkk:=HKO.out
     rw [hall] at hkk
     obtain ⟨ho,hb,hwk,hfb⟩:=hkk
     obtain ⟨ua,un,uc,hu,hyu,hfu⟩:=ho.ex
     subst hu
     have hz6:=(hb.block z (gl HZR.out.1)).trans HZR.out.1
     have z0:wk.cell? ⟨z,0,none⟩ = some (.int .i64 b1):=(cell_of_row _ _ 0 _ _ _ hz6).trans rfl
     have z1:wk.cell? ⟨z,1,none⟩ = some (.slice pb nb kb):=(cell_of_row _ _ 1 _ _ _ hz6).trans rfl
     have hst2:uniR v.list (L.take (j+1)) = if fb = true∧(b1 < 0 ∨ un < nb) then ((ci:Int),allD ci v.list) else (b1,b2):=by
      rw [HST.out,hfb]
      unfold stepR
      rw [hyu.len,HZR.out.2.1.len]
     have HST2:=Lib.hid hst2
     have HE:=Lib.hid (And.intro hz6 (And.intro (HZR.out.2.1.below hb) (And.intro (gz_suf HZR.out.2.2.1 hb) (And.intro hyu (show ∀ a,ua = some a → w.heap.size ≤ a.block from fun a e=>Nat.le_trans HZR.out.2.2.2.1.size (hfu a e))))))
     clear hkN3 hall ho hb hwk hfb hyu hfu hz6 hst2
     go_upto_region 20 with fail
     clear x3 hlt2 hkN
     cases fb
     ·go_wp2_with fail
      go_roundw
      case rel=>exact ⟨j+1,by have:=HBT.out.2.2.1;omega,by go_num,by rw [HST2.out,if_neg (by rintro ⟨h1,h2⟩;cases h1)];exact ⟨pb,nb,kb,HE.out.1,HE.out.2.1,HPB.out⟩,HE.out.2.2.1⟩
      case measure=>simp [intOf];omega
     ·by_cases hneg:b1 < 0
      ·go_wp2_with (refine wpList_store_rowTo rfl 58 (.tmp 4) (.tmp 95) rfl rfl z #[.int .i64 ci,.slice ua un uc] rfl rfl 58 #[.int .i64 b1,.slice pb nb kb] HE.out.1 (by as_aux_lemma=>kernel_rfl) (by as_aux_lemma=>kernel_rfl) (by simp [Value.oneCell']) ?_)
       go_roundw
       case rel=>exact ⟨j+1,by have:=HBT.out.2.2.1;omega,by go_num,by rw [HST2.out,if_pos ⟨rfl,.inl hneg⟩];exact ⟨ua,un,uc,setRow_heap _ z _ _ _ _ HE.out.1,HE.out.2.2.2.1.set_frm rfl HE.out.1 _,HE.out.2.2.2.2⟩,gz_set HE.out.2.2.1 _⟩
       case measure=>simp [intOf];omega
      ·by_cases hlt4:(un:Int) < nb
       ·go_wp2_with (refine wpList_store_rowTo rfl 58 (.tmp 4) (.tmp 95) rfl rfl z #[.int .i64 ci,.slice ua un uc] rfl rfl 58 #[.int .i64 b1,.slice pb nb kb] HE.out.1 (by as_aux_lemma=>kernel_rfl) (by as_aux_lemma=>kernel_rfl) (by simp [Value.oneCell']) ?_)
        go_roundw
        case rel=>exact ⟨j+1,by have:=HBT.out.2.2.1;omega,by go_num,by rw [HST2.out,if_pos ⟨rfl,.inr (by omega)⟩];exact ⟨ua,un,uc,setRow_heap _ z _ _ _ _ HE.out.1,HE.out.2.2.2.1.set_frm rfl HE.out.1 _,HE.out.2.2.2.2⟩,gz_set HE.out.2.2.1 _⟩
        case measure=>simp [intOf];omega
       ·go_wp2_with fail
        go_roundw
        case rel=>exact ⟨j+1,by have:=HBT.out.2.2.1;omega,by go_num,by rw [HST2.out,if_neg (by rintro ⟨h1,h2⟩;omega)];exact ⟨pb,nb,kb,HE.out.1,HE.out.2.1,HPB.out⟩,HE.out.2.2.1⟩
        case measure=>simp [intOf];omega
 have hjL2:j = L.length:=by omega
 have hbb:=HZR.out.2.2.2.2.2.2
 rw [hjL2,List.take_length,HBE.out] at hbb
 have hb1:b1 = (uniC v:Int):=(congrArg Prod.fst hbb).symm
 have hb2:b2 = datVs (uniC v) v.list:=(congrArg Prod.snd hbb).symm
 subst hb1 hb2
 have z0:wq.cell? ⟨z,0,none⟩ = some (.int .i64 (uniC v:Nat)):=(cell_of_row _ _ 0 _ _ _ HZR.out.1).trans rfl
 have z1:wq.cell? ⟨z,1,none⟩ = some (.slice pb nb kb):=(cell_of_row _ _ 1 _ _ _ HZR.out.1).trans rfl
 clear hbb
 go_wp2_with (refine wpList_store_rowTo rfl 58 (.tmp 2) (.tmp 96) rfl rfl y #[.int .i64 (uniC v:Nat),.slice pb nb kb] rfl rfl 58 #[.int .i64 0,.slice none 0 0] HZR.out.2.2.2.2.2.1 (by as_aux_lemma=>kernel_rfl) (by as_aux_lemma=>kernel_rfl) (by simp [Value.oneCell']) ?_)
 have hh:=setRow_heap wq y _ #[.int .i64 (uniC v:Nat),.slice pb nb kb] _ _ HZR.out.2.2.2.2.2.1
 refine bodyPost_ret (results_cell_row (p:=2) (ty:=58) (by kernel_rfl) _ _ y 58 #[.int .i64 (uniC v:Nat),.slice pb nb kb] (0,0) _ rfl hh Tryz.underlying58 rfl (by as_aux_lemma=>kernel_rfl)) rfl ?_
 exact ⟨pb,nb,kb,rfl,⟨HZR.out.2.1.set_frm rfl HZR.out.2.2.2.2.2.1 _,HPB.out⟩,below_setRow HZR.out.2.2.2.1 (by have:=HXY.out;omega) _⟩

attribute [local go_sem] Oper.semAt_some

theorem inn_of (v:V) (ih:∀ x ∈ v.list,PutOn x) (hu:UniOn v):InnOn v:=by
 intro hr hwt w s hv
 obtain ⟨p,cs,hs,h1,h2,h3⟩:=hv.slice
 obtain ⟨N,hN⟩:∃ N,v.list.length = N:=⟨_,rfl⟩
 rw [hN] at hs h1 h3
 subst hs
 have hlw:=list_wt v
 have hNb:(N:Int) <= 4294967296:=by omega
 have HV:=zH (And.intro hv (And.intro hN h3))
 have HR:=zH (And.intro hr hwt)
 have HU:=zH hu
 clear hv hN h1 h2 h3 hr hwt hlw hu
 go_enter func51,ntmps51
 go_upto_region 1 with fail
 obtain ⟨w0,x,hw,hx,HB0,HX,HOX,x0,x1,x2,x3,x4⟩:=bxV w v (.slice p N cs)
 rw [hw,hx]
 clear hw hx
 have HW0:=zH (And.intro HB0.out HB0.out.size)
 by_cases hk:v.kind = 23
 ·have hc:=HU.out HR.out.1 HR.out.2 hk w0 _ (HV.out.1.blw HB0.out)
  have HC:=zH hc
  have hk2:(v.kind == 23) = true:=by simp [hk]
  clear hc hk
  go_wp2_with fail
  refine HC.out.mono ?_
  clear x0 x1 x2 x3 x4
  rintro e w1 ⟨u,rfl,hu,hb1⟩
  have HO:=zH (show OwnBytes w1 w.heap.size 5 u (inn v) from ⟨ownsRow_base hu.row (fun i hi=>by have h1:=(hu.row.lt i hi).1;have h2:=HW0.out.2;omega)⟩)
  have HB1:=zH (HB0.out.trans (hb1.mono HW0.out.2))
  clear hu hb1
  go_wp2_with fail
  go_ret
  exact ⟨_,rfl,HO.out,HB1.out⟩
 have hk2:(v.kind == 23) = false:=by simp [hk]
 have HK:=zH hk
 clear hk
 go_wp2_with fail
 go_loopw [3,14] (fun v3 v14 wr=>∃ (k:Nat) (u:Value),k <= N∧v14 = .int .i64 k∧u = v3∧OwnBytes wr w.heap.size 5 u (putVs (v.list.take k))∧Below w.heap.size w wr) (fun _ v14 _=>N - (intOf v14).toNat)
 case atStart=>exact ⟨0,_,Nat.zero_le _,rfl,rfl,by simpa [putVs] using OwnBytes.nil _ _ _,HB0.out⟩
 obtain ⟨k,u,hkN,rfl,rfl,ho,hb⟩:=hrel
 have HOB:=zH (And.intro ho hb)
 clear ho hb x0 x1 x2 x3 x4
 by_cases hlt:(k:Int) < N
 ·have ka:k < v.list.length:=by rw [HV.out.2.1];omega
  obtain ⟨b,o,rfl⟩:=HV.out.2.2 (by omega)
  obtain ⟨t,hct,hvx⟩:=HV.out.1.part rfl ka
  have hmx:=List.getElem_mem ka
  obtain ⟨px,nx,hsx,_⟩:=hvx.slice
  have hpv:putVs (v.list.take (k+1)) = putVs (v.list.take k) ++ putV v.list[k]:=by unfold putVs;rw [List.take_add_one,List.getElem?_eq_getElem ka,Option.toList_some,List.flatMap_append];simp
  have hlen:(putVs (v.list.take k)).length+81 * v.list[k].wt <= 81 * v.wt:=by
   have h1:(putVs (v.list.take k)).length <= 81 * wts (v.list.take k):=lens_le putV _ (fun x _=>(putV_len x).2)
   have h2:=wts_append (v.list.take k) (v.list.drop k)
   rw [List.take_append_drop] at h2
   have h3:v.list[k].wt <= wts (v.list.drop k):=wts_mem (List.mem_of_getElem? (i:=0) (by rw [List.getElem?_drop,Nat.add_zero,List.getElem?_eq_getElem ka]))
   have h4:=v.wt_eq
   omega
  have hpx:=ih _ hmx (HR.out.1.part hmx) (by have:=V.wt_lt hmx;have:=HR.out.2;omega)
  obtain ⟨c0,c1,c2,c3,c4⟩:=part_cells (rangeAt_rd hct (rd_below HOB.out.2))
  generalize v.list[k] = y at *
  obtain ⟨ny,hny⟩:∃ ny,y.list.length = ny:=⟨_,rfl⟩
  rw [hny] at hsx
  subst hsx
  have HY:=zH (And.intro hvx (And.intro hpv (And.intro hlen hpx)))
  clear hct hvx hpv hlen hpx hmx ka hny
  skip
  go_upto_region 7 with (refine stV (.tmp 5) (.tmp 17) rfl rfl rfl rfl rfl (zN wr _) rfl ?_)
  refine layW wr ?_
  intro w5 hb_w5 oxy
  obtain ⟨xy,hx_xy⟩:∃ x,wr.heap.size = x:=⟨_,rfl⟩
  rw [hx_xy] at oxy ⊢
  have HX_xy:=zH hx_xy
  clear hx_xy
  have HB5:=zH hb_w5
  have HXY:=zH oxy
  clear hb_w5 oxy c0 c1 c2 c3 c4
  obtain ⟨y0,y1,y2,y3,y4⟩:=c5 HXY.out
  have hbz:Below w.heap.size w w5:=HOB.out.2.trans (HB5.out.mono HOB.out.2.size)
  have hd:=HY.out.2.2.2 w5 w _ u _ HY.out.1 hbz (HOB.out.1.of_below HB5.out) (by have h1:=HY.out.2.2.1;have h2:=HR.out.2;omega)
  have HD:=zH hd
  have HZ:=zH hbz
  clear hd hbz
  go_wp2_with fail
  refine HD.out.mono ?_
  rintro e w7 ⟨u7,rfl,ho7,hg7⟩
  have HO7:=zH ho7
  have HB7:=zH (HZ.out.trans (hg7.below (HOB.out.1.of_below HB5.out) HZ.out.size))
  clear ho7 hg7 y0 y1 y2 y3 y4
  go_wp2_with fail
  go_roundw
  case rel=>exact ⟨k+1,_,by omega,by go_num,rfl,by rw [HY.out.2.1];exact HO7.out,HB7.out⟩
  case measure=>simp [intOf];omega
 have hkN2:k = N:=by omega
 have HE:=zH (show OwnBytes wr w.heap.size 5 u (inn v) from by
  have h:=HOB.out.1
  rw [hkN2,List.take_of_length_le (by rw [HV.out.2.1];exact Nat.le_refl _)] at h
  rw [inn_eq,if_neg HK.out]
  exact h)
 clear hkN2
 go_wp2_with fail
 go_ret
 exact ⟨_,rfl,HE.out,HOB.out.2⟩
theorem both_on:∀ v:V,InnOn v∧PutOn v:=by
 refine V.ind (fun v ih=>?_)
 have h1:InnOn v:=inn_of v (fun x hx=>(ih x hx).2) (uni_of v (fun x hx=>(ih x hx).1))
 exact ⟨h1,put_of v (fun x hx=>(ih x hx).2) h1⟩
def EncTo (w:World) (v:V) (e:Ending) (w':World):Prop:=∃ u,e = .returned (.tuple #[u,.int .i64 (encS v).2])∧OwnBytes w' w.heap.size 5 u (encS v).1∧Below w.heap.size w w'
theorem encode_any (v:V) (w:World) (s:Value) (hv:VIn w v s) (hT:Tabs w) (hwt:v.wt <= 2000000) :
  Calls prog 10 #[.agg #[.int .i64 v.kind,.int .u64 v.num,.string v.text,s,.int .i64 v.elem]] w (EncTo w v):=by
 have hc:=fun W (hW:Below w.heap.size w W)=>check_any v W s (hv.blw hW) (hT.below hW) hwt
 obtain ⟨E,hE⟩:∃ E,firstBad (v.pre 1) = E:=⟨_,rfl⟩
 rw [hE] at hc
 have HC:=zH hc
 have HV:=zH (And.intro hv (And.intro hwt hE))
 clear hc hv hT hwt hE
 go_enter func10,ntmps10
 go_upto_region 1 with fail
 obtain ⟨w0,x,hw,hx,HB0,HX,HOX,x0,x1,x2,x3,x4⟩:=bxV w v s
 rw [hw,hx]
 clear hw hx
 go_wp2_with fail
 refine (HC.out w0 HB0.out).mono ?_
 clear x0 x1 x2 x3 x4
 rintro e w1 ⟨rfl,hb1⟩
 have HX1:=zH ((hb1.block x (gl HOX.out)).trans HOX.out)
 have HB1:=zH (HB0.out.trans (hb1.mono HB0.out.size))
 clear hb1
 by_cases hE:E = 0
 ·subst hE
  obtain ⟨hr,hd⟩:=(right_iff (vin_wf v s HV.out.1)).1 HV.out.2.2
  have hp:=(both_on v).2 hr (by have:=HV.out.2.1;omega) w1 w s (.slice none 0 0) [] HV.out.1 HB1.out (OwnBytes.nil _ _ _) (by have:=HV.out.2.1;simp;omega)
  have HP:=zH hp
  have HR:=zH hr
  clear hp hr hd
  have x0:w1.cell? ⟨x,0,none⟩ = some (.int .i64 v.kind):=(cell_of_row _ _ 0 _ _ _ HX1.out).trans rfl
  have x1:w1.cell? ⟨x,1,none⟩ = some (.int .u64 v.num):=(cell_of_row _ _ 1 _ _ _ HX1.out).trans rfl
  have x2:w1.cell? ⟨x,2,none⟩ = some (.string v.text):=(cell_of_row _ _ 2 _ _ _ HX1.out).trans rfl
  have x3:w1.cell? ⟨x,3,none⟩ = some s:=(cell_of_row _ _ 3 _ _ _ HX1.out).trans rfl
  have x4:w1.cell? ⟨x,4,none⟩ = some (.int .i64 v.elem):=(cell_of_row _ _ 4 _ _ _ HX1.out).trans rfl
  go_wp2_with fail
  refine HP.out.mono ?_
  clear x0 x1 x2 x3 x4
  rintro e w2 ⟨u,rfl,ho,hg⟩
  rw [List.nil_append] at ho
  have hb2:=HB1.out.trans (hg.below (OwnBytes.nil w1 w.heap.size _) HB1.out.size)
  obtain ⟨q,cc,hu,_⟩:=ho.bytes
  subst hu
  obtain ⟨m,hm⟩:∃ m,(putV v).length = m:=⟨_,rfl⟩
  rw [hm] at ho ⊢
  have HO:=zH (And.intro ho (And.intro hb2 hm))
  clear ho hg hb2 hm
  by_cases hl:1048576 < (m:Int)
  ·have he:encS v = ([],2):=by unfold encS;rw [if_neg (by rw [HV.out.2.2];simp),if_pos (by have:=HO.out.2.2;omega)]
   have HE:=zH he
   clear he
   go_wp2_with fail
   go_ret2
   exact ⟨.slice none 0 0,by rw [HE.out];rfl,by rw [HE.out];exact OwnBytes.nil _ _ _,HO.out.2.1⟩
  ·have he:encS v = (putV v,0):=by unfold encS;rw [if_neg (by rw [HV.out.2.2];simp),if_neg (by have:=HO.out.2.2;omega)]
   have HE:=zH he
   clear he
   go_wp2_with fail
   go_ret2
   exact ⟨.slice q m cc,by rw [HE.out];rfl,by rw [HE.out];exact HO.out.1,HO.out.2.1⟩
 have he:encS v = ([],E):=by unfold encS;rw [HV.out.2.2,if_pos hE]
 have HE:=zH he
 have hE2:(E == 0) = false:=by simp [hE]
 clear he
 go_wp2_with fail
 go_ret2
 exact ⟨.slice none 0 0,by rw [HE.out];rfl,by rw [HE.out];exact OwnBytes.nil _ _ _,HB1.out⟩
theorem length_any (v:V) (w:World) (s:Value) (hv:VIn w v s) (hT:Tabs w) (hwt:v.wt <= 2000000) :
  Calls prog 11 #[.agg #[.int .i64 v.kind,.int .u64 v.num,.string v.text,s,.int .i64 v.elem]] w fun e w'=>e = .returned (.tuple #[.int .i64 (encS v).1.length,.int .i64 (encS v).2])∧Below w.heap.size w w':=by
 have hc:=fun W (hW:Below w.heap.size w W)=>encode_any v W s (hv.blw hW) (hT.below hW) hwt
 have HC:=zH hc
 clear hc hv hT hwt
 go_enter func11,ntmps11
 go_upto_region 1 with fail
 obtain ⟨w0,x,hw,hx,HB0,HX,HOX,x0,x1,x2,x3,x4⟩:=bxV w v s
 rw [hw,hx]
 clear hw hx
 go_wp2_with fail
 refine (HC.out w0 HB0.out).mono ?_
 clear x0 x1 x2 x3 x4
 rintro e w1 ⟨u,rfl,ho,hb1⟩
 have HB1:=zH (HB0.out.trans (hb1.mono HB0.out.size))
 obtain ⟨q,cc,hu,_⟩:=ho.bytes
 subst hu
 clear ho hb1
 go_wp2_with fail
 go_ret2
 exact ⟨rfl,HB1.out⟩
end Go.Proofs.YtnnnfhobbnjmfaaGreatDoor
