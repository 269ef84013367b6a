/-
  Lemmas on the codec. Conditions: as each says.
-/
import Derived.Test.YtnnnfhobbnjmfaaGreatDoorWn26
namespace Go.Proofs.YtnnnfhobbnjmfaaGreatDoor
open Go.RowKit Go.Proofs.Tryz
set_option linter.all false
set_option maxHeartbeats 40000000
set_option maxRecDepth 20000

attribute [local go_sem] Oper.semAt_some

theorem KeepF.cell {G:Nat -> Prop} {w W:World} {b o:Nat} {v:Value} (h:KeepF G w W) (hc:w.cell? ⟨b,o,none⟩ = some v) (hb:¬ G b):W.cell? ⟨b,o,none⟩ = some v:=by
 have hlt:=World.block_lt_of_cell? w _ hc
 have e:=h.block b hlt hb
 unfold World.cell? at hc ⊢
 simpa only [e] using hc
def SpTo (w:World) (q bv:Nat) (p:Option Addr) (n cp a2 en:Nat) (sz own K el:Int) (x:Except Er (List V × Nat)) (e:Ending) (w':World):Prop :=
 match x with
 | .error y=>e = faultE (erP n sz own a2 y) (erC sz y)∧KeepF (fun g=>g = q ∨ g = bv) w w'
 | .ok (l,k)=>e = .returned (.tuple #[])∧KeepF (fun g=>g = q ∨ g = bv) w w'∧(∃ s F,VO w' w.heap.size (V.mk K 0 ⟨#[]⟩ l el) s F∧w'.heap[bv]? = some (.cells #[.int .i64 K,.int .u64 0,.string ⟨#[]⟩,s,.int .i64 el] 25 (0,0)))∧w'.heap[q]? = some (.cells #[.slice p n cp,.int .i64 (a2+k:Nat),.int .i64 (en:Nat),.int .i64 sz] 66 (0,0))
structure SpSt (w wr:World) (q bv:Nat) (p:Option Addr) (n cp a2 en:Nat) (sz K el:Int) (B:List UInt8) (r:List UInt8 -> Res) (i:Nat) (l:List V) (k a3:Nat) (s:Value) (F:Nat -> Prop):Prop where
 keep:KeepF (fun g=>g = q ∨ g = bv) w wr
 ea:a2+k = a3
 row:RdIn wr q p n cp a3 en sz B
 box:wr.heap[bv]? = some (.cells #[.int .i64 K,.int .u64 0,.string ⟨#[]⟩,s,.int .i64 el] 25 (0,0))
 vo:VO wr w.heap.size (V.mk K 0 ⟨#[]⟩ l el) s F
 els:els r i (sOf B a2 en) = .ok (l,k)
theorem KeepF.on {G H:Nat -> Prop} {w W W2:World} (h:KeepF G w W) (h2:KeepF H W W2) (hg:∀ j,j < w.heap.size -> H j -> G j):KeepF G w W2 :=
 ⟨h2.os.trans h.os,h2.tape.trans h.tape,h2.output.trans h.output,Nat.le_trans h.size h2.size,fun j hj hn=>(h2.block j (Nat.lt_of_lt_of_le hj h.size) (fun q=>hn (hg j hj q))).trans (h.block j hj hn)⟩
theorem wp_store_midN {P:Program} {op:Oper} {a:Act} {w:World} {K:Act -> World -> Prop} {Q:Exit -> Act -> World -> Prop} (ty:TypeId) (x y:Operand) (ho:op.op = .store ty x y) (hdn:op.dst = none)
  (b o:Nat) (cells:Array Value) (hx:a.eval x = .pointer (some ⟨b,o,none⟩)) (hy:a.eval y = .agg cells)
  (ht:w.there b o cells.size) (hi:(P.info? ty).map (·.size) = some cells.size) (h1:cells.all (·.oneCell') = true)
  (h:K a (w.setCells b o cells.toList)):op.wp P a w K Q:=Go.wp_store_mid ty x y ho b o cells hx hy ht hi h1 (by rw [hdn];exact h)
theorem mrg_clos_odd (w:World) (q bw bk bo bv bd:Nat) (p:Option Addr) (n cp a en:Nat) (sz own:Int) (B:List UInt8) (h:RdIn w q p n cp a en sz B) (wd:Nat) (K d:Int) (h1:1 <= wd) (h4:wd <= 4) (N a2:Nat) (hN:nAt B a wd = N) (ha2:a+wd = a2) (hae:a2 <= en) (cw:w.cell? ⟨bw,0,none⟩ = some (.int .i64 (wd:Nat))) (ck:w.cell? ⟨bk,0,none⟩ = some (.int .i64 K)) (co:w.cell? ⟨bo,0,none⟩ = some (.int .i64 own)) (cd:w.cell? ⟨bd,0,none⟩ = some (.int .i64 d)) (ob:w.heap[bv]? = some (.cells #[.int .i64 K,.int .u64 0,.string ⟨#[]⟩,.slice none 0 0,.int .i64 0] 25 (0,0))) (hne:bk ≠ q∧bo ≠ q∧bd ≠ q∧bv ≠ q∧bd ≠ bv) (hk:K = 22):(∀ (hod:N % 2 ≠ 0),Calls prog 108 #[.pointer (some ⟨q,0,none⟩),.pointer (some ⟨bw,0,none⟩),.pointer (some ⟨bk,0,none⟩),.pointer (some ⟨bo,0,none⟩),.pointer (some ⟨bv,0,none⟩),.pointer (some ⟨bd,0,none⟩)] w fun e w'=>e = faultE own 34∧KeepF (fun g=>g = q ∨ g = bv) w w') ∧
  (∀ (hod:N % 2 = 0) (hlg:1024 < N / 2),Calls prog 108 #[.pointer (some ⟨q,0,none⟩),.pointer (some ⟨bw,0,none⟩),.pointer (some ⟨bk,0,none⟩),.pointer (some ⟨bo,0,none⟩),.pointer (some ⟨bv,0,none⟩),.pointer (some ⟨bd,0,none⟩)] w fun e w'=>e = faultE own 2∧KeepF (fun g=>g = q ∨ g = bv) w w'):=by
 refine ⟨?_,?_⟩
 intro hod
 rotate_left
 intro hod hlg
 rotate_left
 all_goals
  have HN:=zH (show ∀ W,RdIn W q p n cp a en sz B -> Calls prog 106 #[.pointer (some ⟨q,0,none⟩),.int .i64 (wd:Nat)] W fun e w'=>e = .returned (.int .u64 N)∧RdMv W w' q #[.slice p n cp,.int .i64 (a2:Nat),.int .i64 (en:Nat),.int .i64 sz] from fun W hW=>(number_ok W q p n cp a en sz hW.row B hW.src.bytes wd h1 (by omega) hW.ha (by omega) hW.hen hW.hn).mono (fun e w' q=>⟨by rw [← hN];exact q.1,q.2.eq (by omega)⟩))
  have hwn:wrap64 ((N:Nat):Int) = (N:Nat):=by
   have:=nAt_lt (B:=B) (at_:=a) (wd:=wd)
   have h2:256 ^ wd <= 256 ^ 4:=Nat.pow_le_pow_right (by omega) h4
   have h3:256 ^ 4 = 4294967296:=by decide
   unfold wrap64
   omega
  have HNB:=zH (show N < 4294967296 by
   have hlt:=nAt_lt (B:=B) (at_:=a) (wd:=wd)
   have h2:256 ^ wd <= 256 ^ 4:=Nat.pow_le_pow_right (by omega) h4
   have h3:256 ^ 4 = 4294967296:=by decide
   rw [hN] at hlt
   exact Nat.lt_of_lt_of_le hlt (Nat.le_trans h2 (Nat.le_of_eq h3)))
  have hae':=zH hae
  have HNE:=zH hne
  have HOB:=zH ob
  clear h1 h4 hN ha2 hae hne ob
  subst hk
 have hr:((N:Int) % 2 != 0) = true:=by simp;omega
 clear hod
 rotate_left
 have hr:((N:Int) % 2 != 0) = false:=by simp;omega
 have hr2:decide (1024 < wrap64 ((N:Int) / 2)) = true:=by have:=HNB.out;unfold wrap64;simp;omega
 clear hod hlg
 rotate_left
 all_goals
  have HR0:=zH h
  have HCW:=zH cw
  clear h
  go_enter func108,ntmps108
  go_wp2_with fail
  clear cw
  refine (HN.out _ HR0.out).mono ?_
  rintro e w1 ⟨rfl,hmv⟩
  have ck1:=hmv.keep.cell ck HNE.out.1
  have co1:=hmv.keep.cell co HNE.out.2.1
  have cd1:=hmv.keep.cell cd HNE.out.2.2.1
  have HMV:=zH hmv
  have HR1:=zH (HR0.out.mv hmv hae'.out)
  have HCD:=zH cd1
  clear hmv ck co cd
  go_wp2_with fail
  refine (wrong_any _ _ _).mono ?_
  rintro e w2 ⟨rfl,rfl⟩
  exact ⟨rfl,rfl,HMV.out.keep.wide (fun j h=>.inl h)⟩
def clos_odd:=fun w q bw bk bo bv bd p n cp a en sz own B h wd K d h1 h4 N a2 hN ha2 hae cw ck co cd ob hne hk=>(mrg_clos_odd w q bw bk bo bv bd p n cp a en sz own B h wd K d h1 h4 N a2 hN ha2 hae cw ck co cd ob hne hk).1
def clos_long:=fun w q bw bk bo bv bd p n cp a en sz own B h wd K d h1 h4 N a2 hN ha2 hae cw ck co cd ob hne hk=>(mrg_clos_odd w q bw bk bo bv bd p n cp a en sz own B h wd K d h1 h4 N a2 hN ha2 hae cw ck co cd ob hne hk).2
def spC (r:List UInt8 -> Res) (N:Nat) (s:List UInt8) (m:Nat):Except Er (List V × Nat) :=
 match els r N s with
 | .error y=>.error y
 | .ok (l,k)=>if k < m then .error .short else .ok (l,k)
theorem faultE_shift {n a2 a3 k:Nat} {sz own:Int} (h:a2+k = a3) (y:Er):faultE (erP n sz own a3 y) (erC sz y) = faultE (erP n sz own a2 (shiftE k y)) (erC sz (shiftE k y)):=by
 cases y with
 | short=>rfl
 | own e=>rfl
 | pl j e=>subst h;show faultE _ _ = faultE _ _;congr 1;show ((a2+k+j:Nat):Int) = ((a2+(j+k):Nat):Int);omega
theorem RdIn.on {w w':World} {q:Nat} {p:Option Addr} {n cp a en:Nat} {sz:Int} {B:List UInt8} {H:Nat -> Prop} (h:RdIn w q p n cp a en sz B) (hk:KeepF H w w') (hH:∀ j,H j -> q < j):RdIn w' q p n cp a en sz B :=
 ⟨(hk.block q h.lt (fun e=>by have:=hH q e;omega)).trans h.row,h.src.keep (hk.wide (fun j e=>Nat.le_of_lt (hH j e))),h.ha,h.hen,h.hn⟩
theorem mrg_clos_list (w:World) (q bw bk bo bv bd:Nat) (p:Option Addr) (n cp a en:Nat) (sz own:Int) (B:List UInt8) (h:RdIn w q p n cp a en sz B) (wd:Nat) (K d:Int) (h1:1 <= wd) (h4:wd <= 4) (N a2:Nat) (hN:nAt B a wd = N) (ha2:a+wd = a2) (hae:a2 <= en) (cw:w.cell? ⟨bw,0,none⟩ = some (.int .i64 (wd:Nat))) (ck:w.cell? ⟨bk,0,none⟩ = some (.int .i64 K)) (co:w.cell? ⟨bo,0,none⟩ = some (.int .i64 own)) (cd:w.cell? ⟨bd,0,none⟩ = some (.int .i64 d)) (ob:w.heap[bv]? = some (.cells #[.int .i64 K,.int .u64 0,.string ⟨#[]⟩,.slice none 0 0,.int .i64 0] 25 (0,0))) (hne:bk ≠ q∧bo ≠ q∧bd ≠ q∧bv ≠ q∧bd ≠ bv) (r:Nat) (hsr:Src w r p n cp B) (hrb:r <= bv) (hrq:r <= q) (hsz:0 <= sz) (hwf:(V.mk K 0 ⟨#[]⟩ [] 0).Wf) (hwd:IntKind.i64.wrap (d+1) = d+1) (rv:List UInt8 -> Res) (hle:∀ s v k,rv s = .ok (v,k) -> k <= s.length) (hv:∀ (a3:Nat) W,RdIn W q p n cp a3 en sz B -> Calls prog 38 #[.pointer (some ⟨q,0,none⟩),.int .i64 (d+1)] W fun e w'=>RdTo W q p n cp a3 en sz own (rv (sOf B a3 en)) e w'):(∀ (hk:(K != 22) = true),Calls prog 108 #[.pointer (some ⟨q,0,none⟩),.pointer (some ⟨bw,0,none⟩),.pointer (some ⟨bk,0,none⟩),.pointer (some ⟨bo,0,none⟩),.pointer (some ⟨bv,0,none⟩),.pointer (some ⟨bd,0,none⟩)] w fun e w'=>SpTo w q bv p n cp a2 en sz own K 0 (spC rv N (sOf B a2 en) (en - a2)) e w') ∧
  (∀ (hk:K = 22) (hod:N % 2 = 0) (hlg:N / 2 <= 1024),Calls prog 108 #[.pointer (some ⟨q,0,none⟩),.pointer (some ⟨bw,0,none⟩),.pointer (some ⟨bk,0,none⟩),.pointer (some ⟨bo,0,none⟩),.pointer (some ⟨bv,0,none⟩),.pointer (some ⟨bd,0,none⟩)] w fun e w'=>SpTo w q bv p n cp a2 en sz own K 0 (spC rv N (sOf B a2 en) (en - a2)) e w'):=by
 refine ⟨?_,?_⟩
 intro hk
 rotate_left
 intro hk hod hlg
 rotate_left
 all_goals
  have HN:=zH (show ∀ W,RdIn W q p n cp a en sz B -> Calls prog 106 #[.pointer (some ⟨q,0,none⟩),.int .i64 (wd:Nat)] W fun e w'=>e = .returned (.int .u64 N)∧RdMv W w' q #[.slice p n cp,.int .i64 (a2:Nat),.int .i64 (en:Nat),.int .i64 sz] from fun W hW=>(number_ok W q p n cp a en sz hW.row B hW.src.bytes wd h1 (by omega) hW.ha (by omega) hW.hen hW.hn).mono (fun e w' q=>⟨by rw [← hN];exact q.1,q.2.eq (by omega)⟩))
  have hwn:wrap64 ((N:Nat):Int) = (N:Nat):=by
   have:=nAt_lt (B:=B) (at_:=a) (wd:=wd)
   have h2:256 ^ wd <= 256 ^ 4:=Nat.pow_le_pow_right (by omega) h4
   have h3:256 ^ 4 = 4294967296:=by decide
   unfold wrap64
   omega
  have HNB:=zH (show N < 4294967296 by
   have hlt:=nAt_lt (B:=B) (at_:=a) (wd:=wd)
   have h2:256 ^ wd <= 256 ^ 4:=Nat.pow_le_pow_right (by omega) h4
   have h3:256 ^ 4 = 4294967296:=by decide
   rw [hN] at hlt
   exact Nat.lt_of_lt_of_le hlt (Nat.le_trans h2 (Nat.le_of_eq h3)))
  have hae':=zH hae
  have HNE:=zH hne
  have HOB:=zH ob
  clear h1 h4 hN ha2 hae hne ob
  have HSRC:=zH (And.intro hsr (And.intro hrb hrq))
  have HSZ:=zH hsz
  have HWF:=zH hwf
  have HVV:=zH hv
  have HLE:=zH hle
  have hq0:=h.lt
  clear hsr hrb hrq hsz hv hle hwf
 rotate_left
 have hk22:(K != 22) = false:=by simp [hk]
 clear hk
 have hr:((N:Int) % 2 != 0) = false:=by simp;omega
 have hr2:decide (1024 < wrap64 ((N:Int) / 2)) = false:=by have:=HNB.out;unfold wrap64;simp;omega
 clear hod hlg
 rotate_left
 all_goals
  have HR0:=zH h
  have HCW:=zH cw
  have HCD:=zH cd
  clear h
  go_enter func108,ntmps108
  go_wp2_with fail
  clear cw
  refine (HN.out _ HR0.out).mono ?_
  rintro e w1 ⟨rfl,hmv⟩
  have ck1:=hmv.keep.cell ck HNE.out.1
  have co1:=hmv.keep.cell co HNE.out.2.1
  have cd1:=hmv.keep.cell cd HNE.out.2.2.1
  have HMV:=zH hmv
  have HR1:=zH (HR0.out.mv hmv hae'.out)
  clear hmv ck co cd
  have HINIT:=zH (show SpSt w w1 q bv p n cp a2 en sz K 0 B rv 0 [] 0 a2 (.slice none 0 0) (fun _=>False) from ⟨HMV.out.keep.wide (fun j h=>.inl h),rfl,HR1.out,(HMV.out.keep.block bv (gl HOB.out) HNE.out.2.2.2.1).trans HOB.out,VO.nil _ _ HWF.out rfl,rfl⟩)
  go_wp2_with fail
  simp only [hwn]
  go_loopw [28] (fun v28 wr=>∃ (i:Nat) (l:List V) (k a3:Nat) (s:Value) (F:Nat -> Prop),i <= N∧v28 = .int .i64 i∧SpSt w wr q bv p n cp a2 en sz K 0 B rv i l k a3 s F) (fun v28 _=>N - (intOf v28).toNat)
  case atStart=>exact ⟨0,[],0,a2,.slice none 0 0,fun _=>False,Nat.zero_le _,rfl,HINIT.out⟩
  obtain ⟨i,l,k,a3,s,F,hiN,rfl,hst⟩:=hrel
  have hl:=els_len hst.els
  obtain ⟨ps,cs,hs,_,_⟩:=hst.vo.slice
  rw [show (V.mk K 0 ⟨#[]⟩ l 0).list.length = i from hl] at hs
  subst hs
  have ST:=zH hst
  have HL:=zH hl
  clear hst hl
  by_cases hlt:(i:Int) < N
  ·have HLT:=zH (show i < N by omega)
   have HW1:=zH (show wrap64 ((i:Int)+1) = ((i+1:Nat):Int) by have h1:=HLT.out;have h2:=HNB.out;unfold wrap64;omega)
   have HG:=zH (show ∀ X,KeepF (fun j=>j = q ∨ w.heap.size <= j) wr X -> X.cell? ⟨bd,0,none⟩ = some (.int .i64 d)∧X.heap[bv]? = some (.cells #[.int .i64 K,.int .u64 0,.string ⟨#[]⟩,.slice ps i cs,.int .i64 0] 25 (0,0)) from fun X hX =>
    ⟨hX.cell (ST.out.keep.cell HCD.out (by rintro (e|e);exact HNE.out.2.2.1 e;exact HNE.out.2.2.2.2 e)) (by rintro (e|e);exact HNE.out.2.2.1 e;exact absurd e (Nat.not_le.2 (World.block_lt_of_cell? w _ HCD.out))),
     (hX.block bv (gl ST.out.box) (by rintro (e|e);exact HNE.out.2.2.2.1 e;exact absurd e (Nat.not_le.2 (gl HOB.out)))).trans ST.out.box⟩)
   go_upto_region 8 with fail
   obtain ⟨S,hSd⟩:∃ S:Array Bool -> World -> Prop,∀ L V,S L V ↔ (V.cell? ⟨bd,0,none⟩ = some (.int .i64 d)∧till 12 (fun V=>V.cell? ⟨bv,3,none⟩ = some (.slice ps i cs)) L V∧till 5 (fun V=>V.heap[q]? = some (.cells #[.slice p n cp,.int .i64 (a3:Nat),.int .i64 (en:Nat),.int .i64 sz] 66 (0,0))) L V):=⟨_,fun _ _=>Iff.rfl⟩
   have HSD:=zH hSd
   clear hSd
   refine wp_region_T S 13 rfl (by kernel_rfl) ?_
   have hS:∀ L:Array Bool,S L wr.drew:=fun L=>(HSD.out _ _).2 ⟨(HG.out wr (KeepF.refl _ _)).1,fun _=>(cell_of_row wr _ 3 _ _ _ (HG.out wr (KeepF.refl _ _)).2).trans rfl,fun _=>ST.out.row.row⟩
   have k0:=KeepF.of_below (F:=fun j=>j = q ∨ w.heap.size <= j) (bdrew (Below.refl wr.heap.size wr))
   have hqk0:wr.drew.heap[q]? = some (.cells #[.slice p n cp,.int .i64 (a3:Nat),.int .i64 (en:Nat),.int .i64 sz] 66 (0,0)):=ST.out.row.row
   refine tkT (i:=0) (v:=.pointer (some ⟨bv,3,none⟩)) (some 30) [] rfl rfl (by kernel_rfl) (fun _ _ _ h=>h) (fun m W _ _ h=>(HSD.out _ _).2 ⟨((HSD.out _ _).1 h).1,((HSD.out _ _).1 h).2.1.set (by decide),((HSD.out _ _).1 h).2.2.set (by decide)⟩) (Or.inl ⟨by rfl,by rintro V ⟨m,hm,h9⟩;have h0:=(HSD.out _ _).1 h9;go_simp⟩) (hS _) ?_
   try simp only [Act.put,sA,sB,sC]
   refine tkT (i:=1) (v:=.slice ps i cs) (some 31) [8,12] rfl rfl (by kernel_rfl) (fun _ _ _ h=>h) (fun m W _ _ h=>(HSD.out _ _).2 ⟨((HSD.out _ _).1 h).1,((HSD.out _ _).1 h).2.1.set (by decide),((HSD.out _ _).1 h).2.2.set (by decide)⟩) (Or.inl ⟨by rfl,by rintro V ⟨m,hm,h9⟩;have h0:=(HSD.out _ _).1 h9;have y1:=h0.2.1.get (f:=12) (D:=[8,12]) (by decide) hm (by simp);go_simp⟩) (hS _) ?_
   try simp only [Act.put,sA,sB,sC]
   refine tkT (i:=2) (v:=.pointer (some ⟨q,0,none⟩)) (some 32) [] rfl rfl (by kernel_rfl) (fun _ _ _ h=>h) (fun m W _ _ h=>(HSD.out _ _).2 ⟨((HSD.out _ _).1 h).1,((HSD.out _ _).1 h).2.1.set (by decide),((HSD.out _ _).1 h).2.2.set (by decide)⟩) (Or.inl ⟨by rfl,by rintro V ⟨m,hm,h9⟩;have h0:=(HSD.out _ _).1 h9;go_simp⟩) (hS _) ?_
   try simp only [Act.put,sA,sB,sC]
   refine tkT (i:=3) (v:=.int .i64 d) (some 33) [] rfl rfl (by kernel_rfl) (fun _ _ _ h=>h) (fun m W _ _ h=>(HSD.out _ _).2 ⟨((HSD.out _ _).1 h).1,((HSD.out _ _).1 h).2.1.set (by decide),((HSD.out _ _).1 h).2.2.set (by decide)⟩) (Or.inl ⟨by rfl,by rintro V ⟨m,hm,h9⟩;have h0:=(HSD.out _ _).1 h9;have y0:=h0.1;go_simp⟩) (hS _) ?_
   try simp only [Act.put,sA,sB,sC]
   refine tkT (i:=4) (v:=.int .i64 (d+1)) (some 34) [] rfl rfl (by kernel_rfl) (fun _ _ _ h=>h) (fun m W _ _ h=>(HSD.out _ _).2 ⟨((HSD.out _ _).1 h).1,((HSD.out _ _).1 h).2.1.set (by decide),((HSD.out _ _).1 h).2.2.set (by decide)⟩) (Or.inl ⟨by rfl,by rintro V ⟨m,hm,h9⟩;have h0:=(HSD.out _ _).1 h9;go_simp⟩) (hS _) ?_
   try simp only [Act.put,sA,sB,sC]
   refine tkT (i:=6) (v:=.int .i64 (i:Nat)) (some 36) [] rfl rfl (by kernel_rfl) (fun _ _ _ h=>h) (fun m W _ _ h=>(HSD.out _ _).2 ⟨((HSD.out _ _).1 h).1,((HSD.out _ _).1 h).2.1.set (by decide),((HSD.out _ _).1 h).2.2.set (by decide)⟩) (Or.inl ⟨by rfl,by rintro V ⟨m,hm,h9⟩;have h0:=(HSD.out _ _).1 h9;go_simp⟩) (hS _) ?_
   try simp only [Act.put,sA,sB,sC]
   refine wpAnyT_all (rs:=[5,7]) (by kernel_rfl) (by simp) ?_
   intro i5 hi5
   simp only [List.mem_cons,List.not_mem_nil,or_false] at hi5
   rcases hi5 with rfl|rfl
   ·refine stepT (i:=5) rfl (by rfl) (fun K5 h5=>?_)
    go_simp
    (with_reducible refine (HVV.out a3 _ (ST.out.row.blw (bdrew (Below.refl _ _)))).mono ?_)
    rintro e w2 hto
    rcases hx:rv (sOf B a3 en) with y|⟨xv,k2⟩
    ·rw [hx] at hto
     obtain ⟨rfl,hk2⟩:=hto
     have hko:=ST.out.keep.on (k0.trans (hk2.wide (fun j h=>.inl h))) (fun j hj h=>by rcases h with h|h;exact .inl h;exact absurd hj (by omega))
     have hel:=els_err ST.out.els (by rw [sOf_drop' ST.out.ea];exact hx) HLT.out
     unfold faultE
     dsimp only
     go_wp2_with fail
     refine ⟨rfl,?_⟩
     show SpTo w q bv p n cp a2 en sz own K 0 (spC rv N (sOf B a2 en) (en - a2)) _ _
     unfold spC
     rw [hel]
     exact ⟨faultE_shift ST.out.ea y,hko⟩
    rw [hx] at hto
    obtain ⟨st,Fx,rfl,hvx,hmx⟩:=hto
    obtain ⟨qs,ds,hst,_,_⟩:=hvx.slice
    subst hst
    have kw2:=k0.trans (hmx.keep.wide (fun j h=>Or.inl (b:=w.heap.size <= j) h))
    refine h5.out _ _ ((HSD.out _ _).2 ⟨(HG.out _ kw2).1,fun _=>(cell_of_row _ _ 3 _ _ _ (HG.out _ kw2).2).trans rfl,fun h=>absurd h (by decide)⟩) ?_
    clear h5
    try simp only [Act.put,sA,sB,sC]
    obtain ⟨a4,ha4⟩:∃ a4,a3+k2 = a4:=⟨_,rfl⟩
    have hk2n:=HLE.out _ _ _ hx
    rw [sOf_len (by have:=ST.out.row.hen;have:=ST.out.row.len;omega)] at hk2n
    have ha4e:a4 <= en:=by have:=ST.out.row.ha;omega
    rw [ha4] at hmx
    have hr2:=(ST.out.row.blw (bdrew (Below.refl wr.heap.size wr))).mv hmx ha4e
    have kq2:=(KeepF.of_below (F:=fun g=>g = q) (bdrew (Below.refl wr.heap.size wr))).trans hmx.keep
    refine wpAnyT_all (rs:=[7]) (by kernel_rfl) (by simp) ?_
    intro i5 hi5
    simp only [List.mem_cons,List.not_mem_nil,or_false] at hi5
    subst hi5
    refine stepT (i:=7) rfl (by rfl) (fun K5 h5=>?_)
    refine wp_build1 (some 37) rfl _ rfl _ _ _ _ _ rfl ?_
    have hbz:Below w2.heap.size w2 (w2.alloc (.cells zR 25)):=(Below.refl w2.heap.size w2).alloc (Nat.le_refl _) _
    have oz:=zN w2 (.cells zR 25)
    generalize (w2.alloc (.cells zR 25)) = w3 at *
    obtain ⟨z,hz⟩:∃ z,w2.heap.size = z:=⟨_,rfl⟩
    rw [hz] at oz ⊢
    have kw3:=kw2.trans (KeepF.of_below (F:=fun j=>j = q ∨ w.heap.size <= j) hbz)
    refine h5.out _ _ ((HSD.out _ _).2 ⟨(HG.out _ kw3).1,fun _=>(cell_of_row _ _ 3 _ _ _ (HG.out _ kw3).2).trans rfl,fun h=>absurd h (by decide)⟩) ?_
    clear h5
    try simp only [Act.put,sA,sB,sC]
    have kq3:=kq2.trans (KeepF.of_below (F:=fun g=>g = q) hbz)
    have vow3:=ST.out.vo.keep (fun b hb=>kq3.block b (ST.out.vo.lt b hb).2 (fun e=>by have:=(ST.out.vo.lt b hb).1;omega))
    refine wpAnyT_all (rs:=[8]) (by kernel_rfl) (by simp) ?_
    intro i5 hi5
    simp only [List.mem_cons,List.not_mem_nil,or_false] at hi5
    subst hi5
    refine stepT (i:=8) rfl (by rfl) (fun K5 h5=>?_)
    obtain ⟨i0,hi,hz0,hz1,hz2⟩:=info_partsV info_val
    obtain ⟨xs,hxs,hpush⟩:=VO.two (v:=V.mk K 0 ⟨#[]⟩ [] 0) (l:=l) vow3 (Nat.le_trans ST.out.keep.size kw3.size)
    rw [HL.out] at hxs hpush
    refine wp_append_twoN w3 (some 38) rfl (.tmp 31) (.tmp 37) 23 rfl w.heap.size 25 _ _ 5 64 underlying23 hi hz0 hz1 hz2 rfl _ i xs rfl hxs ⟨z,0,none⟩ 1 [.int .i64 0,.int .u64 0,.string ⟨#[]⟩,.slice none 0 0,.int .i64 0] rfl rfl (fun j u hj=>row_cells oz hj) (by simp [Value.oneCell']) (by have:=HNB.out;unfold maxLen;omega) (by have:=HNB.out;omega) ?_
    intro s1 w5 hA
    have kAw5:KeepF (fun j=>w.heap.size <= j) w3 w5:=⟨hA.grown.os,hA.grown.tape,hA.grown.output,hA.grown.size,fun j hj hn=>hA.grown.block j hj (fun e=>hn ((vow3.lt j (vow3.own e.symm)).1))⟩
    have kw5:=kw3.trans (kAw5.wide (fun j h=>Or.inr (a:=j = q) h))
    refine h5.out _ _ ((HSD.out _ _).2 ⟨(HG.out _ kw5).1,fun _=>(cell_of_row _ _ 3 _ _ _ (HG.out _ kw5).2).trans rfl,fun h=>absurd h (by decide)⟩) ?_
    clear h5
    try simp only [Act.put,sA,sB,sC]
    have hvx3:=(hvx.mono (show w.heap.size <= wr.drew.heap.size from ST.out.keep.size)).blw hbz
    have hva:=hA.vo hvx3 (fun b hb hf=>by have q1:=(ST.out.vo.lt b (ST.out.vo.own hb)).2;have q2:=(hvx.lt b hf).1;exact absurd q1 (Nat.not_lt.2 q2))
    have hr5:=(hr2.blw hbz).on kAw5 (fun j h=>by omega)
    have hdj:∀ b,F b -> ¬ Fx b:=(fun b (hb:F b) (hf:Fx b)=>absurd (ST.out.vo.lt b hb).2 (Nat.not_lt.2 (hvx.lt b hf).1))
    obtain ⟨g,cap,rfl,hth,hBg,_,F2,hvo2⟩:=hpush w5 s1 hA w5 xv _ Fx (fun _=>False) (KeepF.refl _ _) (fun b h=>h.elim) hva.1 hdj hva.2
    refine tkT (i:=9) (v:=.pointer (some ⟨g,i * 5,none⟩)) (some 39) [] rfl rfl (by kernel_rfl) (fun _ _ _ h=>h) (fun m W _ _ h=>(HSD.out _ _).2 ⟨((HSD.out _ _).1 h).1,((HSD.out _ _).1 h).2.1.set (by decide),((HSD.out _ _).1 h).2.2.set (by decide)⟩) (Or.inl ⟨by rfl,by rintro V ⟨m,hm,h9⟩;have h0:=(HSD.out _ _).1 h9;go_simp;intro h9;omega⟩) ((HSD.out _ _).2 ⟨(HG.out _ kw5).1,fun _=>(cell_of_row _ _ 3 _ _ _ (HG.out _ kw5).2).trans rfl,fun h=>absurd h (by decide)⟩) ?_
    try simp only [Act.put,sA,sB,sC]
    refine tkT (i:=11) (v:=.pointer (some ⟨bv,3,none⟩)) (some 40) [] rfl rfl (by kernel_rfl) (fun _ _ _ h=>h) (fun m W _ _ h=>(HSD.out _ _).2 ⟨((HSD.out _ _).1 h).1,((HSD.out _ _).1 h).2.1.set (by decide),((HSD.out _ _).1 h).2.2.set (by decide)⟩) (Or.inl ⟨by rfl,by rintro V ⟨m,hm,h9⟩;have h0:=(HSD.out _ _).1 h9;go_simp⟩) ((HSD.out _ _).2 ⟨(HG.out _ kw5).1,fun _=>(cell_of_row _ _ 3 _ _ _ (HG.out _ kw5).2).trans rfl,fun h=>absurd h (by decide)⟩) ?_
    try simp only [Act.put,sA,sB,sC]
    refine wpAnyT_all (rs:=[10,12]) (by kernel_rfl) (by simp) ?_
    intro i5 hi5
    simp only [List.mem_cons,List.not_mem_nil,or_false] at hi5
    rcases hi5 with rfl|rfl
    ·refine stepT (i:=10) rfl (by rfl) (fun K5 h5=>?_)
     refine wp_store_midN 25 (.tmp 39) (.tmp 35) rfl rfl g (i * 5) #[.int .i64 xv.kind,.int .u64 xv.num,.string xv.text,.slice qs xv.list.length ds,.int .i64 xv.elem] rfl rfl hth (by as_aux_lemma=>kernel_rfl) (by simp [Value.oneCell']) ?_
     have kw6:KeepF (fun j=>w.heap.size <= j) w5 (w5.setCells g (i * 5) (vcells xv (.slice qs xv.list.length ds))):=(KeepF.refl _ _).setCells (F:=fun j=>w.heap.size <= j) hBg _ _
     change K5 _ (w5.setCells g (i * 5) (vcells xv (.slice qs xv.list.length ds)))
     generalize (w5.setCells g (i * 5) (vcells xv (.slice qs xv.list.length ds))) = w6 at *
     have kr6:=kw5.trans (kw6.wide (fun j h=>Or.inr (a:=j = q) h))
     have hq6:=(kw6.block q hr5.lt (by omega)).trans hr5.row
     refine h5.out _ _ ((HSD.out _ _).2 ⟨(HG.out _ kr6).1,fun _=>(cell_of_row _ _ 3 _ _ _ (HG.out _ kr6).2).trans rfl,fun h=>absurd h (by decide)⟩) ?_
     clear h5
     try simp only [Act.put,sA,sB,sC]
     have hb6:=(HG.out _ kr6).2
     have bv3:w6.cell? ⟨bv,3,none⟩ = some (.slice ps i cs):=(cell_of_row _ _ 3 _ _ _ hb6).trans rfl
     have fz6:w6.frozen? ⟨bv,3,none⟩ = false:=by simp [World.frozen?,hb6]
     have k7:KeepF (fun j=>j = bv) w6 (w6.setCell ⟨bv,3,none⟩ (.slice (some ⟨g,0,none⟩) (i+1) cap)):=⟨rfl,rfl,rfl,by simp,fun j hj hne=>set_farV hne⟩
     have hb7:=heap_setCell_same w6 bv 3 _ _ (.slice (some ⟨g,0,none⟩) (i+1) cap) hb6
     have hcd7:=(World.cell?_setCell_other w6 ⟨bv,3,none⟩ ⟨bd,0,none⟩ (.slice (some ⟨g,0,none⟩) (i+1) cap) (fun e=>HNE.out.2.2.2.2 (by simpa using congrArg Addr.block e.symm))).trans (HG.out _ kr6).1
     have hqZ:=(k7.block q (gl hq6) (fun e=>HNE.out.2.2.2.1 e.symm)).trans hq6
     refine wpAnyT_all (rs:=[12]) (by kernel_rfl) (by simp) ?_
     intro i5 hi5
     simp only [List.mem_cons,List.not_mem_nil,or_false] at hi5
     subst hi5
     refine stepT (i:=12) rfl (by rfl) (fun K5 h5=>?_)
     go_simp
     change K5 _ (w6.setCell ⟨bv,3,none⟩ (.slice (some ⟨g,0,none⟩) (i+1) cap))
     generalize (w6.setCell ⟨bv,3,none⟩ (.slice (some ⟨g,0,none⟩) (i+1) cap)) = w7 at *
     refine h5.out _ _ ((HSD.out _ _).2 ⟨hcd7,fun h=>absurd h (by decide),fun h=>absurd h (by decide)⟩) ?_
     clear h5
     try simp only [Act.put,sA,sB,sC]
     have kZ:KeepF (fun j=>j = q ∨ w.heap.size <= j ∨ j = bv) wr w7:=(kr6.wide (fun j h=>by rcases h with h|h;exact .inl h;exact .inr (.inl h))).trans (k7.wide (fun j h=>.inr (.inr h)))
     have hvoZ:=hvo2.keep (fun b hb=>k7.block b (hvo2.lt b hb).2 (fun e=>by have:=(hvo2.lt b hb).1;have:=(gl HOB.out);omega))
     have hbZ:=hb7
     clear bv3 fz6 k7 hb7 hcd7 hb6 hq6 kr6 kw6
     have hls:=els_snoc ST.out.els (by rw [sOf_drop' ST.out.ea];exact hx)
     have kwZ:=ST.out.keep.on (H:=fun j=>j = q ∨ w.heap.size <= j ∨ j = bv) kZ (fun j hj h=>by rcases h with h|h|h;exact .inl h;exact absurd hj (by omega);exact .inr h)
     have hrZ:RdIn w7 q p n cp a4 en sz B:=⟨hqZ,(HSRC.out.1.keep (kwZ.wide (fun j h=>by rcases h with h|h;exact h ▸ HSRC.out.2.2;exact h ▸ HSRC.out.2.1))).up HSRC.out.2.2,hr5.ha,hr5.hen,hr5.hn⟩
     have HST:=zH (show SpSt w w7 q bv p n cp a2 en sz K 0 B rv (i+1) (l ++ [xv]) (k+k2) a4 (.slice (some ⟨g,0,none⟩) (i+1) cap) F2 from ⟨kwZ,by have:=ST.out.ea;omega,hrZ,hbZ,hvoZ,hls⟩)
     refine wpAnyT_done (by kernel_rfl) ?_ _
     change Exit.inBlock _ _ _ _ w7
     clear hx hvx hpush hA hxs hvo2 hvoZ hbZ hqZ kwZ kZ hrZ hls oz hdj hva
     clear hlt
     have hNb:(N:Int) <= 4294967296:=Int.ofNat_le.2 (Nat.le_of_lt HNB.out)
     have hlt:(i:Int) < N:=Int.ofNat_lt.2 HLT.out
     go_wp2_with fail
     go_roundw
     case rel=>exact ⟨i+1,_,_,_,_,_,HLT.out,by go_num,HST.out⟩
     case measure=>simp [intOf];omega
    ·have hb6:=(HG.out _ kw5).2
     have bv3:w5.cell? ⟨bv,3,none⟩ = some (.slice ps i cs):=(cell_of_row _ _ 3 _ _ _ hb6).trans rfl
     have fz6:w5.frozen? ⟨bv,3,none⟩ = false:=by simp [World.frozen?,hb6]
     have k7:KeepF (fun j=>j = bv) w5 (w5.setCell ⟨bv,3,none⟩ (.slice (some ⟨g,0,none⟩) (i+1) cap)):=⟨rfl,rfl,rfl,by simp,fun j hj hne=>set_farV hne⟩
     have hb7:=heap_setCell_same w5 bv 3 _ _ (.slice (some ⟨g,0,none⟩) (i+1) cap) hb6
     have hcd7:=(World.cell?_setCell_other w5 ⟨bv,3,none⟩ ⟨bd,0,none⟩ (.slice (some ⟨g,0,none⟩) (i+1) cap) (fun e=>HNE.out.2.2.2.2 (by simpa using congrArg Addr.block e.symm))).trans (HG.out _ kw5).1
     have hqY:=(k7.block q hr5.lt (fun e=>HNE.out.2.2.2.1 e.symm)).trans hr5.row
     have hvx7:=hva.1.keep (fun b hb=>k7.block b (hva.1.lt b hb).2 (fun e=>by have:=(hva.1.lt b hb).1;have:=(gl HOB.out);omega))
     refine stepT (i:=12) rfl (by rfl) (fun K5 h5=>?_)
     go_simp
     change K5 _ (w5.setCell ⟨bv,3,none⟩ (.slice (some ⟨g,0,none⟩) (i+1) cap))
     generalize (w5.setCell ⟨bv,3,none⟩ (.slice (some ⟨g,0,none⟩) (i+1) cap)) = w6 at *
     refine h5.out _ _ ((HSD.out _ _).2 ⟨hcd7,fun h=>absurd h (by decide),fun h=>absurd h (by decide)⟩) ?_
     clear h5
     try simp only [Act.put,sA,sB,sC]
     obtain ⟨g3,cap3,hs3,hth3,_,_,F3,hvo3⟩:=hpush w5 _ hA w6 xv _ Fx (fun j=>j = bv) k7 (fun b h=>by subst h;exact (gl HOB.out)) hvx7 hdj hva.2
     cases hs3
     refine wpAnyT_all (rs:=[10]) (by kernel_rfl) (by simp) ?_
     intro i5 hi5
     simp only [List.mem_cons,List.not_mem_nil,or_false] at hi5
     subst hi5
     refine stepT (i:=10) rfl (by rfl) (fun K5 h5=>?_)
     refine wp_store_midN 25 (.tmp 39) (.tmp 35) rfl rfl g (i * 5) #[.int .i64 xv.kind,.int .u64 xv.num,.string xv.text,.slice qs xv.list.length ds,.int .i64 xv.elem] rfl rfl hth3 (by as_aux_lemma=>kernel_rfl) (by simp [Value.oneCell']) ?_
     have kw7:KeepF (fun j=>w.heap.size <= j) w6 (w6.setCells g (i * 5) (vcells xv (.slice qs xv.list.length ds))):=(KeepF.refl _ _).setCells (F:=fun j=>w.heap.size <= j) hBg _ _
     change K5 _ (w6.setCells g (i * 5) (vcells xv (.slice qs xv.list.length ds)))
     generalize (w6.setCells g (i * 5) (vcells xv (.slice qs xv.list.length ds))) = w7 at *
     have hcd8:=kw7.cell hcd7 (fun h=>absurd (World.block_lt_of_cell? w _ HCD.out) (Nat.not_lt.2 h))
     have hqZ:=(kw7.block q (gl hqY) (by omega)).trans hqY
     have hbZ:=(kw7.block bv (gl hb7) (fun h=>absurd (gl HOB.out) (Nat.not_lt.2 h))).trans hb7
     refine h5.out _ _ ((HSD.out _ _).2 ⟨hcd8,fun h=>absurd h (by decide),fun h=>absurd h (by decide)⟩) ?_
     clear h5
     try simp only [Act.put,sA,sB,sC]
     have kZ:KeepF (fun j=>j = q ∨ w.heap.size <= j ∨ j = bv) wr w7:=((kw5.wide (fun j h=>by rcases h with h|h;exact .inl h;exact .inr (.inl h))).trans (k7.wide (fun j h=>.inr (.inr h)))).trans (kw7.wide (fun j h=>.inr (.inl h)))
     have hvoZ:=hvo3
     clear bv3 fz6 k7 hb7 hcd7 hcd8 hb6 hqY hvx7 hvo3 kw7
     have hls:=els_snoc ST.out.els (by rw [sOf_drop' ST.out.ea];exact hx)
     have kwZ:=ST.out.keep.on (H:=fun j=>j = q ∨ w.heap.size <= j ∨ j = bv) kZ (fun j hj h=>by rcases h with h|h|h;exact .inl h;exact absurd hj (by omega);exact .inr h)
     have hrZ:RdIn w7 q p n cp a4 en sz B:=⟨hqZ,(HSRC.out.1.keep (kwZ.wide (fun j h=>by rcases h with h|h;exact h ▸ HSRC.out.2.2;exact h ▸ HSRC.out.2.1))).up HSRC.out.2.2,hr5.ha,hr5.hen,hr5.hn⟩
     have HST:=zH (show SpSt w w7 q bv p n cp a2 en sz K 0 B rv (i+1) (l ++ [xv]) (k+k2) a4 (.slice (some ⟨g,0,none⟩) (i+1) cap) F3 from ⟨kwZ,by have:=ST.out.ea;omega,hrZ,hbZ,hvoZ,hls⟩)
     refine wpAnyT_done (by kernel_rfl) ?_ _
     change Exit.inBlock _ _ _ _ w7
     clear hx hvx hpush hA hxs hvo2 hvoZ hbZ hqZ kwZ kZ hrZ hls oz hdj hva
     clear hlt
     have hNb:(N:Int) <= 4294967296:=Int.ofNat_le.2 (Nat.le_of_lt HNB.out)
     have hlt:(i:Int) < N:=Int.ofNat_lt.2 HLT.out
     go_wp2_with fail
     go_roundw
     case rel=>exact ⟨i+1,_,_,_,_,_,HLT.out,by go_num,HST.out⟩
     case measure=>simp [intOf];omega
   ·refine stepT (i:=7) rfl (by rfl) (fun K5 h5=>?_)
    refine wp_build1 (some 37) rfl _ rfl _ _ _ _ _ rfl ?_
    have hbz:Below wr.drew.heap.size wr.drew (wr.drew.alloc (.cells zR 25)):=(Below.refl wr.drew.heap.size wr.drew).alloc (Nat.le_refl _) _
    have oz:(wr.drew.alloc (.cells zR 25)).heap[wr.drew.heap.size]? = some (.cells zR 25 (0,0)):=zN _ _
    generalize (wr.drew.alloc (.cells zR 25)) = w2 at *
    obtain ⟨z,hz⟩:∃ z,wr.drew.heap.size = z:=⟨_,rfl⟩
    rw [hz] at oz ⊢
    have kw2:=k0.trans (KeepF.of_below (F:=fun j=>j = q ∨ w.heap.size <= j) hbz)
    have hqkw2:=(hbz.block q (gl hqk0)).trans hqk0
    refine h5.out _ _ ((HSD.out _ _).2 ⟨(HG.out _ kw2).1,fun _=>(cell_of_row _ _ 3 _ _ _ (HG.out _ kw2).2).trans rfl,fun _=>hqkw2⟩) ?_
    clear h5
    try simp only [Act.put,sA,sB,sC]
    have kq2:=(KeepF.of_below (F:=fun g=>g = q) (bdrew (Below.refl wr.heap.size wr))).trans (KeepF.of_below (F:=fun g=>g = q) hbz)
    have hr2:=(ST.out.row.blw (bdrew (Below.refl wr.heap.size wr))).blw hbz
    refine wpAnyT_all (rs:=[5]) (by kernel_rfl) (by simp) ?_
    intro i5 hi5
    simp only [List.mem_cons,List.not_mem_nil,or_false] at hi5
    subst hi5
    refine stepT (i:=5) rfl (by rfl) (fun K5 h5=>?_)
    go_simp
    (with_reducible refine (HVV.out a3 _ hr2).mono ?_)
    rintro e w3 hto
    rcases hx:rv (sOf B a3 en) with y|⟨xv,k2⟩
    ·rw [hx] at hto
     obtain ⟨rfl,hk2⟩:=hto
     have hko:=ST.out.keep.on (kw2.trans (hk2.wide (fun j h=>.inl h))) (fun j hj h=>by rcases h with h|h;exact .inl h;exact absurd hj (by omega))
     have hel:=els_err ST.out.els (by rw [sOf_drop' ST.out.ea];exact hx) HLT.out
     unfold faultE
     dsimp only
     go_wp2_with fail
     refine ⟨rfl,?_⟩
     show SpTo w q bv p n cp a2 en sz own K 0 (spC rv N (sOf B a2 en) (en - a2)) _ _
     unfold spC
     rw [hel]
     exact ⟨faultE_shift ST.out.ea y,hko⟩
    rw [hx] at hto
    obtain ⟨st,Fx,rfl,hvx,hmx⟩:=hto
    obtain ⟨qs,ds,hst,_,_⟩:=hvx.slice
    subst hst
    have kw3:=kw2.trans (hmx.keep.wide (fun j h=>Or.inl (b:=w.heap.size <= j) h))
    refine h5.out _ _ ((HSD.out _ _).2 ⟨(HG.out _ kw3).1,fun _=>(cell_of_row _ _ 3 _ _ _ (HG.out _ kw3).2).trans rfl,fun h=>absurd h (by decide)⟩) ?_
    clear h5
    try simp only [Act.put,sA,sB,sC]
    obtain ⟨a4,ha4⟩:∃ a4,a3+k2 = a4:=⟨_,rfl⟩
    have hk2n:=HLE.out _ _ _ hx
    rw [sOf_len (by have:=ST.out.row.hen;have:=ST.out.row.len;omega)] at hk2n
    have ha4e:a4 <= en:=by have:=ST.out.row.ha;omega
    rw [ha4] at hmx
    have hr3:=hr2.mv hmx ha4e
    have kq3:=kq2.trans hmx.keep
    have oz3:=(hmx.keep.block z (gl oz) (fun e=>by have:=ST.out.row.lt;have e2:wr.drew.heap.size = wr.heap.size:=rfl;omega)).trans oz
    have vow3:=ST.out.vo.keep (fun b hb=>kq3.block b (ST.out.vo.lt b hb).2 (fun e=>by have:=(ST.out.vo.lt b hb).1;omega))
    refine wpAnyT_all (rs:=[8]) (by kernel_rfl) (by simp) ?_
    intro i5 hi5
    simp only [List.mem_cons,List.not_mem_nil,or_false] at hi5
    subst hi5
    refine stepT (i:=8) rfl (by rfl) (fun K5 h5=>?_)
    obtain ⟨i0,hi,hz0,hz1,hz2⟩:=info_partsV info_val
    obtain ⟨xs,hxs,hpush⟩:=VO.two (v:=V.mk K 0 ⟨#[]⟩ [] 0) (l:=l) vow3 (Nat.le_trans ST.out.keep.size kw3.size)
    rw [HL.out] at hxs hpush
    refine wp_append_twoN w3 (some 38) rfl (.tmp 31) (.tmp 37) 23 rfl w.heap.size 25 _ _ 5 64 underlying23 hi hz0 hz1 hz2 rfl _ i xs rfl hxs ⟨z,0,none⟩ 1 [.int .i64 0,.int .u64 0,.string ⟨#[]⟩,.slice none 0 0,.int .i64 0] rfl rfl (fun j u hj=>row_cells oz3 hj) (by simp [Value.oneCell']) (by have:=HNB.out;unfold maxLen;omega) (by have:=HNB.out;omega) ?_
    intro s1 w5 hA
    have kAw5:KeepF (fun j=>w.heap.size <= j) w3 w5:=⟨hA.grown.os,hA.grown.tape,hA.grown.output,hA.grown.size,fun j hj hn=>hA.grown.block j hj (fun e=>hn ((vow3.lt j (vow3.own e.symm)).1))⟩
    have kw5:=kw3.trans (kAw5.wide (fun j h=>Or.inr (a:=j = q) h))
    refine h5.out _ _ ((HSD.out _ _).2 ⟨(HG.out _ kw5).1,fun _=>(cell_of_row _ _ 3 _ _ _ (HG.out _ kw5).2).trans rfl,fun h=>absurd h (by decide)⟩) ?_
    clear h5
    try simp only [Act.put,sA,sB,sC]
    have hvx3:=hvx.mono (show w.heap.size <= w2.heap.size from Nat.le_trans ST.out.keep.size kq2.size)
    have hva:=hA.vo hvx3 (fun b hb hf=>by have q1:=(ST.out.vo.lt b (ST.out.vo.own hb)).2;have q2:=(hvx.lt b hf).1;have q3:=kq2.size;omega)
    have hr5:=hr3.on kAw5 (fun j h=>by omega)
    have hdj:∀ b,F b -> ¬ Fx b:=(fun b (hb:F b) (hf:Fx b)=>absurd (ST.out.vo.lt b hb).2 (Nat.not_lt.2 (Nat.le_trans kq2.size (hvx.lt b hf).1)))
    obtain ⟨g,cap,rfl,hth,hBg,_,F2,hvo2⟩:=hpush w5 s1 hA w5 xv _ Fx (fun _=>False) (KeepF.refl _ _) (fun b h=>h.elim) hva.1 hdj hva.2
    refine tkT (i:=9) (v:=.pointer (some ⟨g,i * 5,none⟩)) (some 39) [] rfl rfl (by kernel_rfl) (fun _ _ _ h=>h) (fun m W _ _ h=>(HSD.out _ _).2 ⟨((HSD.out _ _).1 h).1,((HSD.out _ _).1 h).2.1.set (by decide),((HSD.out _ _).1 h).2.2.set (by decide)⟩) (Or.inl ⟨by rfl,by rintro V ⟨m,hm,h9⟩;have h0:=(HSD.out _ _).1 h9;go_simp;intro h9;omega⟩) ((HSD.out _ _).2 ⟨(HG.out _ kw5).1,fun _=>(cell_of_row _ _ 3 _ _ _ (HG.out _ kw5).2).trans rfl,fun h=>absurd h (by decide)⟩) ?_
    try simp only [Act.put,sA,sB,sC]
    refine tkT (i:=11) (v:=.pointer (some ⟨bv,3,none⟩)) (some 40) [] rfl rfl (by kernel_rfl) (fun _ _ _ h=>h) (fun m W _ _ h=>(HSD.out _ _).2 ⟨((HSD.out _ _).1 h).1,((HSD.out _ _).1 h).2.1.set (by decide),((HSD.out _ _).1 h).2.2.set (by decide)⟩) (Or.inl ⟨by rfl,by rintro V ⟨m,hm,h9⟩;have h0:=(HSD.out _ _).1 h9;go_simp⟩) ((HSD.out _ _).2 ⟨(HG.out _ kw5).1,fun _=>(cell_of_row _ _ 3 _ _ _ (HG.out _ kw5).2).trans rfl,fun h=>absurd h (by decide)⟩) ?_
    try simp only [Act.put,sA,sB,sC]
    refine wpAnyT_all (rs:=[10,12]) (by kernel_rfl) (by simp) ?_
    intro i5 hi5
    simp only [List.mem_cons,List.not_mem_nil,or_false] at hi5
    rcases hi5 with rfl|rfl
    ·refine stepT (i:=10) rfl (by rfl) (fun K5 h5=>?_)
     refine wp_store_midN 25 (.tmp 39) (.tmp 35) rfl rfl g (i * 5) #[.int .i64 xv.kind,.int .u64 xv.num,.string xv.text,.slice qs xv.list.length ds,.int .i64 xv.elem] rfl rfl hth (by as_aux_lemma=>kernel_rfl) (by simp [Value.oneCell']) ?_
     have kw6:KeepF (fun j=>w.heap.size <= j) w5 (w5.setCells g (i * 5) (vcells xv (.slice qs xv.list.length ds))):=(KeepF.refl _ _).setCells (F:=fun j=>w.heap.size <= j) hBg _ _
     change K5 _ (w5.setCells g (i * 5) (vcells xv (.slice qs xv.list.length ds)))
     generalize (w5.setCells g (i * 5) (vcells xv (.slice qs xv.list.length ds))) = w6 at *
     have kr6:=kw5.trans (kw6.wide (fun j h=>Or.inr (a:=j = q) h))
     have hq6:=(kw6.block q hr5.lt (by omega)).trans hr5.row
     refine h5.out _ _ ((HSD.out _ _).2 ⟨(HG.out _ kr6).1,fun _=>(cell_of_row _ _ 3 _ _ _ (HG.out _ kr6).2).trans rfl,fun h=>absurd h (by decide)⟩) ?_
     clear h5
     try simp only [Act.put,sA,sB,sC]
     have hb6:=(HG.out _ kr6).2
     have bv3:w6.cell? ⟨bv,3,none⟩ = some (.slice ps i cs):=(cell_of_row _ _ 3 _ _ _ hb6).trans rfl
     have fz6:w6.frozen? ⟨bv,3,none⟩ = false:=by simp [World.frozen?,hb6]
     have k7:KeepF (fun j=>j = bv) w6 (w6.setCell ⟨bv,3,none⟩ (.slice (some ⟨g,0,none⟩) (i+1) cap)):=⟨rfl,rfl,rfl,by simp,fun j hj hne=>set_farV hne⟩
     have hb7:=heap_setCell_same w6 bv 3 _ _ (.slice (some ⟨g,0,none⟩) (i+1) cap) hb6
     have hcd7:=(World.cell?_setCell_other w6 ⟨bv,3,none⟩ ⟨bd,0,none⟩ (.slice (some ⟨g,0,none⟩) (i+1) cap) (fun e=>HNE.out.2.2.2.2 (by simpa using congrArg Addr.block e.symm))).trans (HG.out _ kr6).1
     have hqZ:=(k7.block q (gl hq6) (fun e=>HNE.out.2.2.2.1 e.symm)).trans hq6
     refine wpAnyT_all (rs:=[12]) (by kernel_rfl) (by simp) ?_
     intro i5 hi5
     simp only [List.mem_cons,List.not_mem_nil,or_false] at hi5
     subst hi5
     refine stepT (i:=12) rfl (by rfl) (fun K5 h5=>?_)
     go_simp
     change K5 _ (w6.setCell ⟨bv,3,none⟩ (.slice (some ⟨g,0,none⟩) (i+1) cap))
     generalize (w6.setCell ⟨bv,3,none⟩ (.slice (some ⟨g,0,none⟩) (i+1) cap)) = w7 at *
     refine h5.out _ _ ((HSD.out _ _).2 ⟨hcd7,fun h=>absurd h (by decide),fun h=>absurd h (by decide)⟩) ?_
     clear h5
     try simp only [Act.put,sA,sB,sC]
     have kZ:KeepF (fun j=>j = q ∨ w.heap.size <= j ∨ j = bv) wr w7:=(kr6.wide (fun j h=>by rcases h with h|h;exact .inl h;exact .inr (.inl h))).trans (k7.wide (fun j h=>.inr (.inr h)))
     have hvoZ:=hvo2.keep (fun b hb=>k7.block b (hvo2.lt b hb).2 (fun e=>by have:=(hvo2.lt b hb).1;have:=(gl HOB.out);omega))
     have hbZ:=hb7
     clear bv3 fz6 k7 hb7 hcd7 hb6 hq6 kr6 kw6
     have hls:=els_snoc ST.out.els (by rw [sOf_drop' ST.out.ea];exact hx)
     have kwZ:=ST.out.keep.on (H:=fun j=>j = q ∨ w.heap.size <= j ∨ j = bv) kZ (fun j hj h=>by rcases h with h|h|h;exact .inl h;exact absurd hj (by omega);exact .inr h)
     have hrZ:RdIn w7 q p n cp a4 en sz B:=⟨hqZ,(HSRC.out.1.keep (kwZ.wide (fun j h=>by rcases h with h|h;exact h ▸ HSRC.out.2.2;exact h ▸ HSRC.out.2.1))).up HSRC.out.2.2,hr5.ha,hr5.hen,hr5.hn⟩
     have HST:=zH (show SpSt w w7 q bv p n cp a2 en sz K 0 B rv (i+1) (l ++ [xv]) (k+k2) a4 (.slice (some ⟨g,0,none⟩) (i+1) cap) F2 from ⟨kwZ,by have:=ST.out.ea;omega,hrZ,hbZ,hvoZ,hls⟩)
     refine wpAnyT_done (by kernel_rfl) ?_ _
     change Exit.inBlock _ _ _ _ w7
     clear hx hvx hpush hA hxs hvo2 hvoZ hbZ hqZ kwZ kZ hrZ hls oz oz3 hdj hva
     clear hlt
     have hNb:(N:Int) <= 4294967296:=Int.ofNat_le.2 (Nat.le_of_lt HNB.out)
     have hlt:(i:Int) < N:=Int.ofNat_lt.2 HLT.out
     go_wp2_with fail
     go_roundw
     case rel=>exact ⟨i+1,_,_,_,_,_,HLT.out,by go_num,HST.out⟩
     case measure=>simp [intOf];omega
    ·have hb6:=(HG.out _ kw5).2
     have bv3:w5.cell? ⟨bv,3,none⟩ = some (.slice ps i cs):=(cell_of_row _ _ 3 _ _ _ hb6).trans rfl
     have fz6:w5.frozen? ⟨bv,3,none⟩ = false:=by simp [World.frozen?,hb6]
     have k7:KeepF (fun j=>j = bv) w5 (w5.setCell ⟨bv,3,none⟩ (.slice (some ⟨g,0,none⟩) (i+1) cap)):=⟨rfl,rfl,rfl,by simp,fun j hj hne=>set_farV hne⟩
     have hb7:=heap_setCell_same w5 bv 3 _ _ (.slice (some ⟨g,0,none⟩) (i+1) cap) hb6
     have hcd7:=(World.cell?_setCell_other w5 ⟨bv,3,none⟩ ⟨bd,0,none⟩ (.slice (some ⟨g,0,none⟩) (i+1) cap) (fun e=>HNE.out.2.2.2.2 (by simpa using congrArg Addr.block e.symm))).trans (HG.out _ kw5).1
     have hqY:=(k7.block q hr5.lt (fun e=>HNE.out.2.2.2.1 e.symm)).trans hr5.row
     have hvx7:=hva.1.keep (fun b hb=>k7.block b (hva.1.lt b hb).2 (fun e=>by have:=(hva.1.lt b hb).1;have:=(gl HOB.out);omega))
     refine stepT (i:=12) rfl (by rfl) (fun K5 h5=>?_)
     go_simp
     change K5 _ (w5.setCell ⟨bv,3,none⟩ (.slice (some ⟨g,0,none⟩) (i+1) cap))
     generalize (w5.setCell ⟨bv,3,none⟩ (.slice (some ⟨g,0,none⟩) (i+1) cap)) = w6 at *
     refine h5.out _ _ ((HSD.out _ _).2 ⟨hcd7,fun h=>absurd h (by decide),fun h=>absurd h (by decide)⟩) ?_
     clear h5
     try simp only [Act.put,sA,sB,sC]
     obtain ⟨g3,cap3,hs3,hth3,_,_,F3,hvo3⟩:=hpush w5 _ hA w6 xv _ Fx (fun j=>j = bv) k7 (fun b h=>by subst h;exact (gl HOB.out)) hvx7 hdj hva.2
     cases hs3
     refine wpAnyT_all (rs:=[10]) (by kernel_rfl) (by simp) ?_
     intro i5 hi5
     simp only [List.mem_cons,List.not_mem_nil,or_false] at hi5
     subst hi5
     refine stepT (i:=10) rfl (by rfl) (fun K5 h5=>?_)
     refine wp_store_midN 25 (.tmp 39) (.tmp 35) rfl rfl g (i * 5) #[.int .i64 xv.kind,.int .u64 xv.num,.string xv.text,.slice qs xv.list.length ds,.int .i64 xv.elem] rfl rfl hth3 (by as_aux_lemma=>kernel_rfl) (by simp [Value.oneCell']) ?_
     have kw7:KeepF (fun j=>w.heap.size <= j) w6 (w6.setCells g (i * 5) (vcells xv (.slice qs xv.list.length ds))):=(KeepF.refl _ _).setCells (F:=fun j=>w.heap.size <= j) hBg _ _
     change K5 _ (w6.setCells g (i * 5) (vcells xv (.slice qs xv.list.length ds)))
     generalize (w6.setCells g (i * 5) (vcells xv (.slice qs xv.list.length ds))) = w7 at *
     have hcd8:=kw7.cell hcd7 (fun h=>absurd (World.block_lt_of_cell? w _ HCD.out) (Nat.not_lt.2 h))
     have hqZ:=(kw7.block q (gl hqY) (by omega)).trans hqY
     have hbZ:=(kw7.block bv (gl hb7) (fun h=>absurd (gl HOB.out) (Nat.not_lt.2 h))).trans hb7
     refine h5.out _ _ ((HSD.out _ _).2 ⟨hcd8,fun h=>absurd h (by decide),fun h=>absurd h (by decide)⟩) ?_
     clear h5
     try simp only [Act.put,sA,sB,sC]
     have kZ:KeepF (fun j=>j = q ∨ w.heap.size <= j ∨ j = bv) wr w7:=((kw5.wide (fun j h=>by rcases h with h|h;exact .inl h;exact .inr (.inl h))).trans (k7.wide (fun j h=>.inr (.inr h)))).trans (kw7.wide (fun j h=>.inr (.inl h)))
     have hvoZ:=hvo3
     clear bv3 fz6 k7 hb7 hcd7 hcd8 hb6 hqY hvx7 hvo3 kw7
     have hls:=els_snoc ST.out.els (by rw [sOf_drop' ST.out.ea];exact hx)
     have kwZ:=ST.out.keep.on (H:=fun j=>j = q ∨ w.heap.size <= j ∨ j = bv) kZ (fun j hj h=>by rcases h with h|h|h;exact .inl h;exact absurd hj (by omega);exact .inr h)
     have hrZ:RdIn w7 q p n cp a4 en sz B:=⟨hqZ,(HSRC.out.1.keep (kwZ.wide (fun j h=>by rcases h with h|h;exact h ▸ HSRC.out.2.2;exact h ▸ HSRC.out.2.1))).up HSRC.out.2.2,hr5.ha,hr5.hen,hr5.hn⟩
     have HST:=zH (show SpSt w w7 q bv p n cp a2 en sz K 0 B rv (i+1) (l ++ [xv]) (k+k2) a4 (.slice (some ⟨g,0,none⟩) (i+1) cap) F3 from ⟨kwZ,by have:=ST.out.ea;omega,hrZ,hbZ,hvoZ,hls⟩)
     refine wpAnyT_done (by kernel_rfl) ?_ _
     change Exit.inBlock _ _ _ _ w7
     clear hx hvx hpush hA hxs hvo2 hvoZ hbZ hqZ kwZ kZ hrZ hls oz oz3 hdj hva
     clear hlt
     have hNb:(N:Int) <= 4294967296:=Int.ofNat_le.2 (Nat.le_of_lt HNB.out)
     have hlt:(i:Int) < N:=Int.ofNat_lt.2 HLT.out
     go_wp2_with fail
     go_roundw
     case rel=>exact ⟨i+1,_,_,_,_,_,HLT.out,by go_num,HST.out⟩
     case measure=>simp [intOf];omega
  have hiN2:i = N:=by omega
  have HEL:=zH (show els rv N (sOf B a2 en) = .ok (l,k) from hiN2 ▸ ST.out.els)
  by_cases ho:a3 < en
  ·have HOV:=zH (show ∀ W,RdIn W q p n cp a3 en sz B -> Calls prog 109 #[.pointer (some ⟨q,0,none⟩)] W fun e w'=>e = faultE sz 32∧Below W.heap.size W w' from fun W hW=>over_bad W q p n cp a3 en sz hW.row ho)
   have HO:=zH ho
   clear hiN2 ho
   go_wp2_with fail
   refine (HOV.out _ ST.out.row).mono ?_
   rintro e w8 ⟨rfl,hb8⟩
   refine ⟨rfl,?_⟩
   show SpTo w q bv p n cp a2 en sz own K 0 (spC rv N (sOf B a2 en) (en - a2)) _ _
   unfold spC
   rw [HEL.out]
   dsimp only
   rw [if_pos (by have:=HO.out;have:=ST.out.ea;omega)]
   refine ⟨?_,ST.out.keep.on (H:=fun _=>False) (KeepF.of_below hb8) (fun j _ h=>h.elim)⟩
   show faultE sz 32 = faultE (shP n sz) (shC sz)
   unfold shP shC
   rw [if_neg (Int.not_lt.2 HSZ.out),if_neg (Int.not_lt.2 HSZ.out)]
  have HOV:=zH (show ∀ W,RdIn W q p n cp a3 en sz B -> Calls prog 109 #[.pointer (some ⟨q,0,none⟩)] W fun e w'=>e = .returned (.tuple #[])∧Below W.heap.size W w' from fun W hW=>over_ok W q p n cp a3 en sz hW.row ho)
  have HO:=zH ho
  clear hiN2 ho
  go_wp2_with fail
  refine (HOV.out _ ST.out.row).mono ?_
  rintro e w8 ⟨rfl,hb8⟩
  have HB8:=zH hb8
  clear hb8
  go_wp2_with fail
  go_end0
  show SpTo w q bv p n cp a2 en sz own K 0 (spC rv N (sOf B a2 en) (en - a2)) _ _
  unfold spC
  rw [HEL.out]
  dsimp only
  rw [if_neg (by have:=HO.out;have:=ST.out.ea;have:=ST.out.row.ha;omega)]
  refine ⟨rfl,ST.out.keep.on (H:=fun _=>False) (KeepF.of_below HB8.out) (fun j _ h=>h.elim),⟨_,F,ST.out.vo.blw HB8.out,(HB8.out.block bv (gl ST.out.box)).trans ST.out.box⟩,?_⟩
  rw [ST.out.ea]
  exact (HB8.out.block q ST.out.row.lt).trans ST.out.row.row
def clos_list:=fun w q bw bk bo bv bd p n cp a en sz own B h wd K d h1 h4 N a2 hN ha2 hae cw ck co cd ob hne r hsr hrb hrq hsz hwf hwd rv hle hv=>(mrg_clos_list w q bw bk bo bv bd p n cp a en sz own B h wd K d h1 h4 N a2 hN ha2 hae cw ck co cd ob hne r hsr hrb hrq hsz hwf hwd rv hle hv).1
def clos_map:=fun w q bw bk bo bv bd p n cp a en sz own B h wd K d h1 h4 N a2 hN ha2 hae cw ck co cd ob hne r hsr hrb hrq hsz hwf hwd rv hle hv=>(mrg_clos_list w q bw bk bo bv bd p n cp a en sz own B h wd K d h1 h4 N a2 hN ha2 hae cw ck co cd ob hne r hsr hrb hrq hsz hwf hwd rv hle hv).2
end Go.Proofs.YtnnnfhobbnjmfaaGreatDoor
