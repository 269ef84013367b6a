/-
  Lemmas on the codec. Conditions: as each says.
-/
import Derived.Test.YtnnnfhobbnjmfaaGreatDoorWn35
namespace Go.Proofs.YtnnnfhobbnjmfaaGreatDoor
open Go.RowKit Go.Proofs.Tryz
set_option linter.all false
set_option maxHeartbeats 40000000
set_option maxRecDepth 20000

attribute [local go_sem] Oper.semAt_some

structure SpR (w wk:World) (x y qb z:Nat) (px qx:Array Value) (K el:Int) (l:List V) (s:Value) (F:Nat -> Prop):Prop where
 fr:Fr w wk x y px
 rq:wk.heap[qb]? = some (.cells qx 94 (0,0))
 hq:y < qb
 rz:wk.heap[z]? = some (.cells #[.int .i64 K,.int .u64 0,.string ⟨#[]⟩,s,.int .i64 el] 25 (0,0))
 hz:qb < z
 vo:VO wk (z+1) (V.mk K 0 ⟨#[]⟩ l el) s F
section
variable {w wk w2:World} {x y qb z:Nat} {px qx:Array Value} {K el:Int} {l:List V} {s:Value} {F:Nat -> Prop}
theorem SpR.lt (h:SpR w wk x y qb z px qx K el l s F):z < wk.heap.size:=(gl h.rz)
theorem SpR.next (h:SpR w wk x y qb z px qx K el l s F) (hb:Below wk.heap.size wk w2):SpR w w2 x y qb z px qx K el l s F :=
 ⟨h.fr.next hb,(hb.block qb (Nat.lt_trans h.hz h.lt)).trans h.rq,h.hq,(hb.block z h.lt).trans h.rz,h.hz,h.vo.blw hb⟩
theorem SpR.push (h:SpR w wk x y qb z px qx K el l s F) {xv:V} {t:Value} {Fx:Nat -> Prop} (hx:VO wk (z+1) xv t Fx) (hdj:∀ b,F b -> ¬ Fx b) :
  ∃ xs,wk.ownsRow (z+1) 25 5 s l.length xs∧∀ w9 s',App1 wk w9 (z+1) 25 5 l.length s s' (xs ++ vcells xv t) →
   w9.heap[z]? = some (.cells #[.int .i64 K,.int .u64 0,.string ⟨#[]⟩,s,.int .i64 el] 25 (0,0))∧∃ F',SpR w (w9.setCell ⟨z,3,none⟩ s') x y qb z px qx K el (l ++ [xv]) s' F':=by
 have hlt:=h.lt
 obtain ⟨xs,hrow,hp⟩:=VO.push (v:=V.mk K 0 ⟨#[]⟩ [] el) (l:=l) h.vo hx hdj hlt
 refine ⟨xs,hrow,fun w9 s' hA=>?_⟩
 obtain ⟨F',hvo,_⟩:=hp w9 s' hA
 have hg:=hA.grown
 have hlo:∀ k,s.ownBlock = some k -> z+1 <= k:=fun k e=>(hrow.lt k e).1
 have hblk:∀ k,k <= z -> w9.heap[k]? = wk.heap[k]?:=fun k hk=>hg.block k (by omega) (fun e=>by have:=hlo k e.symm;omega)
 have hz9:=(hblk z (Nat.le_refl _)).trans h.rz
 have hxy:=h.fr.hxy
 have hyq:=h.hq
 have hqz:=h.hz
 have hwx:=h.fr.hx
 have hf:Fr w w9 x y px:=⟨h.fr.blw.grown hg (by omega) (fun k hk=>by have:=hlo k hk;omega),(hblk x (by omega)).trans h.fr.part,(hblk y (by omega)).trans h.fr.res,h.fr.hx,h.fr.hxy⟩
 exact ⟨hz9,F',hf.setz (by omega) 3 s',(set_farV (by omega)).trans ((hblk qb (by omega)).trans h.rq),hyq,heap_setCell_same w9 z 3 _ _ s' hz9,hqz,VO.keep hvo (fun b hb=>set_farV (by have:=(hvo.lt b hb).1;omega))⟩
end
theorem ans_span {n at_ wd2 k a:Nat} {sz own:Int} {y:Er} (ha:a = at_+wd2+k):ansR n (at_:Int) own a (.error y) = ansR n sz own at_ (.error (spanE wd2 (shiftE k y))):=by
 subst ha
 cases y with
 | short =>
  have h1:shP n (at_:Int) = at_:=by unfold shP;rw [if_neg (by omega)]
  have h2:shC (at_:Int) = 32:=by unfold shC;rw [if_neg (by omega)]
  show (zeroV,shP n (at_:Int),shC (at_:Int)) = (zeroV,((at_+0:Nat):Int),(32:Int))
  rw [h1,h2,Nat.add_zero]
 | own e=>rfl
 | pl r e =>
  show (zeroV,((at_+wd2+k+r:Nat):Int),e.1) = (zeroV,((at_+(r+k+wd2):Nat):Int),e.1)
  rw [show at_+wd2+k+r = at_+(r+k+wd2) by omega]
theorem erC_ne (sz:Int) (y:Er):erC sz y ≠ 0:=by
 cases y with
 | short=>show shC sz ≠ 0;unfold shC;split <;> decide
 | own e=>exact e.2
 | pl r e=>exact e.2
def RdC (fn:Nat) (p:Option Addr) (n cp:Nat) (B:List UInt8) (d:Int) (rv:List UInt8 -> Res):Prop :=
 ∀ (W:World) (a e:Nat) (sz own:Int),PIn W p n cp a e B -> Calls prog fn #[.agg #[.slice p n cp,.int .i64 (e:Nat),.int .i64 sz],.int .i64 (a:Nat),.int .i64 d] W fun e2 w'=>RTo W (ansR n sz own a (rv (sOf B a e))) e2 w'
theorem results_rspanv (tmps:Array Value) (w:World) (x:Nat) (cs:Array Value) (hx:tmps.getD 10 undef = .pointer (some ⟨x,0,none⟩)) (rx:w.heap[x]? = some (.cells cs 25 (0,0))) (hs:cs.size = 5) :
  (results Tryz.f113 tmps).run prog w = .ok (.tuple #[.agg cs,tmps.getD 11 undef,tmps.getD 12 undef]) w:=by
 have hx':tmps[10]?.getD undef = .pointer (some ⟨x,0,none⟩):=by simpa using hx
 have h1:=run_loadVar_row (P:=prog) w x 25 25 cs (0,0) _ rx underlying25 rfl (by rw [hs];as_aux_lemma=>kernel_rfl)
 simp [results,results113,hx',asAddr,h1]
theorem rsp_err (w:World) (p:Option Addr) (n cp at_ en:Nat) (sz own:Int) (B:List UInt8) (h:PIn w p n cp at_ en B) (c wd:Nat) (d:Int) (hc:c < 256) (hk:0 <= kindC c) (h10:10 <= c / 16) (hwd:wOf c = wd) (pl ec:Int) (hne:ec ≠ 0)
  (hsp:∀ W,PIn W p n cp at_ en B -> Calls prog 131 #[.agg #[.slice p n cp,.int .i64 (en:Nat),.int .i64 sz],.int .i64 (at_:Nat),.int .i64 (wd:Nat),.int .i64 (wd:Nat)] W fun e w'=>e = .returned (.tuple #[.agg #[.slice none 0 0,.int .i64 0,.int .i64 0],.int .i64 pl,.int .i64 ec])∧Below W.heap.size W w') :
  Calls prog 113 #[.agg #[.slice p n cp,.int .i64 (en:Nat),.int .i64 sz],.int .i64 (c:Int),.int .i64 (at_:Nat),.int .i64 own,.int .i64 d] w fun e w'=>RTo w (zeroV,pl,ec) e w':=by
 have HW:=zH (fun W=>hwd ▸ rwide_any c W hk h10)
 have HSP:=zH hsp
 have HP:=zH h
 have hne1:(ec == 0) = false:=by simpa using hne
 have hne2:(ec != 0) = true:=by simpa using hne
 clear hne hsp h hc hk h10 hwd
 go_enter func113,ntmps113
 go_upto_region 1 with fail
 obtain ⟨w0,x,y,hw,hx,hy,HXY,HF0,x0,x1,x2⟩:=frx w p n cp en sz
 rw [hw,hx,hy]
 clear hw hx hy
 go_wp2_with fail
 refine (HW.out _).mono ?_
 rintro e w1 ⟨rfl,rfl⟩
 go_wp2_with fail
 refine (HSP.out _ (HP.out.blw HF0.out.blw)).mono ?_
 rintro e w1 ⟨rfl,hb1⟩
 have HF1:=zH (HF0.out.next hb1)
 clear hb1 x0 x1 x2
 go_upto_region 3 with (refine wpList_store_rowTo rfl 94 (.tmp 14) (.tmp 32) rfl rfl w1.heap.size #[.slice none 0 0,.int .i64 0,.int .i64 0] rfl rfl 94 #[.slice none 0 0,.int .i64 0,.int .i64 0] (zN w1 _) (by as_aux_lemma=>kernel_rfl) (by as_aux_lemma=>kernel_rfl) (by simp [Value.oneCell']) ?_)
 have hb2:Below w1.heap.size w1 ((w1.alloc (.cells #[.slice none 0 0,.int .i64 0,.int .i64 0] 94)).setRow w1.heap.size #[.slice none 0 0,.int .i64 0,.int .i64 0]):=below_setRow ((Below.refl _ _).alloc (Nat.le_refl _) _) (Nat.le_refl _) _
 have oq:=setRow_heap (w1.alloc (.cells #[.slice none 0 0,.int .i64 0,.int .i64 0] 94)) w1.heap.size _ #[.slice none 0 0,.int .i64 0,.int .i64 0] _ _ (zN w1 _)
 change Code.wp _ _ _ _ ((w1.alloc (.cells #[.slice none 0 0,.int .i64 0,.int .i64 0] 94)).setRow w1.heap.size #[.slice none 0 0,.int .i64 0,.int .i64 0])
 generalize ((w1.alloc (.cells #[.slice none 0 0,.int .i64 0,.int .i64 0] 94)).setRow w1.heap.size #[.slice none 0 0,.int .i64 0,.int .i64 0]) = w2 at *
 have hyq:=HF1.out.lt
 have HF2:=zH (HF1.out.next hb2)
 obtain ⟨qb,hqb⟩:∃ qb,w1.heap.size = qb:=⟨_,rfl⟩
 rw [hqb] at oq hyq ⊢
 have HQ:=zH (And.intro hyq oq)
 clear hb2 hqb hyq oq
 go_wp2_with (refine stV (.tmp 10) (.tmp 37) rfl rfl rfl rfl rfl (HF2.out.res) rfl ?_)
 refine bodyPost_ret (results_rspanv _ _ y zR rfl (HF2.out.row _) rfl) rfl ?_
 exact RTo.zero HF2.out _ _ rfl
theorem mrg_rsp_odd (w:World) (p:Option Addr) (n cp at_ en:Nat) (sz own:Int) (B:List UInt8) (h:PIn w p n cp at_ en B) (c wd:Nat) (d:Int) (hc:c < 256) (hk:0 <= kindC c) (h10:10 <= c / 16) (hwd:wOf c = wd) (hK:kindC c = 22) (a1 a2 e2 N:Nat) (ha1:at_+wd = a1) (ha2:a1+wd = a2) (he2:a2 <= e2) (hee:e2 <= en) (hN:nAt B a1 wd = N) (hsp:∀ W,PIn W p n cp at_ en B -> Calls prog 131 #[.agg #[.slice p n cp,.int .i64 (en:Nat),.int .i64 sz],.int .i64 (at_:Nat),.int .i64 (wd:Nat),.int .i64 (wd:Nat)] W fun e w'=>e = .returned (.tuple #[.agg #[.slice p n cp,.int .i64 (e2:Nat),.int .i64 (at_:Nat)],.int .i64 (a1:Nat),.int .i64 0])∧Below W.heap.size W w'):(∀ (hod:N % 2 ≠ 0),Calls prog 113 #[.agg #[.slice p n cp,.int .i64 (en:Nat),.int .i64 sz],.int .i64 (c:Int),.int .i64 (at_:Nat),.int .i64 own,.int .i64 d] w fun e w'=>RTo w (zeroV,own,34) e w') ∧
  (∀ (hod:N % 2 = 0) (hlg:1024 < N / 2),Calls prog 113 #[.agg #[.slice p n cp,.int .i64 (en:Nat),.int .i64 sz],.int .i64 (c:Int),.int .i64 (at_:Nat),.int .i64 own,.int .i64 d] w fun e w'=>RTo w (zeroV,own,2) e w'):=by
 refine ⟨?_,?_⟩
 intro hod
 rotate_left
 intro hod hlg
 rotate_left
 all_goals
  have HW:=zH (fun W=>hwd ▸ rwide_any c W hk h10)
  have hw14:=wOf_bd c
  rw [hwd] at hw14
  have hhe:=h.hen
  have hhn:=h.hn
  have hle:=h.bytes.le
  have HSP:=zH hsp
  have HP:=zH h
  have hnb:=nAt_lt (B:=B) (at_:=a1) (wd:=wd)
  have hp4:256 ^ wd <= 256 ^ 4:=Nat.pow_le_pow_right (by omega) hw14.2
  have hpp:(256:Nat) ^ 4 = 4294967296:=rfl
  rw [hN] at hnb
  have HNB:=zH (show N < 4294967296 by omega)
  have ib1:(0:Int) <= (a1:Nat):=by omega
  have hadd:IntKind.i64.wrap ((a1:Int)+(wd:Nat)) = (a2:Nat):=by rw [IntWalk.i64_in _ (by omega)];omega
  have ib2:((a1:Nat):Int) <= (a2:Nat):=by omega
  have ib3:((a2:Nat):Int) <= (cp:Nat):=by omega
  have ib4:((a2:Nat):Int) <= 140737488355328:=by omega
  have ib5:a2 - a1 = wd:=by omega
  have hca:¬ cp = a1:=by omega
  have hcv:IntKind.i64.wrap ((N:Nat):Int) = (N:Nat):=IntWalk.i64_in _ (by omega)
  have HN:=zH (show ∀ W,PIn W p n cp at_ en B -> Calls prog 95 #[(.slice (p.map (fun x=>x.add a1)) wd (cp - a1))] W fun e w'=>e = .returned (.int .u64 (N:Nat))∧W = w' from fun W hW=>(rnumber_any W _ _ _ _ (by have hb:=hW.bytes.part a1 wd (by omega);rw [if_neg hca] at hb;exact hb) (by omega)).mono (fun e w' q=>⟨by rw [q.1,← hN];rfl,q.2⟩))
  have HK:=zH (fun W=>hK ▸ rkind_any c W hc)
  have HWF:=zH (show (V.mk 22 0 ⟨#[]⟩ [] 0).Wf from wf_sp (by omega) i64_0)
 have hr:((N:Int) % 2 != 0) = true:=by simp;omega
 clear hod
 rotate_left
 have hr:((N:Int) % 2 != 0) = false:=by simp;omega
 have hr2:decide (1024 < wrap64 ((N:Int) / 2)) = true:=by have:=HNB.out;unfold wrap64;simp;omega
 clear hod hlg
 rotate_left
 all_goals
  clear hN hc hk h10 hwd hle h hnb hp4 hpp hhe hhn ha1 ha2 hw14 hsp he2 hee
  go_enter func113,ntmps113
  go_upto_region 1 with fail
  obtain ⟨w0,x,y,hw,hx,hy,HXY,HF0,x0,x1,x2⟩:=frx w p n cp en sz
  rw [hw,hx,hy]
  clear hw hx hy
  go_wp2_with fail
  refine (HW.out _).mono ?_
  rintro e w1 ⟨rfl,rfl⟩
  go_wp2_with fail
  refine (HSP.out _ (HP.out.blw HF0.out.blw)).mono ?_
  rintro e w1 ⟨rfl,hb1⟩
  have HF1:=zH (HF0.out.next hb1)
  clear hb1 x0 x1 x2
  go_upto_region 3 with (refine wpList_store_rowTo rfl 94 (.tmp 14) (.tmp 32) rfl rfl w1.heap.size #[.slice p n cp,.int .i64 (e2:Nat),.int .i64 (at_:Nat)] rfl rfl 94 #[.slice none 0 0,.int .i64 0,.int .i64 0] (zN w1 _) (by as_aux_lemma=>kernel_rfl) (by as_aux_lemma=>kernel_rfl) (by simp [Value.oneCell']) ?_)
  have hb2:Below w1.heap.size w1 ((w1.alloc (.cells #[.slice none 0 0,.int .i64 0,.int .i64 0] 94)).setRow w1.heap.size #[.slice p n cp,.int .i64 (e2:Nat),.int .i64 (at_:Nat)]):=below_setRow ((Below.refl _ _).alloc (Nat.le_refl _) _) (Nat.le_refl _) _
  have oq:=setRow_heap (w1.alloc (.cells #[.slice none 0 0,.int .i64 0,.int .i64 0] 94)) w1.heap.size _ #[.slice p n cp,.int .i64 (e2:Nat),.int .i64 (at_:Nat)] _ _ (zN w1 _)
  change Code.wp _ _ _ _ ((w1.alloc (.cells #[.slice none 0 0,.int .i64 0,.int .i64 0] 94)).setRow w1.heap.size #[.slice p n cp,.int .i64 (e2:Nat),.int .i64 (at_:Nat)])
  generalize ((w1.alloc (.cells #[.slice none 0 0,.int .i64 0,.int .i64 0] 94)).setRow w1.heap.size #[.slice p n cp,.int .i64 (e2:Nat),.int .i64 (at_:Nat)]) = w2 at *
  have hyq:=HF1.out.lt
  have HF2:=zH (HF1.out.next hb2)
  obtain ⟨qb,hqb⟩:∃ qb,w1.heap.size = qb:=⟨_,rfl⟩
  rw [hqb] at oq hyq ⊢
  have HQ:=zH (And.intro hyq oq)
  clear hb2 hqb hyq oq
  obtain ⟨x0,x1,x2⟩:=c3 HF2.out.part
  go_wp2_with fail
  refine (HN.out _ (HP.out.blw HF2.out.blw)).mono ?_
  rintro e w3 ⟨rfl,rfl⟩
  clear x0 x1 x2
  go_wp2_with fail
  refine (HK.out _).mono ?_
  rintro e w4 ⟨rfl,hb4⟩
  have HF4:=zH (HF2.out.next hb4)
  have HQ4:=zH ((hb4.block qb (gl HQ.out.2)).trans HQ.out.2)
  clear hb4
  go_upto_region 8 with (refine stV (.tmp 18) (.tmp 54) rfl rfl rfl rfl rfl (zN w4 _) rfl ?_)
  refine layW w4 ?_
  intro w5 hb5 oz
  obtain ⟨z,hz⟩:∃ z,w4.heap.size = z:=⟨_,rfl⟩
  have HS5:=zH (show SpR w w5 x y qb z #[.slice p n cp,.int .i64 (en:Nat),.int .i64 sz] #[.slice p n cp,.int .i64 (e2:Nat),.int .i64 (at_:Nat)] 22 0 [] (.slice none 0 0) (fun _=>False) from
   ⟨HF4.out.next hb5,(hb5.block qb (gl HQ4.out)).trans HQ4.out,HQ.out.1,by rw [← hz];exact oz,by rw [← hz];exact (gl HQ4.out),VO.nil _ _ HWF.out rfl⟩)
  rw [hz]
  clear hb5 oz hz
  obtain ⟨z0,z1,z2,z3,z4⟩:=c5 HS5.out.rz
 focus
  go_wp2_with (refine stV (.tmp 10) (.tmp 63) rfl rfl rfl rfl rfl (HS5.out.fr.res) rfl ?_)
 rotate_left
 focus
  go_wp2_with (refine stV (.tmp 10) (.tmp 73) rfl rfl rfl rfl rfl (HS5.out.fr.res) rfl ?_)
 rotate_left
 all_goals
  refine bodyPost_ret (results_rspanv _ _ y zR rfl (HS5.out.fr.row _) rfl) rfl ?_
  exact RTo.zero HS5.out.fr _ _ rfl
def rsp_odd:=fun w p n cp at_ en sz own B h c wd d hc hk h10 hwd hK a1 a2 e2 N ha1 ha2 he2 hee hN hsp=>(mrg_rsp_odd w p n cp at_ en sz own B h c wd d hc hk h10 hwd hK a1 a2 e2 N ha1 ha2 he2 hee hN hsp).1
def rsp_long:=fun w p n cp at_ en sz own B h c wd d hc hk h10 hwd hK a1 a2 e2 N ha1 ha2 he2 hee hN hsp=>(mrg_rsp_odd w p n cp at_ en sz own B h c wd d hc hk h10 hwd hK a1 a2 e2 N ha1 ha2 he2 hee hN hsp).2
theorem mrg_rsp_list (w:World) (p:Option Addr) (n cp at_ en:Nat) (sz own:Int) (B:List UInt8) (h:PIn w p n cp at_ en B) (c wd:Nat) (d:Int) (hc:c < 256) (hk:0 <= kindC c) (h10:10 <= c / 16) (hwd:wOf c = wd):(∀ (hK:kindC c = 21) (a1 a2 e2 N:Nat) (ha1:at_+wd = a1) (ha2:a1+wd = a2) (he2:a2 <= e2) (hee:e2 <= en) (hN:nAt B a1 wd = N) (hsp:∀ W,PIn W p n cp at_ en B -> Calls prog 131 #[.agg #[.slice p n cp,.int .i64 (en:Nat),.int .i64 sz],.int .i64 (at_:Nat),.int .i64 (wd:Nat),.int .i64 (wd:Nat)] W fun e w'=>e = .returned (.tuple #[.agg #[.slice p n cp,.int .i64 (e2:Nat),.int .i64 (at_:Nat)],.int .i64 (a1:Nat),.int .i64 0])∧Below W.heap.size W w') (rv:List UInt8 -> Res) (hrd:RdC 59 p n cp B (d+1) rv) (hrl:∀ s v k,rv s = .ok (v,k) -> k <= s.length) (hd9:0 <= d∧d <= 33),Calls prog 113 #[.agg #[.slice p n cp,.int .i64 (en:Nat),.int .i64 sz],.int .i64 (c:Int),.int .i64 (at_:Nat),.int .i64 own,.int .i64 d] w fun e w'=>RTo w (ansR n sz own at_ (match els rv N (sOf B a2 e2) with|.error e=>.error (spanE (wd+wd) e)|.ok (l,k)=>if a2+k < e2 then .error (.pl 0 (ec 32)) else .ok (.mk 21 0 ⟨#[]⟩ l 0,e2 - at_):Res)) e w') ∧
  (∀ (hK:kindC c = 22) (a1 a2 e2 N:Nat) (ha1:at_+wd = a1) (ha2:a1+wd = a2) (he2:a2 <= e2) (hee:e2 <= en) (hN:nAt B a1 wd = N) (hsp:∀ W,PIn W p n cp at_ en B -> Calls prog 131 #[.agg #[.slice p n cp,.int .i64 (en:Nat),.int .i64 sz],.int .i64 (at_:Nat),.int .i64 (wd:Nat),.int .i64 (wd:Nat)] W fun e w'=>e = .returned (.tuple #[.agg #[.slice p n cp,.int .i64 (e2:Nat),.int .i64 (at_:Nat)],.int .i64 (a1:Nat),.int .i64 0])∧Below W.heap.size W w') (rv:List UInt8 -> Res) (hrd:RdC 59 p n cp B (d+1) rv) (hrl:∀ s v k,rv s = .ok (v,k) -> k <= s.length) (hd9:0 <= d∧d <= 33) (hod:N % 2 = 0) (hlg:¬ 1024 < N / 2),Calls prog 113 #[.agg #[.slice p n cp,.int .i64 (en:Nat),.int .i64 sz],.int .i64 (c:Int),.int .i64 (at_:Nat),.int .i64 own,.int .i64 d] w fun e w'=>RTo w (ansR n sz own at_ (match els rv N (sOf B a2 e2) with|.error e=>.error (spanE (wd+wd) e)|.ok (l,k)=>if a2+k < e2 then .error (.pl 0 (ec 32)) else if ¬ (evens l).Nodup then .error (.own (ec 34)) else .ok (.mk 22 0 ⟨#[]⟩ l 0,e2 - at_):Res)) e w'):=by
 refine ⟨?_,?_⟩
 intro hK a1 a2 e2 N ha1 ha2 he2 hee hN hsp rv hrd hrl hd9
 rotate_left
 intro hK a1 a2 e2 N ha1 ha2 he2 hee hN hsp rv hrd hrl hd9 hod hlg
 rotate_left
 all_goals
  have HW:=zH (fun W=>hwd ▸ rwide_any c W hk h10)
  have hw14:=wOf_bd c
  rw [hwd] at hw14
  have hhe:=h.hen
  have hhn:=h.hn
  have hle:=h.bytes.le
  have HSP:=zH hsp
  have HP:=zH h
  have hnb:=nAt_lt (B:=B) (at_:=a1) (wd:=wd)
  have hp4:256 ^ wd <= 256 ^ 4:=Nat.pow_le_pow_right (by omega) hw14.2
  have hpp:(256:Nat) ^ 4 = 4294967296:=rfl
  rw [hN] at hnb
  have HNB:=zH (show N < 4294967296 by omega)
  have ib1:(0:Int) <= (a1:Nat):=by omega
  have hadd:IntKind.i64.wrap ((a1:Int)+(wd:Nat)) = (a2:Nat):=by rw [IntWalk.i64_in _ (by omega)];omega
  have ib2:((a1:Nat):Int) <= (a2:Nat):=by omega
  have ib3:((a2:Nat):Int) <= (cp:Nat):=by omega
  have ib4:((a2:Nat):Int) <= 140737488355328:=by omega
  have ib5:a2 - a1 = wd:=by omega
  have hca:¬ cp = a1:=by omega
  have hcv:IntKind.i64.wrap ((N:Nat):Int) = (N:Nat):=IntWalk.i64_in _ (by omega)
  have HN:=zH (show ∀ W,PIn W p n cp at_ en B -> Calls prog 95 #[(.slice (p.map (fun x=>x.add a1)) wd (cp - a1))] W fun e w'=>e = .returned (.int .u64 (N:Nat))∧W = w' from fun W hW=>(rnumber_any W _ _ _ _ (by have hb:=hW.bytes.part a1 wd (by omega);rw [if_neg hca] at hb;exact hb) (by omega)).mono (fun e w' q=>⟨by rw [q.1,← hN];rfl,q.2⟩))
  have HK:=zH (fun W=>hK ▸ rkind_any c W hc)
 have HWF:=zH (show (V.mk 21 0 ⟨#[]⟩ [] 0).Wf from wf_sp (by omega) i64_0)
 obtain ⟨ANS,hANS⟩:∃ ANS,ansR n sz own at_ (match els rv N (sOf B a2 e2) with|.error e=>.error (spanE (wd+wd) e)|.ok (l,k)=>if a2+k < e2 then .error (.pl 0 (ec 32)) else .ok (.mk 21 0 ⟨#[]⟩ l 0,e2 - at_):Res) = ANS:=⟨_,rfl⟩
 rotate_left
 have HWF:=zH (show (V.mk 22 0 ⟨#[]⟩ [] 0).Wf from wf_sp (by omega) i64_0)
 have hr:((N:Int) % 2 != 0) = false:=by simp;omega
 have hr2:decide (1024 < wrap64 ((N:Int) / 2)) = false:=by have:=HNB.out;unfold wrap64;simp;omega
 clear hod hlg
 obtain ⟨ANS,hANS⟩:∃ ANS,ansR n sz own at_ (match els rv N (sOf B a2 e2) with|.error e=>.error (spanE (wd+wd) e)|.ok (l,k)=>if a2+k < e2 then .error (.pl 0 (ec 32)) else if ¬ (evens l).Nodup then .error (.own (ec 34)) else .ok (.mk 22 0 ⟨#[]⟩ l 0,e2 - at_):Res) = ANS:=⟨_,rfl⟩
 rotate_left
 all_goals
  rw [hANS]
  have HANS:=zH hANS
  clear hANS
  have HRD:=zH hrd
  have HRL:=zH hrl
  have H0:=zH (show at_+(wd+wd) = a2 by omega)
  have H2E:=zH he2
  have HE2:=zH (And.intro he2 (Nat.le_trans hee hhe))
  have hdw:IntKind.i64.wrap (d+1) = d+1:=IntWalk.i64_in _ (by omega)
  have hdw2:wrap64 (d+1) = d+1:=by unfold wrap64;omega
  obtain ⟨i0,hi,hz0,hz1,hz2⟩:=info_partsV info_val
  clear hrd hrl hd9
  clear hN hc hk h10 hwd hle h hnb hp4 hpp hhe hhn ha1 ha2 hw14 hsp he2 hee
  go_enter func113,ntmps113
  go_upto_region 1 with fail
  obtain ⟨w0,x,y,hw,hx,hy,HXY,HF0,x0,x1,x2⟩:=frx w p n cp en sz
  rw [hw,hx,hy]
  clear hw hx hy
  go_wp2_with fail
  refine (HW.out _).mono ?_
  rintro e w1 ⟨rfl,rfl⟩
  go_wp2_with fail
  refine (HSP.out _ (HP.out.blw HF0.out.blw)).mono ?_
  rintro e w1 ⟨rfl,hb1⟩
  have HF1:=zH (HF0.out.next hb1)
  clear hb1 x0 x1 x2
  go_upto_region 3 with (refine wpList_store_rowTo rfl 94 (.tmp 14) (.tmp 32) rfl rfl w1.heap.size #[.slice p n cp,.int .i64 (e2:Nat),.int .i64 (at_:Nat)] rfl rfl 94 #[.slice none 0 0,.int .i64 0,.int .i64 0] (zN w1 _) (by as_aux_lemma=>kernel_rfl) (by as_aux_lemma=>kernel_rfl) (by simp [Value.oneCell']) ?_)
  have hb2:Below w1.heap.size w1 ((w1.alloc (.cells #[.slice none 0 0,.int .i64 0,.int .i64 0] 94)).setRow w1.heap.size #[.slice p n cp,.int .i64 (e2:Nat),.int .i64 (at_:Nat)]):=below_setRow ((Below.refl _ _).alloc (Nat.le_refl _) _) (Nat.le_refl _) _
  have oq:=setRow_heap (w1.alloc (.cells #[.slice none 0 0,.int .i64 0,.int .i64 0] 94)) w1.heap.size _ #[.slice p n cp,.int .i64 (e2:Nat),.int .i64 (at_:Nat)] _ _ (zN w1 _)
  change Code.wp _ _ _ _ ((w1.alloc (.cells #[.slice none 0 0,.int .i64 0,.int .i64 0] 94)).setRow w1.heap.size #[.slice p n cp,.int .i64 (e2:Nat),.int .i64 (at_:Nat)])
  generalize ((w1.alloc (.cells #[.slice none 0 0,.int .i64 0,.int .i64 0] 94)).setRow w1.heap.size #[.slice p n cp,.int .i64 (e2:Nat),.int .i64 (at_:Nat)]) = w2 at *
  have hyq:=HF1.out.lt
  have HF2:=zH (HF1.out.next hb2)
  obtain ⟨qb,hqb⟩:∃ qb,w1.heap.size = qb:=⟨_,rfl⟩
  rw [hqb] at oq hyq ⊢
  have HQ:=zH (And.intro hyq oq)
  clear hb2 hqb hyq oq
  obtain ⟨x0,x1,x2⟩:=c3 HF2.out.part
  go_wp2_with fail
  refine (HN.out _ (HP.out.blw HF2.out.blw)).mono ?_
  rintro e w3 ⟨rfl,rfl⟩
  clear x0 x1 x2
  go_wp2_with fail
  refine (HK.out _).mono ?_
  rintro e w4 ⟨rfl,hb4⟩
  have HF4:=zH (HF2.out.next hb4)
  have HQ4:=zH ((hb4.block qb (gl HQ.out.2)).trans HQ.out.2)
  clear hb4
  go_upto_region 8 with (refine stV (.tmp 18) (.tmp 54) rfl rfl rfl rfl rfl (zN w4 _) rfl ?_)
  refine layW w4 ?_
  intro w5 hb5 oz
  obtain ⟨z,hz⟩:∃ z,w4.heap.size = z:=⟨_,rfl⟩
 have HS5:=zH (show SpR w w5 x y qb z #[.slice p n cp,.int .i64 (en:Nat),.int .i64 sz] #[.slice p n cp,.int .i64 (e2:Nat),.int .i64 (at_:Nat)] 21 0 [] (.slice none 0 0) (fun _=>False) from
  ⟨HF4.out.next hb5,(hb5.block qb (gl HQ4.out)).trans HQ4.out,HQ.out.1,by rw [← hz];exact oz,by rw [← hz];exact (gl HQ4.out),VO.nil _ _ HWF.out rfl⟩)
 rotate_left
 have HS5:=zH (show SpR w w5 x y qb z #[.slice p n cp,.int .i64 (en:Nat),.int .i64 sz] #[.slice p n cp,.int .i64 (e2:Nat),.int .i64 (at_:Nat)] 22 0 [] (.slice none 0 0) (fun _=>False) from
  ⟨HF4.out.next hb5,(hb5.block qb (gl HQ4.out)).trans HQ4.out,HQ.out.1,by rw [← hz];exact oz,by rw [← hz];exact (gl HQ4.out),VO.nil _ _ HWF.out rfl⟩)
 rotate_left
 all_goals
  rw [hz]
  clear hb5 oz hz
  obtain ⟨z0,z1,z2,z3,z4⟩:=c5 HS5.out.rz
  go_wp2_with fail
 focus
  go_loopw [15,19] (fun v15 v19 wr=>∃ (i k a:Nat) (l:List V) (s:Value) (F:Nat -> Prop),v15 = .int .i64 (a:Nat)∧v19 = .int .i64 (i:Nat)∧i <= N∧Hid (a = a2+k∧l.length = i)∧a <= e2∧els rv i (sOf B a2 e2) = .ok (l,k)∧SpR w wr x y qb z #[.slice p n cp,.int .i64 (en:Nat),.int .i64 sz] #[.slice p n cp,.int .i64 (e2:Nat),.int .i64 (at_:Nat)] 21 0 l s F) (fun v15 v19 _=>N - (intOf v19).toNat)
  case atStart=>exact ⟨0,0,a2,[],_,_,rfl,rfl,Nat.zero_le _,zH ⟨rfl,rfl⟩,H2E.out,rfl,HS5.out⟩
 rotate_left
 focus
  go_loopw [15,19] (fun v15 v19 wr=>∃ (i k a:Nat) (l:List V) (s:Value) (F:Nat -> Prop),v15 = .int .i64 (a:Nat)∧v19 = .int .i64 (i:Nat)∧i <= N∧Hid (a = a2+k∧l.length = i)∧a <= e2∧els rv i (sOf B a2 e2) = .ok (l,k)∧SpR w wr x y qb z #[.slice p n cp,.int .i64 (en:Nat),.int .i64 sz] #[.slice p n cp,.int .i64 (e2:Nat),.int .i64 (at_:Nat)] 22 0 l s F) (fun v15 v19 _=>N - (intOf v19).toNat)
  case atStart=>exact ⟨0,0,a2,[],_,_,rfl,rfl,Nat.zero_le _,zH ⟨rfl,rfl⟩,H2E.out,rfl,HS5.out⟩
 rotate_left
 all_goals
  obtain ⟨i,k,a,l,s,F,rfl,rfl,hiN,HA,hae,hels,hsp⟩:=hrel
  have HS:=zH hsp
  have HE:=zH hels
  clear hels
  obtain ⟨ps,cs,hs,_,_⟩:=hsp.vo.slice
  obtain rfl:s = .slice ps i cs:=by rw [hs];exact congrArg (fun t=>Value.slice ps t cs) HA.out.2
  clear hs hsp
  by_cases hlt:(i:Int) < N
  ·have q0:wr.cell? ⟨qb,0,none⟩ = some (.slice p n cp):=(cell_of_row _ _ 0 _ _ _ HS.out.rq).trans rfl
   have q1:wr.cell? ⟨qb,1,none⟩ = some (.int .i64 (e2:Nat)):=(cell_of_row _ _ 1 _ _ _ HS.out.rq).trans rfl
   have q2:wr.cell? ⟨qb,2,none⟩ = some (.int .i64 (at_:Nat)):=(cell_of_row _ _ 2 _ _ _ HS.out.rq).trans rfl
   go_wp2_with fail
   refine (HRD.out wr a e2 (at_:Nat) own ⟨HP.out.bytes.below HS.out.fr.blw,HP.out.tabs.below HS.out.fr.blw,hae,HE2.out.2,HP.out.hn⟩).mono ?_
   rintro e w1 hto
   obtain ⟨ans,hans⟩:∃ ans,rv (sOf B a e2) = ans:=⟨_,rfl⟩
   rw [hans] at hto
   cases ans with
   | error yy =>
    obtain ⟨sx,Fx,rfl,hvx,hb1⟩:=hto
    obtain ⟨qs,ds,hst,_,_⟩:=hvx.slice
    subst hst
    have hee:=els_err HE.out (by rw [sOf_drop' HA.out.1.symm];exact hans) (by omega:i < N)
    have hzz:=ans_span (n:=n) (at_:=at_) (wd2:=wd+wd) (k:=k) (a:=a) (sz:=sz) (own:=own) (y:=yy) (by have:=HA.out.1;have:=H0.out;omega)
    have hC:=erC_ne (at_:Int) yy
    obtain ⟨pl,hpl⟩:∃ pl,erP n (at_:Int) own a yy = pl:=⟨_,rfl⟩
    obtain ⟨ec,hec⟩:∃ ec,erC (at_:Int) yy = ec:=⟨_,rfl⟩
    simp only [ansR] at hvx ⊢
    have hzz2:(zeroV,pl,ec) = ansR n sz own at_ (.error (spanE (wd+wd) (shiftE k yy))):=by rw [← hzz,← hpl,← hec];rfl
    rw [hpl,hec]
    rw [hec] at hC
    have HZ:=zH (And.intro hee hzz2)
    have hC1:(ec == 0) = false:=by simpa using hC
    have hC2:(ec != 0) = true:=by simpa using hC
    clear hpl hec hC hee hzz hzz2 hans
    have HS1:=zH (HS.out.next hb1)
    clear hb1 hvx
    go_upto_region 16 with (refine stV (.tmp 20) (.tmp 86) rfl rfl rfl rfl rfl (zN w1 _) rfl ?_)
    refine layW w1 ?_
    intro w2 hb2 ou
    obtain ⟨ub,hub⟩:∃ ub,w1.heap.size = ub:=⟨_,rfl⟩
    rw [hub] at ou ⊢
    have HS2:=zH (HS1.out.next hb2)
    clear hb2 ou hub
    go_wp2_with (refine stV (.tmp 10) (.tmp 91) rfl rfl rfl rfl rfl (HS2.out.fr.res) rfl ?_)
    refine bodyPost_ret (results_rspanv _ _ y zR rfl (HS2.out.fr.row _) rfl) rfl ?_
    refine RTo.zero HS2.out.fr _ _ ?_
    rw [← HANS.out,HZ.out.1]
    exact HZ.out.2.symm
   | ok xk =>
    obtain ⟨xv,k2⟩:=xk
    obtain ⟨sx,Fx,rfl,hvx,hb1⟩:=hto
    simp only [ansR] at hvx ⊢
    obtain ⟨qs,ds,hst,_,_⟩:=hvx.slice
    subst hst
    obtain ⟨a9,ha9⟩:∃ a9,a+k2 = a9:=⟨_,rfl⟩
    rw [ha9]
    have HS1:=zH (HS.out.next hb1)
    have HVX:=zH (And.intro hvx (And.intro hb1.size (And.intro ha9 hans)))
    have HLE:=zH (show a9 <= e2 from by
     have q:=HRL.out _ _ _ hans
     rw [sOf_len (by rw [HP.out.len];exact HE2.out.2)] at q
     omega)
    clear hvx hb1 ha9 hans
    go_upto_region 16 with (refine stV (.tmp 20) (.tmp 86) rfl rfl rfl rfl rfl (zN w1 _) rfl ?_)
    refine layW w1 ?_
    intro w2 hb2 ou
    obtain ⟨ub,hub⟩:∃ ub,w1.heap.size = ub:=⟨_,rfl⟩
    rw [hub] at ou ⊢
    have HS2:=zH (HS1.out.next hb2)
    have hvx2:VO w2 wr.heap.size xv (.slice qs xv.list.length ds) Fx:=HVX.out.1.blw (hub ▸ hb2)
    obtain ⟨u0,u1,u2,u3,u4⟩:=c5 ou
    have hal:Below w2.heap.size w2 (w2.alloc (.cells #[.int .i64 xv.kind,.int .u64 xv.num,.string xv.text,.slice qs xv.list.length ds,.int .i64 xv.elem] 25)):=(Below.refl _ _).alloc (Nat.le_refl _) _
    obtain ⟨xs,hrow,hpu⟩:=(HS2.out.next hal).push ((hvx2.mono (show z+1 <= wr.heap.size from HS.out.lt)).blw hal) (fun b q q2=>by
     have h1:=(HS.out.vo.lt b q).2
     have h2:=(hvx2.lt b q2).1
     omega)
    rw [HA.out.2] at hrow hpu
    have HRW:=zH hrow
    have HPU:=zH hpu
    have HEN:=zH (els_snoc HE.out (by rw [sOf_drop' HA.out.1.symm];exact HVX.out.2.2.2))
    clear hb2 hub ou hvx2 hal hrow hpu
    obtain ⟨z0,z1,z2,z3,z4⟩:=c5 HS2.out.rz
    have hi9:(i:Int) <= 4294967296:=by have:=HNB.out;omega
    go_wp2_with (first
     | (at_builtin;refine wpList_append_two _ rfl (.tmp 95) (.tmp 97) 23 rfl (z+1) 25 i0 _ 5 64 underlying23 hi hz0 hz1 hz2 rfl _ _ _ rfl HRW.out ⟨w2.heap.size,0,none⟩ 1 [.int .i64 xv.kind,.int .u64 xv.num,.string xv.text,.slice qs xv.list.length ds,.int .i64 xv.elem] rfl rfl (fun j u hj=>cell_of_newrow hj) (by simp [Value.oneCell']) (by have:=HNB.out;unfold maxLen;omega) (by have:=HNB.out;omega) ?_;intro v' w9 hA;obtain ⟨pp,cc,hvv⟩:=hA.slice;subst hvv;have HA9:=zH (HPU.out w9 _ hA);clear hA;have z3:w9.cell? ⟨z,3,none⟩ = some (.slice ps i cs):=(cell_of_row _ _ 3 _ _ _ HA9.out.1).trans rfl;have fz:w9.frozen? ⟨z,3,none⟩ = false:=by simp [World.frozen?,HA9.out.1]))
    obtain ⟨F9,hs9⟩:=HA9.out.2
    have HS9:=zH hs9
    clear hs9
    go_roundw
    case rel =>
     have hNB:=HNB.out
     exact ⟨i+1,k+k2,a9,l ++ [xv],_,F9,rfl,by go_num,by omega,zH ⟨by have:=HA.out.1;have:=HVX.out.2.2.1;omega,by rw [List.length_append,HA.out.2];rfl⟩,HLE.out,HEN.out,HS9.out⟩
    case measure =>
     have hNB:=HNB.out
     simp [intOf]
     omega
  obtain rfl:i = N:=by omega
  have HS6:=HS
  obtain ⟨q0,q1,q2⟩:=c3 HS.out.rq
  have hEQ:=HE.out
  by_cases hlq:(a:Int) < e2
  ·have HX:=zH (show ANS = (zeroV,((at_:Nat):Int),32) from by
    rw [← HANS.out,hEQ]
    show ansR n sz own at_ (if a2+k < e2 then _ else _) = _
    rw [if_pos (by have:=HA.out.1;omega)]
    rfl)
   clear hEQ
   go_upto_region 21 with fail
   clear q0 q1 q2
   refine wp_region_heldN (fun V=>V.heap[qb]? = some (.cells #[.slice p n cp,.int .i64 (e2:Nat),.int .i64 (at_:Nat)] 94 (0,0))) 6 rfl (by kernel_rfl) ?_
   have hS:wr.drew.heap[qb]? = some (.cells #[.slice p n cp,.int .i64 (e2:Nat),.int .i64 (at_:Nat)] 94 (0,0)):=HS.out.rq
   have hfd:=HS.out.fr.next (bdrew (Below.refl _ _))
   refine tkI 0 (.agg zR) 105 rfl rfl (by kernel_rfl) (fun _ _ _=>id) (by rfl) (by rintro V h0;go_simp) hS ?_
   try simp only [Act.put,sA,sB,sC]
   refine tkI 1 (.pointer (some ⟨qb,2,none⟩)) 106 rfl rfl (by kernel_rfl) (fun _ _ _=>id) (by rfl) (by rintro V h0;go_simp) hS ?_
   try simp only [Act.put,sA,sB,sC]
   refine tkI 2 (.int .i64 (at_:Nat)) 107 rfl rfl (by kernel_rfl) (fun _ _ _=>id) (by rfl) (by rintro V h0;have y2:=(cell_of_row V _ 2 _ _ _ h0).trans rfl;go_simp) hS ?_
   try simp only [Act.put,sA,sB,sC]
   have hS3:(wr.drew.setRow y zR).heap[qb]? = some (.cells #[.slice p n cp,.int .i64 (e2:Nat),.int .i64 (at_:Nat)] 94 (0,0)):=(setRow_other wr.drew y qb _ (by have:=HS.out.hq;omega)).trans hS
   refine oneH (i:=3) (by kernel_rfl) ?_
   refine stepD (i:=3) rfl (by rfl) (fun K5 h5=>?_)
   refine wp_store_rowN 25 (.tmp 10) (.tmp 105) rfl rfl y zR rfl rfl 25 zR hfd.res (by as_aux_lemma=>kernel_rfl) (by as_aux_lemma=>kernel_rfl) (by simp [Value.oneCell']) ?_
   refine h5.out _ _ hS3 ?_
   clear h5
   try simp only [Act.put,sA,sB,sC]
   clear hS
   have hS:=hS3
   refine tkI 4 (.int .i64 (at_:Nat)) 11 rfl rfl (by kernel_rfl) (fun _ _ _=>id) (by rfl) (by rintro V h0;go_simp) hS ?_
   try simp only [Act.put,sA,sB,sC]
   refine tkI 5 (.int .i64 32) 12 rfl rfl (by kernel_rfl) (fun _ _ _=>id) (by rfl) (by rintro V h0;go_simp) hS ?_
   try simp only [Act.put,sA,sB,sC]
   refine wpAnyH_done (by kernel_rfl) ?_ _
   change Exit.then _ _ _ _ (wr.drew.setRow y zR)
   have HFD:=zH hfd
   clear hS hS3 hfd
   go_wp2_with fail
   refine bodyPost_ret (results_rspanv _ _ y zR rfl (HFD.out.row _) rfl) rfl ?_
   exact RTo.zero HFD.out _ _ HX.out
 have z0:wr.cell? ⟨z,0,none⟩ = some (.int .i64 21):=(cell_of_row _ _ 0 _ _ _ HS.out.rz).trans rfl
 rotate_left
 have z0:wr.cell? ⟨z,0,none⟩ = some (.int .i64 22):=(cell_of_row _ _ 0 _ _ _ HS.out.rz).trans rfl
 rotate_left
 all_goals
  have z1:wr.cell? ⟨z,1,none⟩ = some (.int .u64 0):=(cell_of_row _ _ 1 _ _ _ HS.out.rz).trans rfl
  have z2:wr.cell? ⟨z,2,none⟩ = some (.string ⟨#[]⟩):=(cell_of_row _ _ 2 _ _ _ HS.out.rz).trans rfl
  have z3:wr.cell? ⟨z,3,none⟩ = some (.slice ps i cs):=(cell_of_row _ _ 3 _ _ _ HS.out.rz).trans rfl
  have z4:wr.cell? ⟨z,4,none⟩ = some (.int .i64 0):=(cell_of_row _ _ 4 _ _ _ HS.out.rz).trans rfl
 ·have HX:=zH (show ANS = (.mk 21 0 ⟨#[]⟩ l 0,((a:Nat):Int),0) from by
   rw [← HANS.out,hEQ]
   show ansR n sz own at_ (if a2+k < e2 then _ else _) = _
   rw [if_neg (by have:=HA.out.1;omega)]
   show (_,((at_+(e2 - at_):Nat):Int),(0:Int)) = _
   rw [show at_+(e2 - at_) = a by have:=HA.out.1;have:=H0.out;omega])
  clear hEQ
  go_wp2_with (refine stV (.tmp 10) (.tmp 117) rfl rfl rfl rfl rfl (HS.out.fr.res) rfl ?_)
  refine bodyPost_ret (results_rspanv _ _ y #[.int .i64 21,.int .u64 0,.string ⟨#[]⟩,.slice ps i cs,.int .i64 0] rfl (HS.out.fr.row _) rfl) rfl ?_
  have hvl:(V.mk 21 0 ⟨#[]⟩ l 0).list.length = i:=HA.out.2
  have hy:=HS.out.hq
  have hz:=HS.out.hz
  have hwx:=HS.out.fr.hx
  have hxy:=HS.out.fr.hxy
  exact RTo.val (v:=.mk 21 0 ⟨#[]⟩ l 0) (s:=.slice ps i cs) HS.out.fr HS.out.vo (by omega) (fun b hb=>by have:=(HS.out.vo.lt b hb).1;omega) _ _ HX.out
 have hvi:=HS.out.vo.vin
 have hvl:(V.mk 22 0 ⟨#[]⟩ l 0).list.length = i:=HA.out.2
 have HT:=zH (rtwice_any wr (.mk 22 0 ⟨#[]⟩ l 0) ps cs (by rw [hvl];exact hvi) (by rw [hvl];have:=HNB.out;omega))
 rw [hvl] at HT
 clear hvi hvl
 go_wp2_with fail
 refine HT.out.mono ?_
 rintro e w7 ⟨rfl,hb7⟩
 have HS7:=zH (HS.out.next hb7)
 clear hb7 z0 z1 z2 z3 z4
 by_cases hnd:(evens l).Nodup
 ·have hD:decide (¬ (evens (V.mk 22 0 ⟨#[]⟩ l 0).list).Nodup) = false:=decide_eq_false (fun q=>q hnd)
  rw [hD]
  have HND:=zH hnd
  clear hD hnd
  obtain ⟨z0,z1,z2,z3,z4⟩:=c5 HS7.out.rz
  have HX:=zH (show ANS = (.mk 22 0 ⟨#[]⟩ l 0,((a:Nat):Int),0) from by
   rw [← HANS.out,hEQ]
   show ansR n sz own at_ (if a2+k < e2 then _ else _) = _
   rw [if_neg (by have:=HA.out.1;omega),if_neg (fun q=>q HND.out)]
   show (_,((at_+(e2 - at_):Nat):Int),(0:Int)) = _
   rw [show at_+(e2 - at_) = a by have:=HA.out.1;have:=H0.out;omega])
  clear hEQ
  go_wp2_with (refine stV (.tmp 10) (.tmp 117) rfl rfl rfl rfl rfl (HS7.out.fr.res) rfl ?_)
  refine bodyPost_ret (results_rspanv _ _ y #[.int .i64 22,.int .u64 0,.string ⟨#[]⟩,.slice ps i cs,.int .i64 0] rfl (HS7.out.fr.row _) rfl) rfl ?_
  have hvl:(V.mk 22 0 ⟨#[]⟩ l 0).list.length = i:=HA.out.2
  have hy:=HS7.out.hq
  have hz:=HS7.out.hz
  have hwx:=HS7.out.fr.hx
  have hxy:=HS7.out.fr.hxy
  exact RTo.val (v:=.mk 22 0 ⟨#[]⟩ l 0) (s:=.slice ps i cs) HS7.out.fr HS7.out.vo (by omega) (fun b hb=>by have:=(HS7.out.vo.lt b hb).1;omega) _ _ HX.out
 have hD:decide (¬ (evens (V.mk 22 0 ⟨#[]⟩ l 0).list).Nodup) = true:=decide_eq_true hnd
 rw [hD]
 have HX:=zH (show ANS = (zeroV,own,34) from by
  rw [← HANS.out,hEQ]
  show ansR n sz own at_ (if a2+k < e2 then _ else _) = _
  rw [if_neg (by have:=HA.out.1;omega),if_pos hnd]
  rfl)
 clear hD hnd hEQ
 go_wp2_with (refine stV (.tmp 10) (.tmp 115) rfl rfl rfl rfl rfl (HS7.out.fr.res) rfl ?_)
 refine bodyPost_ret (results_rspanv _ _ y zR rfl (HS7.out.fr.row _) rfl) rfl ?_
 exact RTo.zero HS7.out.fr _ _ HX.out
def rsp_list:=fun w p n cp at_ en sz own B h c wd d hc hk h10 hwd=>(mrg_rsp_list w p n cp at_ en sz own B h c wd d hc hk h10 hwd).1
def rsp_map:=fun w p n cp at_ en sz own B h c wd d hc hk h10 hwd=>(mrg_rsp_list w p n cp at_ en sz own B h c wd d hc hk h10 hwd).2

theorem codes_span (c:Nat) (hc:c / 16 = 12 ∨ c / 16 = 13) (hk:0 <= kindC c):kindC c = 21 ∨ kindC c = 22:=by
 rcases kindC_mem hk (by omega) with rfl|rfl|rfl|rfl|rfl|rfl|rfl|rfl|rfl|rfl|rfl|rfl|rfl|rfl|rfl|rfl|rfl|rfl|rfl|rfl|rfl|rfl|rfl|rfl|rfl|rfl|rfl|rfl|rfl|rfl|rfl|rfl|rfl|rfl|rfl|rfl|rfl|rfl|rfl
 all_goals first|omega|exact .inl rfl|exact .inr rfl
theorem rsp_any (w:World) (p:Option Addr) (n cp at_ en:Nat) (sz own:Int) (B:List UInt8) (h:PIn w p n cp at_ en B) (c:Nat) (d:Int) (hc:c / 16 = 12 ∨ c / 16 = 13) (hk:0 <= kindC c)
  (rv:List UInt8 -> Res) (hrd:RdC 59 p n cp B (d+1) rv) (hrl:∀ s v k,rv s = .ok (v,k) -> k <= s.length) (hd9:0 <= d∧d <= 33) :
  Calls Tryz.prog 113 #[.agg #[.slice p n cp,.int .i64 (en:Nat),.int .i64 sz],.int .i64 (c:Int),.int .i64 (at_:Nat),.int .i64 own,.int .i64 d] w fun e w'=>RTo w (ansR n sz own at_ (withinR c (wOf c) (spanIn rv c) (sOf B at_ en))) e w':=by
 have hl:(sOf B at_ en).length = en - at_:=sOf_len (by rw [h.len];exact h.hen)
 have hae:=h.ha
 have hle:=h.bytes.le
 have hen:=h.hen
 have hc2:c < 256:=by omega
 have h10:10 <= c / 16:=by omega
 have hw14:=wOf_bd c
 obtain ⟨wd,hwd⟩:∃ wd,wOf c = wd:=⟨_,rfl⟩
 have hkk:=codes_span c hc hk
 unfold withinR
 rw [hwd] at hw14 ⊢
 by_cases hs:en - at_ < wd
 ·rw [if_pos (by omega)]
  exact rsp_err w p n cp at_ en sz own B h c wd d hc2 hk h10 hwd _ _ (erC_ne sz .short) (fun W hW=>rspan_short W p n cp at_ en sz B hW wd wd hw14.1 hw14.2 hs)
 have htk:beVal ((sOf B at_ en).take wd) = nAt B at_ wd:=by unfold nAt;rw [sOf_take (by omega)]
 rw [if_neg (by omega),htk]
 by_cases hs2:nAt B at_ wd < wd
 ·rw [if_pos hs2]
  exact rsp_err w p n cp at_ en sz own B h c wd d hc2 hk h10 hwd _ _ (erC_ne sz (.pl 0 (ec 32))) (fun W hW=>rspan_least W p n cp at_ en sz B hW wd wd hw14.1 hw14.2 hs hs2)
 rw [if_neg hs2]
 by_cases hs3:en - at_ - wd < nAt B at_ wd
 ·rw [if_pos (by omega)]
  exact rsp_err w p n cp at_ en sz own B h c wd d hc2 hk h10 hwd _ _ (erC_ne sz .short) (fun W hW=>rspan_short2 W p n cp at_ en sz B hW wd wd hw14.1 hw14.2 hs hs2 hs3)
 rw [if_neg (by omega)]
 have hok:=fun W (hW:PIn W p n cp at_ en B)=>rspan_ok W p n cp at_ en sz B hW wd wd hw14.1 hw14.2 hs hs2 hs3
 obtain ⟨S,hS⟩:∃ S,nAt B at_ wd = S:=⟨_,rfl⟩
 rw [hS] at hok hs2 hs3 ⊢
 have hq:((sOf B at_ en).drop wd).take S = sOf B (at_+wd) (at_+wd+S):=by rw [sOf_drop,sOf_cut (by omega)]
 rw [hq]
 obtain ⟨N,hN⟩:∃ N,nAt B (at_+wd) wd = N:=⟨_,rfl⟩
 have htk2:beVal ((sOf B (at_+wd) (at_+wd+S)).take wd) = N:=by rw [← hN];unfold nAt;rw [sOf_take (by omega)]
 have hdr:(sOf B (at_+wd) (at_+wd+S)).drop wd = sOf B (at_+wd+wd) (at_+wd+S):=sOf_drop
 unfold spanIn
 rw [hwd,htk2,hdr]
 have hlist:=rsp_list w p n cp at_ en sz own B h c wd d hc2 hk h10 hwd
 have hmap:=rsp_map w p n cp at_ en sz own B h c wd d hc2 hk h10 hwd
 have hodd:=rsp_odd w p n cp at_ en sz own B h c wd d hc2 hk h10 hwd
 have hlong:=rsp_long w p n cp at_ en sz own B h c wd d hc2 hk h10 hwd
 have e3:∀ k,(at_+wd+wd+k < at_+wd+S) = (wd+k < S):=fun k=>by rw [eq_iff_iff];omega
 have e4:at_+wd+S - at_ = wd+S:=by omega
 rcases hkk with hK|hK
 ·rw [if_neg (by omega),if_neg (by omega),hK]
  have q:=hlist hK _ _ _ N rfl rfl (by omega) (by omega) hN hok rv hrd hrl hd9
  simp only [e3,e4] at q
  refine q.mono (fun e w' r=>?_)
  cases hx:els rv N (sOf B (at_+wd+wd) (at_+wd+S)) with
  | error y=>rw [hx] at r;exact r
  | ok lk =>
   obtain ⟨l,k⟩:=lk
   rw [hx] at r
   simp only at r ⊢
   rw [if_neg (show ¬ ((21:Int) = 22∧¬ (evens l).Nodup) from fun q=>absurd q.1 (by decide))]
   exact r
 by_cases ho:N % 2 = 0
 ·rw [if_neg (fun q=>q.2 ho)]
  by_cases hg:1024 < N / 2
  ·rw [if_pos ⟨hK,hg⟩]
   exact hlong hK _ _ _ N rfl rfl (by omega) (by omega) hN hok ho hg
  ·rw [if_neg (fun q=>hg q.2),hK]
   have q:=hmap hK _ _ _ N rfl rfl (by omega) (by omega) hN hok rv hrd hrl hd9 ho hg
   simp only [e3,e4] at q
   refine q.mono (fun e w' r=>?_)
   cases hx:els rv N (sOf B (at_+wd+wd) (at_+wd+S)) with
   | error y=>rw [hx] at r;exact r
   | ok lk =>
    obtain ⟨l,k⟩:=lk
    rw [hx] at r
    simp only at r ⊢
    by_cases h1:wd+k < S
    ·rw [if_pos h1] at r ⊢;exact r
    rw [if_neg h1] at r ⊢
    by_cases h2:(evens l).Nodup
    ·rw [if_neg (fun q=>q h2)] at r
     rw [if_neg (fun q=>q.2 h2)]
     exact r
    ·rw [if_pos h2] at r
     rw [if_pos ⟨by first|rfl|trivial,h2⟩]
     exact r
 rw [if_pos ⟨hK,ho⟩]
 exact hodd hK _ _ _ N rfl rfl (by omega) (by omega) hN hok ho
end Go.Proofs.YtnnnfhobbnjmfaaGreatDoor
