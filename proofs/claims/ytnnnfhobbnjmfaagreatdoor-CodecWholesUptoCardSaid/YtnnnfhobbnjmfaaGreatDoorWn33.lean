/-
  Lemmas on the codec. Conditions: as each says.
-/
import Derived.Test.YtnnnfhobbnjmfaaGreatDoorWn32
import Derived.Test.YtnnnfhobbnjmfaaGreatDoorWn10
namespace Go.Proofs.YtnnnfhobbnjmfaaGreatDoor
open Go.RowKit Go.Proofs.Tryz
set_option linter.all false
set_option maxHeartbeats 40000000
set_option maxRecDepth 20000

attribute [local go_sem] Oper.semAt_some

theorem results_rfixed (tmps:Array Value) (w:World) (x:Nat) (cs:Array Value) (hx:tmps.getD 6 undef = .pointer (some ⟨x,0,none⟩)) (rx:w.heap[x]? = some (.cells cs 25 (0,0))) (hs:cs.size = 5) :
  (results Tryz.f115 tmps).run prog w = .ok (.tuple #[.agg cs,tmps.getD 7 undef,tmps.getD 8 undef]) w:=by
 have hx':tmps[6]?.getD undef = .pointer (some ⟨x,0,none⟩):=by simpa using hx
 have h1:=run_loadVar_row (P:=prog) w x 25 25 cs (0,0) _ rx underlying25 rfl (by rw [hs];as_aux_lemma=>kernel_rfl)
 simp [results,results115,hx',asAddr,h1]
theorem rfixed_short (w:World) (p:Option Addr) (n cp at_ en:Nat) (sz own:Int) (B:List UInt8) (h:PIn w p n cp at_ en B) (c wd:Nat) (K:Int) (hc:c < 256) (hk:0 <= kindC c) (h0:c ≠ 0) (hwd:widR c = (wd:Nat)) (hK:kindC c = K) (hs:en - at_ < wd) :
  Calls prog 115 #[.agg #[.slice p n cp,.int .i64 (en:Nat),.int .i64 sz],.int .i64 (c:Int),.int .i64 (at_:Nat)] w fun e w'=>RTo w (zeroV,shP n sz,shC sz) e w':=by
 have HW:=zH (fun W=>hwd ▸ rwidth_any c W hk h0)
 have HSH:=zH (fun W=>rshort_any W p n cp en sz)
 have hha:=h.ha
 have hhe:=h.hen
 have hhn:=h.hn
 have dsub:IntKind.i64.wrap ((en:Int) - (at_:Nat)) = ((en - at_:Nat):Int):=by rw [IntWalk.i64_in _ (by omega)];omega
 have d1:((en - at_:Nat):Int) < (wd:Nat):=by omega
 clear hs hc hk h0 hwd hK
 go_enter func115,ntmps115
 go_upto_region 1 with fail
 obtain ⟨w0,x,y,hw,hx,hy,HXY,HF0,x0,x1,x2⟩:=frx w p n cp en sz
 rw [hw,hx,hy]
 clear hw hx hy
 go_wp2_with fail
 refine (HW.out _).mono ?_
 rintro e w1 ⟨rfl,rfl⟩
 go_wp2_with fail
 refine (HSH.out _).mono ?_
 rintro e w2 ⟨rfl,hb2⟩
 have HF2:=zH (HF0.out.next hb2)
 clear hb2
 go_wp2_with (refine stV (.tmp 6) (.tmp 28) rfl rfl rfl rfl rfl (HF2.out.res) rfl ?_)
 refine bodyPost_ret (results_rfixed _ _ y zR rfl (HF2.out.row _) rfl) rfl ?_
 exact RTo.zero HF2.out _ _ rfl
theorem Fr.setz {w wk:World} {x y z:Nat} {px:Array Value} (h:Fr w wk x y px) (hz:y < z) (i:Nat) (v:Value):Fr w (wk.setCell ⟨z,i,none⟩ v) x y px :=
 ⟨h.blw.setCell (p:=⟨z,i,none⟩) (show w.heap.size <= z by have:=h.hx;have:=h.hxy;omega) _,(set_farV (by have:=h.hxy;omega)).trans h.part,(set_farV (by omega)).trans h.res,h.hx,h.hxy⟩
theorem wf_num {K m:Int} (hK:IsI64 K) (hm:IsU64 m):(V.mk K m ⟨#[]⟩ [] 0).Wf:=⟨hK,hm,Nat.zero_le _,⟨by show (-9223372036854775808:Int) <= 0;omega,by show (0:Int) <= 9223372036854775807;omega⟩⟩
theorem rfixed_one0 (w:World) (p:Option Addr) (n at_ en:Nat) (sz own:Int) (B:List UInt8) (h:PIn w p n at_ at_ en B) (c wd:Nat) (K:Int) (hc:c < 256) (hk:0 <= kindC c) (h0:c ≠ 0) (hwd:widR c = (wd:Nat)) (hK:kindC c = K) (hs:¬ en - at_ < wd) (h8:wd <= 8) (hKi:IsI64 K) (hmu:IsU64 (nAt B at_ wd)) (hsk:sgnK K = false) (n1:((c:Int) == 65) = true) :
  Calls prog 115 #[.agg #[.slice p n at_,.int .i64 (en:Nat),.int .i64 sz],.int .i64 (c:Int),.int .i64 (at_:Nat)] w fun e w'=>RTo w (.mk K 1 ⟨#[]⟩ [] 0,(at_+wd:Nat),0) e w':=by
 have HWF:=zH (wf_num (m:=1) hKi ⟨by omega,by omega⟩)
 clear hKi hmu
 have HW:=zH (fun W=>hwd ▸ rwidth_any c W hk h0)
 have HK:=zH (fun W=>hK ▸ rkind_any c W hc)
 have hha:=h.ha
 have hhe:=h.hen
 have hhn:=h.hn
 have dsub:IntKind.i64.wrap ((en:Int) - (at_:Nat)) = ((en - at_:Nat):Int):=by rw [IntWalk.i64_in _ (by omega)];omega
 have d1:¬ ((en - at_:Nat):Int) < (wd:Nat):=by omega
 have hle:=h.bytes.le
 have ib1:(0:Int) <= (at_:Nat):=by omega
 obtain ⟨a2,ha2⟩:∃ a2,at_+wd = a2:=⟨_,rfl⟩
 have hadd:IntKind.i64.wrap ((at_:Int)+(wd:Nat)) = (a2:Nat):=by rw [IntWalk.i64_in _ (by omega)];omega
 have ib2:((at_:Nat):Int) <= (a2:Nat):=by omega
 have ib3:((a2:Nat):Int) <= (at_:Nat):=by omega
 have ib4:((a2:Nat):Int) <= 140737488355328:=by omega
 have ib5:a2 - at_ = wd:=by omega
 try rw [ha2]
 have HS:=zH (fun W=>hsk ▸ rsigned_kind K W)
 have HN:=zH (show ∀ W,PIn W p n at_ at_ en B -> Calls prog 95 #[(.slice p wd 0)] W fun e w'=>e = .returned (.int .u64 (nAt B at_ wd:Nat))∧W = w' from fun W hW=>rnumber_any W _ _ _ _ (by have hb:=hW.bytes.part at_ wd (by omega);rw [if_pos rfl,Nat.sub_self] at hb;exact hb) h8)
 have HP:=zH h
 clear hs hc hk h0 hwd hK hle h hsk hha hhe hhn ha2
 generalize nAt B at_ wd = m at *
 clear h8
 go_enter func115,ntmps115
 go_upto_region 1 with fail
 obtain ⟨w0,x,y,hw,hx,hy,HXY,HF0,x0,x1,x2⟩:=frx w p n at_ en sz
 rw [hw,hx,hy]
 clear hw hx hy
 go_wp2_with fail
 refine (HW.out _).mono ?_
 rintro e w1 ⟨rfl,rfl⟩
 go_wp2_with fail
 refine (HK.out _).mono ?_
 rintro e w2 ⟨rfl,hb2⟩
 have HF2:=zH (HF0.out.next hb2)
 clear hb2
 go_wp2_with fail
 refine (HN.out _ (HP.out.blw HF2.out.blw)).mono ?_
 rintro e w3 ⟨rfl,rfl⟩
 go_upto_region 7 with (refine stV (.tmp 13) (.tmp 42) rfl rfl rfl rfl rfl (zN w2 _) rfl ?_)
 refine layW w2 ?_
 intro w4 hb4 oz
 have hyz:=HF2.out.lt
 have HF4:=zH (HF2.out.next hb4)
 obtain ⟨z,hz⟩:∃ z,w2.heap.size = z:=⟨_,rfl⟩
 rw [hz] at oz hyz ⊢
 have HZ:=zH (And.intro hyz oz)
 clear hb4 hz hyz
 obtain ⟨z0,z1,z2,z3,z4⟩:=c5 oz
 clear oz
 go_wp2_with fail
 refine (HS.out _).mono ?_
 rintro e w5 ⟨rfl,rfl⟩
 have fz:w4.frozen? ⟨z,1,none⟩ = false:=by simp [World.frozen?,HZ.out.2]
 go_upto_region 23 with fail
 have oz:=heap_setCell_same w4 z 1 _ _ (.int .u64 1) HZ.out.2
 have hf6:Fr w (w4.setCell ⟨z,1,none⟩ (.int .u64 1)) x y #[.slice p n at_,.int .i64 (en:Nat),.int .i64 sz]:=HF4.out.setz HZ.out.1 1 (.int .u64 1)
 have hyz:=HZ.out.1
 clear z0 z1 z2 z3 z4 fz HZ
 change Code.wp _ _ _ _ (w4.setCell ⟨z,1,none⟩ (.int .u64 1))
 generalize (w4.setCell ⟨z,1,none⟩ (.int .u64 1)) = w6 at *
 replace oz:w6.heap[z]? = some (.cells #[.int .i64 K,.int .u64 1,.string ⟨#[]⟩,.slice none 0 0,.int .i64 0] 25 (0,0)):=oz
 have HF6:=zH hf6
 have HZ:=zH (And.intro hyz oz)
 obtain ⟨z0,z1,z2,z3,z4⟩:=c5 oz
 clear oz hf6 hyz
 go_wp2_with (refine stV (.tmp 6) (.tmp 76) rfl rfl rfl rfl rfl (HF6.out.res) rfl ?_)
 refine bodyPost_ret (results_rfixed _ _ y #[.int .i64 K,.int .u64 1,.string ⟨#[]⟩,.slice none 0 0,.int .i64 0] rfl (HF6.out.row _) rfl) rfl ?_
 exact RTo.val (v:=.mk K 1 ⟨#[]⟩ [] 0) HF6.out (VO.nil _ _ HWF.out rfl) (Nat.le_refl _) (fun b hb=>hb.elim) _ _ rfl
theorem mrg_rfixed_plain (w:World) (p:Option Addr):(∀ (n cp at_ en:Nat) (sz own:Int) (B:List UInt8) (h:PIn w p n cp at_ en B) (c wd:Nat) (K:Int) (hc:c < 256) (hk:0 <= kindC c) (h0:c ≠ 0) (hwd:widR c = (wd:Nat)) (hK:kindC c = K) (hca:¬ cp = at_) (hs:¬ en - at_ < wd) (h8:wd <= 8) (hKi:IsI64 K) (hmu:IsU64 (nAt B at_ wd)) (hsk:sgnK K = false) (n1:((c:Int) == 65) = false) (n2:((c:Int) == 86) = false) (n3:((c:Int) == 115) = false) (n4:((c:Int) == 148) = false) (n5:((c:Int) == 152) = false),Calls prog 115 #[.agg #[.slice p n cp,.int .i64 (en:Nat),.int .i64 sz],.int .i64 (c:Int),.int .i64 (at_:Nat)] w fun e w'=>RTo w (.mk K (nAt B at_ wd:Nat) ⟨#[]⟩ [] 0,(at_+wd:Nat),0) e w') ∧
  (∀ (n at_ en:Nat) (sz own:Int) (B:List UInt8) (h:PIn w p n at_ at_ en B) (c wd:Nat) (K:Int) (hc:c < 256) (hk:0 <= kindC c) (h0:c ≠ 0) (hwd:widR c = (wd:Nat)) (hK:kindC c = K) (hs:¬ en - at_ < wd) (h8:wd <= 8) (hKi:IsI64 K) (hmu:IsU64 (nAt B at_ wd)) (hsk:sgnK K = false) (n1:((c:Int) == 65) = false) (n2:((c:Int) == 86) = false) (n3:((c:Int) == 115) = false) (n4:((c:Int) == 148) = false) (n5:((c:Int) == 152) = false),Calls prog 115 #[.agg #[.slice p n at_,.int .i64 (en:Nat),.int .i64 sz],.int .i64 (c:Int),.int .i64 (at_:Nat)] w fun e w'=>RTo w (.mk K (nAt B at_ wd:Nat) ⟨#[]⟩ [] 0,(at_+wd:Nat),0) e w') ∧
  (∀ (n cp at_ en:Nat) (sz own:Int) (B:List UInt8) (h:PIn w p n cp at_ en B) (c wd:Nat) (K:Int) (hc:c < 256) (hk:0 <= kindC c) (h0:c ≠ 0) (hwd:widR c = (wd:Nat)) (hK:kindC c = K) (hca:¬ cp = at_) (hs:¬ en - at_ < wd) (h8:wd <= 8) (hKi:IsI64 K) (hmu:IsU64 (nAt B at_ wd)) (hsw:wd = 1 ∨ wd = 2 ∨ wd = 4 ∨ wd = 8) (hm2:IsU64 (sgnX wd (nAt B at_ wd))) (hsk:sgnK K = true) (n1:((c:Int) == 65) = false) (n2:((c:Int) == 86) = false) (n3:((c:Int) == 115) = false) (n4:((c:Int) == 148) = false) (n5:((c:Int) == 152) = false),Calls prog 115 #[.agg #[.slice p n cp,.int .i64 (en:Nat),.int .i64 sz],.int .i64 (c:Int),.int .i64 (at_:Nat)] w fun e w'=>RTo w (.mk K (sgnX wd (nAt B at_ wd)) ⟨#[]⟩ [] 0,(at_+wd:Nat),0) e w') ∧
  (∀ (n cp at_ en:Nat) (sz own:Int) (B:List UInt8) (h:PIn w p n cp at_ en B) (c wd:Nat) (K:Int) (hc:c < 256) (hk:0 <= kindC c) (h0:c ≠ 0) (hwd:widR c = (wd:Nat)) (hK:kindC c = K) (hca:¬ cp = at_) (hs:¬ en - at_ < wd) (h8:wd <= 8) (hKi:IsI64 K) (hmu:IsU64 (nAt B at_ wd)) (hsk:sgnK K = false) (n1:((c:Int) == 65) = true),Calls prog 115 #[.agg #[.slice p n cp,.int .i64 (en:Nat),.int .i64 sz],.int .i64 (c:Int),.int .i64 (at_:Nat)] w fun e w'=>RTo w (.mk K 1 ⟨#[]⟩ [] 0,(at_+wd:Nat),0) e w') ∧
  (∀ (n cp at_ en:Nat) (sz own:Int) (B:List UInt8) (h:PIn w p n cp at_ en B) (c wd:Nat) (K:Int) (hc:c < 256) (hk:0 <= kindC c) (h0:c ≠ 0) (hwd:widR c = (wd:Nat)) (hK:kindC c = K) (hca:¬ cp = at_) (hs:¬ en - at_ < wd) (h8:wd <= 8) (hKi:IsI64 K) (hmu:IsU64 (nAt B at_ wd)) (hsk:sgnK K = false) (n1:((c:Int) == 65) = false) (n2:((c:Int) == 86) = true) (dm:¬ (1:Int) < (nAt B at_ wd:Nat)),Calls prog 115 #[.agg #[.slice p n cp,.int .i64 (en:Nat),.int .i64 sz],.int .i64 (c:Int),.int .i64 (at_:Nat)] w fun e w'=>RTo w (.mk K (nAt B at_ wd:Nat) ⟨#[]⟩ [] 0,(at_+wd:Nat),0) e w') ∧
  (∀ (n cp at_ en:Nat) (sz own:Int) (B:List UInt8) (h:PIn w p n cp at_ en B) (c wd:Nat) (K:Int) (hc:c < 256) (hk:0 <= kindC c) (h0:c ≠ 0) (hwd:widR c = (wd:Nat)) (hK:kindC c = K) (hca:¬ cp = at_) (hs:¬ en - at_ < wd) (h8:wd <= 8) (hKi:IsI64 K) (hmu:IsU64 (nAt B at_ wd)) (hsk:sgnK K = false) (n1:((c:Int) == 65) = false) (n2:((c:Int) == 86) = true) (dm:(1:Int) < (nAt B at_ wd:Nat)),Calls prog 115 #[.agg #[.slice p n cp,.int .i64 (en:Nat),.int .i64 sz],.int .i64 (c:Int),.int .i64 (at_:Nat)] w fun e w'=>RTo w (zeroV,(at_:Nat),31) e w') ∧
  (∀ (n cp at_ en:Nat) (sz own:Int) (B:List UInt8) (h:PIn w p n cp at_ en B) (c wd:Nat) (K:Int) (hc:c < 256) (hk:0 <= kindC c) (h0:c ≠ 0) (hwd:widR c = (wd:Nat)) (hK:kindC c = K) (hca:¬ cp = at_) (hs:¬ en - at_ < wd) (h8:wd <= 8) (hKi:IsI64 K) (hmu:IsU64 (nAt B at_ wd)) (hsk:sgnK K = false) (n1:((c:Int) == 65) = false) (n2:((c:Int) == 86) = false) (n3:((c:Int) == 115) = true) (dm:isCh (nAt B at_ wd) = true),Calls prog 115 #[.agg #[.slice p n cp,.int .i64 (en:Nat),.int .i64 sz],.int .i64 (c:Int),.int .i64 (at_:Nat)] w fun e w'=>RTo w (.mk K (nAt B at_ wd:Nat) ⟨#[]⟩ [] 0,(at_+wd:Nat),0) e w') ∧
  (∀ (n cp at_ en:Nat) (sz own:Int) (B:List UInt8) (h:PIn w p n cp at_ en B) (c wd:Nat) (K:Int) (hc:c < 256) (hk:0 <= kindC c) (h0:c ≠ 0) (hwd:widR c = (wd:Nat)) (hK:kindC c = K) (hca:¬ cp = at_) (hs:¬ en - at_ < wd) (h8:wd <= 8) (hKi:IsI64 K) (hmu:IsU64 (nAt B at_ wd)) (hsk:sgnK K = false) (n1:((c:Int) == 65) = false) (n2:((c:Int) == 86) = false) (n3:((c:Int) == 115) = true) (dm:isCh (nAt B at_ wd) = false),Calls prog 115 #[.agg #[.slice p n cp,.int .i64 (en:Nat),.int .i64 sz],.int .i64 (c:Int),.int .i64 (at_:Nat)] w fun e w'=>RTo w (zeroV,(at_:Nat),31) e w'):=by
 refine ⟨?_,?_,?_,?_,?_,?_,?_,?_⟩
 intro n cp at_ en sz own B h c wd K hc hk h0 hwd hK hca hs h8 hKi hmu hsk n1 n2 n3 n4 n5
 have HWF:=zH (wf_num hKi hmu)
 clear hKi hmu
 rotate_left
 intro n at_ en sz own B h c wd K hc hk h0 hwd hK hs h8 hKi hmu hsk n1 n2 n3 n4 n5
 have HWF:=zH (wf_num hKi hmu)
 clear hKi hmu
 rotate_left
 intro n cp at_ en sz own B h c wd K hc hk h0 hwd hK hca hs h8 hKi hmu hsw hm2 hsk n1 n2 n3 n4 n5
 have HWF:=zH (wf_num hKi hm2)
 clear hKi hmu hm2
 rotate_left
 intro n cp at_ en sz own B h c wd K hc hk h0 hwd hK hca hs h8 hKi hmu hsk n1
 have HWF:=zH (wf_num (m:=1) hKi ⟨by omega,by omega⟩)
 clear hKi hmu
 rotate_left
 intro n cp at_ en sz own B h c wd K hc hk h0 hwd hK hca hs h8 hKi hmu hsk n1 n2 dm
 have HWF:=zH (wf_num hKi hmu)
 clear hKi hmu
 rotate_left
 intro n cp at_ en sz own B h c wd K hc hk h0 hwd hK hca hs h8 hKi hmu hsk n1 n2 dm
 clear hKi hmu
 rotate_left
 intro n cp at_ en sz own B h c wd K hc hk h0 hwd hK hca hs h8 hKi hmu hsk n1 n2 n3 dm
 have HWF:=zH (wf_num hKi hmu)
 have HC:=zH (show ∀ W,Calls prog 133 #[.int .u64 (nAt B at_ wd:Nat)] W fun e w'=>e = .returned (.bool true)∧W = w' from fun W=>by have:=rchar_any (nAt B at_ wd) W (by have:=hmu.2;omega);rw [dm] at this;exact this)
 clear hKi hmu dm
 rotate_left
 intro n cp at_ en sz own B h c wd K hc hk h0 hwd hK hca hs h8 hKi hmu hsk n1 n2 n3 dm
 have HC:=zH (show ∀ W,Calls prog 133 #[.int .u64 (nAt B at_ wd:Nat)] W fun e w'=>e = .returned (.bool false)∧W = w' from fun W=>by have:=rchar_any (nAt B at_ wd) W (by have:=hmu.2;omega);rw [dm] at this;exact this)
 clear hKi hmu dm
 rotate_left
 all_goals
  have HW:=zH (fun W=>hwd ▸ rwidth_any c W hk h0)
  have HK:=zH (fun W=>hK ▸ rkind_any c W hc)
  have hha:=h.ha
  have hhe:=h.hen
  have hhn:=h.hn
  have dsub:IntKind.i64.wrap ((en:Int) - (at_:Nat)) = ((en - at_:Nat):Int):=by rw [IntWalk.i64_in _ (by omega)];omega
  have d1:¬ ((en - at_:Nat):Int) < (wd:Nat):=by omega
  have hle:=h.bytes.le
  have ib1:(0:Int) <= (at_:Nat):=by omega
  obtain ⟨a2,ha2⟩:∃ a2,at_+wd = a2:=⟨_,rfl⟩
  have hadd:IntKind.i64.wrap ((at_:Int)+(wd:Nat)) = (a2:Nat):=by rw [IntWalk.i64_in _ (by omega)];omega
  have ib2:((at_:Nat):Int) <= (a2:Nat):=by omega
 have ib3:((a2:Nat):Int) <= (cp:Nat):=by omega
 rotate_left
 have ib3:((a2:Nat):Int) <= (at_:Nat):=by omega
 rotate_left
 have ib3:((a2:Nat):Int) <= (cp:Nat):=by omega
 rotate_left
 have ib3:((a2:Nat):Int) <= (cp:Nat):=by omega
 rotate_left
 have ib3:((a2:Nat):Int) <= (cp:Nat):=by omega
 rotate_left
 have ib3:((a2:Nat):Int) <= (cp:Nat):=by omega
 rotate_left
 have ib3:((a2:Nat):Int) <= (cp:Nat):=by omega
 rotate_left
 have ib3:((a2:Nat):Int) <= (cp:Nat):=by omega
 rotate_left
 all_goals
  have ib4:((a2:Nat):Int) <= 140737488355328:=by omega
  have ib5:a2 - at_ = wd:=by omega
  try rw [ha2]
  have HS:=zH (fun W=>hsk ▸ rsigned_kind K W)
 have HN:=zH (show ∀ W,PIn W p n cp at_ en B -> Calls prog 95 #[(.slice (p.map (fun x=>x.add at_)) wd (cp - at_))] W fun e w'=>e = .returned (.int .u64 (nAt B at_ wd:Nat))∧W = w' from fun W hW=>rnumber_any W _ _ _ _ (by have hb:=hW.bytes.part at_ wd (by omega);rw [if_neg hca] at hb;exact hb) h8)
 rotate_left
 have HN:=zH (show ∀ W,PIn W p n at_ at_ en B -> Calls prog 95 #[(.slice p wd 0)] W fun e w'=>e = .returned (.int .u64 (nAt B at_ wd:Nat))∧W = w' from fun W hW=>rnumber_any W _ _ _ _ (by have hb:=hW.bytes.part at_ wd (by omega);rw [if_pos rfl,Nat.sub_self] at hb;exact hb) h8)
 rotate_left
 have HN:=zH (show ∀ W,PIn W p n cp at_ en B -> Calls prog 95 #[(.slice (p.map (fun x=>x.add at_)) wd (cp - at_))] W fun e w'=>e = .returned (.int .u64 (nAt B at_ wd:Nat))∧W = w' from fun W hW=>rnumber_any W _ _ _ _ (by have hb:=hW.bytes.part at_ wd (by omega);rw [if_neg hca] at hb;exact hb) h8)
 have HSG:=zH (show ∀ W,PIn W p n cp at_ en B -> Calls prog 97 #[(.slice (p.map (fun x=>x.add at_)) wd (cp - at_))] W fun e w'=>e = .returned (.int .u64 (sgnX wd (nAt B at_ wd)))∧W = w' from fun W hW=>rsigned_any W _ _ _ _ (by have hb:=hW.bytes.part at_ wd (by omega);rw [if_neg hca] at hb;exact hb) hsw)
 rotate_left
 have HN:=zH (show ∀ W,PIn W p n cp at_ en B -> Calls prog 95 #[(.slice (p.map (fun x=>x.add at_)) wd (cp - at_))] W fun e w'=>e = .returned (.int .u64 (nAt B at_ wd:Nat))∧W = w' from fun W hW=>rnumber_any W _ _ _ _ (by have hb:=hW.bytes.part at_ wd (by omega);rw [if_neg hca] at hb;exact hb) h8)
 rotate_left
 have HN:=zH (show ∀ W,PIn W p n cp at_ en B -> Calls prog 95 #[(.slice (p.map (fun x=>x.add at_)) wd (cp - at_))] W fun e w'=>e = .returned (.int .u64 (nAt B at_ wd:Nat))∧W = w' from fun W hW=>rnumber_any W _ _ _ _ (by have hb:=hW.bytes.part at_ wd (by omega);rw [if_neg hca] at hb;exact hb) h8)
 rotate_left
 have HN:=zH (show ∀ W,PIn W p n cp at_ en B -> Calls prog 95 #[(.slice (p.map (fun x=>x.add at_)) wd (cp - at_))] W fun e w'=>e = .returned (.int .u64 (nAt B at_ wd:Nat))∧W = w' from fun W hW=>rnumber_any W _ _ _ _ (by have hb:=hW.bytes.part at_ wd (by omega);rw [if_neg hca] at hb;exact hb) h8)
 rotate_left
 have HN:=zH (show ∀ W,PIn W p n cp at_ en B -> Calls prog 95 #[(.slice (p.map (fun x=>x.add at_)) wd (cp - at_))] W fun e w'=>e = .returned (.int .u64 (nAt B at_ wd:Nat))∧W = w' from fun W hW=>rnumber_any W _ _ _ _ (by have hb:=hW.bytes.part at_ wd (by omega);rw [if_neg hca] at hb;exact hb) h8)
 rotate_left
 have HN:=zH (show ∀ W,PIn W p n cp at_ en B -> Calls prog 95 #[(.slice (p.map (fun x=>x.add at_)) wd (cp - at_))] W fun e w'=>e = .returned (.int .u64 (nAt B at_ wd:Nat))∧W = w' from fun W hW=>rnumber_any W _ _ _ _ (by have hb:=hW.bytes.part at_ wd (by omega);rw [if_neg hca] at hb;exact hb) h8)
 rotate_left
 all_goals
  have HP:=zH h
  clear hs hc hk h0 hwd hK hle h hsk hha hhe hhn ha2
  generalize nAt B at_ wd = m at *
  clear h8
 rotate_left 2
 focus
  generalize sgnX wd m = m2 at *
  clear hsw
 rotate_left 6
 all_goals
  go_enter func115,ntmps115
  go_upto_region 1 with fail
 obtain ⟨w0,x,y,hw,hx,hy,HXY,HF0,x0,x1,x2⟩:=frx w p n cp en sz
 rotate_left
 obtain ⟨w0,x,y,hw,hx,hy,HXY,HF0,x0,x1,x2⟩:=frx w p n at_ en sz
 rotate_left
 obtain ⟨w0,x,y,hw,hx,hy,HXY,HF0,x0,x1,x2⟩:=frx w p n cp en sz
 rotate_left
 obtain ⟨w0,x,y,hw,hx,hy,HXY,HF0,x0,x1,x2⟩:=frx w p n cp en sz
 rotate_left
 obtain ⟨w0,x,y,hw,hx,hy,HXY,HF0,x0,x1,x2⟩:=frx w p n cp en sz
 rotate_left
 obtain ⟨w0,x,y,hw,hx,hy,HXY,HF0,x0,x1,x2⟩:=frx w p n cp en sz
 rotate_left
 obtain ⟨w0,x,y,hw,hx,hy,HXY,HF0,x0,x1,x2⟩:=frx w p n cp en sz
 rotate_left
 obtain ⟨w0,x,y,hw,hx,hy,HXY,HF0,x0,x1,x2⟩:=frx w p n cp en sz
 rotate_left
 all_goals
  rw [hw,hx,hy]
  clear hw hx hy
  go_wp2_with fail
  refine (HW.out _).mono ?_
  rintro e w1 ⟨rfl,rfl⟩
  go_wp2_with fail
  refine (HK.out _).mono ?_
  rintro e w2 ⟨rfl,hb2⟩
  have HF2:=zH (HF0.out.next hb2)
  clear hb2
  go_wp2_with fail
  refine (HN.out _ (HP.out.blw HF2.out.blw)).mono ?_
  rintro e w3 ⟨rfl,rfl⟩
  go_upto_region 7 with (refine stV (.tmp 13) (.tmp 42) rfl rfl rfl rfl rfl (zN w2 _) rfl ?_)
  refine layW w2 ?_
  intro w4 hb4 oz
  have hyz:=HF2.out.lt
  have HF4:=zH (HF2.out.next hb4)
  obtain ⟨z,hz⟩:∃ z,w2.heap.size = z:=⟨_,rfl⟩
  rw [hz] at oz hyz ⊢
  have HZ:=zH (And.intro hyz oz)
  clear hb4 hz hyz
  obtain ⟨z0,z1,z2,z3,z4⟩:=c5 oz
  clear oz
  go_wp2_with fail
  refine (HS.out _).mono ?_
  rintro e w5 ⟨rfl,rfl⟩
 ·go_wp2_with (refine stV (.tmp 6) (.tmp 76) rfl rfl rfl rfl rfl (HF4.out.res) rfl ?_)
  refine bodyPost_ret (results_rfixed _ _ y #[.int .i64 K,.int .u64 m,.string ⟨#[]⟩,.slice none 0 0,.int .i64 0] rfl (HF4.out.row _) rfl) rfl ?_
  exact RTo.val (v:=.mk K m ⟨#[]⟩ [] 0) HF4.out (VO.nil _ _ HWF.out rfl) (Nat.le_refl _) (fun b hb=>hb.elim) _ _ rfl
 ·go_wp2_with (refine stV (.tmp 6) (.tmp 76) rfl rfl rfl rfl rfl (HF4.out.res) rfl ?_)
  refine bodyPost_ret (results_rfixed _ _ y #[.int .i64 K,.int .u64 m,.string ⟨#[]⟩,.slice none 0 0,.int .i64 0] rfl (HF4.out.row _) rfl) rfl ?_
  exact RTo.val (v:=.mk K m ⟨#[]⟩ [] 0) HF4.out (VO.nil _ _ HWF.out rfl) (Nat.le_refl _) (fun b hb=>hb.elim) _ _ rfl
 ·have fz:w4.frozen? ⟨z,1,none⟩ = false:=by simp [World.frozen?,HZ.out.2]
  go_wp2_with fail
  refine (HSG.out _ (HP.out.blw HF4.out.blw)).mono ?_
  rintro e w5 ⟨rfl,rfl⟩
  go_upto_region 9 with fail
  have oz:=heap_setCell_same w4 z 1 _ _ (.int .u64 m2) HZ.out.2
  have hf6:Fr w (w4.setCell ⟨z,1,none⟩ (.int .u64 m2)) x y #[.slice p n cp,.int .i64 (en:Nat),.int .i64 sz]:=HF4.out.setz HZ.out.1 1 (.int .u64 m2)
  have hyz:=HZ.out.1
  clear z0 z1 z2 z3 z4 fz HZ
  change Code.wp _ _ _ _ (w4.setCell ⟨z,1,none⟩ (.int .u64 m2))
  generalize (w4.setCell ⟨z,1,none⟩ (.int .u64 m2)) = w6 at *
  replace oz:w6.heap[z]? = some (.cells #[.int .i64 K,.int .u64 m2,.string ⟨#[]⟩,.slice none 0 0,.int .i64 0] 25 (0,0)):=oz
  have HF6:=zH hf6
  have HZ:=zH (And.intro hyz oz)
  obtain ⟨z0,z1,z2,z3,z4⟩:=c5 oz
  clear oz hf6 hyz
  go_wp2_with (refine stV (.tmp 6) (.tmp 76) rfl rfl rfl rfl rfl (HF6.out.res) rfl ?_)
  refine bodyPost_ret (results_rfixed _ _ y #[.int .i64 K,.int .u64 m2,.string ⟨#[]⟩,.slice none 0 0,.int .i64 0] rfl (HF6.out.row _) rfl) rfl ?_
  exact RTo.val (v:=.mk K m2 ⟨#[]⟩ [] 0) HF6.out (VO.nil _ _ HWF.out rfl) (Nat.le_refl _) (fun b hb=>hb.elim) _ _ rfl
 ·have fz:w4.frozen? ⟨z,1,none⟩ = false:=by simp [World.frozen?,HZ.out.2]
  go_upto_region 23 with fail
  have oz:=heap_setCell_same w4 z 1 _ _ (.int .u64 1) HZ.out.2
  have hf6:Fr w (w4.setCell ⟨z,1,none⟩ (.int .u64 1)) x y #[.slice p n cp,.int .i64 (en:Nat),.int .i64 sz]:=HF4.out.setz HZ.out.1 1 (.int .u64 1)
  have hyz:=HZ.out.1
  clear z0 z1 z2 z3 z4 fz HZ
  change Code.wp _ _ _ _ (w4.setCell ⟨z,1,none⟩ (.int .u64 1))
  generalize (w4.setCell ⟨z,1,none⟩ (.int .u64 1)) = w6 at *
  replace oz:w6.heap[z]? = some (.cells #[.int .i64 K,.int .u64 1,.string ⟨#[]⟩,.slice none 0 0,.int .i64 0] 25 (0,0)):=oz
  have HF6:=zH hf6
  have HZ:=zH (And.intro hyz oz)
  obtain ⟨z0,z1,z2,z3,z4⟩:=c5 oz
  clear oz hf6 hyz
  go_wp2_with (refine stV (.tmp 6) (.tmp 76) rfl rfl rfl rfl rfl (HF6.out.res) rfl ?_)
  refine bodyPost_ret (results_rfixed _ _ y #[.int .i64 K,.int .u64 1,.string ⟨#[]⟩,.slice none 0 0,.int .i64 0] rfl (HF6.out.row _) rfl) rfl ?_
  exact RTo.val (v:=.mk K 1 ⟨#[]⟩ [] 0) HF6.out (VO.nil _ _ HWF.out rfl) (Nat.le_refl _) (fun b hb=>hb.elim) _ _ rfl
 ·go_wp2_with (refine stV (.tmp 6) (.tmp 76) rfl rfl rfl rfl rfl (HF4.out.res) rfl ?_)
  refine bodyPost_ret (results_rfixed _ _ y #[.int .i64 K,.int .u64 m,.string ⟨#[]⟩,.slice none 0 0,.int .i64 0] rfl (HF4.out.row _) rfl) rfl ?_
  exact RTo.val (v:=.mk K m ⟨#[]⟩ [] 0) HF4.out (VO.nil _ _ HWF.out rfl) (Nat.le_refl _) (fun b hb=>hb.elim) _ _ rfl
 ·go_wp2_with (refine stV (.tmp 6) (.tmp 58) rfl rfl rfl rfl rfl (HF4.out.res) rfl ?_)
  refine bodyPost_ret (results_rfixed _ _ y zR rfl (HF4.out.row _) rfl) rfl ?_
  exact RTo.zero HF4.out _ _ rfl
 ·go_wp2_with fail
  refine (HC.out _).mono ?_
  rintro e w5 ⟨rfl,rfl⟩
  go_wp2_with (refine stV (.tmp 6) (.tmp 76) rfl rfl rfl rfl rfl (HF4.out.res) rfl ?_)
  refine bodyPost_ret (results_rfixed _ _ y #[.int .i64 K,.int .u64 m,.string ⟨#[]⟩,.slice none 0 0,.int .i64 0] rfl (HF4.out.row _) rfl) rfl ?_
  exact RTo.val (v:=.mk K m ⟨#[]⟩ [] 0) HF4.out (VO.nil _ _ HWF.out rfl) (Nat.le_refl _) (fun b hb=>hb.elim) _ _ rfl
 go_wp2_with fail
 refine (HC.out _).mono ?_
 rintro e w5 ⟨rfl,rfl⟩
 go_wp2_with (refine stV (.tmp 6) (.tmp 67) rfl rfl rfl rfl rfl (HF4.out.res) rfl ?_)
 refine bodyPost_ret (results_rfixed _ _ y zR rfl (HF4.out.row _) rfl) rfl ?_
 exact RTo.zero HF4.out _ _ rfl
def rfixed_plain:=fun w p=>(mrg_rfixed_plain w p).1
def rfixed_plain0:=fun w p=>(mrg_rfixed_plain w p).2.1
def rfixed_sgn:=fun w p=>(mrg_rfixed_plain w p).2.2.1
def rfixed_one:=fun w p=>(mrg_rfixed_plain w p).2.2.2.1
def rfixed_bool:=fun w p=>(mrg_rfixed_plain w p).2.2.2.2.1
def rfixed_boolx:=fun w p=>(mrg_rfixed_plain w p).2.2.2.2.2.1
def rfixed_char:=fun w p=>(mrg_rfixed_plain w p).2.2.2.2.2.2.1
def rfixed_charx:=fun w p=>(mrg_rfixed_plain w p).2.2.2.2.2.2.2
theorem mrg_rfixed_raw148 (w:World) (p:Option Addr) (n cp at_ en:Nat) (sz own:Int) (B:List UInt8) (h:PIn w p n cp at_ en B) (c wd:Nat) (K:Int) (hc:c < 256) (hk:0 <= kindC c) (h0:c ≠ 0) (hwd:widR c = (wd:Nat)) (hK:kindC c = K) (hca:¬ cp = at_) (hs:¬ en - at_ < wd) (hKw:(V.mk K 0 ⟨((B.drop at_).take wd).toArray⟩ [] 0).Wf) (hsk:sgnK K = false) (n1:((c:Int) == 65) = false) (n2:((c:Int) == 86) = false) (n3:((c:Int) == 115) = false):(∀ (n4:((c:Int) == 148) = true),Calls prog 115 #[.agg #[.slice p n cp,.int .i64 (en:Nat),.int .i64 sz],.int .i64 (c:Int),.int .i64 (at_:Nat)] w fun e w'=>RTo w (.mk K 0 ⟨((B.drop at_).take wd).toArray⟩ [] 0,(at_+wd:Nat),0) e w') ∧
  (∀ (n4:((c:Int) == 148) = false) (n5:((c:Int) == 152) = true),Calls prog 115 #[.agg #[.slice p n cp,.int .i64 (en:Nat),.int .i64 sz],.int .i64 (c:Int),.int .i64 (at_:Nat)] w fun e w'=>RTo w (.mk K 0 ⟨((B.drop at_).take wd).toArray⟩ [] 0,(at_+wd:Nat),0) e w'):=by
 refine ⟨?_,?_⟩
 intro n4
 rotate_left
 intro n4 n5
 rotate_left
 all_goals
  have HWF:=zH hKw
  clear hKw
  have HW:=zH (fun W=>hwd ▸ rwidth_any c W hk h0)
  have HK:=zH (fun W=>hK ▸ rkind_any c W hc)
  have hha:=h.ha
  have hhe:=h.hen
  have hhn:=h.hn
  have dsub:IntKind.i64.wrap ((en:Int) - (at_:Nat)) = ((en - at_:Nat):Int):=by rw [IntWalk.i64_in _ (by omega)];omega
  have d1:¬ ((en - at_:Nat):Int) < (wd:Nat):=by omega
  have hle:=h.bytes.le
  have ib1:(0:Int) <= (at_:Nat):=by omega
  obtain ⟨a2,ha2⟩:∃ a2,at_+wd = a2:=⟨_,rfl⟩
  have hadd:IntKind.i64.wrap ((at_:Int)+(wd:Nat)) = (a2:Nat):=by rw [IntWalk.i64_in _ (by omega)];omega
  have ib2:((at_:Nat):Int) <= (a2:Nat):=by omega
  have ib3:((a2:Nat):Int) <= (cp:Nat):=by omega
  have ib4:((a2:Nat):Int) <= 140737488355328:=by omega
  have ib5:a2 - at_ = wd:=by omega
  try rw [ha2]
  have HS:=zH (fun W=>hsk ▸ rsigned_kind K W)
  have HN:=zH (show ∀ W,PIn W p n cp at_ en B -> Calls prog 95 #[(.slice (p.map (fun x=>x.add at_)) wd (cp - at_))] W fun e w'=>(∃ m:Int,e = .returned (.int .u64 m))∧W = w' from fun W hW=>rnumber_some W _ _ _ _ (by have hb:=hW.bytes.part at_ wd (by omega);rw [if_neg hca] at hb;exact hb))
  have HV:=zH (show ∀ W,PIn W p n cp at_ en B -> (convert 28 9 (.slice (p.map (fun x=>x.add at_)) wd (cp - at_))).run prog W = .ok (.string ⟨((B.drop at_).take wd).toArray⟩) W from fun W hW=>run_string_bytes W _ _ 5 underlying28 underlying5 underlying9 _ _ _ _ (by have hb:=hW.bytes.part at_ wd (by omega);rw [if_neg hca] at hb;exact hb))
  have HP:=zH h
  clear hs hc hk h0 hwd hK hle h hsk hha hhe hhn ha2
  go_enter func115,ntmps115
  go_upto_region 1 with fail
  obtain ⟨w0,x,y,hw,hx,hy,HXY,HF0,x0,x1,x2⟩:=frx w p n cp en sz
  rw [hw,hx,hy]
  clear hw hx hy
  go_wp2_with fail
  refine (HW.out _).mono ?_
  rintro e w1 ⟨rfl,rfl⟩
  go_wp2_with fail
  refine (HK.out _).mono ?_
  rintro e w2 ⟨rfl,hb2⟩
  have HF2:=zH (HF0.out.next hb2)
  clear hb2
  go_wp2_with fail
  refine (HN.out _ (HP.out.blw HF2.out.blw)).mono ?_
  rintro e w3 ⟨⟨m,rfl⟩,rfl⟩
  go_upto_region 7 with (refine stV (.tmp 13) (.tmp 42) rfl rfl rfl rfl rfl (zN w2 _) rfl ?_)
  refine layW w2 ?_
  intro w4 hb4 oz
  have hyz:=HF2.out.lt
  have HF4:=zH (HF2.out.next hb4)
  obtain ⟨z,hz⟩:∃ z,w2.heap.size = z:=⟨_,rfl⟩
  rw [hz] at oz hyz ⊢
  have HZ:=zH (And.intro hyz oz)
  clear hb4 hz hyz
  obtain ⟨z0,z1,z2,z3,z4⟩:=c5 oz
  clear oz
  go_wp2_with fail
  refine (HS.out _).mono ?_
  rintro e w5 ⟨rfl,rfl⟩
  have fz:w4.frozen? ⟨z,1,none⟩ = false:=by simp [World.frozen?,HZ.out.2]
  go_upto_region 22 with fail
  have oz:=heap_setCell_same w4 z 1 _ _ (.int .u64 0) HZ.out.2
  have hf6:Fr w (w4.setCell ⟨z,1,none⟩ (.int .u64 0)) x y #[.slice p n cp,.int .i64 (en:Nat),.int .i64 sz]:=HF4.out.setz HZ.out.1 1 (.int .u64 0)
  have hyz:=HZ.out.1
  clear z0 z1 z2 z3 z4 fz HZ
  change Code.wp _ _ _ _ (w4.setCell ⟨z,1,none⟩ (.int .u64 0))
  generalize (w4.setCell ⟨z,1,none⟩ (.int .u64 0)) = w6 at *
  replace oz:w6.heap[z]? = some (.cells #[.int .i64 K,.int .u64 0,.string ⟨#[]⟩,.slice none 0 0,.int .i64 0] 25 (0,0)):=oz
  have HF6:=zH hf6
  have HZ:=zH (And.intro hyz oz)
  obtain ⟨z0,z1,z2,z3,z4⟩:=c5 oz
  clear oz hf6 hyz
  have hV:=HV.out w6 (HP.out.blw HF6.out.blw)
  have fz:w6.frozen? ⟨z,2,none⟩ = false:=by simp [World.frozen?,HZ.out.2]
  go_upto_region 23 with fail
  have oz:=heap_setCell_same w6 z 2 _ _ (.string ⟨((B.drop at_).take wd).toArray⟩) HZ.out.2
  have hf6:Fr w (w6.setCell ⟨z,2,none⟩ (.string ⟨((B.drop at_).take wd).toArray⟩)) x y #[.slice p n cp,.int .i64 (en:Nat),.int .i64 sz]:=HF6.out.setz HZ.out.1 2 (.string ⟨((B.drop at_).take wd).toArray⟩)
  have hyz:=HZ.out.1
  clear z0 z1 z2 z3 z4 fz HZ
  change Code.wp _ _ _ _ (w6.setCell ⟨z,2,none⟩ (.string ⟨((B.drop at_).take wd).toArray⟩))
  generalize (w6.setCell ⟨z,2,none⟩ (.string ⟨((B.drop at_).take wd).toArray⟩)) = w7 at *
  replace oz:w7.heap[z]? = some (.cells #[.int .i64 K,.int .u64 0,.string ⟨((B.drop at_).take wd).toArray⟩,.slice none 0 0,.int .i64 0] 25 (0,0)):=oz
  have HF7:=zH hf6
  have HZ:=zH (And.intro hyz oz)
  obtain ⟨z0,z1,z2,z3,z4⟩:=c5 oz
  clear oz hf6 hyz
  go_wp2_with (refine stV (.tmp 6) (.tmp 76) rfl rfl rfl rfl rfl (HF7.out.res) rfl ?_)
  refine bodyPost_ret (results_rfixed _ _ y #[.int .i64 K,.int .u64 0,.string ⟨((B.drop at_).take wd).toArray⟩,.slice none 0 0,.int .i64 0] rfl (HF7.out.row _) rfl) rfl ?_
  exact RTo.val (v:=.mk K 0 ⟨((B.drop at_).take wd).toArray⟩ [] 0) HF7.out (VO.nil _ _ HWF.out rfl) (Nat.le_refl _) (fun b hb=>hb.elim) _ _ rfl
def rfixed_raw148:=fun w p n cp at_ en sz own B h c wd K hc hk h0 hwd hK hca hs hKw hsk n1 n2 n3=>(mrg_rfixed_raw148 w p n cp at_ en sz own B h c wd K hc hk h0 hwd hK hca hs hKw hsk n1 n2 n3).1
def rfixed_raw152:=fun w p n cp at_ en sz own B h c wd K hc hk h0 hwd hK hca hs hKw hsk n1 n2 n3=>(mrg_rfixed_raw148 w p n cp at_ en sz own B h c wd K hc hk h0 hwd hK hca hs hKw hsk n1 n2 n3).2

theorem time_wid {c:Nat} (hk:0 <= kindC c) (h0:c ≠ 0):kindC c = 16 -> widC c = 8:=by
 rcases kindC_mem hk h0 with rfl|rfl|rfl|rfl|rfl|rfl|rfl|rfl|rfl|rfl|rfl|rfl|rfl|rfl|rfl|rfl|rfl|rfl|rfl|rfl|rfl|rfl|rfl|rfl|rfl|rfl|rfl|rfl|rfl|rfl|rfl|rfl|rfl|rfl|rfl|rfl|rfl|rfl|rfl <;> decide
def fxR (c:Nat) (s:List UInt8):Res :=
 if c / 16 = 4 then .ok (.mk (kindC c) (if c = 0x41 then 1 else 0) ⟨#[]⟩ [] 0,0) else if c / 16 = 9 then rawR c s else fixedR c s
theorem nAt_zero (B:List UInt8) (at_:Nat):nAt B at_ 0 = 0:=rfl
theorem raw_wf {K:Int} (hK:IsI64 K) (l:List UInt8) (h:l.length = 16):(V.mk K 0 (⟨l.toArray⟩:ByteArray) [] 0).Wf :=
 ⟨hK,⟨by show (0:Int) <= 0;omega,by show (0:Int) <= 18446744073709551615;omega⟩,by show l.toArray.size <= maxLen;rw [List.size_toArray,h];unfold maxLen;omega,⟨by show (-9223372036854775808:Int) <= 0;omega,by show (0:Int) <= 9223372036854775807;omega⟩⟩
def RfS (w:World) (p:Option Addr) (n cp at_ en:Nat) (sz own:Int) (B:List UInt8) (c:Nat):Prop:=Calls Tryz.prog 115 #[.agg #[.slice p n cp,.int .i64 (en:Nat),.int .i64 sz],.int .i64 ((c:Nat):Int),.int .i64 (at_:Nat)] w fun e w'=>RTo w (ansR n sz own at_ (fxR c (sOf B at_ en))) e w'
section
variable (w:World) (p:Option Addr) (n cp at_ en:Nat) (sz own:Int) (B:List UInt8) (h:PIn w p n cp at_ en B)
include h
theorem rfixed_c64:RfS w p n cp at_ en sz own B 64:=by
 by_cases hca:cp = at_
 ·subst hca
  exact rfixed_plain0 w p n cp en sz own B h 64 0 0 (by decide) (by decide) (by decide) rfl rfl (by omega) (by omega) ⟨by omega,by omega⟩ ⟨by rw [nAt_zero];decide,by rw [nAt_zero];decide⟩ rfl rfl rfl rfl rfl rfl
 ·exact rfixed_plain w p n cp at_ en sz own B h 64 0 0 (by decide) (by decide) (by decide) rfl rfl hca (by omega) (by omega) ⟨by omega,by omega⟩ ⟨by rw [nAt_zero];decide,by rw [nAt_zero];decide⟩ rfl rfl rfl rfl rfl rfl
theorem rfixed_c65:RfS w p n cp at_ en sz own B 65:=by
 by_cases hca:cp = at_
 ·subst hca
  exact rfixed_one0 w p n cp en sz own B h 65 0 1 (by decide) (by decide) (by decide) rfl rfl (by omega) (by omega) ⟨by omega,by omega⟩ ⟨by rw [nAt_zero];decide,by rw [nAt_zero];decide⟩ rfl rfl
 ·exact rfixed_one w p n cp at_ en sz own B h 65 0 1 (by decide) (by decide) (by decide) rfl rfl hca (by omega) (by omega) ⟨by omega,by omega⟩ ⟨by rw [nAt_zero];decide,by rw [nAt_zero];decide⟩ rfl rfl
theorem rfixed_c66:RfS w p n cp at_ en sz own B 66:=by
 by_cases hca:cp = at_
 ·subst hca
  exact rfixed_plain0 w p n cp en sz own B h 66 0 1 (by decide) (by decide) (by decide) rfl rfl (by omega) (by omega) ⟨by omega,by omega⟩ ⟨by rw [nAt_zero];decide,by rw [nAt_zero];decide⟩ rfl rfl rfl rfl rfl rfl
 ·exact rfixed_plain w p n cp at_ en sz own B h 66 0 1 (by decide) (by decide) (by decide) rfl rfl hca (by omega) (by omega) ⟨by omega,by omega⟩ ⟨by rw [nAt_zero];decide,by rw [nAt_zero];decide⟩ rfl rfl rfl rfl rfl rfl
theorem rfixed_c67:RfS w p n cp at_ en sz own B 67:=by
 by_cases hca:cp = at_
 ·subst hca
  exact rfixed_plain0 w p n cp en sz own B h 67 0 4 (by decide) (by decide) (by decide) rfl rfl (by omega) (by omega) ⟨by omega,by omega⟩ ⟨by rw [nAt_zero];decide,by rw [nAt_zero];decide⟩ rfl rfl rfl rfl rfl rfl
 ·exact rfixed_plain w p n cp at_ en sz own B h 67 0 4 (by decide) (by decide) (by decide) rfl rfl hca (by omega) (by omega) ⟨by omega,by omega⟩ ⟨by rw [nAt_zero];decide,by rw [nAt_zero];decide⟩ rfl rfl rfl rfl rfl rfl
theorem rfixed_c68:RfS w p n cp at_ en sz own B 68:=by
 by_cases hca:cp = at_
 ·subst hca
  exact rfixed_plain0 w p n cp en sz own B h 68 0 5 (by decide) (by decide) (by decide) rfl rfl (by omega) (by omega) ⟨by omega,by omega⟩ ⟨by rw [nAt_zero];decide,by rw [nAt_zero];decide⟩ rfl rfl rfl rfl rfl rfl
 ·exact rfixed_plain w p n cp at_ en sz own B h 68 0 5 (by decide) (by decide) (by decide) rfl rfl hca (by omega) (by omega) ⟨by omega,by omega⟩ ⟨by rw [nAt_zero];decide,by rw [nAt_zero];decide⟩ rfl rfl rfl rfl rfl rfl
theorem rfixed_c148:RfS w p n cp at_ en sz own B 148:=by
 have hl:(sOf B at_ en).length = en - at_:=sOf_len (by rw [h.len];exact h.hen)
 have hae:=h.ha
 show Calls _ _ _ _ fun e w'=>RTo w (ansR n sz own at_ (rawR 148 (sOf B at_ en))) e w'
 unfold rawR
 by_cases hs:en - at_ < 16
 ·rw [if_pos (by omega)]
  exact rfixed_short w p n cp at_ en sz own B h 148 16 14 (by decide) (by decide) (by decide) rfl rfl hs
 ·rw [if_neg (by omega),sOf_take (by omega)]
  have hle:=h.bytes.le
  have hen:=h.hen
  exact rfixed_raw148 w p n cp at_ en sz own B h 148 16 14 (by decide) (by decide) (by decide) rfl rfl (by omega) hs (raw_wf ⟨by omega,by omega⟩ _ (by rw [List.length_take,List.length_drop,h.len];omega)) rfl rfl rfl rfl rfl
theorem rfixed_c152:RfS w p n cp at_ en sz own B 152:=by
 have hl:(sOf B at_ en).length = en - at_:=sOf_len (by rw [h.len];exact h.hen)
 have hae:=h.ha
 show Calls _ _ _ _ fun e w'=>RTo w (ansR n sz own at_ (rawR 152 (sOf B at_ en))) e w'
 unfold rawR
 by_cases hs:en - at_ < 16
 ·rw [if_pos (by omega)]
  exact rfixed_short w p n cp at_ en sz own B h 152 16 17 (by decide) (by decide) (by decide) rfl rfl hs
 ·rw [if_neg (by omega),sOf_take (by omega)]
  have hle:=h.bytes.le
  have hen:=h.hen
  exact rfixed_raw152 w p n cp at_ en sz own B h 152 16 17 (by decide) (by decide) (by decide) rfl rfl (by omega) hs (raw_wf ⟨by omega,by omega⟩ _ (by rw [List.length_take,List.length_drop,h.len];omega)) rfl rfl rfl rfl rfl rfl
theorem rfixed_c69:RfS w p n cp at_ en sz own B 69:=by
 by_cases hca:cp = at_
 ·subst hca
  exact rfixed_plain0 w p n cp en sz own B h 69 0 21 (by decide) (by decide) (by decide) rfl rfl (by omega) (by omega) ⟨by omega,by omega⟩ ⟨by rw [nAt_zero];decide,by rw [nAt_zero];decide⟩ rfl rfl rfl rfl rfl rfl
 ·exact rfixed_plain w p n cp at_ en sz own B h 69 0 21 (by decide) (by decide) (by decide) rfl rfl hca (by omega) (by omega) ⟨by omega,by omega⟩ ⟨by rw [nAt_zero];decide,by rw [nAt_zero];decide⟩ rfl rfl rfl rfl rfl rfl
theorem rfixed_num (c:Nat) (hc:c < 256) (hk:0 <= kindC c) (h5:5 <= c / 16) (h8:c / 16 <= 8):RfS w p n cp at_ en sz own B c:=by
 have h0:c ≠ 0:=by omega
 have hwd:widR c = (widC c:Nat):=by unfold widR;rw [if_neg (by omega),if_pos (by omega)]
 have hw:widC c = 1 ∨ widC c = 2 ∨ widC c = 4 ∨ widC c = 8:=by
  have:c / 16 = 5 ∨ c / 16 = 6 ∨ c / 16 = 7 ∨ c / 16 = 8:=by omega
  unfold widC
  rcases this with e|e|e|e <;> rw [e] <;> decide
 have hl:(sOf B at_ en).length = en - at_:=sOf_len (by rw [h.len];exact h.hen)
 have hae:=h.ha
 have hle:=h.bytes.le
 have hen:=h.hen
 unfold RfS fxR
 rw [if_neg (by omega),if_neg (by omega)]
 unfold fixedR
 by_cases hs:en - at_ < widC c
 ·rw [if_pos (by omega)]
  exact rfixed_short w p n cp at_ en sz own B h c _ _ hc hk h0 hwd rfl hs
 have htk:beVal ((sOf B at_ en).take (widC c)) = nAt B at_ (widC c):=by unfold nAt;rw [sOf_take (by omega)]
 rw [if_neg (by omega),htk]
 have hmu:IsU64 (nAt B at_ (widC c)):=num_u64 (by omega)
 have hKi:IsI64 (kindC c):=by have:=kindC_le c;exact ⟨by omega,by omega⟩
 have nb:∀ k:Nat,c ≠ k -> ((c:Int) == (k:Int)) = false:=fun k hk=>by simp;omega
 by_cases e86:c = 86
 ·subst e86
  by_cases hm:1 < nAt B at_ 1
  ·rw [if_pos ⟨rfl,hm⟩]
   exact rfixed_boolx w p n cp at_ en sz own B h 86 1 1 hc hk h0 rfl rfl (by omega) hs (by decide) hKi hmu rfl rfl rfl (by omega)
  ·rw [if_neg (fun q=>hm q.2),if_neg (by omega),sgn_other _ _ (by decide)]
   exact rfixed_bool w p n cp at_ en sz own B h 86 1 1 hc hk h0 rfl rfl (by omega) hs (by decide) hKi hmu rfl rfl rfl (by have:¬ 1 < nAt B at_ 1:=hm;omega)
 by_cases e115:c = 115
 ·subst e115
  rw [if_neg (by omega)]
  by_cases hm:isCh (nAt B at_ 4) = true
  ·rw [if_neg (fun q=>absurd (hm.symm.trans q.2) (by decide)),sgn_other _ _ (by decide)]
   exact rfixed_char w p n cp at_ en sz own B h 115 4 15 hc hk h0 rfl rfl (by omega) hs (by decide) hKi hmu rfl rfl rfl rfl hm
  ·have hm2:isCh (nAt B at_ 4) = false:=by simpa using hm
   rw [if_pos ⟨rfl,hm2⟩]
   exact rfixed_charx w p n cp at_ en sz own B h 115 4 15 hc hk h0 rfl rfl (by omega) hs (by decide) hKi hmu rfl rfl rfl rfl hm2
 rw [if_neg (fun q=>e86 q.1),if_neg (fun q=>e115 q.1)]
 by_cases hg:kindC c = 6 ∨ kindC c = 7 ∨ kindC c = 8 ∨ kindC c = 9 ∨ kindC c = 16
 ·have e1:sgnX (widC c) (nAt B at_ (widC c)) = sgnW (kindC c) (widC c) (nAt B at_ (widC c)):=sgnX_eq _ _ (by have:=time_wid hk h0;omega)
  rw [← e1]
  exact rfixed_sgn w p n cp at_ en sz own B h c _ _ hc hk h0 hwd rfl (by omega) hs (by omega) hKi hmu hw (by rw [e1];exact sgn_u64 (by omega) nAt_lt) (by unfold sgnK;rcases hg with e|e|e|e|e <;> rw [e] <;> rfl) (nb 65 (by omega)) (nb 86 e86) (nb 115 e115) (nb 148 (by omega)) (nb 152 (by omega))
 ·rw [sgn_other _ _ (by omega)]
  exact rfixed_plain w p n cp at_ en sz own B h c _ _ hc hk h0 hwd rfl (by omega) hs (by omega) hKi hmu (by unfold sgnK;simp;omega) (nb 65 (by omega)) (nb 86 e86) (nb 115 e115) (nb 148 (by omega)) (nb 152 (by omega))
theorem rfixed_any (c:Nat) (hk:0 <= kindC c) (h0:c ≠ 0) (h9:c / 16 <= 9):Calls Tryz.prog 115 #[.agg #[.slice p n cp,.int .i64 (en:Nat),.int .i64 sz],.int .i64 ((c:Nat):Int),.int .i64 (at_:Nat)] w fun e w'=>RTo w (ansR n sz own at_ (fxR c (sOf B at_ en))) e w':=by
 by_cases h5:5 <= c / 16∧c / 16 <= 8
 ·exact rfixed_num w p n cp at_ en sz own B h c (by omega) hk h5.1 h5.2
 have hm:=kindC_mem hk h0
 have hm:c = 64 ∨ c = 65 ∨ c = 66 ∨ c = 67 ∨ c = 68 ∨ c = 148 ∨ c = 152 ∨ c = 69:=by omega
 rcases hm with rfl|rfl|rfl|rfl|rfl|rfl|rfl|rfl
 ·exact rfixed_c64 w p n cp at_ en sz own B h
 ·exact rfixed_c65 w p n cp at_ en sz own B h
 ·exact rfixed_c66 w p n cp at_ en sz own B h
 ·exact rfixed_c67 w p n cp at_ en sz own B h
 ·exact rfixed_c68 w p n cp at_ en sz own B h
 ·exact rfixed_c148 w p n cp at_ en sz own B h
 ·exact rfixed_c152 w p n cp at_ en sz own B h
 ·exact rfixed_c69 w p n cp at_ en sz own B h
end
end Go.Proofs.YtnnnfhobbnjmfaaGreatDoor
