/-
  Lemmas on the codec. Conditions: as each says.
-/
import Derived.Test.YtnnnfhobbnjmfaaGreatDoorWn33
import Derived.Test.YtnnnfhobbnjmfaaGreatDoorWn34
import Derived.Test.YtnnnfhobbnjmfaaGreatDoorWn32
namespace Go.Proofs.YtnnnfhobbnjmfaaGreatDoor
open Go.RowKit Go.Proofs.Tryz
set_option linter.all false
set_option maxHeartbeats 40000000
set_option maxRecDepth 20000

attribute [local go_sem] Oper.semAt_some

theorem results_rtext (tmps:Array Value) (w:World) (x:Nat) (cs:Array Value) (hx:tmps.getD 6 undef = .pointer (some ⟨x,0,none⟩)) (rx:w.heap[x]? = some (.cells cs 25 (0,0))) (hs:cs.size = 5) :
  (results Tryz.f112 tmps).run prog w = .ok (.tuple #[.agg cs,tmps.getD 7 undef,tmps.getD 8 undef]) w:=by
 have hx':tmps[6]?.getD undef = .pointer (some ⟨x,0,none⟩):=by simpa using hx
 have h1:=run_loadVar_row (P:=prog) w x 25 25 cs (0,0) _ rx underlying25 rfl (by rw [hs];as_aux_lemma=>kernel_rfl)
 simp [results,results112,hx',asAddr,h1]
theorem mrg_rtext_short1 (w:World) (p:Option Addr) (n cp at_ en:Nat) (sz own:Int) (B:List UInt8) (h:PIn w p n cp at_ en B) (c wd:Nat) (K:Int) (hc:c < 256) (hk:0 <= kindC c) (h10:10 <= c / 16) (hwd:wOf c = wd) (hK:kindC c = K):(∀ (hs:en - at_ < wd),Calls prog 112 #[.agg #[.slice p n cp,.int .i64 (en:Nat),.int .i64 sz],.int .i64 (c:Int),.int .i64 (at_:Nat)] w fun e w'=>RTo w (zeroV,shP n sz,shC sz) e w') ∧
  (∀ (hs:¬ en - at_ < wd) (hs2:en - at_ - wd < nAt B at_ wd),Calls prog 112 #[.agg #[.slice p n cp,.int .i64 (en:Nat),.int .i64 sz],.int .i64 (c:Int),.int .i64 (at_:Nat)] w fun e w'=>RTo w (zeroV,shP n sz,shC sz) e w'):=by
 refine ⟨?_,?_⟩
 intro hs
 rotate_left
 intro hs hs2
 rotate_left
 all_goals
  have HW:=zH (fun W=>hwd ▸ rwide_any c W hk h10)
  have hw14:=wOf_bd c
  rw [hwd] at hw14
 have HSH:=zH (fun W=>rshort_any W p n cp en sz)
 rotate_left
 have HK:=zH (fun W=>hK ▸ rkind_any c W hc)
 rotate_left
 all_goals
  have hha:=h.ha
  have hhe:=h.hen
  have hhn:=h.hn
  have dsub:IntKind.i64.wrap ((en:Int) - (at_:Nat)) = ((en - at_:Nat):Int):=by rw [IntWalk.i64_in _ (by omega)];omega
 have d1:((en - at_:Nat):Int) < (wd:Nat):=by omega
 clear hs hc hk h10 hwd hK
 rotate_left
 have d1:¬ ((en - at_:Nat):Int) < (wd:Nat):=by omega
 have hle:=h.bytes.le
 have hnb:=nAt_lt (B:=B) (at_:=at_) (wd:=wd)
 have hp4:256 ^ wd <= 256 ^ 4:=Nat.pow_le_pow_right (by omega) hw14.2
 have hpp:(256:Nat) ^ 4 = 4294967296:=rfl
 have ib1:(0:Int) <= (at_:Nat):=by omega
 obtain ⟨a2,ha2⟩:∃ a2,at_+wd = a2:=⟨_,rfl⟩
 obtain ⟨N,hN⟩:∃ N,nAt B at_ wd = N:=⟨_,rfl⟩
 rw [hN] at hs2 hnb
 try rw [ha2]
 try rw [hN]
 have hadd:IntKind.i64.wrap ((at_:Int)+(wd:Nat)) = (a2:Nat):=by rw [IntWalk.i64_in _ (by omega)];omega
 have ib2:((at_:Nat):Int) <= (a2:Nat):=by omega
 have ib3:((a2:Nat):Int) <= (cp:Nat):=by omega
 have ib4:((a2:Nat):Int) <= 140737488355328:=by omega
 have ib5:a2 - at_ = wd:=by omega
 have hca:¬ cp = at_:=by omega
 have hcv:IntKind.i64.wrap ((N:Nat):Int) = (N:Nat):=IntWalk.i64_in _ (by omega)
 have HN:=zH (show ∀ W,PIn W p n cp at_ en B -> Calls prog 95 #[(.slice (p.map (fun x=>x.add at_)) wd (cp - at_))] W fun e w'=>e = .returned (.int .u64 (N:Nat))∧W = w' from fun W hW=>(rnumber_any W _ _ _ _ (by have hb:=hW.bytes.part at_ wd (by omega);rw [if_neg hca] at hb;exact hb) (by omega)).mono (fun e w' q=>⟨by rw [q.1,← hN];rfl,q.2⟩))
 have HP:=zH h
 have dsub2:IntKind.i64.wrap ((en:Int) - (a2:Nat)) = ((en - a2:Nat):Int):=by rw [IntWalk.i64_in _ (by omega)];omega
 have d2:((en - a2:Nat):Int) < (N:Nat):=by omega
 have HSH:=zH (fun W=>rshort_any W p n cp en sz)
 clear hN hs hs2 hc hk h10 hwd hK hle h hnb hp4 hpp hha hhe hhn ha2 hw14 HK
 rotate_left
 all_goals
  go_enter func112,ntmps112
  go_upto_region 1 with fail
  obtain ⟨w0,x,y,hw,hx,hy,HXY,HF0,x0,x1,x2⟩:=frx w p n cp en sz
  rw [hw,hx,hy]
  clear hw hx hy
  go_wp2_with fail
  refine (HW.out _).mono ?_
  rintro e w1 ⟨rfl,rfl⟩
  go_wp2_with fail
 focus
  refine (HSH.out _).mono ?_
  rintro e w2 ⟨rfl,hb2⟩
  have HF2:=zH (HF0.out.next hb2)
  clear hb2
  go_wp2_with (refine stV (.tmp 6) (.tmp 30) rfl rfl rfl rfl rfl (HF2.out.res) rfl ?_)
 rotate_left
 focus
  refine (HN.out _ (HP.out.blw HF0.out.blw)).mono ?_
  rintro e w2 ⟨rfl,rfl⟩
  go_wp2_with fail
  refine (HSH.out _).mono ?_
  rintro e w3 ⟨rfl,hb2⟩
  have HF2:=zH (HF0.out.next hb2)
  clear hb2
  go_wp2_with (refine stV (.tmp 6) (.tmp 56) rfl rfl rfl rfl rfl (HF2.out.res) rfl ?_)
 rotate_left
 all_goals
  refine bodyPost_ret (results_rtext _ _ y zR rfl (HF2.out.row _) rfl) rfl ?_
  exact RTo.zero HF2.out _ _ rfl
def rtext_short1:=fun w p n cp at_ en sz own B h c wd K hc hk h10 hwd hK=>(mrg_rtext_short1 w p n cp at_ en sz own B h c wd K hc hk h10 hwd hK).1
def rtext_short2:=fun w p n cp at_ en sz own B h c wd K hc hk h10 hwd hK=>(mrg_rtext_short1 w p n cp at_ en sz own B h c wd K hc hk h10 hwd hK).2
theorem Fr.setRz {w wk:World} {x y z:Nat} {px:Array Value} (h:Fr w wk x y px) (hz:y < z) (cs:Array Value):Fr w (wk.setRow z cs) x y px :=
 ⟨below_setRow h.blw (by have:=h.hx;have:=h.hxy;omega) _,(setRow_other wk z x _ (by have:=h.hxy;omega)).trans h.part,(setRow_other wk z y _ (by omega)).trans h.res,h.hx,h.hxy⟩
theorem text_wf {K:Int} (hK:IsI64 K) (l:List UInt8) (h:l.length <= maxLen):(V.mk K 0 (⟨l.toArray⟩:ByteArray) [] 0).Wf :=
 ⟨hK,⟨by show (0:Int) <= 0;omega,by show (0:Int) <= 18446744073709551615;omega⟩,by show l.toArray.size <= maxLen;rw [List.size_toArray];exact h,⟨by show (-9223372036854775808:Int) <= 0;omega,by show (0:Int) <= 9223372036854775807;omega⟩⟩
theorem mrg_rtext_bin (w:World) (p:Option Addr) (n cp at_ en:Nat) (sz own:Int) (B:List UInt8) (h:PIn w p n cp at_ en B) (c wd:Nat) (K:Int) (hc:c < 256) (hk:0 <= kindC c) (h10:10 <= c / 16) (hwd:wOf c = wd) (hK:kindC c = K) (hKb:18 <= K∧K <= 20):(∀ (k19:(K == 19) = false) (k20:(K == 20) = false) (hs:¬ en - at_ < wd) (hs2:¬ en - at_ - wd < nAt B at_ wd),Calls prog 112 #[.agg #[.slice p n cp,.int .i64 (en:Nat),.int .i64 sz],.int .i64 (c:Int),.int .i64 (at_:Nat)] w fun e w'=>RTo w (.mk K 0 ⟨((B.drop (at_+wd)).take (nAt B at_ wd)).toArray⟩ [] 0,(at_+(wd+nAt B at_ wd):Nat),0) e w') ∧
  (∀ (k19:(K == 19) = true) (k20:(K == 20) = false) (hs:¬ en - at_ < wd) (hs2:¬ en - at_ - wd < nAt B at_ wd) (bad:Int) (hbad:utf8S ⟨((B.drop (at_+wd)).take (nAt B at_ wd)).toArray⟩ = bad) (hb:¬ (0:Int) <= bad),Calls prog 112 #[.agg #[.slice p n cp,.int .i64 (en:Nat),.int .i64 sz],.int .i64 (c:Int),.int .i64 (at_:Nat)] w fun e w'=>RTo w (.mk K 0 ⟨((B.drop (at_+wd)).take (nAt B at_ wd)).toArray⟩ [] 0,(at_+(wd+nAt B at_ wd):Nat),0) e w') ∧
  (∀ (k19:(K == 19) = true) (k20:(K == 20) = false) (hs:¬ en - at_ < wd) (hs2:¬ en - at_ - wd < nAt B at_ wd) (bad:Int) (hbad:utf8S ⟨((B.drop (at_+wd)).take (nAt B at_ wd)).toArray⟩ = bad) (hb:(0:Int) <= bad) (hb2:bad <= nAt B at_ wd) (q:Int) (hq:((at_+wd:Nat):Int)+bad = q),Calls prog 112 #[.agg #[.slice p n cp,.int .i64 (en:Nat),.int .i64 sz],.int .i64 (c:Int),.int .i64 (at_:Nat)] w fun e w'=>RTo w (zeroV,q,33) e w') ∧
  (∀ (k19:(K == 19) = false) (k20:(K == 20) = true) (hs:¬ en - at_ < wd) (hs2:¬ en - at_ - wd < nAt B at_ wd) (bad:Int) (hbad:asciiS ⟨((B.drop (at_+wd)).take (nAt B at_ wd)).toArray⟩ = bad) (hb:¬ (0:Int) <= bad),Calls prog 112 #[.agg #[.slice p n cp,.int .i64 (en:Nat),.int .i64 sz],.int .i64 (c:Int),.int .i64 (at_:Nat)] w fun e w'=>RTo w (.mk K 0 ⟨((B.drop (at_+wd)).take (nAt B at_ wd)).toArray⟩ [] 0,(at_+(wd+nAt B at_ wd):Nat),0) e w') ∧
  (∀ (k19:(K == 19) = false) (k20:(K == 20) = true) (hs:¬ en - at_ < wd) (hs2:¬ en - at_ - wd < nAt B at_ wd) (bad:Int) (hbad:asciiS ⟨((B.drop (at_+wd)).take (nAt B at_ wd)).toArray⟩ = bad) (hb:(0:Int) <= bad) (hb2:bad <= nAt B at_ wd) (q:Int) (hq:((at_+wd:Nat):Int)+bad = q),Calls prog 112 #[.agg #[.slice p n cp,.int .i64 (en:Nat),.int .i64 sz],.int .i64 (c:Int),.int .i64 (at_:Nat)] w fun e w'=>RTo w (zeroV,q,33) e w'):=by
 refine ⟨?_,?_,?_,?_,?_⟩
 intro k19 k20 hs hs2
 rotate_left
 intro k19 k20 hs hs2 bad hbad hb
 rotate_left
 intro k19 k20 hs hs2 bad hbad hb hb2 q hq
 rotate_left
 intro k19 k20 hs hs2 bad hbad hb
 rotate_left
 intro k19 k20 hs hs2 bad hbad hb hb2 q hq
 rotate_left
 all_goals
  have HW:=zH (fun W=>hwd ▸ rwide_any c W hk h10)
  have hw14:=wOf_bd c
  rw [hwd] at hw14
  have HK:=zH (fun W=>hK ▸ rkind_any c W hc)
  have hha:=h.ha
  have hhe:=h.hen
  have hhn:=h.hn
  have dsub:IntKind.i64.wrap ((en:Int) - (at_:Nat)) = ((en - at_:Nat):Int):=by rw [IntWalk.i64_in _ (by omega)];omega
  have d1:¬ ((en - at_:Nat):Int) < (wd:Nat):=by omega
  have hle:=h.bytes.le
  have hnb:=nAt_lt (B:=B) (at_:=at_) (wd:=wd)
  have hp4:256 ^ wd <= 256 ^ 4:=Nat.pow_le_pow_right (by omega) hw14.2
  have hpp:(256:Nat) ^ 4 = 4294967296:=rfl
  have ib1:(0:Int) <= (at_:Nat):=by omega
  obtain ⟨a2,ha2⟩:∃ a2,at_+wd = a2:=⟨_,rfl⟩
  obtain ⟨N,hN⟩:∃ N,nAt B at_ wd = N:=⟨_,rfl⟩
  rw [hN] at hs2 hnb
  try rw [ha2]
  try rw [hN]
  have hadd:IntKind.i64.wrap ((at_:Int)+(wd:Nat)) = (a2:Nat):=by rw [IntWalk.i64_in _ (by omega)];omega
  have ib2:((at_:Nat):Int) <= (a2:Nat):=by omega
  have ib3:((a2:Nat):Int) <= (cp:Nat):=by omega
  have ib4:((a2:Nat):Int) <= 140737488355328:=by omega
  have ib5:a2 - at_ = wd:=by omega
  have hca:¬ cp = at_:=by omega
  have hcv:IntKind.i64.wrap ((N:Nat):Int) = (N:Nat):=IntWalk.i64_in _ (by omega)
  have HN:=zH (show ∀ W,PIn W p n cp at_ en B -> Calls prog 95 #[(.slice (p.map (fun x=>x.add at_)) wd (cp - at_))] W fun e w'=>e = .returned (.int .u64 (N:Nat))∧W = w' from fun W hW=>(rnumber_any W _ _ _ _ (by have hb:=hW.bytes.part at_ wd (by omega);rw [if_neg hca] at hb;exact hb) (by omega)).mono (fun e w' q=>⟨by rw [q.1,← hN];rfl,q.2⟩))
  have HP:=zH h
  have dsub2:IntKind.i64.wrap ((en:Int) - (a2:Nat)) = ((en - a2:Nat):Int):=by rw [IntWalk.i64_in _ (by omega)];omega
  have d2:¬ ((en - a2:Nat):Int) < (N:Nat):=by omega
  have hN2:a2+N <= n:=by omega
  obtain ⟨a3,ha3⟩:∃ a3,a2+N = a3:=⟨_,rfl⟩
  have hadd2:IntKind.i64.wrap (((a2:Nat):Int)+(N:Nat)) = (a3:Nat):=by rw [IntWalk.i64_in _ (by omega)];omega
  have ic1:(0:Int) <= (a2:Nat):=by omega
  have ic2:((a2:Nat):Int) <= (a3:Nat):=by omega
  have ic3:((a3:Nat):Int) <= (cp:Nat):=by omega
  have ic4:((a3:Nat):Int) <= 140737488355328:=by omega
  have ic5:a3 - a2 = N:=by omega
  have HV:=zH (show ∀ W,PIn W p n cp at_ en B -> (convert 28 9 (.slice (if cp = a2 then p else p.map (fun x=>x.add a2)) N (cp - a2))).run prog W = .ok (.string ⟨((B.drop a2).take N).toArray⟩) W from fun W hW=>run_string_bytes W _ _ 5 underlying28 underlying5 underlying9 _ _ _ _ (hW.bytes.part a2 N (by omega)))
 have hmx:N <= maxLen:=by unfold maxLen;omega
 have HWF:=zH (show (V.mk K 0 ⟨((B.drop a2).take N).toArray⟩ [] 0).Wf from text_wf ⟨by omega,by omega⟩ _ (by rw [List.length_take];omega))
 rotate_left
 have hsz:(⟨((B.drop a2).take N).toArray⟩:ByteArray).size <= N:=by show (List.toArray _).size <= N;rw [List.size_toArray,List.length_take];omega
 have HU:=zH (show ∀ W,Calls prog 129 #[.string ⟨((B.drop a2).take N).toArray⟩] W fun e w'=>e = .returned (.int .i64 bad)∧W = w' from fun W=>by
  have q:=refUtf8_any (⟨((B.drop a2).take N).toArray⟩) W (by omega)
  rw [ha2,hN] at hbad
  rw [hbad] at q
  exact q)
 clear hbad hsz
 have hmx:N <= maxLen:=by unfold maxLen;omega
 have HWF:=zH (show (V.mk K 0 ⟨((B.drop a2).take N).toArray⟩ [] 0).Wf from text_wf ⟨by omega,by omega⟩ _ (by rw [List.length_take];omega))
 rotate_left
 have hsz:(⟨((B.drop a2).take N).toArray⟩:ByteArray).size <= N:=by show (List.toArray _).size <= N;rw [List.size_toArray,List.length_take];omega
 have HU:=zH (show ∀ W,Calls prog 129 #[.string ⟨((B.drop a2).take N).toArray⟩] W fun e w'=>e = .returned (.int .i64 bad)∧W = w' from fun W=>by
  have q:=refUtf8_any (⟨((B.drop a2).take N).toArray⟩) W (by omega)
  rw [ha2,hN] at hbad
  rw [hbad] at q
  exact q)
 clear hbad hsz
 have hwq:IntKind.i64.wrap ((a2:Int)+bad) = q:=by rw [IntWalk.i64_in _ (by omega)];omega
 clear hb2 hq
 rotate_left
 have hsz:(⟨((B.drop a2).take N).toArray⟩:ByteArray).size <= N:=by show (List.toArray _).size <= N;rw [List.size_toArray,List.length_take];omega
 have HU:=zH (show ∀ W,Calls prog 130 #[.string ⟨((B.drop a2).take N).toArray⟩] W fun e w'=>e = .returned (.int .i64 bad)∧W = w' from fun W=>by
  have q:=refAscii_any (⟨((B.drop a2).take N).toArray⟩) W (by omega)
  rw [ha2,hN] at hbad
  rw [hbad] at q
  exact q)
 clear hbad hsz
 have hmx:N <= maxLen:=by unfold maxLen;omega
 have HWF:=zH (show (V.mk K 0 ⟨((B.drop a2).take N).toArray⟩ [] 0).Wf from text_wf ⟨by omega,by omega⟩ _ (by rw [List.length_take];omega))
 rotate_left
 have hsz:(⟨((B.drop a2).take N).toArray⟩:ByteArray).size <= N:=by show (List.toArray _).size <= N;rw [List.size_toArray,List.length_take];omega
 have HU:=zH (show ∀ W,Calls prog 130 #[.string ⟨((B.drop a2).take N).toArray⟩] W fun e w'=>e = .returned (.int .i64 bad)∧W = w' from fun W=>by
  have q:=refAscii_any (⟨((B.drop a2).take N).toArray⟩) W (by omega)
  rw [ha2,hN] at hbad
  rw [hbad] at q
  exact q)
 clear hbad hsz
 have hwq:IntKind.i64.wrap ((a2:Int)+bad) = q:=by rw [IntWalk.i64_in _ (by omega)];omega
 clear hb2 hq
 rotate_left
 all_goals
  have ha23:=zH (And.intro ha2 (And.intro ha3 hN))
  clear hKb hs hs2 hc hk h10 hwd hK hle h hnb hp4 hpp hha hhe hhn ha2 ha3 hw14 hN2 hN
  go_enter func112,ntmps112
  go_upto_region 1 with fail
  obtain ⟨w0,x,y,hw,hx,hy,HXY,HF0,x0,x1,x2⟩:=frx w p n cp en sz
  rw [hw,hx,hy]
  clear hw hx hy
  go_wp2_with fail
  refine (HW.out _).mono ?_
  rintro e w1 ⟨rfl,rfl⟩
  go_wp2_with fail
  refine (HN.out _ (HP.out.blw HF0.out.blw)).mono ?_
  rintro e w2 ⟨rfl,rfl⟩
  go_upto_region 10 with fail
  clear x0 x1 x2
  go_cut [15] from 50 (fun t15 wx=>∃ z:Nat,t15 = .pointer (some ⟨z,0,none⟩)∧wx.heap[z]? = some (.cells #[.int .i64 K,.int .u64 0,.string ⟨((B.drop a2).take N).toArray⟩,.slice none 0 0,.int .i64 0] 25 (0,0))∧y < z∧Fr w wx x y #[.slice p n cp,.int .i64 (en:Nat),.int .i64 sz])
  case first =>
   rename_i JJ hJJ KK hKK
   refine wp_region_heldN (fun V=>Fr w V x y #[.slice p n cp,.int .i64 (en:Nat),.int .i64 sz]) 13 rfl (by kernel_rfl) ?_
   have hS:Fr w w0.drew x y #[.slice p n cp,.int .i64 (en:Nat),.int .i64 sz]:=HF0.out.next (bdrew (Below.refl _ _))
   refine tkI 0 (.int .i64 (c:Int)) 59 rfl rfl (by kernel_rfl) (fun _ _ _=>id) (by rfl) (by rintro V h0;go_simp) hS ?_
   try simp only [Act.put,sA,sB,sC]
   refine tkI 2 (.pointer (some ⟨x,0,none⟩)) 61 rfl rfl (by kernel_rfl) (fun _ _ _=>id) (by rfl) (by rintro V h0;go_simp) hS ?_
   try simp only [Act.put,sA,sB,sC]
   refine tkI 3 (.slice p n cp) 62 rfl rfl (by kernel_rfl) (fun _ _ _=>id) (by rfl) (by rintro V h0;have y0:=(cell_of_row V _ 0 _ _ _ h0.part).trans rfl;go_simp) hS ?_
   try simp only [Act.put,sA,sB,sC]
   refine tkI 4 (.int .i64 (a2:Nat)) 63 rfl rfl (by kernel_rfl) (fun _ _ _=>id) (by rfl) (by rintro V h0;go_simp) hS ?_
   try simp only [Act.put,sA,sB,sC]
   refine tkI 5 (.int .i64 (a2:Nat)) 64 rfl rfl (by kernel_rfl) (fun _ _ _=>id) (by rfl) (by rintro V h0;go_simp) hS ?_
   try simp only [Act.put,sA,sB,sC]
   refine tkI 6 (.int .i64 (N:Nat)) 65 rfl rfl (by kernel_rfl) (fun _ _ _=>id) (by rfl) (by rintro V h0;go_simp) hS ?_
   try simp only [Act.put,sA,sB,sC]
   refine tkI 7 (.int .i64 (a3:Nat)) 66 rfl rfl (by kernel_rfl) (fun _ _ _=>id) (by rfl) (by rintro V h0;go_simp) hS ?_
   try simp only [Act.put,sA,sB,sC]
   refine tkI 8 ((.slice (if cp = a2 then p else p.map (fun x=>x.add a2)) N (cp - a2))) 67 rfl rfl (by kernel_rfl) (fun _ _ _=>id) (by rfl) (by rintro V h0;go_simp <;> omega) hS ?_
   try simp only [Act.put,sA,sB,sC]
   refine tkI 9 (.string ⟨((B.drop a2).take N).toArray⟩) 68 rfl rfl (by kernel_rfl) (fun _ _ _=>id) (by rfl) (by rintro V h0;have hV:=HV.out V (HP.out.blw h0.blw);go_simp) hS ?_
   try simp only [Act.put,sA,sB,sC]
   refine wpAnyH_all (rs:=[1,11]) (by kernel_rfl) (by simp) ?_
   intro i hi
   simp only [List.mem_cons,List.not_mem_nil,or_false] at hi
   rcases hi with rfl|rfl
   ·refine stepD (i:=1) rfl (by rfl) (fun K5 h5=>?_)
    go_simp
    (with_reducible refine (HK.out _).mono ?_)
    rintro e wc ⟨rfl,hbc⟩
    have hSc:Fr w wc x y #[.slice p n cp,.int .i64 (en:Nat),.int .i64 sz]:=hS.next hbc
    refine h5.out _ _ hSc ?_
    clear h5
    try simp only [Act.put,sA,sB,sC]
    refine tkD (i:=10) (v:=.agg #[.int .i64 K,.int .u64 0,.string ⟨((B.drop a2).take N).toArray⟩,.slice none 0 0,.int .i64 0]) (some 69) rfl rfl (by kernel_rfl) (fun _ _ _ h=>h) (Or.inl ⟨by rfl,by rintro V h0;go_simp⟩) hSc ?_
    try simp only [Act.put,sA,sB,sC]
    refine oneH (i:=11) (by kernel_rfl) ?_
    refine stepD (i:=11) rfl (by rfl) (fun K9 h9=>?_)
    go_simp
    have hSz:Fr w (wc.alloc (.cells zR 25)) x y #[.slice p n cp,.int .i64 (en:Nat),.int .i64 sz]:=hSc.next ((Below.refl _ _).alloc (Nat.le_refl _) _)
    have hzr:=zN wc (.cells zR 25)
    have hyz:y < wc.heap.size:=hSc.lt
    refine h9.out _ _ hSz ?_
    clear h9
    try simp only [Act.put,sA,sB,sC]
    refine oneH (i:=12) (by kernel_rfl) ?_
    refine stepD (i:=12) rfl (by rfl) (fun K10 h10=>?_)
    refine wp_store_rowN 25 (.tmp 15) (.tmp 69) rfl rfl wc.heap.size #[.int .i64 K,.int .u64 0,.string ⟨((B.drop a2).take N).toArray⟩,.slice none 0 0,.int .i64 0] rfl rfl 25 _ hzr (by as_aux_lemma=>kernel_rfl) (by as_aux_lemma=>kernel_rfl) (by simp [Value.oneCell']) ?_
    have hst:Fr w ((wc.alloc (.cells zR 25)).setRow wc.heap.size #[.int .i64 K,.int .u64 0,.string ⟨((B.drop a2).take N).toArray⟩,.slice none 0 0,.int .i64 0]) x y #[.slice p n cp,.int .i64 (en:Nat),.int .i64 sz]:=hSz.setRz hyz #[.int .i64 K,.int .u64 0,.string ⟨((B.drop a2).take N).toArray⟩,.slice none 0 0,.int .i64 0]
    have hrw:=setRow_heap (wc.alloc (.cells zR 25)) wc.heap.size _ #[.int .i64 K,.int .u64 0,.string ⟨((B.drop a2).take N).toArray⟩,.slice none 0 0,.int .i64 0] _ _ hzr
    refine h10.out _ _ hst ?_
    clear h10
    try simp only [Act.put,sA,sB,sC]
    refine wpAnyH_done (by kernel_rfl) ?_ _
    first
     | refine hKK _ _ (Met.intro (KK _ _ ?_))
     | refine KK _ _ (Met.intro (hKK _ _ ?_))
     | (refine Met.intro ?_;refine hKK _ _ (KK _ _ ?_))
    (repeat apply Exists.intro)
    refine ⟨?_,rfl⟩
    exact ⟨_,rfl,hrw,hyz,hst⟩
   ·refine stepD (i:=11) rfl (by rfl) (fun K9 h9=>?_)
    go_simp
    have hSz:Fr w (w0.drew.alloc (.cells zR 25)) x y #[.slice p n cp,.int .i64 (en:Nat),.int .i64 sz]:=hS.next ((Below.refl _ _).alloc (Nat.le_refl _) _)
    have hzr:(w0.drew.alloc (.cells zR 25)).heap[w0.drew.heap.size]? = some (.cells zR 25 (0,0)):=zN _ _
    have hyz:y < w0.drew.heap.size:=hS.lt
    refine h9.out _ _ hSz ?_
    clear h9
    try simp only [Act.put,sA,sB,sC]
    refine oneH (i:=1) (by kernel_rfl) ?_
    refine stepD (i:=1) rfl (by rfl) (fun K5 h5=>?_)
    go_simp
    (with_reducible refine (HK.out _).mono ?_)
    rintro e wc ⟨rfl,hbc⟩
    have hSc:Fr w wc x y #[.slice p n cp,.int .i64 (en:Nat),.int .i64 sz]:=hSz.next hbc
    refine h5.out _ _ hSc ?_
    clear h5
    try simp only [Act.put,sA,sB,sC]
    refine tkD (i:=10) (v:=.agg #[.int .i64 K,.int .u64 0,.string ⟨((B.drop a2).take N).toArray⟩,.slice none 0 0,.int .i64 0]) (some 69) rfl rfl (by kernel_rfl) (fun _ _ _ h=>h) (Or.inl ⟨by rfl,by rintro V h0;go_simp⟩) hSc ?_
    try simp only [Act.put,sA,sB,sC]
    have hzr2:=(hbc.block _ (gl hzr)).trans hzr
    refine oneH (i:=12) (by kernel_rfl) ?_
    refine stepD (i:=12) rfl (by rfl) (fun K10 h10=>?_)
    refine wp_store_rowN 25 (.tmp 15) (.tmp 69) rfl rfl w0.drew.heap.size #[.int .i64 K,.int .u64 0,.string ⟨((B.drop a2).take N).toArray⟩,.slice none 0 0,.int .i64 0] rfl rfl 25 _ hzr2 (by as_aux_lemma=>kernel_rfl) (by as_aux_lemma=>kernel_rfl) (by simp [Value.oneCell']) ?_
    have hst:Fr w (wc.setRow w0.drew.heap.size #[.int .i64 K,.int .u64 0,.string ⟨((B.drop a2).take N).toArray⟩,.slice none 0 0,.int .i64 0]) x y #[.slice p n cp,.int .i64 (en:Nat),.int .i64 sz]:=hSc.setRz hyz #[.int .i64 K,.int .u64 0,.string ⟨((B.drop a2).take N).toArray⟩,.slice none 0 0,.int .i64 0]
    have hrw:=setRow_heap wc w0.drew.heap.size _ #[.int .i64 K,.int .u64 0,.string ⟨((B.drop a2).take N).toArray⟩,.slice none 0 0,.int .i64 0] _ _ hzr2
    refine h10.out _ _ hst ?_
    clear h10
    try simp only [Act.put,sA,sB,sC]
    refine wpAnyH_done (by kernel_rfl) ?_ _
    first
     | refine hKK _ _ (Met.intro (KK _ _ ?_))
     | refine KK _ _ (Met.intro (hKK _ _ ?_))
     | (refine Met.intro ?_;refine hKK _ _ (KK _ _ ?_))
    (repeat apply Exists.intro)
    refine ⟨?_,rfl⟩
    exact ⟨_,rfl,hrw,hyz,hst⟩
  obtain ⟨z,rfl,oz,hyz,hfz⟩:=hcut
  have HF4:=zH hfz
  have HZ:=zH (And.intro hyz oz)
  rename World=>w4
  clear hyz hfz oz
  go_at_K
  obtain ⟨z0,z1,z2,z3,z4⟩:=c5 HZ.out.2
 ·go_wp2_with (refine stV (.tmp 6) (.tmp 88) rfl rfl rfl rfl rfl (HF4.out.res) rfl ?_)
  refine bodyPost_ret (results_rtext _ _ y #[.int .i64 K,.int .u64 0,.string ⟨((B.drop a2).take N).toArray⟩,.slice none 0 0,.int .i64 0] rfl (HF4.out.row _) rfl) rfl ?_
  refine RTo.val (v:=.mk K 0 ⟨((B.drop a2).take N).toArray⟩ [] 0) HF4.out (VO.nil _ _ HWF.out rfl) (Nat.le_refl _) (fun b hb=>hb.elim) _ _ ?_
  have h1:=ha23.out.1
  have h2:=ha23.out.2.1
  have h3:=ha23.out.2.2
  rw [show ((at_+(wd+N):Nat)) = a3 by omega]
 ·go_wp2_with fail
  refine (HU.out _).mono ?_
  rintro e w5 ⟨rfl,rfl⟩
  go_wp2_with (refine stV (.tmp 6) (.tmp 88) rfl rfl rfl rfl rfl (HF4.out.res) rfl ?_)
  refine bodyPost_ret (results_rtext _ _ y #[.int .i64 K,.int .u64 0,.string ⟨((B.drop a2).take N).toArray⟩,.slice none 0 0,.int .i64 0] rfl (HF4.out.row _) rfl) rfl ?_
  refine RTo.val (v:=.mk K 0 ⟨((B.drop a2).take N).toArray⟩ [] 0) HF4.out (VO.nil _ _ HWF.out rfl) (Nat.le_refl _) (fun b hb=>hb.elim) _ _ ?_
  have h1:=ha23.out.1
  have h2:=ha23.out.2.1
  have h3:=ha23.out.2.2
  rw [show ((at_+(wd+N):Nat)) = a3 by omega]
 ·go_wp2_with fail
  refine (HU.out _).mono ?_
  rintro e w5 ⟨rfl,rfl⟩
  go_wp2_with (refine stV (.tmp 6) (.tmp 84) rfl rfl rfl rfl rfl (HF4.out.res) rfl ?_)
  refine bodyPost_ret (results_rtext _ _ y zR rfl (HF4.out.row _) rfl) rfl ?_
  exact RTo.zero HF4.out _ _ rfl
 ·go_wp2_with fail
  refine (HU.out _).mono ?_
  rintro e w5 ⟨rfl,rfl⟩
  go_wp2_with (refine stV (.tmp 6) (.tmp 88) rfl rfl rfl rfl rfl (HF4.out.res) rfl ?_)
  refine bodyPost_ret (results_rtext _ _ y #[.int .i64 K,.int .u64 0,.string ⟨((B.drop a2).take N).toArray⟩,.slice none 0 0,.int .i64 0] rfl (HF4.out.row _) rfl) rfl ?_
  refine RTo.val (v:=.mk K 0 ⟨((B.drop a2).take N).toArray⟩ [] 0) HF4.out (VO.nil _ _ HWF.out rfl) (Nat.le_refl _) (fun b hb=>hb.elim) _ _ ?_
  have h1:=ha23.out.1
  have h2:=ha23.out.2.1
  have h3:=ha23.out.2.2
  rw [show ((at_+(wd+N):Nat)) = a3 by omega]
 go_wp2_with fail
 refine (HU.out _).mono ?_
 rintro e w5 ⟨rfl,rfl⟩
 go_wp2_with (refine stV (.tmp 6) (.tmp 84) rfl rfl rfl rfl rfl (HF4.out.res) rfl ?_)
 refine bodyPost_ret (results_rtext _ _ y zR rfl (HF4.out.row _) rfl) rfl ?_
 exact RTo.zero HF4.out _ _ rfl
def rtext_bin:=fun w p n cp at_ en sz own B h c wd K hc hk h10 hwd hK hKb=>(mrg_rtext_bin w p n cp at_ en sz own B h c wd K hc hk h10 hwd hK hKb).1
def rtext_19:=fun w p n cp at_ en sz own B h c wd K hc hk h10 hwd hK hKb=>(mrg_rtext_bin w p n cp at_ en sz own B h c wd K hc hk h10 hwd hK hKb).2.1
def rtext_19x:=fun w p n cp at_ en sz own B h c wd K hc hk h10 hwd hK hKb=>(mrg_rtext_bin w p n cp at_ en sz own B h c wd K hc hk h10 hwd hK hKb).2.2.1
def rtext_20:=fun w p n cp at_ en sz own B h c wd K hc hk h10 hwd hK hKb=>(mrg_rtext_bin w p n cp at_ en sz own B h c wd K hc hk h10 hwd hK hKb).2.2.2.1
def rtext_20x:=fun w p n cp at_ en sz own B h c wd K hc hk h10 hwd hK hKb=>(mrg_rtext_bin w p n cp at_ en sz own B h c wd K hc hk h10 hwd hK hKb).2.2.2.2
theorem rtext_any (w:World) (p:Option Addr) (n cp at_ en:Nat) (sz own:Int) (B:List UInt8) (h:PIn w p n cp at_ en B) (c:Nat) (hc:c / 16 = 10 ∨ c / 16 = 11) (hk:0 <= kindC c) :
  Calls prog 112 #[.agg #[.slice p n cp,.int .i64 (en:Nat),.int .i64 sz],.int .i64 (c:Int),.int .i64 (at_:Nat)] w fun e w'=>RTo w (ansR n sz own at_ (textR c (sOf B at_ en))) e w':=by
 have hl:(sOf B at_ en).length = en - at_:=sOf_len (by rw [h.len];exact h.hen)
 have hae:=h.ha
 have hle:=h.bytes.le
 have hen:=h.hen
 have hn:=h.hn
 have hc2:c < 256:=by omega
 have h10:10 <= c / 16:=by omega
 obtain ⟨wd,hwd⟩:∃ wd,wOf c = wd:=⟨_,rfl⟩
 unfold textR
 rw [hwd]
 by_cases hs:en - at_ < wd
 ·rw [if_pos (by omega)]
  exact rtext_short1 w p n cp at_ en sz own B h c wd (kindC c) hc2 hk h10 hwd rfl hs
 have htk:beVal ((sOf B at_ en).take wd) = nAt B at_ wd:=by unfold nAt;rw [sOf_take (by omega)]
 rw [if_neg (by omega),htk]
 by_cases hs2:en - at_ - wd < nAt B at_ wd
 ·rw [if_pos (by omega)]
  exact rtext_short2 w p n cp at_ en sz own B h c wd (kindC c) hc2 hk h10 hwd rfl hs hs2
 rw [if_neg (by omega)]
 have hst:txB (((sOf B at_ en).drop wd).take (nAt B at_ wd)) = ⟨((B.drop (at_+wd)).take (nAt B at_ wd)).toArray⟩:=by
  unfold txB
  rw [sOf_drop,sOf_take (by omega)]
 rw [hst]
 have hsz:(⟨((B.drop (at_+wd)).take (nAt B at_ wd)).toArray⟩:ByteArray).size = nAt B at_ wd:=by
  show (List.toArray _).size = _
  rw [List.size_toArray,List.length_take,List.length_drop,h.len]
  omega
 have hkk:kindC c = 18 ∨ kindC c = 19 ∨ kindC c = 20:=by
  rcases codes_text c hc hk with rfl|rfl|rfl|rfl|rfl|rfl
  ·exact .inl rfl
  ·exact .inr (.inl rfl)
  ·exact .inr (.inr rfl)
  ·exact .inl rfl
  ·exact .inr (.inl rfl)
  ·exact .inr (.inr rfl)
 rcases hkk with hk0|hk0|hk0
 ·rw [hk0,show badT 18 ⟨((B.drop (at_+wd)).take (nAt B at_ wd)).toArray⟩ = -1 from rfl,if_neg (by omega)]
  exact rtext_bin w p n cp at_ en sz own B h c wd 18 hc2 hk h10 hwd hk0 ⟨by decide,by decide⟩ rfl rfl hs hs2
 ·rw [hk0,show badT 19 ⟨((B.drop (at_+wd)).take (nAt B at_ wd)).toArray⟩ = utf8S ⟨((B.drop (at_+wd)).take (nAt B at_ wd)).toArray⟩ from rfl]
  obtain ⟨bad,hbad⟩:∃ bad,utf8S ⟨((B.drop (at_+wd)).take (nAt B at_ wd)).toArray⟩ = bad:=⟨_,rfl⟩
  have hbd:-1 <= bad∧bad <= ((⟨((B.drop (at_+wd)).take (nAt B at_ wd)).toArray⟩:ByteArray).size:Int):=by rw [← hbad];exact utf8F_bd _ _ _
  rw [hsz] at hbd
  rw [hbad]
  by_cases hb:(0:Int) <= bad
  ·rw [if_pos hb]
   have e1:ansR n sz own at_ (.error (.pl (wd+bad.toNat) (ec 33))) = (zeroV,((at_+wd:Nat):Int)+bad,33):=by
    show (zeroV,((at_+(wd+bad.toNat):Nat):Int),(33:Int)) = _
    rw [show ((at_+(wd+bad.toNat):Nat):Int) = ((at_+wd:Nat):Int)+bad by omega]
   rw [e1]
   exact rtext_19x w p n cp at_ en sz own B h c wd 19 hc2 hk h10 hwd hk0 ⟨by decide,by decide⟩ rfl rfl hs hs2 bad hbad hb hbd.2 _ rfl
  ·rw [if_neg hb]
   exact rtext_19 w p n cp at_ en sz own B h c wd 19 hc2 hk h10 hwd hk0 ⟨by decide,by decide⟩ rfl rfl hs hs2 bad hbad hb
 rw [hk0,show badT 20 ⟨((B.drop (at_+wd)).take (nAt B at_ wd)).toArray⟩ = asciiS ⟨((B.drop (at_+wd)).take (nAt B at_ wd)).toArray⟩ from rfl]
 obtain ⟨bad,hbad⟩:∃ bad,asciiS ⟨((B.drop (at_+wd)).take (nAt B at_ wd)).toArray⟩ = bad:=⟨_,rfl⟩
 have hbd:-1 <= bad∧bad <= ((⟨((B.drop (at_+wd)).take (nAt B at_ wd)).toArray⟩:ByteArray).size:Int):=by rw [← hbad];exact asciiF_bd _ _ _
 rw [hsz] at hbd
 rw [hbad]
 by_cases hb:(0:Int) <= bad
 ·rw [if_pos hb]
  have e1:ansR n sz own at_ (.error (.pl (wd+bad.toNat) (ec 33))) = (zeroV,((at_+wd:Nat):Int)+bad,33):=by
   show (zeroV,((at_+(wd+bad.toNat):Nat):Int),(33:Int)) = _
   rw [show ((at_+(wd+bad.toNat):Nat):Int) = ((at_+wd:Nat):Int)+bad by omega]
  rw [e1]
  exact rtext_20x w p n cp at_ en sz own B h c wd 20 hc2 hk h10 hwd hk0 ⟨by decide,by decide⟩ rfl rfl hs hs2 bad hbad hb hbd.2 _ rfl
 rw [if_neg hb]
 exact rtext_20 w p n cp at_ en sz own B h c wd 20 hc2 hk h10 hwd hk0 ⟨by decide,by decide⟩ rfl rfl hs hs2 bad hbad hb

attribute [local go_sem] Oper.semAt_some

theorem nodup_snoc {l:List V} {x:V} (h:l.Nodup) (hx:x ∉ l):(l ++ [x]).Nodup:=by
 rw [List.nodup_append]
 exact ⟨h,by simp,fun a ha b hb=>by simp at hb;subst hb;exact fun e=>hx (e ▸ ha)⟩
theorem not_nodup_of {l:List V} {i j:Nat} (hi:i < j) (hj:j < l.length) (e:l[i]'(by omega) = l[j]):¬ l.Nodup:=fun h=>by
 have:=List.pairwise_iff_getElem.1 h i j (by omega) hj hi
 exact this e
theorem rtwice_any (w:World) (v:V) (p:Option Addr) (c:Nat) (h:VIn w v (.slice p v.list.length c)) (hb9:v.list.length <= 140737488355328) :
  Calls Tryz.prog 132 #[.slice p v.list.length c] w fun e w'=>e = .returned (.bool (decide (¬ (evens v.list).Nodup)))∧Below w.heap.size w w':=by
 obtain ⟨p',c',hs,h1,h2,h3⟩:=h.slice
 obtain ⟨rfl,rfl⟩:p = p'∧c = c':=by simpa using hs
 obtain ⟨D,hD⟩:∃ D,decide (¬ (evens v.list).Nodup) = D:=⟨_,rfl⟩
 rw [hD]
 have hel:=evens_len v.list
 have hget:=evens_get v.list
 obtain ⟨N,hN⟩:∃ N,v.list.length = N:=⟨_,rfl⟩
 have HN:=zH hN
 rw [hN] at h h1 h3 hel hb9 ⊢
 obtain ⟨E,hE⟩:∃ E,evens v.list = E:=⟨_,rfl⟩
 rw [hE] at hD hel
 have HE:=zH hE
 have hget2:∀ i (h:2 * i < N) (h2:i < E.length),E[i] = v.list[2 * i]'(by rw [HN.out];exact h):=fun i q q2=>by subst hE;exact hget i (by rw [hN];exact q) q2
 unfold maxLen at h2
 have hN9:(N:Int) <= 140737488355328:=by omega
 have HD:=zH hD
 have HG:=zH (And.intro hel hget2)
 have HV:=zH h
 have H3:=zH h3
 clear h hD hel hget hget2 hE hN hs h3 h1 h2 hb9
 go_enter Tryz.func132,Tryz.ntmps132
 go_wp2_with fail
 go_loopw [3] (fun v3 wr=>∃ i m:Nat,v3 = .int .i64 i∧Hid (i = 2 * m∧m <= E.length)∧(i:Int) <= 140737488355330∧(E.take m).Nodup∧Below w.heap.size w wr) (fun v3 _=>140737488355340 - (intOf v3).toNat)
 case atStart=>exact ⟨0,0,rfl,zH ⟨rfl,Nat.zero_le _⟩,by decide,by simp,Below.refl _ _⟩
 obtain ⟨i,m,rfl,HI,hi9,hnd,hbw⟩:=hrel
 have HR:=zH (And.intro hnd hbw)
 clear hnd hbw
 by_cases hiN:(i:Int) < N
 ·have hmE:m < E.length:=by have:=HG.out.1;have:=HI.out.1;omega
  go_wp2_with fail
  go_loopw [4] (fun v4 wr=>∃ k j:Nat,v4 = .int .i64 k∧Hid (k = 2 * j)∧(k:Int) <= i∧(∀ j' (q:j' < E.length),j' < j -> E[j'] ≠ E[m])∧Below w.heap.size w wr) (fun v4 _=>140737488355340 - (intOf v4).toNat)
  case atStart=>exact ⟨0,0,rfl,zH rfl,by omega,fun j' _ q=>by omega,HR.out.2⟩
  case round =>
   obtain ⟨k,j,rfl,HK,hki,hne,hbq⟩:=hrel
   have HQ:=zH (And.intro hne hbq)
   clear hne hbq
   by_cases hlt:(k:Int) < i
   ·have ka:i < v.list.length:=by rw [HN.out];omega
    have kb:k < v.list.length:=by rw [HN.out];omega
    have hjm:j < m:=by have:=HK.out;have:=HI.out.1;omega
    have hjE:j < E.length:=by omega
    have hkN:(k:Int) < N:=by omega
    obtain ⟨b1,o1,rfl⟩:=H3.out (by omega)
    have hB:=HQ.out.2
    obtain ⟨ta,hta,hia⟩:=(HV.out.blw hB).part rfl ka
    obtain ⟨tb,htb,hib⟩:=(HV.out.blw hB).part rfl kb
    obtain ⟨c0,c1,c2,c3,c4⟩:=part_cells hta
    obtain ⟨d0,d1,d2,d3,d4⟩:=part_cells htb
    have hd:Below wr.heap.size wr wr.drew:=⟨rfl,rfl,rfl,Nat.le_refl _,fun _ _=>rfl⟩
    have hc:=requal_any _ wr.drew ta _ tb (hia.blw hd) (hib.blw hd)
    have e1:E[m] = v.list[i]:=by rw [HG.out.2 m (by have:=HI.out.1;omega) hmE];simp only [← HI.out.1]
    have e2:E[j] = v.list[k]:=by rw [HG.out.2 j (by have:=HK.out;omega) hjE];simp only [← HK.out]
    have HS:=zH (show ∀ j' (q:j' < E.length),j' < j+1 -> (decide (v.list[i] = v.list[k])) = false -> E[j'] ≠ E[m] from fun j' q hj he=>by
     by_cases e:j' = j
     ·subst e
      rw [e1,e2]
      exact fun q2=>of_decide_eq_false he q2.symm
     ·exact HQ.out.1 j' q (by omega))
    have HF:=zH (show (decide (v.list[i] = v.list[k])) = true -> D = true from fun he=>by
     rw [← HD.out]
     exact decide_eq_true (not_nodup_of hjm hmE (by rw [e1,e2];exact (of_decide_eq_true he).symm)))
    clear e1 e2
    generalize decide (v.list[i] = v.list[k]) = z at hc HS HF
    generalize v.list[i] = ya at *
    generalize v.list[k] = yb at *
    clear hB hta htb hia hib hd
    have HC:=zH hc
    clear hc
    go_wp2_with fail
    go_still_tail 8,(by kernel_rfl)
    change wpList _ _ _ _ _ wr.drew
    have HDR:Hid (Below w.heap.size w wr.drew):=zH ⟨HQ.out.2.os,HQ.out.2.tape,HQ.out.2.output,HQ.out.2.size,HQ.out.2.block⟩
    have hszd:w.heap.size <= wr.drew.heap.size:=HQ.out.2.size
    generalize wr.drew = wd at *
    go_wp2_with fail
    refine HC.out.mono ?_
    rintro e w2 ⟨rfl,hb2⟩
    have H2:=zH (HDR.out.trans (hb2.mono hszd))
    clear hb2
    by_cases hz:z = true
    ·have HZ:=zH (HF.out hz)
     subst hz
     go_wp2_with fail
     go_ret
     exact ⟨(by rw [HZ.out];rfl),H2.out⟩
    ·obtain rfl:z = false:=by simpa using hz
     clear hz
     go_wp2_with fail
     go_roundw
     case rel=>exact ⟨k+2,j+1,by go_num,zH (by have:=HK.out;omega),by have:=HK.out;have:=HI.out.1;omega,fun j' q hj=>HS.out j' q hj (by first|rfl|trivial),H2.out⟩
     case measure=>simp [intOf];omega
   ·have HNN:=zH (show (E.take (m+1)).Nodup from by
     have hjm:j = m:=by have:=HK.out;have:=HI.out.1;omega
     subst hjm
     rw [List.take_add_one,List.getElem?_eq_getElem hmE,Option.toList_some]
     refine nodup_snoc HR.out.1 (fun q=>?_)
     obtain ⟨j',hj',e⟩:=List.mem_iff_getElem.1 q
     rw [List.length_take] at hj'
     rw [List.getElem_take] at e
     exact HQ.out.1 j' (by omega) (by omega) e)
    go_wp2_with fail
    go_roundw
    case rel=>exact ⟨i+2,m+1,by go_num,zH ⟨by have:=HI.out.1;omega,by omega⟩,by omega,HNN.out,HQ.out.2⟩
    case measure=>simp [intOf];omega
 have HX:=zH (show D = false from by
  rw [← HD.out]
  have hm:E.length <= m:=by have:=HG.out.1;have:=HI.out.1;omega
  have q:=HR.out.1
  rw [List.take_of_length_le hm] at q
  exact decide_eq_false (fun r=>r q))
 go_wp2_with fail
 go_ret
 exact ⟨(by rw [HX.out];rfl),HR.out.2⟩
end Go.Proofs.YtnnnfhobbnjmfaaGreatDoor
