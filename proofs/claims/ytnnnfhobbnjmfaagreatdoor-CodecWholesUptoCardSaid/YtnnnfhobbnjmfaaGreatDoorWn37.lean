/-
  Lemmas on the codec. Conditions: as each says.
-/
import Derived.Test.YtnnnfhobbnjmfaaGreatDoorWn36
namespace Go.Proofs.YtnnnfhobbnjmfaaGreatDoor
open Go.RowKit Go.Proofs.Tryz
set_option linter.all false
set_option maxHeartbeats 40000000
set_option maxRecDepth 20000

attribute [local go_sem] Oper.semAt_some

theorem ans_bare {n a:Nat} {sz own:Int} (y:Er):ansR n sz (a:Int) a (.error y) = ansR n sz own a (.error (bareE y)):=by
 cases y <;> rfl
theorem widR_zero {c:Nat} (h:0 <= kindC c) (h0:c ≠ 0):widR c = 0 ↔ c / 16 = 4:=by
 rcases kindC_mem h h0 with rfl|rfl|rfl|rfl|rfl|rfl|rfl|rfl|rfl|rfl|rfl|rfl|rfl|rfl|rfl|rfl|rfl|rfl|rfl|rfl|rfl|rfl|rfl|rfl|rfl|rfl|rfl|rfl|rfl|rfl|rfl|rfl|rfl|rfl|rfl|rfl|rfl|rfl|rfl
 all_goals decide
theorem kindC_24 {c:Nat} (h:kindC c = 24):c = 0:=by
 by_cases h0:c = 0
 ·exact h0
 ·rcases kindC_mem (by omega) h0 with rfl|rfl|rfl|rfl|rfl|rfl|rfl|rfl|rfl|rfl|rfl|rfl|rfl|rfl|rfl|rfl|rfl|rfl|rfl|rfl|rfl|rfl|rfl|rfl|rfl|rfl|rfl|rfl|rfl|rfl|rfl|rfl|rfl|rfl|rfl|rfl|rfl|rfl|rfl
  all_goals (revert h;decide)
def RdD (fn:Nat) (p:Option Addr) (n cp:Nat) (B:List UInt8) (d:Int) (rd:Nat -> List UInt8 -> Res):Prop :=
 ∀ (W:World) (c a e:Nat) (sz own:Int),0 <= kindC c -> c ≠ 0 -> c / 16 ≠ 4 -> PIn W p n cp a e B -> Calls prog fn #[.agg #[.slice p n cp,.int .i64 (e:Nat),.int .i64 sz],.int .i64 (c:Int),.int .i64 (a:Nat),.int .i64 own,.int .i64 d] W fun e2 w'=>RTo W (ansR n sz own a (rd c (sOf B a e))) e2 w'
theorem results_rarr (tmps:Array Value) (w:World) (x:Nat) (cs:Array Value) (hx:tmps.getD 8 undef = .pointer (some ⟨x,0,none⟩)) (rx:w.heap[x]? = some (.cells cs 25 (0,0))) (hs:cs.size = 5) :
  (results Tryz.f114 tmps).run prog w = .ok (.tuple #[.agg cs,tmps.getD 9 undef,tmps.getD 10 undef]) w:=by
 have hx':tmps[8]?.getD undef = .pointer (some ⟨x,0,none⟩):=by simpa using hx
 have h1:=run_loadVar_row (P:=prog) w x 25 25 cs (0,0) _ rx underlying25 rfl (by rw [hs];as_aux_lemma=>kernel_rfl)
 simp [results,results114,hx',asAddr,h1]
theorem rarr_err (w:World) (p:Option Addr) (n cp at_ en:Nat) (sz own:Int) (B:List UInt8) (h:PIn w p n cp at_ en B) (c wd:Nat) (d:Int) (hc:c < 256) (hk:0 <= kindC c) (h10:10 <= c / 16) (hwd:wOf c = wd) (pl ec:Int) (hne:ec ≠ 0)
  (hsp:∀ W,PIn W p n cp at_ en B -> Calls prog 131 #[.agg #[.slice p n cp,.int .i64 (en:Nat),.int .i64 sz],.int .i64 (at_:Nat),.int .i64 (wd:Nat),.int .i64 ((wd:Int)+1)] W fun e w'=>e = .returned (.tuple #[.agg #[.slice none 0 0,.int .i64 0,.int .i64 0],.int .i64 pl,.int .i64 ec])∧Below W.heap.size W w') :
  Calls prog 114 #[.agg #[.slice p n cp,.int .i64 (en:Nat),.int .i64 sz],.int .i64 (c:Int),.int .i64 (at_:Nat),.int .i64 d] w fun e w'=>RTo w (zeroV,pl,ec) e w':=by
 have HW:=zH (fun W=>hwd ▸ rwide_any c W hk h10)
 have HSP:=zH hsp
 have HP:=zH h
 have hne1:(ec == 0) = false:=by simpa using hne
 have hne2:(ec != 0) = true:=by simpa using hne
 have hw14:=wOf_bd c
 rw [hwd] at hw14
 have hwi4:(wd:Int) <= 4:=by omega
 clear hne hsp h hc hk h10 hwd hw14
 go_enter func114,ntmps114
 go_upto_region 1 with fail
 obtain ⟨w0,x,y,hw,hx,hy,HXY,HF0,x0,x1,x2⟩:=frx w p n cp en sz
 rw [hw,hx,hy]
 clear hw hx hy
 go_wp2_with fail
 refine (HW.out _).mono ?_
 rintro e w1 ⟨rfl,rfl⟩
 go_wp2_with fail
 refine (HSP.out _ (HP.out.blw HF0.out.blw)).mono ?_
 rintro e w1 ⟨rfl,hb1⟩
 have HF1:=zH (HF0.out.next hb1)
 clear hb1 x0 x1 x2
 go_upto_region 3 with (refine wpList_store_rowTo rfl 94 (.tmp 12) (.tmp 32) rfl rfl w1.heap.size #[.slice none 0 0,.int .i64 0,.int .i64 0] rfl rfl 94 #[.slice none 0 0,.int .i64 0,.int .i64 0] (zN w1 _) (by as_aux_lemma=>kernel_rfl) (by as_aux_lemma=>kernel_rfl) (by simp [Value.oneCell']) ?_)
 have hb2:Below w1.heap.size w1 ((w1.alloc (.cells #[.slice none 0 0,.int .i64 0,.int .i64 0] 94)).setRow w1.heap.size #[.slice none 0 0,.int .i64 0,.int .i64 0]):=below_setRow ((Below.refl _ _).alloc (Nat.le_refl _) _) (Nat.le_refl _) _
 have oq:=setRow_heap (w1.alloc (.cells #[.slice none 0 0,.int .i64 0,.int .i64 0] 94)) w1.heap.size _ #[.slice none 0 0,.int .i64 0,.int .i64 0] _ _ (zN w1 _)
 change Code.wp _ _ _ _ ((w1.alloc (.cells #[.slice none 0 0,.int .i64 0,.int .i64 0] 94)).setRow w1.heap.size #[.slice none 0 0,.int .i64 0,.int .i64 0])
 generalize ((w1.alloc (.cells #[.slice none 0 0,.int .i64 0,.int .i64 0] 94)).setRow w1.heap.size #[.slice none 0 0,.int .i64 0,.int .i64 0]) = w2 at *
 have hyq:=HF1.out.lt
 have HF2:=zH (HF1.out.next hb2)
 obtain ⟨qb,hqb⟩:∃ qb,w1.heap.size = qb:=⟨_,rfl⟩
 rw [hqb] at oq hyq ⊢
 have HQ:=zH (And.intro hyq oq)
 clear hb2 hqb hyq oq
 go_wp2_with (refine stV (.tmp 8) (.tmp 37) rfl rfl rfl rfl rfl (HF2.out.res) rfl ?_)
 refine bodyPost_ret (results_rarr _ _ y zR rfl (HF2.out.row _) rfl) rfl ?_
 exact RTo.zero HF2.out _ _ rfl
theorem mrg_rarr_neg (w:World) (p:Option Addr) (n cp at_ en:Nat) (sz own:Int) (B:List UInt8) (h:PIn w p n cp at_ en B) (c wd:Nat) (d:Int) (hc:c < 256) (hk:0 <= kindC c) (h10:10 <= c / 16) (hwd:wOf c = wd) (a1 a2 a3 e2 N c1:Nat) (ha1:at_+wd = a1) (ha2:a1+wd = a2) (ha3:a2+1 = a3) (he2:a3 <= e2) (hee:e2 <= en) (hN:nAt B a1 wd = N) (hc1:(B.getD a2 0).toNat = c1) (hsp:∀ W,PIn W p n cp at_ en B -> Calls prog 131 #[.agg #[.slice p n cp,.int .i64 (en:Nat),.int .i64 sz],.int .i64 (at_:Nat),.int .i64 (wd:Nat),.int .i64 ((wd:Int)+1)] W fun e w'=>e = .returned (.tuple #[.agg #[.slice p n cp,.int .i64 (e2:Nat),.int .i64 (at_:Nat)],.int .i64 (a1:Nat),.int .i64 0])∧Below W.heap.size W w'):(∀ (hk1:kindC c1 < 0),Calls prog 114 #[.agg #[.slice p n cp,.int .i64 (en:Nat),.int .i64 sz],.int .i64 (c:Int),.int .i64 (at_:Nat),.int .i64 d] w fun e w'=>RTo w (zeroV,(a2:Nat),30) e w') ∧
  (∀ (hk1:kindC c1 = 24),Calls prog 114 #[.agg #[.slice p n cp,.int .i64 (en:Nat),.int .i64 sz],.int .i64 (c:Int),.int .i64 (at_:Nat),.int .i64 d] w fun e w'=>RTo w (zeroV,(a2:Nat),30) e w') ∧
  (∀ (hk1:0 <= kindC c1) (h01:c1 ≠ 0) (h41:c1 / 16 = 4),Calls prog 114 #[.agg #[.slice p n cp,.int .i64 (en:Nat),.int .i64 sz],.int .i64 (c:Int),.int .i64 (at_:Nat),.int .i64 d] w fun e w'=>RTo w (zeroV,(a2:Nat),30) e w'):=by
 refine ⟨?_,?_,?_⟩
 intro hk1
 rotate_left
 intro hk1
 rotate_left
 intro hk1 h01 h41
 rotate_left
 all_goals
  have HW:=zH (fun W=>hwd ▸ rwide_any c W hk h10)
  have hw14:=wOf_bd c
  rw [hwd] at hw14
  have hwi4:(wd:Int) <= 4:=by omega
  have hhe:=h.hen
  have hhn:=h.hn
  have hle:=h.bytes.le
  have HSP:=zH hsp
  have HP:=zH h
  have hnb:=nAt_lt (B:=B) (at_:=a1) (wd:=wd)
  have hp4:256 ^ wd <= 256 ^ 4:=Nat.pow_le_pow_right (by omega) hw14.2
  have hpp:(256:Nat) ^ 4 = 4294967296:=rfl
  rw [hN] at hnb
  have HNB:=zH (show N < 4294967296 by omega)
  have ib1:(0:Int) <= (a1:Nat):=by omega
  have hadd:IntKind.i64.wrap ((a1:Int)+(wd:Nat)) = (a2:Nat):=by rw [IntWalk.i64_in _ (by omega)];omega
  have ib2:((a1:Nat):Int) <= (a2:Nat):=by omega
  have ib3:((a2:Nat):Int) <= (cp:Nat):=by omega
  have ib4:((a2:Nat):Int) <= 140737488355328:=by omega
  have ib5:a2 - a1 = wd:=by omega
  have hca:¬ cp = a1:=by omega
  have hcv:IntKind.i64.wrap ((N:Nat):Int) = (N:Nat):=IntWalk.i64_in _ (by omega)
  have HN:=zH (show ∀ W,PIn W p n cp at_ en B -> Calls prog 95 #[(.slice (p.map (fun x=>x.add a1)) wd (cp - a1))] W fun e w'=>e = .returned (.int .u64 (N:Nat))∧W = w' from fun W hW=>(rnumber_any W _ _ _ _ (by have hb:=hW.bytes.part a1 wd (by omega);rw [if_neg hca] at hb;exact hb) (by omega)).mono (fun e w' q=>⟨by rw [q.1,← hN];rfl,q.2⟩))
  have HC1:=zH hc1
  have hx1:c1 < 256:=by rw [← hc1];exact UInt8.toNat_lt _
  have HK:=zH (fun W=>rkind_any c1 W hx1)
  have ha2n:(a2:Int) < n:=by omega
  have hcv1:IntKind.i64.wrap ((c1:Nat):Int) = (c1:Nat):=IntWalk.i64_in _ (by omega)
  have hadd3:IntKind.i64.wrap ((a2:Int)+1) = (a3:Nat):=by rw [IntWalk.i64_in _ (by omega)];omega
 focus
  generalize kindC c1 = K1 at *
 rotate_left
 rw [hk1] at HK
 rotate_left
 focus
  have HW1:=zH (fun W=>(widR_zero hk1 h01).2 h41 ▸ rwidth_any c1 W hk1 h01)
  have hk24:(kindC c1 == 24) = false:=by simp;exact fun q=>h01 (kindC_24 q)
  have hkn:¬ kindC c1 < 0:=by omega
  generalize kindC c1 = K1 at *
  clear hk1 h01 h41
 rotate_left
 all_goals
  clear hN hc hk h10 hwd hle h hnb hp4 hpp hhe hhn ha1 ha2 ha3 hw14 hsp he2 hee hc1 hx1
  go_enter func114,ntmps114
  go_upto_region 1 with fail
  obtain ⟨w0,x,y,hw,hx,hy,HXY,HF0,x0,x1,x2⟩:=frx w p n cp en sz
  rw [hw,hx,hy]
  clear hw hx hy
  go_wp2_with fail
  refine (HW.out _).mono ?_
  rintro e w1 ⟨rfl,rfl⟩
  go_wp2_with fail
  refine (HSP.out _ (HP.out.blw HF0.out.blw)).mono ?_
  rintro e w1 ⟨rfl,hb1⟩
  have HF1:=zH (HF0.out.next hb1)
  clear hb1 x0 x1 x2
  go_upto_region 3 with (refine wpList_store_rowTo rfl 94 (.tmp 12) (.tmp 32) rfl rfl w1.heap.size #[.slice p n cp,.int .i64 (e2:Nat),.int .i64 (at_:Nat)] rfl rfl 94 #[.slice none 0 0,.int .i64 0,.int .i64 0] (zN w1 _) (by as_aux_lemma=>kernel_rfl) (by as_aux_lemma=>kernel_rfl) (by simp [Value.oneCell']) ?_)
  have hb2:Below w1.heap.size w1 ((w1.alloc (.cells #[.slice none 0 0,.int .i64 0,.int .i64 0] 94)).setRow w1.heap.size #[.slice p n cp,.int .i64 (e2:Nat),.int .i64 (at_:Nat)]):=below_setRow ((Below.refl _ _).alloc (Nat.le_refl _) _) (Nat.le_refl _) _
  have oq:=setRow_heap (w1.alloc (.cells #[.slice none 0 0,.int .i64 0,.int .i64 0] 94)) w1.heap.size _ #[.slice p n cp,.int .i64 (e2:Nat),.int .i64 (at_:Nat)] _ _ (zN w1 _)
  change Code.wp _ _ _ _ ((w1.alloc (.cells #[.slice none 0 0,.int .i64 0,.int .i64 0] 94)).setRow w1.heap.size #[.slice p n cp,.int .i64 (e2:Nat),.int .i64 (at_:Nat)])
  generalize ((w1.alloc (.cells #[.slice none 0 0,.int .i64 0,.int .i64 0] 94)).setRow w1.heap.size #[.slice p n cp,.int .i64 (e2:Nat),.int .i64 (at_:Nat)]) = w2 at *
  have hyq:=HF1.out.lt
  have HF2:=zH (HF1.out.next hb2)
  obtain ⟨qb,hqb⟩:∃ qb,w1.heap.size = qb:=⟨_,rfl⟩
  rw [hqb] at oq hyq ⊢
  have HQ:=zH (And.intro hyq oq)
  clear hb2 hqb hyq oq
  obtain ⟨x0,x1,x2⟩:=c3 HF2.out.part
  go_wp2_with fail
  refine (HN.out _ (HP.out.blw HF2.out.blw)).mono ?_
  rintro e w3 ⟨rfl,rfl⟩
  clear x0 x1 x2
  go_upto_region 7 with fail
  obtain ⟨b,o,rfl,hbl,hcell⟩:=(HP.out.blw HF2.out.blw).bytes.at_ (by omega)
  have hc1:=hcell a2 (by omega)
  rw [HC1.out] at hc1
  clear hcell hbl
  obtain ⟨x0,x1,x2⟩:=c3 HF2.out.part
  go_wp2_with fail
  refine (HK.out _).mono ?_
  rintro e w4 ⟨rfl,hb4⟩
  have HF4:=zH (HF2.out.next hb4)
  have HQ4:=zH ((hb4.block qb (gl HQ.out.2)).trans HQ.out.2)
  clear hb4 x0 x1 x2 hc1
 rotate_left 2
 focus
  go_wp2_with fail
  refine (HW1.out _).mono ?_
  rintro e w5 ⟨rfl,rfl⟩
 rotate_left
 all_goals
  go_wp2_with (refine stV (.tmp 8) (.tmp 71) rfl rfl rfl rfl rfl (HF4.out.res) rfl ?_)
  refine bodyPost_ret (results_rarr _ _ y zR rfl (HF4.out.row _) rfl) rfl ?_
  exact RTo.zero HF4.out _ _ rfl
def rarr_neg:=fun w p n cp at_ en sz own B h c wd d hc hk h10 hwd a1 a2 a3 e2 N c1 ha1 ha2 ha3 he2 hee hN hc1 hsp=>(mrg_rarr_neg w p n cp at_ en sz own B h c wd d hc hk h10 hwd a1 a2 a3 e2 N c1 ha1 ha2 ha3 he2 hee hN hc1 hsp).1
def rarr_desc:=fun w p n cp at_ en sz own B h c wd d hc hk h10 hwd a1 a2 a3 e2 N c1 ha1 ha2 ha3 he2 hee hN hc1 hsp=>(mrg_rarr_neg w p n cp at_ en sz own B h c wd d hc hk h10 hwd a1 a2 a3 e2 N c1 ha1 ha2 ha3 he2 hee hN hc1 hsp).2.1
def rarr_lone:=fun w p n cp at_ en sz own B h c wd d hc hk h10 hwd a1 a2 a3 e2 N c1 ha1 ha2 ha3 he2 hee hN hc1 hsp=>(mrg_rarr_neg w p n cp at_ en sz own B h c wd d hc hk h10 hwd a1 a2 a3 e2 N c1 ha1 ha2 ha3 he2 hee hN hc1 hsp).2.2
theorem mrg_rarr_ok (w:World) (p:Option Addr) (n cp at_ en:Nat) (sz own:Int) (B:List UInt8) (h:PIn w p n cp at_ en B) (c wd:Nat) (d:Int) (hc:c < 256) (hk:0 <= kindC c) (h10:10 <= c / 16) (hwd:wOf c = wd) (a1 a2 a3 e2 N c1:Nat) (ha1:at_+wd = a1) (ha2:a1+wd = a2) (ha3:a2+1 = a3) (he2:a3 <= e2) (hee:e2 <= en) (hN:nAt B a1 wd = N) (hc1:(B.getD a2 0).toNat = c1) (hsp:∀ W,PIn W p n cp at_ en B -> Calls prog 131 #[.agg #[.slice p n cp,.int .i64 (en:Nat),.int .i64 sz],.int .i64 (at_:Nat),.int .i64 (wd:Nat),.int .i64 ((wd:Int)+1)] W fun e w'=>e = .returned (.tuple #[.agg #[.slice p n cp,.int .i64 (e2:Nat),.int .i64 (at_:Nat)],.int .i64 (a1:Nat),.int .i64 0])∧Below W.heap.size W w') (hk1:0 <= kindC c1) (h01:c1 ≠ 0) (h41:c1 / 16 ≠ 4) (rd:Nat -> List UInt8 -> Res):(∀ (hrd:RdD 88 p n cp B (d+1) rd) (hrl:∀ c s v k,rd c s = .ok (v,k) -> k <= s.length) (hd32:¬ (32:Int) < d+1) (hd9:0 <= d∧d <= 33),Calls prog 114 #[.agg #[.slice p n cp,.int .i64 (en:Nat),.int .i64 sz],.int .i64 (c:Int),.int .i64 (at_:Nat),.int .i64 d] w fun e w'=>RTo w (ansR n sz own at_ (match els (bareR rd c1) N (sOf B a3 e2) with|.error e=>.error (spanE (wd+wd+1) e)|.ok (l,k)=>if a3+k < e2 then .error (.pl 0 (ec 32)) else .ok (.mk 23 0 ⟨#[]⟩ l (kindC c1),e2 - at_):Res)) e w') ∧
  (∀ (hrd:∀ s,rd c1 s = .error (.pl 0 (ec 26))) (hd32:(32:Int) < d+1) (hd9:0 <= d∧d <= 33),Calls prog 114 #[.agg #[.slice p n cp,.int .i64 (en:Nat),.int .i64 sz],.int .i64 (c:Int),.int .i64 (at_:Nat),.int .i64 d] w fun e w'=>RTo w (ansR n sz own at_ (match els (bareR rd c1) N (sOf B a3 e2) with|.error e=>.error (spanE (wd+wd+1) e)|.ok (l,k)=>if a3+k < e2 then .error (.pl 0 (ec 32)) else .ok (.mk 23 0 ⟨#[]⟩ l (kindC c1),e2 - at_):Res)) e w'):=by
 refine ⟨?_,?_⟩
 intro hrd hrl hd32 hd9
 rotate_left
 intro hrd hd32 hd9
 rotate_left
 all_goals
  obtain ⟨ANS,hANS⟩:∃ ANS,ansR n sz own at_ (match els (bareR rd c1) N (sOf B a3 e2) with|.error e=>.error (spanE (wd+wd+1) e)|.ok (l,k)=>if a3+k < e2 then .error (.pl 0 (ec 32)) else .ok (.mk 23 0 ⟨#[]⟩ l (kindC c1),e2 - at_):Res) = ANS:=⟨_,rfl⟩
  rw [hANS]
  have HW:=zH (fun W=>hwd ▸ rwide_any c W hk h10)
  have hw14:=wOf_bd c
  rw [hwd] at hw14
  have hwi4:(wd:Int) <= 4:=by omega
  have hhe:=h.hen
  have hhn:=h.hn
  have hle:=h.bytes.le
  have HSP:=zH hsp
  have HP:=zH h
  have hnb:=nAt_lt (B:=B) (at_:=a1) (wd:=wd)
  have hp4:256 ^ wd <= 256 ^ 4:=Nat.pow_le_pow_right (by omega) hw14.2
  have hpp:(256:Nat) ^ 4 = 4294967296:=rfl
  rw [hN] at hnb
  have HNB:=zH (show N < 4294967296 by omega)
  have ib1:(0:Int) <= (a1:Nat):=by omega
  have hadd:IntKind.i64.wrap ((a1:Int)+(wd:Nat)) = (a2:Nat):=by rw [IntWalk.i64_in _ (by omega)];omega
  have ib2:((a1:Nat):Int) <= (a2:Nat):=by omega
  have ib3:((a2:Nat):Int) <= (cp:Nat):=by omega
  have ib4:((a2:Nat):Int) <= 140737488355328:=by omega
  have ib5:a2 - a1 = wd:=by omega
  have hca:¬ cp = a1:=by omega
  have hcv:IntKind.i64.wrap ((N:Nat):Int) = (N:Nat):=IntWalk.i64_in _ (by omega)
  have HN:=zH (show ∀ W,PIn W p n cp at_ en B -> Calls prog 95 #[(.slice (p.map (fun x=>x.add a1)) wd (cp - a1))] W fun e w'=>e = .returned (.int .u64 (N:Nat))∧W = w' from fun W hW=>(rnumber_any W _ _ _ _ (by have hb:=hW.bytes.part a1 wd (by omega);rw [if_neg hca] at hb;exact hb) (by omega)).mono (fun e w' q=>⟨by rw [q.1,← hN];rfl,q.2⟩))
  have HC1:=zH hc1
  have hx1:c1 < 256:=by rw [← hc1];exact UInt8.toNat_lt _
  have HK:=zH (fun W=>rkind_any c1 W hx1)
  have ha2n:(a2:Int) < n:=by omega
  have hcv1:IntKind.i64.wrap ((c1:Nat):Int) = (c1:Nat):=IntWalk.i64_in _ (by omega)
  have hadd3:IntKind.i64.wrap ((a2:Int)+1) = (a3:Nat):=by rw [IntWalk.i64_in _ (by omega)];omega
  have HW1:=zH (show ∀ W,Calls prog 94 #[.int .i64 (c1:Int)] W fun e w'=>e = .returned (.int .i64 (widR c1))∧W = w' from fun W=>rwidth_any c1 W hk1 h01)
  have hwz:(widR c1 == 0) = false:=by simp;exact fun q=>h41 ((widR_zero hk1 h01).1 q)
  have hk24:(kindC c1 == 24) = false:=by simp;exact fun q=>h01 (kindC_24 q)
  have hkn:¬ kindC c1 < 0:=by omega
  have hkb:kindC c1 <= 24:=by
   rcases kindC_mem hk1 h01 with rfl|rfl|rfl|rfl|rfl|rfl|rfl|rfl|rfl|rfl|rfl|rfl|rfl|rfl|rfl|rfl|rfl|rfl|rfl|rfl|rfl|rfl|rfl|rfl|rfl|rfl|rfl|rfl|rfl|rfl|rfl|rfl|rfl|rfl|rfl|rfl|rfl|rfl|rfl
   all_goals decide
 have hdd:¬ (32:Int) < d+1:=hd32
 have HRD:=zH (show ∀ (W:World) (a e:Nat) (sz own:Int),PIn W p n cp a e B -> Calls prog 88 #[.agg #[.slice p n cp,.int .i64 (e:Nat),.int .i64 sz],.int .i64 (c1:Int),.int .i64 (a:Nat),.int .i64 (a:Nat),.int .i64 (d+1)] W fun e2 w'=>RTo W (ansR n sz own a (bareR rd c1 (sOf B a e))) e2 w' from fun W a e sz own hW=>(hrd W c1 a e sz (a:Nat) hk1 h01 h41 hW).mono (fun e2 w' r=>by
  unfold bareR
  cases hx:rd c1 (sOf B a e) with
  | error y =>
   rw [hx,ans_bare (own:=own)] at r
   exact r
  | ok x=>rw [hx] at r;exact r))
 have HRL:=zH (show ∀ s v k,bareR rd c1 s = .ok (v,k) -> k <= s.length from fun s v k q=>by
  unfold bareR at q
  cases hx:rd c1 s with
  | error y=>rw [hx] at q;cases q
  | ok x=>rw [hx] at q;cases q;exact hrl c1 s v k hx)
 rotate_left
 have hdd:(32:Int) < d+1:=hd32
 rotate_left
 all_goals
  have H0:=zH (show at_+(wd+wd+1) = a3 by omega)
  have H2E:=zH he2
  have HE2:=zH (And.intro he2 (Nat.le_trans hee hhe))
  have hdw:IntKind.i64.wrap (d+1) = d+1:=IntWalk.i64_in _ (by omega)
  have hdw2:wrap64 (d+1) = d+1:=by unfold wrap64;omega
  obtain ⟨i0,hi,hz0,hz1,hz2⟩:=info_partsV info_val
 rotate_left
 have HRB:=zH (show ∀ s,bareR rd c1 s = .error (.pl 0 (ec 26)) from fun s=>by unfold bareR;rw [hrd];rfl)
 rotate_left
 all_goals
  generalize bareR rd c1 = RB at *
  generalize widR c1 = W1 at *
  generalize kindC c1 = K1 at *
  have HANS:=zH hANS
  have HWF:=zH (show (V.mk 23 0 ⟨#[]⟩ [] K1).Wf from wf_sp (by omega) ⟨by omega,by omega⟩)
 clear hANS hk1 h01 h41 hrd hd9 hd32 hkb hrl
 rotate_left
 clear hANS hk1 h01 h41 hrd hd9 hd32 hkb
 rotate_left
 all_goals
  clear hN hc hk h10 hwd hle h hnb hp4 hpp hhe hhn ha1 ha2 ha3 hw14 hsp he2 hee hc1 hx1
  go_enter func114,ntmps114
  go_upto_region 1 with fail
  obtain ⟨w0,x,y,hw,hx,hy,HXY,HF0,x0,x1,x2⟩:=frx w p n cp en sz
  rw [hw,hx,hy]
  clear hw hx hy
  go_wp2_with fail
  refine (HW.out _).mono ?_
  rintro e w1 ⟨rfl,rfl⟩
  go_wp2_with fail
  refine (HSP.out _ (HP.out.blw HF0.out.blw)).mono ?_
  rintro e w1 ⟨rfl,hb1⟩
  have HF1:=zH (HF0.out.next hb1)
  clear hb1 x0 x1 x2
  go_upto_region 3 with (refine wpList_store_rowTo rfl 94 (.tmp 12) (.tmp 32) rfl rfl w1.heap.size #[.slice p n cp,.int .i64 (e2:Nat),.int .i64 (at_:Nat)] rfl rfl 94 #[.slice none 0 0,.int .i64 0,.int .i64 0] (zN w1 _) (by as_aux_lemma=>kernel_rfl) (by as_aux_lemma=>kernel_rfl) (by simp [Value.oneCell']) ?_)
  have hb2:Below w1.heap.size w1 ((w1.alloc (.cells #[.slice none 0 0,.int .i64 0,.int .i64 0] 94)).setRow w1.heap.size #[.slice p n cp,.int .i64 (e2:Nat),.int .i64 (at_:Nat)]):=below_setRow ((Below.refl _ _).alloc (Nat.le_refl _) _) (Nat.le_refl _) _
  have oq:=setRow_heap (w1.alloc (.cells #[.slice none 0 0,.int .i64 0,.int .i64 0] 94)) w1.heap.size _ #[.slice p n cp,.int .i64 (e2:Nat),.int .i64 (at_:Nat)] _ _ (zN w1 _)
  change Code.wp _ _ _ _ ((w1.alloc (.cells #[.slice none 0 0,.int .i64 0,.int .i64 0] 94)).setRow w1.heap.size #[.slice p n cp,.int .i64 (e2:Nat),.int .i64 (at_:Nat)])
  generalize ((w1.alloc (.cells #[.slice none 0 0,.int .i64 0,.int .i64 0] 94)).setRow w1.heap.size #[.slice p n cp,.int .i64 (e2:Nat),.int .i64 (at_:Nat)]) = w2 at *
  have hyq:=HF1.out.lt
  have HF2:=zH (HF1.out.next hb2)
  obtain ⟨qb,hqb⟩:∃ qb,w1.heap.size = qb:=⟨_,rfl⟩
  rw [hqb] at oq hyq ⊢
  have HQ:=zH (And.intro hyq oq)
  clear hb2 hqb hyq oq
  obtain ⟨x0,x1,x2⟩:=c3 HF2.out.part
  go_wp2_with fail
  refine (HN.out _ (HP.out.blw HF2.out.blw)).mono ?_
  rintro e w3 ⟨rfl,rfl⟩
  clear x0 x1 x2
  go_upto_region 7 with fail
  obtain ⟨b,o,rfl,hbl,hcell⟩:=(HP.out.blw HF2.out.blw).bytes.at_ (by omega)
  have hc1:=hcell a2 (by omega)
  rw [HC1.out] at hc1
  clear hcell hbl
  obtain ⟨x0,x1,x2⟩:=c3 HF2.out.part
  go_wp2_with fail
  refine (HK.out _).mono ?_
  rintro e w4 ⟨rfl,hb4⟩
  have HF4:=zH (HF2.out.next hb4)
  have HQ4:=zH ((hb4.block qb (gl HQ.out.2)).trans HQ.out.2)
  clear hb4 x0 x1 x2 hc1
  go_wp2_with fail
  refine (HW1.out _).mono ?_
  rintro e w5 ⟨rfl,rfl⟩
  go_upto_region 13 with (refine stV (.tmp 18) (.tmp 76) rfl rfl rfl rfl rfl (zN w4 _) rfl ?_)
  refine layW w4 ?_
  intro w5 hb5 oz
  obtain ⟨z,hz⟩:∃ z,w4.heap.size = z:=⟨_,rfl⟩
  have HS5:=zH (show SpR w w5 x y qb z #[.slice (some ⟨b,o,none⟩) n cp,.int .i64 (en:Nat),.int .i64 sz] #[.slice (some ⟨b,o,none⟩) n cp,.int .i64 (e2:Nat),.int .i64 (at_:Nat)] 23 K1 [] (.slice none 0 0) (fun _=>False) from
   ⟨HF4.out.next hb5,(hb5.block qb (gl HQ4.out)).trans HQ4.out,HQ.out.1,by rw [← hz];exact oz,by rw [← hz];exact (gl HQ4.out),VO.nil _ _ HWF.out rfl⟩)
  rw [hz]
  clear hb5 oz hz
  go_wp2_with fail
  go_loopw [13,19] (fun v13 v19 wr=>∃ (i k a:Nat) (l:List V) (s:Value) (F:Nat -> Prop),v13 = .int .i64 (a:Nat)∧v19 = .int .i64 (i:Nat)∧i <= N∧Hid (a = a3+k∧l.length = i)∧a <= e2∧els RB i (sOf B a3 e2) = .ok (l,k)∧SpR w wr x y qb z #[.slice (some ⟨b,o,none⟩) n cp,.int .i64 (en:Nat),.int .i64 sz] #[.slice (some ⟨b,o,none⟩) n cp,.int .i64 (e2:Nat),.int .i64 (at_:Nat)] 23 K1 l s F) (fun v13 v19 _=>N - (intOf v19).toNat)
  case atStart=>exact ⟨0,0,a3,[],_,_,rfl,rfl,Nat.zero_le _,zH ⟨rfl,rfl⟩,H2E.out,rfl,HS5.out⟩
  obtain ⟨i,k,a,l,s,F,rfl,rfl,hiN,HA,hae,hels,hsp⟩:=hrel
  have HS:=zH hsp
  have HE:=zH hels
  clear hels
  obtain ⟨ps,cs,hs,_,_⟩:=hsp.vo.slice
  obtain rfl:s = .slice ps i cs:=by rw [hs];exact congrArg (fun t=>Value.slice ps t cs) HA.out.2
  clear hs hsp
 focus
  by_cases hlt:(i:Int) < N
  ·have q0:wr.cell? ⟨qb,0,none⟩ = some (.slice (some ⟨b,o,none⟩) n cp):=(cell_of_row _ _ 0 _ _ _ HS.out.rq).trans rfl
   have q1:wr.cell? ⟨qb,1,none⟩ = some (.int .i64 (e2:Nat)):=(cell_of_row _ _ 1 _ _ _ HS.out.rq).trans rfl
   have q2:wr.cell? ⟨qb,2,none⟩ = some (.int .i64 (at_:Nat)):=(cell_of_row _ _ 2 _ _ _ HS.out.rq).trans rfl
   go_wp2_with fail
   refine (HRD.out wr a e2 (at_:Nat) own ⟨HP.out.bytes.below HS.out.fr.blw,HP.out.tabs.below HS.out.fr.blw,hae,HE2.out.2,HP.out.hn⟩).mono ?_
   rintro e w1 hto
   obtain ⟨ans,hans⟩:∃ ans,RB (sOf B a e2) = ans:=⟨_,rfl⟩
   rw [hans] at hto
   cases ans with
   | error yy =>
    obtain ⟨sx,Fx,rfl,hvx,hb1⟩:=hto
    obtain ⟨qs,ds,hst,_,_⟩:=hvx.slice
    subst hst
    have hee:=els_err HE.out (by rw [sOf_drop' HA.out.1.symm];exact hans) (by omega:i < N)
    have hzz:=ans_span (n:=n) (at_:=at_) (wd2:=wd+wd+1) (k:=k) (a:=a) (sz:=sz) (own:=own) (y:=yy) (by have:=HA.out.1;have:=H0.out;omega)
    have hC:=erC_ne (at_:Int) yy
    obtain ⟨pl,hpl⟩:∃ pl,erP n (at_:Int) own a yy = pl:=⟨_,rfl⟩
    obtain ⟨ec,hec⟩:∃ ec,erC (at_:Int) yy = ec:=⟨_,rfl⟩
    simp only [ansR] at hvx ⊢
    have hzz2:(zeroV,pl,ec) = ansR n sz own at_ (.error (spanE (wd+wd+1) (shiftE k yy))):=by rw [← hzz,← hpl,← hec];rfl
    rw [hpl,hec]
    rw [hec] at hC
    have HZ:=zH (And.intro hee hzz2)
    have hC1:(ec == 0) = false:=by simpa using hC
    have hC2:(ec != 0) = true:=by simpa using hC
    clear hpl hec hC hee hzz hzz2 hans
    have HS1:=zH (HS.out.next hb1)
    clear hb1 hvx
    go_upto_region 19 with (refine stV (.tmp 20) (.tmp 95) rfl rfl rfl rfl rfl (zN w1 _) rfl ?_)
    refine layW w1 ?_
    intro w2 hb2 ou
    obtain ⟨ub,hub⟩:∃ ub,w1.heap.size = ub:=⟨_,rfl⟩
    rw [hub] at ou ⊢
    have HS2:=zH (HS1.out.next hb2)
    clear hb2 ou hub
    go_wp2_with (refine stV (.tmp 8) (.tmp 100) rfl rfl rfl rfl rfl (HS2.out.fr.res) rfl ?_)
    refine bodyPost_ret (results_rarr _ _ y zR rfl (HS2.out.fr.row _) rfl) rfl ?_
    refine RTo.zero HS2.out.fr _ _ ?_
    rw [← HANS.out,HZ.out.1]
    exact HZ.out.2.symm
   | ok xk =>
    obtain ⟨xv,k2⟩:=xk
    obtain ⟨sx,Fx,rfl,hvx,hb1⟩:=hto
    simp only [ansR] at hvx ⊢
    obtain ⟨qs,ds,hst,_,_⟩:=hvx.slice
    subst hst
    obtain ⟨a9,ha9⟩:∃ a9,a+k2 = a9:=⟨_,rfl⟩
    rw [ha9]
    have HS1:=zH (HS.out.next hb1)
    have HVX:=zH (And.intro hvx (And.intro hb1.size (And.intro ha9 hans)))
    have HLE:=zH (show a9 <= e2 from by
     have q:=HRL.out _ _ _ hans
     rw [sOf_len (by rw [HP.out.len];exact HE2.out.2)] at q
     omega)
    clear hvx hb1 ha9 hans
    go_upto_region 19 with (refine stV (.tmp 20) (.tmp 95) rfl rfl rfl rfl rfl (zN w1 _) rfl ?_)
    refine layW w1 ?_
    intro w2 hb2 ou
    obtain ⟨ub,hub⟩:∃ ub,w1.heap.size = ub:=⟨_,rfl⟩
    rw [hub] at ou ⊢
    have HS2:=zH (HS1.out.next hb2)
    have hvx2:VO w2 wr.heap.size xv (.slice qs xv.list.length ds) Fx:=HVX.out.1.blw (hub ▸ hb2)
    obtain ⟨u0,u1,u2,u3,u4⟩:=c5 ou
    have hal:Below w2.heap.size w2 (w2.alloc (.cells #[.int .i64 xv.kind,.int .u64 xv.num,.string xv.text,.slice qs xv.list.length ds,.int .i64 xv.elem] 25)):=(Below.refl _ _).alloc (Nat.le_refl _) _
    obtain ⟨xs,hrow,hpu⟩:=(HS2.out.next hal).push ((hvx2.mono (show z+1 <= wr.heap.size from HS.out.lt)).blw hal) (fun b q q2=>by
     have h1:=(HS.out.vo.lt b q).2
     have h2:=(hvx2.lt b q2).1
     omega)
    rw [HA.out.2] at hrow hpu
    have HRW:=zH hrow
    have HPU:=zH hpu
    have HEN:=zH (els_snoc HE.out (by rw [sOf_drop' HA.out.1.symm];exact HVX.out.2.2.2))
    clear hb2 hub ou hvx2 hal hrow hpu
    obtain ⟨z0,z1,z2,z3,z4⟩:=c5 HS2.out.rz
    have hi9:(i:Int) <= 4294967296:=by have:=HNB.out;omega
    go_wp2_with (first
     | (at_builtin;refine wpList_append_two _ rfl (.tmp 104) (.tmp 106) 23 rfl (z+1) 25 i0 _ 5 64 underlying23 hi hz0 hz1 hz2 rfl _ _ _ rfl HRW.out ⟨w2.heap.size,0,none⟩ 1 [.int .i64 xv.kind,.int .u64 xv.num,.string xv.text,.slice qs xv.list.length ds,.int .i64 xv.elem] rfl rfl (fun j u hj=>cell_of_newrow hj) (by simp [Value.oneCell']) (by have:=HNB.out;unfold maxLen;omega) (by have:=HNB.out;omega) ?_;intro v' w9 hA;obtain ⟨pp,cc,hvv⟩:=hA.slice;subst hvv;have HA9:=zH (HPU.out w9 _ hA);clear hA;have z3:w9.cell? ⟨z,3,none⟩ = some (.slice ps i cs):=(cell_of_row _ _ 3 _ _ _ HA9.out.1).trans rfl;have fz:w9.frozen? ⟨z,3,none⟩ = false:=by simp [World.frozen?,HA9.out.1]))
    obtain ⟨F9,hs9⟩:=HA9.out.2
    have HS9:=zH hs9
    clear hs9
    go_roundw
    case rel =>
     have hNB:=HNB.out
     exact ⟨i+1,k+k2,a9,l ++ [xv],_,F9,rfl,by go_num,by omega,zH ⟨by have:=HA.out.1;have:=HVX.out.2.2.1;omega,by rw [List.length_append,HA.out.2];rfl⟩,HLE.out,HEN.out,HS9.out⟩
    case measure =>
     have hNB:=HNB.out
     simp [intOf]
     omega
 rotate_left
 focus
  by_cases hlt:(i:Int) < N
  ·have hee:=els_err HE.out (HRB.out _) (by omega:i < N)
   have hzz:=ans_span (n:=n) (at_:=at_) (wd2:=wd+wd+1) (k:=k) (a:=a) (sz:=sz) (own:=own) (y:=.pl 0 (ec 26)) (by have:=HA.out.1;have:=H0.out;omega)
   have HZ:=zH (And.intro hee (show (zeroV,((a:Nat):Int),(26:Int)) = ansR n sz own at_ (.error (spanE (wd+wd+1) (shiftE k (.pl 0 (ec 26))))) from by rw [← hzz];rfl))
   clear hee hzz
   go_wp2_with (refine stV (.tmp 8) (.tmp 85) rfl rfl rfl rfl rfl (HS.out.fr.res) rfl ?_)
   refine bodyPost_ret (results_rarr _ _ y zR rfl (HS.out.fr.row _) rfl) rfl ?_
   refine RTo.zero HS.out.fr _ _ ?_
   rw [← HANS.out,HZ.out.1]
   exact HZ.out.2.symm
 rotate_left
 all_goals
  obtain rfl:i = N:=by omega
  have HS6:=HS
  obtain ⟨q0,q1,q2⟩:=c3 HS.out.rq
  have hEQ:=HE.out
  by_cases hlq:(a:Int) < e2
  ·have HX:=zH (show ANS = (zeroV,((at_:Nat):Int),32) from by
    rw [← HANS.out,hEQ]
    show ansR n sz own at_ (if a3+k < e2 then _ else _) = _
    rw [if_pos (by have:=HA.out.1;omega)]
    rfl)
   clear hEQ
   go_upto_region 24 with fail
   clear q0 q1 q2
   refine wp_region_heldN (fun V=>V.heap[qb]? = some (.cells #[.slice (some ⟨b,o,none⟩) n cp,.int .i64 (e2:Nat),.int .i64 (at_:Nat)] 94 (0,0))) 6 rfl (by kernel_rfl) ?_
   have hS:wr.drew.heap[qb]? = some (.cells #[.slice (some ⟨b,o,none⟩) n cp,.int .i64 (e2:Nat),.int .i64 (at_:Nat)] 94 (0,0)):=HS.out.rq
   have hfd:=HS.out.fr.next (bdrew (Below.refl _ _))
   refine tkI 0 (.agg zR) 114 rfl rfl (by kernel_rfl) (fun _ _ _=>id) (by rfl) (by rintro V h0;go_simp) hS ?_
   try simp only [Act.put,sA,sB,sC]
   refine tkI 1 (.pointer (some ⟨qb,2,none⟩)) 115 rfl rfl (by kernel_rfl) (fun _ _ _=>id) (by rfl) (by rintro V h0;go_simp) hS ?_
   try simp only [Act.put,sA,sB,sC]
   refine tkI 2 (.int .i64 (at_:Nat)) 116 rfl rfl (by kernel_rfl) (fun _ _ _=>id) (by rfl) (by rintro V h0;have y2:=(cell_of_row V _ 2 _ _ _ h0).trans rfl;go_simp) hS ?_
   try simp only [Act.put,sA,sB,sC]
   have hS3:(wr.drew.setRow y zR).heap[qb]? = some (.cells #[.slice (some ⟨b,o,none⟩) n cp,.int .i64 (e2:Nat),.int .i64 (at_:Nat)] 94 (0,0)):=(setRow_other wr.drew y qb _ (by have:=HS.out.hq;omega)).trans hS
   refine oneH (i:=3) (by kernel_rfl) ?_
   refine stepD (i:=3) rfl (by rfl) (fun K5 h5=>?_)
   refine wp_store_rowN 25 (.tmp 8) (.tmp 114) rfl rfl y zR rfl rfl 25 zR hfd.res (by as_aux_lemma=>kernel_rfl) (by as_aux_lemma=>kernel_rfl) (by simp [Value.oneCell']) ?_
   refine h5.out _ _ hS3 ?_
   clear h5
   try simp only [Act.put,sA,sB,sC]
   clear hS
   have hS:=hS3
   refine tkI 4 (.int .i64 (at_:Nat)) 9 rfl rfl (by kernel_rfl) (fun _ _ _=>id) (by rfl) (by rintro V h0;go_simp) hS ?_
   try simp only [Act.put,sA,sB,sC]
   refine tkI 5 (.int .i64 32) 10 rfl rfl (by kernel_rfl) (fun _ _ _=>id) (by rfl) (by rintro V h0;go_simp) hS ?_
   try simp only [Act.put,sA,sB,sC]
   refine wpAnyH_done (by kernel_rfl) ?_ _
   change Exit.then _ _ _ _ (wr.drew.setRow y zR)
   have HFD:=zH hfd
   clear hS hS3 hfd
   go_wp2_with fail
   refine bodyPost_ret (results_rarr _ _ y zR rfl (HFD.out.row _) rfl) rfl ?_
   exact RTo.zero HFD.out _ _ HX.out
  have z0:wr.cell? ⟨z,0,none⟩ = some (.int .i64 23):=(cell_of_row _ _ 0 _ _ _ HS.out.rz).trans rfl
  have z1:wr.cell? ⟨z,1,none⟩ = some (.int .u64 0):=(cell_of_row _ _ 1 _ _ _ HS.out.rz).trans rfl
  have z2:wr.cell? ⟨z,2,none⟩ = some (.string ⟨#[]⟩):=(cell_of_row _ _ 2 _ _ _ HS.out.rz).trans rfl
  have z3:wr.cell? ⟨z,3,none⟩ = some (.slice ps i cs):=(cell_of_row _ _ 3 _ _ _ HS.out.rz).trans rfl
  have z4:wr.cell? ⟨z,4,none⟩ = some (.int .i64 K1):=(cell_of_row _ _ 4 _ _ _ HS.out.rz).trans rfl
  have HX:=zH (show ANS = (.mk 23 0 ⟨#[]⟩ l K1,((a:Nat):Int),0) from by
   rw [← HANS.out,hEQ]
   show ansR n sz own at_ (if a3+k < e2 then _ else _) = _
   rw [if_neg (by have:=HA.out.1;omega)]
   show (_,((at_+(e2 - at_):Nat):Int),(0:Int)) = _
   rw [show at_+(e2 - at_) = a by have:=HA.out.1;have:=H0.out;omega])
  clear hEQ
  go_wp2_with (refine stV (.tmp 8) (.tmp 117) rfl rfl rfl rfl rfl (HS.out.fr.res) rfl ?_)
  refine bodyPost_ret (results_rarr _ _ y #[.int .i64 23,.int .u64 0,.string ⟨#[]⟩,.slice ps i cs,.int .i64 K1] rfl (HS.out.fr.row _) rfl) rfl ?_
  have hvl:(V.mk 23 0 ⟨#[]⟩ l K1).list.length = i:=HA.out.2
  have hy:=HS.out.hq
  have hz:=HS.out.hz
  have hwx:=HS.out.fr.hx
  have hxy:=HS.out.fr.hxy
  exact RTo.val (v:=.mk 23 0 ⟨#[]⟩ l K1) (s:=.slice ps i cs) HS.out.fr HS.out.vo (by omega) (fun b hb=>by have:=(HS.out.vo.lt b hb).1;omega) _ _ HX.out
def rarr_ok:=fun w p n cp at_ en sz own B h c wd d hc hk h10 hwd a1 a2 a3 e2 N c1 ha1 ha2 ha3 he2 hee hN hc1 hsp hk1 h01 h41 rd=>(mrg_rarr_ok w p n cp at_ en sz own B h c wd d hc hk h10 hwd a1 a2 a3 e2 N c1 ha1 ha2 ha3 he2 hee hN hc1 hsp hk1 h01 h41 rd).1
def rarr_deep:=fun w p n cp at_ en sz own B h c wd d hc hk h10 hwd a1 a2 a3 e2 N c1 ha1 ha2 ha3 he2 hee hN hc1 hsp hk1 h01 h41 rd=>(mrg_rarr_ok w p n cp at_ en sz own B h c wd d hc hk h10 hwd a1 a2 a3 e2 N c1 ha1 ha2 ha3 he2 hee hN hc1 hsp hk1 h01 h41 rd).2
end Go.Proofs.YtnnnfhobbnjmfaaGreatDoor
