/-
  Lemmas on the codec. Conditions: as each says.
-/
import Derived.Test.YtnnnfhobbnjmfaaGreatDoorWn31
import Derived.Test.YtnnnfhobbnjmfaaGreatDoorWn26
import Derived.Test.YtnnnfhobbnjmfaaGreatDoorWn10
namespace Go.Proofs.YtnnnfhobbnjmfaaGreatDoor
open Go.RowKit Go.Proofs.Tryz
set_option linter.all false
set_option maxHeartbeats 40000000
set_option maxRecDepth 20000

attribute [local go_sem] Oper.semAt_some

theorem results_dec (tmps:Array Value) (w:World) (x y z:Nat) (cs:Array Value) (a c:Int) (hx:tmps.getD 4 undef = .pointer (some ⟨x,0,none⟩)) (hy:tmps.getD 5 undef = .pointer (some ⟨y,0,none⟩)) (hz:tmps.getD 6 undef = .pointer (some ⟨z,0,none⟩)) (rx:w.heap[x]? = some (.cells cs 25 (0,0))) (hs:cs.size = 5)
  (ry:w.cell? ⟨y,0,none⟩ = some (.int .i64 a)) (rz:w.cell? ⟨z,0,none⟩ = some (.int .i64 c)):(results Tryz.f18 tmps).run prog w = .ok (.tuple #[.agg cs,.int .i64 a,.int .i64 c]) w:=by
 have hx':tmps[4]?.getD undef = .pointer (some ⟨x,0,none⟩):=by simpa using hx
 have hy':tmps[5]?.getD undef = .pointer (some ⟨y,0,none⟩):=by simpa using hy
 have hz':tmps[6]?.getD undef = .pointer (some ⟨z,0,none⟩):=by simpa using hz
 have h1:=run_loadVar_row (P:=prog) w x 25 25 cs (0,0) _ rx underlying25 rfl (by rw [hs];as_aux_lemma=>kernel_rfl)
 have h2:(loadVar 3 ⟨y,0,none⟩).run prog w = .ok (.int .i64 a) w:=by simp [go_sem,ry]
 have h3:(loadVar 29 ⟨z,0,none⟩).run prog w = .ok (.int .i64 c) w:=by simp [go_sem,rz]
 simp [results,results18,hx',hy',hz',asAddr,h1,h2,h3]
def DecTo (w:World) (B:List UInt8) (at_:Int) (e:Ending) (w':World):Prop :=
 ∃ s F,e = .returned (.tuple #[.agg #[.int .i64 (decS B at_).1.kind,.int .u64 (decS B at_).1.num,.string (decS B at_).1.text,s,.int .i64 (decS B at_).1.elem],.int .i64 (decS B at_).2.1,.int .i64 (decS B at_).2.2])∧VO w' w.heap.size (decS B at_).1 s F∧Below w.heap.size w w'
theorem ansS_fault {n a:Nat} (y:Er):ansS n (a:Nat) (.error y) = (zeroV,erP n (-1) (a:Nat) a y,erC (-1) y):=by
 cases y with
 | short=>rfl
 | own e=>rfl
 | pl r e=>show (zeroV,(a:Int)+r,e.1) = (zeroV,((a+r:Nat):Int),e.1);rw [Int.natCast_add]
theorem zero_wf:zeroV.Wf:=⟨by constructor <;> decide,by constructor <;> decide,by decide,by constructor <;> decide⟩
theorem mrg_decode_neg (w:World) (p:Option Addr) (n cp:Nat) (B:List UInt8) (hB:BytesIn w p n cp B) (at_:Int):(∀ (hat:at_ < 0),Calls prog 18 #[.slice p n cp,.int .i64 at_] w fun e w'=>DecTo w B at_ e w') ∧
  (∀ (hat0:¬ at_ < 0) (hat:(n:Int) < at_),Calls prog 18 #[.slice p n cp,.int .i64 at_] w fun e w'=>DecTo w B at_ e w'):=by
 refine ⟨?_,?_⟩
 intro hat
 rotate_left
 intro hat0 hat
 rotate_left
 all_goals
  have hdec:decS B at_ = (zeroV,0,1):=decS_out (by have:=hB.len;omega)
  have HD:=zH hdec
 have t1:decide (at_ < 0) = true:=by simp;omega
 rotate_left
 have t1:decide (at_ < 0) = false:=by simp;omega
 have t2:decide ((n:Int) < at_) = true:=by simp;omega
 rotate_left
 all_goals
  clear hdec hB
  go_enter func18,ntmps18
  go_upto_region 1 with fail
  obtain ⟨W0,hW0⟩:∃ W0,W0 = (((w.alloc (.cells zR 25)).alloc (.cells #[.int .i64 0] 3)).alloc (.cells #[.int .i64 0] 29)):=⟨_,rfl⟩
  have h5:=three_allocs w _ _ _ W0 hW0
  rw [← hW0]
  clear hW0
  obtain ⟨b,hb⟩:∃ b,w.heap.size = b:=⟨_,rfl⟩
  rw [hb] at h5
  simp only [hb,Nat.add_assoc,Nat.reduceAdd]
  obtain ⟨f0,f1,f2,fz,hb0⟩:=h5
  have hb0w:Below w.heap.size w W0:=by rw [hb];exact hb0
  have H0:=zH (And.intro hb (And.intro hb0w (And.intro fz (And.intro f0 (And.intro f1 f2)))))
  clear f0 f1 f2 fz hb0 hb0w hb
  have c1:W0.cell? ⟨b+1,0,none⟩ = some (.int .i64 0):=(cell_of_row _ _ 0 _ _ _ H0.out.2.2.2.2.1).trans rfl
  have z1:W0.frozen? ⟨b+1,0,none⟩ = false:=by simp [World.frozen?,H0.out.2.2.2.2.1]
  have rx:=setRow_heap W0 b _ zR _ _ H0.out.2.2.2.1
  have kx:KeepF (fun g=>g = b) W0 (W0.setRow b zR):=⟨rfl,rfl,rfl,by simp,fun j hj hne=>setRow_other W0 b j _ hne⟩
  have r1:=(kx.block (b+1) (gl H0.out.2.2.2.2.1) (by omega)).trans H0.out.2.2.2.2.1
  have r2:=(kx.block (b+2) (gl H0.out.2.2.2.2.2) (by omega)).trans H0.out.2.2.2.2.2
  have HK:=zH (And.intro kx (And.intro rx (And.intro r1 r2)))
  have c1':(W0.setRow b zR).cell? ⟨b+1,0,none⟩ = some (.int .i64 0):=(cell_of_row _ _ 0 _ _ _ r1).trans rfl
  have z1':(W0.setRow b zR).frozen? ⟨b+1,0,none⟩ = false:=by simp [World.frozen?,r1]
  have c2':(W0.setRow b zR).cell? ⟨b+2,0,none⟩ = some (.int .i64 0):=(cell_of_row _ _ 0 _ _ _ r2).trans rfl
  have z2':(W0.setRow b zR).frozen? ⟨b+2,0,none⟩ = false:=by simp [World.frozen?,r2]
  clear c1 z1 rx kx r1 r2
  obtain ⟨w2,hw2⟩:∃ w2,W0.setRow b zR = w2:=⟨_,rfl⟩
  rw [hw2] at c1' z1' c2' z2'
  have HK:=zH (hw2 ▸ HK.out)
  go_wp2_with (refine stV (.tmp 4) (.tmp 16) rfl rfl rfl rfl rfl H0.out.2.2.2.1 rfl ?_;rw [hw2])
  have kA:KeepF (fun g=>g = b+1) w2 (w2.setCell ⟨b+1,0,none⟩ (.int .i64 0)):=⟨rfl,rfl,rfl,by simp,fun j hj hne=>set_farV hne⟩
  have kB:KeepF (fun g=>g = b+2) (w2.setCell ⟨b+1,0,none⟩ (.int .i64 0)) ((w2.setCell ⟨b+1,0,none⟩ (.int .i64 0)).setCell ⟨b+2,0,none⟩ (.int .i64 1)):=⟨rfl,rfl,rfl,by simp,fun j hj hne=>set_farV hne⟩
  have rA:=heap_setCell_same w2 (b+1) 0 _ _ (.int .i64 0) HK.out.2.2.1
  have rA2:=(kA.block (b+2) (gl HK.out.2.2.2) (by omega)).trans HK.out.2.2.2
  have rB:=heap_setCell_same (w2.setCell ⟨b+1,0,none⟩ (.int .i64 0)) (b+2) 0 _ _ (.int .i64 1) rA2
  have rX:=(kB.block b (by have:=(gl HK.out.2.1);have:=kA.size;omega) (by omega)).trans ((kA.block b (gl HK.out.2.1) (by omega)).trans HK.out.2.1)
  have rY:=(kB.block (b+1) (gl rA) (by omega)).trans rA
  refine bodyPost_ret (results_dec _ _ b (b+1) (b+2) zR 0 1 rfl rfl rfl rX rfl ((cell_of_row _ _ 0 _ _ _ rY).trans rfl) ((cell_of_row _ _ 0 _ _ _ rB).trans rfl)) rfl ?_
  have hkk:=(HK.out.1.wide (fun j h=>Or.inl (b:=j = b+1 ∨ j = b+2) h)).trans ((kA.wide (fun j h=>.inr (.inl h))).trans (kB.wide (fun j h=>.inr (.inr h))))
  have hbw:=KeepF.below H0.out.2.1 hkk (fun j h=>by have:=H0.out.1;omega) H0.out.2.1.size
  unfold DecTo
  rw [HD.out]
  exact ⟨_,fun _=>False,rfl,VO.nil _ _ zero_wf rfl,hbw⟩
def decode_neg:=fun w p n cp B hB at_=>(mrg_decode_neg w p n cp B hB at_).1
def decode_far:=fun w p n cp B hB at_=>(mrg_decode_neg w p n cp B hB at_).2
theorem decode_in (w:World) (p:Option Addr) (n cp:Nat) (B:List UInt8) (hB:BytesIn w p n cp B) (hT:Tabs w) (hn:n <= 140737488355328) (a:Nat) (hat:a <= n):Calls prog 18 #[.slice p n cp,.int .i64 (a:Nat)] w fun e w'=>DecTo w B (a:Nat) e w':=by
 have hmf:∀ (fn:Fn) (first cap:Array Value) (w:World),(Instr.makeFunc fn first cap).run prog w = .ok (.func fn first cap) w:=fun _ _ _ _=>rfl
 have t1:decide ((a:Int) < 0) = false:=by simp
 have t2:decide ((n:Int) < (a:Nat)) = false:=by simp;omega
 have t3:decide (n < a) = false:=by simp;omega
 have HB:=zH (And.intro hB (And.intro hT (And.intro hn hat)))
 clear hB hT hn hat
 go_enter_defers func18,ntmps18
 go_upto_region 1 with fail
 obtain ⟨W0,hW0⟩:∃ W0,W0 = (((w.alloc (.cells zR 25)).alloc (.cells #[.int .i64 0] 3)).alloc (.cells #[.int .i64 0] 29)):=⟨_,rfl⟩
 have h5:=three_allocs w _ _ _ W0 hW0
 rw [← hW0]
 clear hW0
 obtain ⟨b,hb⟩:∃ b,w.heap.size = b:=⟨_,rfl⟩
 rw [hb] at h5
 simp only [hb,Nat.add_assoc,Nat.reduceAdd]
 obtain ⟨f0,f1,f2,fz,hb0⟩:=h5
 have hb0w:Below w.heap.size w W0:=by rw [hb];exact hb0
 have H0:=zH (And.intro hb (And.intro hb0w (And.intro fz (And.intro f0 (And.intro f1 f2)))))
 clear f0 f1 f2 fz hb0 hb0w hb
 go_upto_region 4 with fail
 have hb1:Below W0.heap.size W0 (W0.alloc (.cells #[.slice p n cp,.int .i64 (a:Nat),.int .i64 (n:Nat),.int .i64 (-1)] 66)):=(Below.refl _ _).alloc (Nat.le_refl _) _
 have or1:=zN W0 (.cells #[.slice p n cp,.int .i64 (a:Nat),.int .i64 (n:Nat),.int .i64 (-1)] 66)
 generalize W0.alloc (.cells #[.slice p n cp,.int .i64 (a:Nat),.int .i64 (n:Nat),.int .i64 (-1)] 66) = w1 at *
 have hz3:=H0.out.2.2.1
 rw [hz3] at or1 ⊢
 have hbw1:=H0.out.2.1.trans (hb1.mono H0.out.2.1.size)
 have HR1:=zH (show RdIn w1 (b+3) p n cp a n (-1) B from ⟨or1,⟨w,HB.out.1,hbw1,by have:=H0.out.1;omega,HB.out.2.1⟩,HB.out.2.2.2,Nat.le_refl _,HB.out.2.2.1⟩)
 have q0:=(hb1.block b (by omega)).trans H0.out.2.2.2.1
 have q1:=(hb1.block (b+1) (by omega)).trans H0.out.2.2.2.2.1
 have q2:=(hb1.block (b+2) (by omega)).trans H0.out.2.2.2.2.2
 have H1:=zH (And.intro hbw1 (And.intro q0 (And.intro q1 q2)))
 clear hb1 or1 hz3 hbw1 q0 q1 q2 t1 t2 t3
 go_wp2_with fail
 have hsf:sOf B a n = B.drop a:=by unfold sOf;rw [List.take_of_length_le (by rw [List.length_drop,HB.out.1.len];exact Nat.le_refl _)]
 have hdec:decS B (a:Nat) = ansS B.length (a:Nat) (rdV 32 (B.drop a)):=decS_in (by rw [HB.out.1.len];exact HB.out.2.2.2)
 rw [← hsf,HB.out.1.len] at hdec
 have HD:=zH hdec
 clear hsf hdec
 refine (value_any w1 (b+3) p n cp a n (-1) (a:Nat) B HR1.out).mono ?_
 rintro e w2 hto
 rcases hx:rdV 32 (sOf B a n) with y|⟨v,k⟩
 ·rw [hx] at hto
  obtain ⟨rfl,hk⟩:=hto
  have k1:=(hk.block b (gl H1.out.2.1) (by omega)).trans H1.out.2.1
  have k2:=(hk.block (b+1) (gl H1.out.2.2.1) (by omega)).trans H1.out.2.2.1
  have k3:=(hk.block (b+2) (gl H1.out.2.2.2) (by omega)).trans H1.out.2.2.2
  have HKK:=zH hk
  unfold faultE
  dsimp only
  go_wp2_with fail
  refine leaves_cons (f:=37) (args:=#[.pointer (some ⟨b,0,none⟩),.pointer (some ⟨b+1,0,none⟩),.pointer (some ⟨b+2,0,none⟩)]) (by simp) (by simp [go_sem]) ?_
  refine (catch_fault b (b+1) (b+2) _ _ _ 0 0 ⟨by omega,by omega,by omega⟩ w2 k1 rfl k2 k3).mono ?_
  rintro e u' w3 ⟨rfl,rfl,ht⟩
  show Leaves prog Tryz.f18 _ _ [] .returning w3
  refine ⟨_,results_dec _ _ b (b+1) (b+2) zR _ _ rfl rfl rfl ht.rx rfl ht.ry ht.rz,?_⟩
  have hkk:=(HKK.out.wide (fun j h=>Or.inl (b:=j = b ∨ j = b+1 ∨ j = b+2) h)).trans (ht.keep.wide (fun j h=>.inr h))
  have hbw:=KeepF.below H1.out.1 hkk (fun j h=>by have:=H0.out.1;omega) H1.out.1.size
  unfold DecTo
  rw [HD.out,hx,ansS_fault]
  exact ⟨_,fun _=>False,rfl,VO.nil _ _ zero_wf rfl,hbw⟩
 rw [hx] at hto
 obtain ⟨s,F,rfl,hvo,hmv⟩:=hto
 obtain ⟨ps,cs,hss,_,_⟩:=hvo.slice
 subst hss
 have hkl:=rdV_le 32 _ _ _ hx
 rw [sOf_len (by rw [HB.out.1.len];exact Nat.le_refl _)] at hkl
 obtain ⟨a2,ha2⟩:∃ a2,a+k = a2:=⟨_,rfl⟩
 rw [ha2] at hmv
 have hle2:a2 <= n:=by have:=HB.out.2.2.2;omega
 have k1:=(hmv.keep.block b (gl H1.out.2.1) (by omega)).trans H1.out.2.1
 have k2:=(hmv.keep.block (b+1) (gl H1.out.2.2.1) (by omega)).trans H1.out.2.2.1
 have k3:=(hmv.keep.block (b+2) (gl H1.out.2.2.2) (by omega)).trans H1.out.2.2.2
 have H2:=zH (And.intro k1 (And.intro k2 (And.intro k3 (And.intro hvo hmv))))
 have HXX:=zH (And.intro hx (And.intro ha2 hle2))
 clear hvo hmv hx hkl k1 k2 k3
 go_upto_region 6 with (refine stV (.tmp 4) (.tmp 25) rfl rfl rfl rfl rfl H2.out.1 rfl ?_)
 have kx:KeepF (fun g=>g = b) w2 (w2.setRow b #[.int .i64 v.kind,.int .u64 v.num,.string v.text,.slice ps v.list.length cs,.int .i64 v.elem]):=⟨rfl,rfl,rfl,by simp,fun j hj hne=>setRow_other w2 b j _ hne⟩
 have rx:=setRow_heap w2 b _ #[.int .i64 v.kind,.int .u64 v.num,.string v.text,.slice ps v.list.length cs,.int .i64 v.elem] _ _ H2.out.1
 change Code.wp _ _ _ _ (w2.setRow b #[.int .i64 v.kind,.int .u64 v.num,.string v.text,.slice ps v.list.length cs,.int .i64 v.elem])
 generalize w2.setRow b #[.int .i64 v.kind,.int .u64 v.num,.string v.text,.slice ps v.list.length cs,.int .i64 v.elem] = w3 at *
 have r1:=(kx.block (b+1) (gl H2.out.2.1) (by omega)).trans H2.out.2.1
 have r2:=(kx.block (b+2) (gl H2.out.2.2.1) (by omega)).trans H2.out.2.2.1
 have rr:=(kx.block (b+3) (gl H2.out.2.2.2.2.at_) (by omega)).trans H2.out.2.2.2.2.at_
 have H3:=zH (And.intro kx (And.intro rx (And.intro r1 (And.intro r2 rr))))
 have cr:w3.cell? ⟨b+3,1,none⟩ = some (.int .i64 (a2:Nat)):=(cell_of_row _ _ 1 _ _ _ rr).trans rfl
 have hsub:wrap64 ((a2:Int) - (a:Nat)) = (k:Nat):=by have h1:=HXX.out.2.1;have h2:=HB.out.2.2.1;have h3:=hle2;unfold wrap64;omega
 have hsub2:IntKind.i64.wrap ((a2:Int) - (a:Nat)) = (k:Nat):=by have h1:=HXX.out.2.1;have h2:=HB.out.2.2.1;have h3:=hle2;rw [IntWalk.i64_in _ (by omega)];omega
 clear kx rx r1 r2 rr hle2 ha2
 by_cases hbig:1048576 < k
 ·have d1:decide (1048576 < k) = true:=decide_eq_true hbig
  have d2:decide ((1048576:Int) < (k:Nat)) = true:=decide_eq_true (by omega)
  have HBIG:=zH hbig
  clear hbig
  go_wp2_with fail
  refine (wrong_any _ _ _).mono ?_
  rintro e w4 ⟨rfl,rfl⟩
  unfold faultE
  dsimp only
  go_wp2_with fail
  refine leaves_cons (f:=37) (args:=#[.pointer (some ⟨b,0,none⟩),.pointer (some ⟨b+1,0,none⟩),.pointer (some ⟨b+2,0,none⟩)]) (by simp) (by simp [go_sem]) ?_
  refine (catch_fault b (b+1) (b+2) _ _ _ 0 0 ⟨by omega,by omega,by omega⟩ w3 H3.out.2.1 rfl H3.out.2.2.1 H3.out.2.2.2.1).mono ?_
  rintro e u' w5 ⟨rfl,rfl,ht⟩
  show Leaves prog Tryz.f18 _ _ [] .returning w5
  refine ⟨_,results_dec _ _ b (b+1) (b+2) zR _ _ rfl rfl rfl ht.rx rfl ht.ry ht.rz,?_⟩
  have hkk:=(H2.out.2.2.2.2.keep.wide (fun j h=>Or.inl (b:=j = b ∨ j = b+1 ∨ j = b+2) h)).trans ((H3.out.1.wide (fun j h=>.inr (.inl h))).trans (ht.keep.wide (fun j h=>.inr h)))
  have hbw:=KeepF.below H1.out.1 hkk (fun j h=>by have:=H0.out.1;omega) H1.out.1.size
  have he:ansS n (a:Nat) (.ok (v,k)) = (zeroV,((a:Nat):Int),2):=if_pos HBIG.out
  unfold DecTo
  rw [HD.out,HXX.out.1,he]
  exact ⟨_,fun _=>False,rfl,VO.nil _ _ zero_wf rfl,hbw⟩
 have d1:decide (1048576 < k) = false:=decide_eq_false hbig
 have d2:decide ((1048576:Int) < (k:Nat)) = false:=decide_eq_false (by omega)
 have HBIG:=zH hbig
 clear hbig
 go_upto_region 8 with fail
 clear cr hsub hsub2 d1 d2
 refine wp_hide (fun Q9 HQ9 HP9=>?_)
 refine wp_region_heldN (fun V=>V.heap[b]? = some (.cells #[.int .i64 v.kind,.int .u64 v.num,.string v.text,.slice ps v.list.length cs,.int .i64 v.elem] 25 (0,0))∧V.heap[b+3]? = some (.cells #[.slice p n cp,.int .i64 (a2:Nat),.int .i64 (n:Nat),.int .i64 (-1)] 66 (0,0))) 8 rfl (by kernel_rfl) ?_
 have hS:w3.drew.heap[b]? = some (.cells #[.int .i64 v.kind,.int .u64 v.num,.string v.text,.slice ps v.list.length cs,.int .i64 v.elem] 25 (0,0))∧w3.drew.heap[b+3]? = some (.cells #[.slice p n cp,.int .i64 (a2:Nat),.int .i64 (n:Nat),.int .i64 (-1)] 66 (0,0)):=⟨H3.out.2.1,H3.out.2.2.2.2⟩
 refine tkD (i:=0) (v:=.agg #[.int .i64 v.kind,.int .u64 v.num,.string v.text,.slice ps v.list.length cs,.int .i64 v.elem]) (some 35) rfl rfl (by kernel_rfl) (fun c a w h=>(HP9.out _ _ _ h).elim) (yieldsIf_load_row 25 (.tmp 4) rfl (by rfl) b rfl 25 _ (0,0) _ (fun V h=>h.1) underlying25 rfl (by as_aux_lemma=>kernel_rfl)) hS ?_
 try simp only [Act.put,sA,sB,sC]
 refine tkD (i:=1) (v:=.pointer (some ⟨b+3,0,none⟩)) (some 36) rfl rfl (by kernel_rfl) (fun c a w h=>(HP9.out _ _ _ h).elim) (Or.inl ⟨by rfl,by rintro V ⟨h0,h1⟩;go_simp⟩) hS ?_
 try simp only [Act.put,sA,sB,sC]
 refine tkD (i:=2) (v:=.pointer (some ⟨b+3,0,none⟩)) (some 37) rfl rfl (by kernel_rfl) (fun c a w h=>(HP9.out _ _ _ h).elim) (Or.inl ⟨by rfl,by rintro V ⟨h0,h1⟩;go_simp⟩) hS ?_
 try simp only [Act.put,sA,sB,sC]
 refine tkD (i:=3) (v:=.pointer (some ⟨b+3,1,none⟩)) (some 38) rfl rfl (by kernel_rfl) (fun c a w h=>(HP9.out _ _ _ h).elim) (Or.inl ⟨by rfl,by rintro V ⟨h0,h1⟩;go_simp⟩) hS ?_
 try simp only [Act.put,sA,sB,sC]
 refine tkD (i:=4) (v:=.int .i64 (a2:Nat)) (some 39) rfl rfl (by kernel_rfl) (fun c a w h=>(HP9.out _ _ _ h).elim) (Or.inl ⟨by rfl,by rintro V ⟨h0,h1⟩;have y1:=(cell_of_row V _ 1 _ _ _ h1).trans rfl;go_simp⟩) hS ?_
 try simp only [Act.put,sA,sB,sC]
 have k4:KeepF (fun g=>g = b) w3.drew (w3.drew.setRow b #[.int .i64 v.kind,.int .u64 v.num,.string v.text,.slice ps v.list.length cs,.int .i64 v.elem]):=⟨rfl,rfl,rfl,by simp,fun j hj hne=>setRow_other w3.drew b j _ hne⟩
 have rb4:=setRow_heap w3.drew b _ #[.int .i64 v.kind,.int .u64 v.num,.string v.text,.slice ps v.list.length cs,.int .i64 v.elem] _ _ hS.1
 have rr4:=(k4.block (b+3) (gl hS.2) (by omega)).trans hS.2
 have ra4:=(k4.block (b+1) (gl H3.out.2.2.1) (by omega)).trans H3.out.2.2.1
 have rc4:=(k4.block (b+2) (gl H3.out.2.2.2.1) (by omega)).trans H3.out.2.2.2.1
 refine oneH (i:=5) (by kernel_rfl) ?_
 refine stepD (i:=5) rfl (by rfl) (fun K5 h5=>?_)
 refine wp_store_rowN 25 (.tmp 4) (.tmp 35) rfl rfl b #[.int .i64 v.kind,.int .u64 v.num,.string v.text,.slice ps v.list.length cs,.int .i64 v.elem] rfl rfl 25 _ hS.1 (by as_aux_lemma=>kernel_rfl) (by as_aux_lemma=>kernel_rfl) (by simp [Value.oneCell']) ?_
 refine h5.out _ _ ⟨rb4,rr4⟩ ?_
 clear h5
 try simp only [Act.put,sA,sB,sC]
 generalize (w3.drew.setRow b #[.int .i64 v.kind,.int .u64 v.num,.string v.text,.slice ps v.list.length cs,.int .i64 v.elem]) = w4 at *
 have cw5:w4.cell? ⟨b+1,0,none⟩ = some (.int .i64 0):=(cell_of_row _ _ 0 _ _ _ ra4).trans rfl
 have fw5:w4.frozen? ⟨b+1,0,none⟩ = false:=by simp [World.frozen?,ra4]
 have k5:KeepF (fun g=>g = b+1) w4 (w4.setCell ⟨b+1,0,none⟩ (.int .i64 (a2:Nat))):=⟨rfl,rfl,rfl,by simp,fun j hj hne=>set_farV hne⟩
 have ownw5:=heap_setCell_same w4 (b+1) 0 _ _ (.int .i64 (a2:Nat)) ra4
 have rb5:=(k5.block (b) (gl rb4) (by omega)).trans rb4
 have rr5:=(k5.block (b+3) (gl rr4) (by omega)).trans rr4
 have rc5:=(k5.block (b+2) (gl rc4) (by omega)).trans rc4
 refine oneH (i:=6) (by kernel_rfl) ?_
 refine stepD (i:=6) rfl (by rfl) (fun K5 h5=>?_)
 go_simp
 change K5 _ (w4.setCell ⟨b+1,0,none⟩ (.int .i64 (a2:Nat)))
 refine h5.out _ _ ⟨rb5,rr5⟩ ?_
 clear h5
 try simp only [Act.put,sA,sB,sC]
 generalize (w4.setCell ⟨b+1,0,none⟩ (.int .i64 (a2:Nat))) = w5 at *
 have cw6:w5.cell? ⟨b+2,0,none⟩ = some (.int .i64 0):=(cell_of_row _ _ 0 _ _ _ rc5).trans rfl
 have fw6:w5.frozen? ⟨b+2,0,none⟩ = false:=by simp [World.frozen?,rc5]
 have k6:KeepF (fun g=>g = b+2) w5 (w5.setCell ⟨b+2,0,none⟩ (.int .i64 0)):=⟨rfl,rfl,rfl,by simp,fun j hj hne=>set_farV hne⟩
 have ownw6:=heap_setCell_same w5 (b+2) 0 _ _ (.int .i64 0) rc5
 have rb6:=(k6.block (b) (gl rb5) (by omega)).trans rb5
 have rr6:=(k6.block (b+3) (gl rr5) (by omega)).trans rr5
 have ra6:=(k6.block (b+1) (gl ownw5) (by omega)).trans ownw5
 refine oneH (i:=7) (by kernel_rfl) ?_
 refine stepD (i:=7) rfl (by rfl) (fun K5 h5=>?_)
 go_simp
 change K5 _ (w5.setCell ⟨b+2,0,none⟩ (.int .i64 0))
 refine h5.out _ _ ⟨rb6,rr6⟩ ?_
 clear h5
 try simp only [Act.put,sA,sB,sC]
 generalize (w5.setCell ⟨b+2,0,none⟩ (.int .i64 0)) = w6 at *
 refine wpAnyH_done (by kernel_rfl) ?_ _
 have HZZ:=zH (show w6.heap[b]? = some (.cells #[.int .i64 v.kind,.int .u64 v.num,.string v.text,.slice ps v.list.length cs,.int .i64 v.elem] 25 (0,0))∧w6.cell? ⟨b+1,0,none⟩ = some (.int .i64 (a2:Nat))∧w6.cell? ⟨b+2,0,none⟩ = some (.int .i64 0)∧KeepF (fun j=>j = b ∨ j = b+1 ∨ j = b+2) w3 w6 from ⟨rb6,(cell_of_row _ _ 0 _ _ _ ra6).trans rfl,(cell_of_row _ _ 0 _ _ _ ownw6).trans rfl,(KeepF.of_below (bdrew (Below.refl _ _))).trans ((k4.wide (fun j h=>.inl h)).trans ((k5.wide (fun j h=>.inr (.inl h))).trans (k6.wide (fun j h=>.inr (.inr h)))))⟩)
 clear k4 k5 k6 rb4 rr4 ra4 rc4 rb5 rr5 rc5 rb6 rr6 ra6 cw5 cw6 fw5 fw6 ownw5 ownw6 hS
 refine HQ9.out _ _ ?_
 change Exit.then _ _ _ _ w6
 go_wp2_with fail
 refine leaves_cons (f:=37) (args:=#[.pointer (some ⟨b,0,none⟩),.pointer (some ⟨b+1,0,none⟩),.pointer (some ⟨b+2,0,none⟩)]) (by simp) (by simp [go_sem]) ?_
 refine (catch_idle _ _ _ w6).mono ?_
 rintro e u' w7 ⟨rfl,rfl,rfl⟩
 show Leaves prog Tryz.f18 _ _ [] .returning w7
 refine ⟨_,results_dec _ _ b (b+1) (b+2) #[.int .i64 v.kind,.int .u64 v.num,.string v.text,.slice ps v.list.length cs,.int .i64 v.elem] (a2:Nat) 0 rfl rfl rfl HZZ.out.1 rfl HZZ.out.2.1 HZZ.out.2.2.1,?_⟩
 have hkk:=(H2.out.2.2.2.2.keep.wide (fun j h=>Or.inl (b:=j = b ∨ j = b+1 ∨ j = b+2) h)).trans ((H3.out.1.wide (fun j h=>.inr (.inl h))).trans (HZZ.out.2.2.2.wide (fun j h=>.inr h)))
 have hbw:=KeepF.below H1.out.1 hkk (fun j h=>by have:=H0.out.1;omega) H1.out.1.size
 have he:ansS n (a:Nat) (.ok (v,k)) = (v,(a:Int)+k,0):=if_neg HBIG.out
 have hk3:=(H3.out.1.wide (fun j h=>Or.inl (b:=j = b+1 ∨ j = b+2) h)).trans HZZ.out.2.2.2
 unfold DecTo
 rw [HD.out,HXX.out.1,he]
 refine ⟨_,F,?_,((H2.out.2.2.2.1.mono H1.out.1.size).keep (fun j hj=>hk3.block j (H2.out.2.2.2.1.lt j hj).2 (fun e=>by have:=(H2.out.2.2.2.1.lt j hj).1;have:=(gl H1.out.2.2.2);omega))),hbw⟩
 rw [← HXX.out.2.1]
 rfl
end Go.Proofs.YtnnnfhobbnjmfaaGreatDoor

namespace Go.Proofs.YtnnnfhobbnjmfaaGreatDoor
open Go.RowKit Go.Proofs.Tryz
set_option linter.all false
set_option maxHeartbeats 40000000
set_option maxRecDepth 20000

attribute [local go_sem] Oper.semAt_some

structure Fr (w wk:World) (x y:Nat) (px:Array Value):Prop where
 blw:Below w.heap.size w wk
 part:wk.heap[x]? = some (.cells px 94 (0,0))
 res:wk.heap[y]? = some (.cells zR 25 (0,0))
 hx:w.heap.size <= x
 hxy:x < y
theorem Fr.start (w:World) (px:Array Value):Fr w ((w.alloc (.cells px 94)).alloc (.cells zR 25)) w.heap.size (w.heap.size+1) px :=
 ⟨((Below.refl _ _).alloc (Nat.le_refl _) _).alloc (by simp) _,(hao _ _ (by simp)).trans (zN _ _),by have:=zN (w.alloc (.cells px 94)) (.cells zR 25);simpa using this,Nat.le_refl _,Nat.lt_succ_self _⟩
theorem frx (w:World) (p:Option Addr) (n cp en:Nat) (sz:Int):∃ w0 x y,(w.alloc (.cells #[.slice p n cp,.int .i64 (en:Nat),.int .i64 sz] 94)).alloc (.cells zR 25) = w0∧w.heap.size = x∧x+1 = y∧Hid (w.heap.size = x∧x+1 = y)∧Hid (Fr w w0 x y #[.slice p n cp,.int .i64 (en:Nat),.int .i64 sz])∧w0.cell? ⟨x,0,none⟩ = some (.slice p n cp)∧w0.cell? ⟨x,1,none⟩ = some (.int .i64 (en:Nat))∧w0.cell? ⟨x,2,none⟩ = some (.int .i64 sz):=by
 have f:=Fr.start w #[.slice p n cp,.int .i64 (en:Nat),.int .i64 sz]
 exact ⟨_,_,_,rfl,rfl,rfl,zH ⟨rfl,rfl⟩,zH f,(cell_of_row _ _ 0 _ _ _ f.part).trans rfl,(cell_of_row _ _ 1 _ _ _ f.part).trans rfl,(cell_of_row _ _ 2 _ _ _ f.part).trans rfl⟩
section
variable {w wk w2:World} {x y:Nat} {px:Array Value}
theorem Fr.lt (h:Fr w wk x y px):y < wk.heap.size:=(gl h.res)
theorem Fr.next (h:Fr w wk x y px) (hb:Below wk.heap.size wk w2):Fr w w2 x y px :=
 ⟨h.blw.trans (hb.mono h.blw.size),(hb.block x (Nat.lt_trans h.hxy h.lt)).trans h.part,(hb.block y h.lt).trans h.res,h.hx,h.hxy⟩
theorem Fr.row (h:Fr w wk x y px) (cs:Array Value):(wk.setRow y cs).heap[y]? = some (.cells cs 25 (0,0)):=setRow_heap wk y _ cs _ _ h.res
theorem Fr.end (h:Fr w wk x y px) (cs:Array Value):Below w.heap.size w (wk.setRow y cs):=below_setRow h.blw (by have:=h.hx;have:=h.hxy;omega) _
end
def RTo (w:World) (A:V × Int × Int) (e:Ending) (w':World):Prop :=
 ∃ s F,e = .returned (.tuple #[.agg #[.int .i64 A.1.kind,.int .u64 A.1.num,.string A.1.text,s,.int .i64 A.1.elem],.int .i64 A.2.1,.int .i64 A.2.2])∧VO w' w.heap.size A.1 s F∧Below w.heap.size w w'
section
variable {w wk:World} {x y:Nat} {px:Array Value} {A:V × Int × Int}
theorem RTo.zero (h:Fr w wk x y px) (pl ec:Int) (hA:A = (zeroV,pl,ec)):RTo w A (.returned (.tuple #[.agg zR,.int .i64 pl,.int .i64 ec])) (wk.setRow y zR):=by
 subst hA
 exact ⟨_,fun _=>False,rfl,VO.nil _ _ zero_wf rfl,h.end _⟩
theorem RTo.val (h:Fr w wk x y px) {v:V} {s:Value} {F:Nat -> Prop} {B:Nat} (hv:VO wk B v s F) (hB:w.heap.size <= B) (hy:∀ b,F b -> b ≠ y) (pl ec:Int) (hA:A = (v,pl,ec)) :
  RTo w A (.returned (.tuple #[.agg #[.int .i64 v.kind,.int .u64 v.num,.string v.text,s,.int .i64 v.elem],.int .i64 pl,.int .i64 ec])) (wk.setRow y #[.int .i64 v.kind,.int .u64 v.num,.string v.text,s,.int .i64 v.elem]):=by
 subst hA
 exact ⟨_,F,rfl,(hv.keep (fun b hb=>setRow_other wk y b _ (hy b hb))).mono hB,h.end _⟩
end
def ansR (n:Nat) (sz own:Int) (at_:Nat):Res -> V × Int × Int
 | .error y=>(zeroV,erP n sz own at_ y,erC sz y)
 | .ok (v,k)=>(v,(at_+k:Nat),0)
structure PIn (w:World) (p:Option Addr) (n cp at_ en:Nat) (B:List UInt8):Prop where
 bytes:BytesIn w p n cp B
 tabs:Tabs w
 ha:at_ <= en
 hen:en <= n
 hn:n <= 140737488355328
theorem PIn.blw {w w':World} {p:Option Addr} {n cp at_ en:Nat} {B:List UInt8} (h:PIn w p n cp at_ en B) (hb:Below w.heap.size w w'):PIn w' p n cp at_ en B:=⟨h.bytes.below hb,h.tabs.below hb,h.ha,h.hen,h.hn⟩
theorem PIn.len {w:World} {p:Option Addr} {n cp at_ en:Nat} {B:List UInt8} (h:PIn w p n cp at_ en B):B.length = n:=h.bytes.len
theorem rshort_any (w:World) (p:Option Addr) (n cp en:Nat) (sz:Int):Calls prog 85 #[.agg #[.slice p n cp,.int .i64 (en:Nat),.int .i64 sz]] w fun e w'=>e = .returned (.tuple #[.int .i64 (shP n sz),.int .i64 (shC sz)])∧Below w.heap.size w w':=by
 have hns:(decide (sz < 0) = true∧shP n sz = n∧shC sz = 10) ∨ (decide (sz < 0) = false∧shP n sz = sz∧shC sz = 32):=by
  unfold shP shC
  by_cases h:sz < 0
  ·exact .inl ⟨by simp [h],by rw [if_pos h],by rw [if_pos h]⟩
  ·exact .inr ⟨by simp [h],by rw [if_neg h],by rw [if_neg h]⟩
 rcases hns with ⟨h2,h3,h4⟩|⟨h2,h3,h4⟩
 all_goals
  rw [h3,h4]
  clear h3 h4
  go_enter func85,ntmps85
  go_upto_region 1 with fail
  have hb0:Below w.heap.size w (w.alloc (.cells #[.slice p n cp,.int .i64 (en:Nat),.int .i64 sz] 94)):=(Below.refl _ _).alloc (Nat.le_refl _) _
  have ox:=zN w (.cells #[.slice p n cp,.int .i64 (en:Nat),.int .i64 sz] 94)
  generalize (w.alloc (.cells #[.slice p n cp,.int .i64 (en:Nat),.int .i64 sz] 94)) = w0 at *
  obtain ⟨x,hx⟩:∃ x,w.heap.size = x:=⟨_,rfl⟩
  rw [hx] at ox ⊢
  have x0:w0.cell? ⟨x,0,none⟩ = some (.slice p n cp):=(cell_of_row _ _ 0 _ _ _ ox).trans rfl
  have x2:w0.cell? ⟨x,2,none⟩ = some (.int .i64 sz):=(cell_of_row _ _ 2 _ _ _ ox).trans rfl
  have HB0:=zH (And.intro hb0 hx)
  clear hb0 ox hx
  go_wp2_with fail
  go_ret2
  exact ⟨rfl,HB0.out.2 ▸ HB0.out.1⟩
structure Fs (w wk:World) (x y:Nat) (px:Array Value):Prop where
 blw:Below w.heap.size w wk
 part:wk.heap[x]? = some (.cells px 94 (0,0))
 res:wk.heap[y]? = some (.cells #[.slice none 0 0,.int .i64 0,.int .i64 0] 94 (0,0))
 hx:w.heap.size <= x
 hxy:x < y
theorem Fs.start (w:World) (px:Array Value):Fs w ((w.alloc (.cells px 94)).alloc (.cells #[.slice none 0 0,.int .i64 0,.int .i64 0] 94)) w.heap.size (w.heap.size+1) px :=
 ⟨((Below.refl _ _).alloc (Nat.le_refl _) _).alloc (by simp) _,(hao _ _ (by simp)).trans (zN _ _),by have:=zN (w.alloc (.cells px 94)) (.cells #[.slice none 0 0,.int .i64 0,.int .i64 0] 94);simpa using this,Nat.le_refl _,Nat.lt_succ_self _⟩
section
variable {w wk w2:World} {x y:Nat} {px:Array Value}
theorem Fs.lt (h:Fs w wk x y px):y < wk.heap.size:=(gl h.res)
theorem Fs.next (h:Fs w wk x y px) (hb:Below wk.heap.size wk w2):Fs w w2 x y px :=
 ⟨h.blw.trans (hb.mono h.blw.size),(hb.block x (Nat.lt_trans h.hxy h.lt)).trans h.part,(hb.block y h.lt).trans h.res,h.hx,h.hxy⟩
theorem Fs.row (h:Fs w wk x y px) (cs:Array Value):(wk.setRow y cs).heap[y]? = some (.cells cs 94 (0,0)):=setRow_heap wk y _ cs _ _ h.res
theorem Fs.end (h:Fs w wk x y px) (cs:Array Value):Below w.heap.size w (wk.setRow y cs):=below_setRow h.blw (by have:=h.hx;have:=h.hxy;omega) _
end
theorem results_rspan (tmps:Array Value) (w:World) (x:Nat) (cs:Array Value) (hx:tmps.getD 8 undef = .pointer (some ⟨x,0,none⟩)) (rx:w.heap[x]? = some (.cells cs 94 (0,0))) (hs:cs.size = 3) :
  (results Tryz.f131 tmps).run prog w = .ok (.tuple #[.agg cs,tmps.getD 9 undef,tmps.getD 10 undef]) w:=by
 have hx':tmps[8]?.getD undef = .pointer (some ⟨x,0,none⟩):=by simpa using hx
 have h1:=run_loadVar_row (P:=prog) w x 94 94 cs (0,0) _ rx underlying94 rfl (by rw [hs];as_aux_lemma=>kernel_rfl)
 simp [results,results131,hx',asAddr,h1]
theorem rspan_short (w:World) (p:Option Addr) (n cp at_ en:Nat) (sz:Int) (B:List UInt8) (h:PIn w p n cp at_ en B) (wd least:Nat) (h1:1 <= wd) (h4:wd <= 4) (hs:en - at_ < wd) :
  Calls prog 131 #[.agg #[.slice p n cp,.int .i64 (en:Nat),.int .i64 sz],.int .i64 (at_:Nat),.int .i64 (wd:Nat),.int .i64 (least:Nat)] w fun e w'=>e = .returned (.tuple #[.agg #[.slice none 0 0,.int .i64 0,.int .i64 0],.int .i64 (shP n sz),.int .i64 (shC sz)])∧Below w.heap.size w w':=by
 have HSH:=zH (fun W=>rshort_any W p n cp en sz)
 have hha:=h.ha
 have hhe:=h.hen
 have hhn:=h.hn
 have dsub:IntKind.i64.wrap ((en:Int) - (at_:Nat)) = ((en - at_:Nat):Int):=by rw [IntWalk.i64_in _ (by omega)];omega
 have d1:((en - at_:Nat):Int) < (wd:Nat):=by omega
 clear hs
 go_enter func131,ntmps131
 go_upto_region 1 with fail
 have hf0:Fs w ((w.alloc (.cells #[.slice p n cp,.int .i64 (en:Nat),.int .i64 sz] 94)).alloc (.cells #[.slice none 0 0,.int .i64 0,.int .i64 0] 94)) w.heap.size (w.heap.size+1) #[.slice p n cp,.int .i64 (en:Nat),.int .i64 sz]:=Fs.start w _
 generalize ((w.alloc (.cells #[.slice p n cp,.int .i64 (en:Nat),.int .i64 sz] 94)).alloc (.cells #[.slice none 0 0,.int .i64 0,.int .i64 0] 94)) = w0 at *
 obtain ⟨x,hx⟩:∃ x,w.heap.size = x:=⟨_,rfl⟩
 rw [hx] at hf0 ⊢
 obtain ⟨y,hy⟩:∃ y,x+1 = y:=⟨_,rfl⟩
 rw [hy] at hf0 ⊢
 have HXY:=zH (And.intro hx hy)
 have HF0:=zH hf0
 obtain ⟨x0,x1,x2⟩:=c3 HF0.out.part
 clear hx hy hf0
 go_wp2_with fail
 refine (HSH.out _).mono ?_
 rintro e w2 ⟨rfl,hb2⟩
 have HF2:=zH (HF0.out.next hb2)
 clear hb2
 go_wp2_with (refine wpList_store_rowTo rfl 94 (.tmp 8) (.tmp 27) rfl rfl y #[.slice none 0 0,.int .i64 0,.int .i64 0] rfl rfl 94 #[.slice none 0 0,.int .i64 0,.int .i64 0] (HF2.out.res) (by as_aux_lemma=>kernel_rfl) (by as_aux_lemma=>kernel_rfl) (by simp [Value.oneCell']) ?_)
 refine bodyPost_ret (results_rspan _ _ y #[.slice none 0 0,.int .i64 0,.int .i64 0] rfl (HF2.out.row _) rfl) rfl ?_
 exact ⟨rfl,HF2.out.end _⟩
theorem mrg_rspan_least (w:World) (p:Option Addr) (n cp at_ en:Nat) (sz:Int) (B:List UInt8) (h:PIn w p n cp at_ en B) (wd least:Nat) (h1:1 <= wd) (h4:wd <= 4) (hs:¬ en - at_ < wd):(∀ (hs2:nAt B at_ wd < least),Calls prog 131 #[.agg #[.slice p n cp,.int .i64 (en:Nat),.int .i64 sz],.int .i64 (at_:Nat),.int .i64 (wd:Nat),.int .i64 (least:Nat)] w fun e w'=>e = .returned (.tuple #[.agg #[.slice none 0 0,.int .i64 0,.int .i64 0],.int .i64 (at_:Nat),.int .i64 32])∧Below w.heap.size w w') ∧
  (∀ (hs2:¬ nAt B at_ wd < least) (hs3:en - at_ - wd < nAt B at_ wd),Calls prog 131 #[.agg #[.slice p n cp,.int .i64 (en:Nat),.int .i64 sz],.int .i64 (at_:Nat),.int .i64 (wd:Nat),.int .i64 (least:Nat)] w fun e w'=>e = .returned (.tuple #[.agg #[.slice none 0 0,.int .i64 0,.int .i64 0],.int .i64 (shP n sz),.int .i64 (shC sz)])∧Below w.heap.size w w') ∧
  (∀ (hs2:¬ nAt B at_ wd < least) (hs3:¬ en - at_ - wd < nAt B at_ wd),Calls prog 131 #[.agg #[.slice p n cp,.int .i64 (en:Nat),.int .i64 sz],.int .i64 (at_:Nat),.int .i64 (wd:Nat),.int .i64 (least:Nat)] w fun e w'=>e = .returned (.tuple #[.agg #[.slice p n cp,.int .i64 ((at_+wd+nAt B at_ wd:Nat)),.int .i64 (at_:Nat)],.int .i64 (at_+wd:Nat),.int .i64 0])∧Below w.heap.size w w'):=by
 refine ⟨?_,?_,?_⟩
 intro hs2
 rotate_left
 intro hs2 hs3
 have HSH:=zH (fun W=>rshort_any W p n cp en sz)
 rotate_left
 intro hs2 hs3
 rotate_left
 all_goals
  have hha:=h.ha
  have hhe:=h.hen
  have hhn:=h.hn
  have dsub:IntKind.i64.wrap ((en:Int) - (at_:Nat)) = ((en - at_:Nat):Int):=by rw [IntWalk.i64_in _ (by omega)];omega
  have d1:¬ ((en - at_:Nat):Int) < (wd:Nat):=by omega
  have hle:=h.bytes.le
  have hnb:=nAt_lt (B:=B) (at_:=at_) (wd:=wd)
  have hp4:256 ^ wd <= 256 ^ 4:=Nat.pow_le_pow_right (by omega) h4
  have hpp:(256:Nat) ^ 4 = 4294967296:=rfl
  have ib1:(0:Int) <= (at_:Nat):=by omega
  obtain ⟨a2,ha2⟩:∃ a2,at_+wd = a2:=⟨_,rfl⟩
  have hadd:IntKind.i64.wrap ((at_:Int)+(wd:Nat)) = (a2:Nat):=by rw [IntWalk.i64_in _ (by omega)];omega
  have ib2:((at_:Nat):Int) <= (a2:Nat):=by omega
  have ib3:((a2:Nat):Int) <= (cp:Nat):=by omega
  have ib4:((a2:Nat):Int) <= 140737488355328:=by omega
  have ib5:a2 - at_ = wd:=by omega
  have hca:¬ cp = at_:=by omega
  have hcv:IntKind.i64.wrap ((nAt B at_ wd:Nat):Int) = (nAt B at_ wd:Nat):=IntWalk.i64_in _ (by omega)
  have HN:=zH (show ∀ W,PIn W p n cp at_ en B -> Calls prog 95 #[(.slice (p.map (fun x=>x.add at_)) wd (cp - at_))] W fun e w'=>e = .returned (.int .u64 (nAt B at_ wd:Nat))∧W = w' from fun W hW=>rnumber_any W _ _ _ _ (by have hb:=hW.bytes.part at_ wd (by omega);rw [if_neg hca] at hb;exact hb) (by omega))
  have HP:=zH h
 focus
  have d2:((nAt B at_ wd:Nat):Int) < (least:Nat):=by omega
  generalize nAt B at_ wd = m at *
  clear hs hs2 h hle hnb hp4 hpp hha hhe hhn h1 h4 ha2
 rotate_left
 focus
  have dsub2:IntKind.i64.wrap (((en - at_:Nat):Int) - (wd:Nat)) = ((en - at_ - wd:Nat):Int):=by rw [IntWalk.i64_in _ (by omega)];omega
  have d2:¬ ((nAt B at_ wd:Nat):Int) < (least:Nat):=by omega
  have d3:((en - at_ - wd:Nat):Int) < (nAt B at_ wd:Nat):=by omega
  generalize nAt B at_ wd = m at *
  clear hs hs2 hs3 h hle hnb hp4 hpp hha hhe hhn h1 h4 ha2
 rotate_left
 focus
  have dsub2:IntKind.i64.wrap (((en - at_:Nat):Int) - (wd:Nat)) = ((en - at_ - wd:Nat):Int):=by rw [IntWalk.i64_in _ (by omega)];omega
  have d2:¬ ((nAt B at_ wd:Nat):Int) < (least:Nat):=by omega
  have d3:¬ ((en - at_ - wd:Nat):Int) < (nAt B at_ wd:Nat):=by omega
  rw [ha2]
  obtain ⟨a3,ha3⟩:∃ a3,a2+nAt B at_ wd = a3:=⟨_,rfl⟩
  have hadd2:IntKind.i64.wrap (((a2:Nat):Int)+(nAt B at_ wd:Nat)) = (a3:Nat):=by rw [IntWalk.i64_in _ (by omega)];omega
  rw [ha3]
  generalize nAt B at_ wd = m at *
  clear hs hs2 hs3 h hle hnb hp4 hpp hha hhe hhn h1 h4 ha2 ha3
 rotate_left
 all_goals
  go_enter func131,ntmps131
  go_upto_region 1 with fail
  have hf0:Fs w ((w.alloc (.cells #[.slice p n cp,.int .i64 (en:Nat),.int .i64 sz] 94)).alloc (.cells #[.slice none 0 0,.int .i64 0,.int .i64 0] 94)) w.heap.size (w.heap.size+1) #[.slice p n cp,.int .i64 (en:Nat),.int .i64 sz]:=Fs.start w _
  generalize ((w.alloc (.cells #[.slice p n cp,.int .i64 (en:Nat),.int .i64 sz] 94)).alloc (.cells #[.slice none 0 0,.int .i64 0,.int .i64 0] 94)) = w0 at *
  obtain ⟨x,hx⟩:∃ x,w.heap.size = x:=⟨_,rfl⟩
  rw [hx] at hf0 ⊢
  obtain ⟨y,hy⟩:∃ y,x+1 = y:=⟨_,rfl⟩
  rw [hy] at hf0 ⊢
  have HXY:=zH (And.intro hx hy)
  have HF0:=zH hf0
  obtain ⟨x0,x1,x2⟩:=c3 HF0.out.part
  clear hx hy hf0
  go_wp2_with fail
  refine (HN.out _ (HP.out.blw HF0.out.blw)).mono ?_
  rintro e w1 ⟨rfl,rfl⟩
 ·go_wp2_with (refine wpList_store_rowTo rfl 94 (.tmp 8) (.tmp 42) rfl rfl y #[.slice none 0 0,.int .i64 0,.int .i64 0] rfl rfl 94 #[.slice none 0 0,.int .i64 0,.int .i64 0] (HF0.out.res) (by as_aux_lemma=>kernel_rfl) (by as_aux_lemma=>kernel_rfl) (by simp [Value.oneCell']) ?_)
  refine bodyPost_ret (results_rspan _ _ y #[.slice none 0 0,.int .i64 0,.int .i64 0] rfl (HF0.out.row _) rfl) rfl ?_
  exact ⟨rfl,HF0.out.end _⟩
 ·go_wp2_with fail
  refine (HSH.out _).mono ?_
  rintro e w2 ⟨rfl,hb2⟩
  have HF2:=zH (HF0.out.next hb2)
  clear hb2
  go_wp2_with (refine wpList_store_rowTo rfl 94 (.tmp 8) (.tmp 57) rfl rfl y #[.slice none 0 0,.int .i64 0,.int .i64 0] rfl rfl 94 #[.slice none 0 0,.int .i64 0,.int .i64 0] (HF2.out.res) (by as_aux_lemma=>kernel_rfl) (by as_aux_lemma=>kernel_rfl) (by simp [Value.oneCell']) ?_)
  refine bodyPost_ret (results_rspan _ _ y #[.slice none 0 0,.int .i64 0,.int .i64 0] rfl (HF2.out.row _) rfl) rfl ?_
  exact ⟨rfl,HF2.out.end _⟩
 go_wp2_with (refine wpList_store_rowTo rfl 94 (.tmp 8) (.tmp 68) rfl rfl y #[.slice p n cp,.int .i64 (a3:Nat),.int .i64 (at_:Nat)] rfl rfl 94 #[.slice none 0 0,.int .i64 0,.int .i64 0] (HF0.out.res) (by as_aux_lemma=>kernel_rfl) (by as_aux_lemma=>kernel_rfl) (by simp [Value.oneCell']) ?_)
 refine bodyPost_ret (results_rspan _ _ y #[.slice p n cp,.int .i64 (a3:Nat),.int .i64 (at_:Nat)] rfl (HF0.out.row _) rfl) rfl ?_
 exact ⟨rfl,HF0.out.end _⟩
def rspan_least:=fun w p n cp at_ en sz B h wd least h1 h4 hs=>(mrg_rspan_least w p n cp at_ en sz B h wd least h1 h4 hs).1
def rspan_short2:=fun w p n cp at_ en sz B h wd least h1 h4 hs=>(mrg_rspan_least w p n cp at_ en sz B h wd least h1 h4 hs).2.1
def rspan_ok:=fun w p n cp at_ en sz B h wd least h1 h4 hs=>(mrg_rspan_least w p n cp at_ en sz B h wd least h1 h4 hs).2.2
end Go.Proofs.YtnnnfhobbnjmfaaGreatDoor
