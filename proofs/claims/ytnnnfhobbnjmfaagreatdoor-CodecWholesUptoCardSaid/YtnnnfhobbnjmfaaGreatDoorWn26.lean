/-
  Lemmas on the codec. Conditions: as each says.
-/
import Derived.Test.YtnnnfhobbnjmfaaGreatDoorWn25
import Derived.Test.YtnnnfhobbnjmfaaGreatDoorWn02
import Derived.OrdersHeld
import Derived.Test.YtnnnfhobbnjmfaaGreatDoorWn22
namespace Go.Proofs.YtnnnfhobbnjmfaaGreatDoor
open Go.RowKit Go.Proofs.Tryz
set_option linter.all false
set_option maxHeartbeats 40000000
set_option maxRecDepth 20000

attribute [local go_sem] Oper.semAt_some

theorem within_short1 (wd least:Nat) (fv:Value) (w:World) (r:Nat) (p:Option Addr) (n cp at_ en:Nat) (sz own:Int) (B:List UInt8) (h:RdIn w r p n cp at_ en sz B) (hs:en < at_+wd) :
  Calls prog 107 #[.pointer (some ⟨r,0,none⟩),.int .i64 (wd:Nat),.int .i64 (least:Nat),fv] w fun e w'=>e = faultE (shP n sz) (shC sz)∧KeepF (fun g=>g = r) w w':=by
 have HN:=zH (show ∀ W,RdIn W r p n cp at_ en sz B -> Calls prog 106 #[.pointer (some ⟨r,0,none⟩),.int .i64 (wd:Nat)] W fun e w'=>e = faultE (shP n sz) (shC sz)∧Below W.heap.size W w' from fun W hW=>number_bad W r p n cp at_ en sz hW.row wd hW.ha hs hW.hen hW.hn)
 clear hs
 have r1:w.cell? ⟨r,1,none⟩ = some (.int .i64 (at_:Nat)):=(cell_of_row _ _ 1 _ _ _ h.row).trans rfl
 have HR0:=zH h
 have hlt:=zH h.lt
 clear h
 go_enter func107,ntmps107
 go_wp2_with fail
 clear r1
 refine (HN.out _ HR0.out).mono ?_
 rintro e w3 ⟨rfl,hb3⟩
 exact ⟨rfl,rfl,KeepF.of_below hb3⟩
theorem mrg_within_small (wd least:Nat) (fv:Value) (w:World) (r:Nat) (p:Option Addr) (n cp at_ en:Nat) (sz own:Int) (B:List UInt8) (h:RdIn w r p n cp at_ en sz B) (h1:1 <= wd) (h4:wd <= 4) (N a1:Nat) (hN:nAt B at_ wd = N) (ha1:at_+wd = a1) (hs1:a1 <= en):(∀ (hs:N < least),Calls prog 107 #[.pointer (some ⟨r,0,none⟩),.int .i64 (wd:Nat),.int .i64 (least:Nat),fv] w fun e w'=>e = faultE (at_:Nat) 32∧KeepF (fun g=>g = r) w w') ∧
  (∀ (hl:least <= N) (hs:en < a1+N),Calls prog 107 #[.pointer (some ⟨r,0,none⟩),.int .i64 (wd:Nat),.int .i64 (least:Nat),fv] w fun e w'=>e = faultE (shP n sz) (shC sz)∧KeepF (fun g=>g = r) w w'):=by
 refine ⟨?_,?_⟩
 intro hs
 rotate_left
 intro hl hs
 rotate_left
 all_goals
  have HN:=zH (show ∀ W,RdIn W r p n cp at_ en sz B -> Calls prog 106 #[.pointer (some ⟨r,0,none⟩),.int .i64 (wd:Nat)] W fun e w'=>e = .returned (.int .u64 N)∧RdMv W w' r #[.slice p n cp,.int .i64 (a1:Nat),.int .i64 (en:Nat),.int .i64 sz] from fun W hW=>(number_ok W r p n cp at_ en sz hW.row B hW.src.bytes wd h1 (by omega) hW.ha (by omega) hW.hen hW.hn).mono (fun e w' q=>⟨by rw [← hN];exact q.1,q.2.eq (by omega)⟩))
  have hwn:wrap64 ((N:Nat):Int) = (N:Nat):=by
   have:=nAt_lt (B:=B) (at_:=at_) (wd:=wd)
   have h2:256 ^ wd <= 256 ^ 4:=Nat.pow_le_pow_right (by omega) h4
   have h3:256 ^ 4 = 4294967296:=by decide
   unfold wrap64
   omega
 have hd:decide (N < least) = true:=by simp;omega
 have hs1':=zH hs1
 clear hs hs1 hN ha1 h1 h4
 rotate_left
 have HNE:=zH (show ∀ W,RdIn W r p n cp a1 en sz B -> Calls prog 56 #[.pointer (some ⟨r,0,none⟩),.int .i64 (N:Nat)] W fun e w'=>e = faultE (shP n sz) (shC sz)∧Below W.heap.size W w' from fun W hW=>need_bad W r p n cp a1 en sz hW.row N hW.ha hs (by have:=hW.hen;have:=hW.hn;omega) hW.hn)
 have hd:decide (N < least) = false:=by simp;omega
 have hs1':=zH hs1
 clear hs hs1 hN ha1 h1 h4 hl
 rotate_left
 all_goals
  have r1:w.cell? ⟨r,1,none⟩ = some (.int .i64 (at_:Nat)):=(cell_of_row _ _ 1 _ _ _ h.row).trans rfl
  have HR0:=zH h
  have hlt:=zH h.lt
  clear h
  go_enter func107,ntmps107
  go_wp2_with fail
  clear r1
  refine (HN.out _ HR0.out).mono ?_
  rintro e w3 ⟨rfl,hmv⟩
  have HMV:=zH hmv
  have HR3:=zH (HR0.out.mv hmv hs1'.out)
  clear hmv
  go_wp2_with fail
 ·refine (wrong_any _ _ _).mono ?_
  rintro e w5 ⟨rfl,rfl⟩
  exact ⟨rfl,rfl,HMV.out.keep⟩
 refine (HNE.out _ HR3.out).mono ?_
 rintro e w4 ⟨rfl,hb4⟩
 exact ⟨rfl,rfl,HMV.out.keep.trans (KeepF.of_below hb4)⟩
def within_small:=fun wd least fv w r p n cp at_ en sz own B h h1 h4 N a1 hN ha1 hs1=>(mrg_within_small wd least fv w r p n cp at_ en sz own B h h1 h4 N a1 hN ha1 hs1).1
def within_short2:=fun wd least fv w r p n cp at_ en sz own B h h1 h4 N a1 hN ha1 hs1=>(mrg_within_small wd least fv w r p n cp at_ en sz own B h h1 h4 N a1 hN ha1 hs1).2
theorem mrg_within_s (wd least:Nat):(∀ (c1 c2 c3 c4 c5:Value) (w:World) (r:Nat) (p:Option Addr) (n cp at_ en:Nat) (sz own:Int) (B:List UInt8) (h:RdIn w r p n cp at_ en sz B) (h1:1 <= wd) (h4:wd <= 4) (N a1:Nat) (hN:nAt B at_ wd = N) (ha1:at_+wd = a1) (a2:Nat) (ha2:a1+N = a2) (hl:least <= N) (hs:a2 <= en) (R:Ending -> World -> Prop) (hc:∀ W q,w.heap.size <= q -> KeepF (fun g=>g = r) w W -> RdIn W r p n cp a1 en sz B -> RdIn W q p n cp a1 a2 (at_:Nat) B -> Calls prog 108 #[.pointer (some ⟨q,0,none⟩),c1,c2,c3,c4,c5] W fun e w'=>(∃ ps,e = .panicked ps∧R e w') ∨
   (e = .returned (.tuple #[])∧w'.heap[r]? = W.heap[r]?∧(∃ a3:Nat,w'.heap[q]? = some (.cells #[.slice p n cp,.int .i64 (a3:Nat),.int .i64 (a2:Nat),.int .i64 (at_:Nat)] 66 (0,0)))∧∀ w2,RdMv w' w2 r #[.slice p n cp,.int .i64 (a2:Nat),.int .i64 (en:Nat),.int .i64 sz] -> R (.returned (.tuple #[])) w2)),Calls prog 107 #[.pointer (some ⟨r,0,none⟩),.int .i64 (wd:Nat),.int .i64 (least:Nat),.func (.func 108) #[] #[c1,c2,c3,c4,c5]] w R) ∧
  (∀ (c1 c2 c3:Value) (w:World) (r:Nat) (p:Option Addr) (n cp at_ en:Nat) (sz own:Int) (B:List UInt8) (h:RdIn w r p n cp at_ en sz B) (h1:1 <= wd) (h4:wd <= 4) (N a1:Nat) (hN:nAt B at_ wd = N) (ha1:at_+wd = a1) (a2:Nat) (ha2:a1+N = a2) (hl:least <= N) (hs:a2 <= en) (R:Ending -> World -> Prop) (hc:∀ W q,w.heap.size <= q -> KeepF (fun g=>g = r) w W -> RdIn W r p n cp a1 en sz B -> RdIn W q p n cp a1 a2 (at_:Nat) B -> Calls prog 111 #[.pointer (some ⟨q,0,none⟩),c1,c2,c3] W fun e w'=>(∃ ps,e = .panicked ps∧R e w') ∨
   (e = .returned (.tuple #[])∧w'.heap[r]? = W.heap[r]?∧(∃ a3:Nat,w'.heap[q]? = some (.cells #[.slice p n cp,.int .i64 (a3:Nat),.int .i64 (a2:Nat),.int .i64 (at_:Nat)] 66 (0,0)))∧∀ w2,RdMv w' w2 r #[.slice p n cp,.int .i64 (a2:Nat),.int .i64 (en:Nat),.int .i64 sz] -> R (.returned (.tuple #[])) w2)),Calls prog 107 #[.pointer (some ⟨r,0,none⟩),.int .i64 (wd:Nat),.int .i64 (least:Nat),.func (.func 111) #[] #[c1,c2,c3]] w R):=by
 refine ⟨?_,?_⟩
 intro c1 c2 c3 c4 c5 w r p n cp at_ en sz own B h h1 h4 N a1 hN ha1 a2 ha2 hl hs R hc
 rotate_left
 intro c1 c2 c3 w r p n cp at_ en sz own B h h1 h4 N a1 hN ha1 a2 ha2 hl hs R hc
 rotate_left
 all_goals
  have HN:=zH (show ∀ W,RdIn W r p n cp at_ en sz B -> Calls prog 106 #[.pointer (some ⟨r,0,none⟩),.int .i64 (wd:Nat)] W fun e w'=>e = .returned (.int .u64 N)∧RdMv W w' r #[.slice p n cp,.int .i64 (a1:Nat),.int .i64 (en:Nat),.int .i64 sz] from fun W hW=>(number_ok W r p n cp at_ en sz hW.row B hW.src.bytes wd h1 (by omega) hW.ha (by omega) hW.hen hW.hn).mono (fun e w' q=>⟨by rw [← hN];exact q.1,q.2.eq (by omega)⟩))
  have hwn:wrap64 ((N:Nat):Int) = (N:Nat):=by
   have:=nAt_lt (B:=B) (at_:=at_) (wd:=wd)
   have h2:256 ^ wd <= 256 ^ 4:=Nat.pow_le_pow_right (by omega) h4
   have h3:256 ^ 4 = 4294967296:=by decide
   unfold wrap64
   omega
  have HNE:=zH (show ∀ W,RdIn W r p n cp a1 en sz B -> Calls prog 56 #[.pointer (some ⟨r,0,none⟩),.int .i64 (N:Nat)] W fun e w'=>e = .returned (.tuple #[])∧Below W.heap.size W w' from fun W hW=>need_ok W r p n cp a1 en sz hW.row N hW.ha (by omega) (by have:=hW.hen;have:=hW.hn;omega))
  have hd:decide (N < least) = false:=by simp;omega
  have hs1':=zH (show a1 <= en by omega)
  have hs2':=zH (And.intro (show a1 <= a2 by omega) hs)
  have hadd:wrap64 ((a1:Nat)+(N:Nat):Int) = (a2:Nat):=by have:=h.hen;have:=h.hn;unfold wrap64;omega
  have hadd2:IntKind.i64.wrap ((a1:Nat)+(N:Nat):Int) = (a2:Nat):=by have:=h.hen;have:=h.hn;rw [IntWalk.i64_in _ (by omega)];omega
  have HC:=zH hc
  clear hc hs hN ha1 h1 h4 hl ha2
  have r1:w.cell? ⟨r,1,none⟩ = some (.int .i64 (at_:Nat)):=(cell_of_row _ _ 1 _ _ _ h.row).trans rfl
  have HR0:=zH h
  have hlt:=zH h.lt
  clear h
  go_enter func107,ntmps107
  go_wp2_with fail
  clear r1
  refine (HN.out _ HR0.out).mono ?_
  rintro e w3 ⟨rfl,hmv⟩
  have HMV:=zH hmv
  have HR3:=zH (HR0.out.mv hmv hs1'.out)
  clear hmv
  go_wp2_with fail
  refine (HNE.out _ HR3.out).mono ?_
  rintro e w4 ⟨rfl,hb4⟩
  have HR4:=zH (HR3.out.blw hb4)
  have HB4:=zH hb4
  clear hb4
  go_upto_region 5 with fail
  refine wp_region_heldN (fun V=>RdIn V r p n cp a1 en sz B) 18 rfl (by kernel_rfl) ?_
  have hS:RdIn w4.drew r p n cp a1 en sz B:=HR4.out.blw (bdrew (Below.refl _ _))
  refine tkI 0 (.pointer (some ⟨r,0,none⟩)) 27 rfl rfl (by kernel_rfl) (fun _ _ _=>id) (by rfl) (by rintro V h0;go_simp) hS ?_
  try simp only [Act.put,sA,sB,sC]
  refine tkI 1 (.pointer (some ⟨r,0,none⟩)) 28 rfl rfl (by kernel_rfl) (fun _ _ _=>id) (by rfl) (by rintro V h0;go_simp) hS ?_
  try simp only [Act.put,sA,sB,sC]
  refine tkI 2 (.pointer (some ⟨r,0,none⟩)) 29 rfl rfl (by kernel_rfl) (fun _ _ _=>id) (by rfl) (by rintro V h0;go_simp) hS ?_
  try simp only [Act.put,sA,sB,sC]
  refine tkI 3 (.slice p n cp) 30 rfl rfl (by kernel_rfl) (fun _ _ _=>id) (by rfl) (by rintro V h0;have y0:=(cell_of_row V _ 0 _ _ _ h0.row).trans rfl;have y1:=(cell_of_row V _ 1 _ _ _ h0.row).trans rfl;go_simp) hS ?_
  try simp only [Act.put,sA,sB,sC]
  refine tkI 4 (.pointer (some ⟨r,0,none⟩)) 31 rfl rfl (by kernel_rfl) (fun _ _ _=>id) (by rfl) (by rintro V h0;go_simp) hS ?_
  try simp only [Act.put,sA,sB,sC]
  refine tkI 5 (.pointer (some ⟨r,0,none⟩)) 32 rfl rfl (by kernel_rfl) (fun _ _ _=>id) (by rfl) (by rintro V h0;go_simp) hS ?_
  try simp only [Act.put,sA,sB,sC]
  refine tkI 6 (.pointer (some ⟨r,1,none⟩)) 33 rfl rfl (by kernel_rfl) (fun _ _ _=>id) (by rfl) (by rintro V h0;go_simp) hS ?_
  try simp only [Act.put,sA,sB,sC]
  refine tkI 7 (.int .i64 (a1:Nat)) 34 rfl rfl (by kernel_rfl) (fun _ _ _=>id) (by rfl) (by rintro V h0;have y0:=(cell_of_row V _ 0 _ _ _ h0.row).trans rfl;have y1:=(cell_of_row V _ 1 _ _ _ h0.row).trans rfl;go_simp) hS ?_
  try simp only [Act.put,sA,sB,sC]
  refine tkI 8 (.pointer (some ⟨r,0,none⟩)) 35 rfl rfl (by kernel_rfl) (fun _ _ _=>id) (by rfl) (by rintro V h0;go_simp) hS ?_
  try simp only [Act.put,sA,sB,sC]
  refine tkI 9 (.pointer (some ⟨r,0,none⟩)) 36 rfl rfl (by kernel_rfl) (fun _ _ _=>id) (by rfl) (by rintro V h0;go_simp) hS ?_
  try simp only [Act.put,sA,sB,sC]
  refine tkI 10 (.pointer (some ⟨r,1,none⟩)) 37 rfl rfl (by kernel_rfl) (fun _ _ _=>id) (by rfl) (by rintro V h0;go_simp) hS ?_
  try simp only [Act.put,sA,sB,sC]
  refine tkI 11 (.int .i64 (a1:Nat)) 38 rfl rfl (by kernel_rfl) (fun _ _ _=>id) (by rfl) (by rintro V h0;have y0:=(cell_of_row V _ 0 _ _ _ h0.row).trans rfl;have y1:=(cell_of_row V _ 1 _ _ _ h0.row).trans rfl;go_simp) hS ?_
  try simp only [Act.put,sA,sB,sC]
  refine tkI 12 (.int .i64 (N:Nat)) 39 rfl rfl (by kernel_rfl) (fun _ _ _=>id) (by rfl) (by rintro V h0;go_simp) hS ?_
  try simp only [Act.put,sA,sB,sC]
  refine tkI 13 (.int .i64 (a2:Nat)) 40 rfl rfl (by kernel_rfl) (fun _ _ _=>id) (by rfl) (by rintro V h0;go_simp) hS ?_
  try simp only [Act.put,sA,sB,sC]
  refine tkI 14 (.int .i64 (at_:Nat)) 41 rfl rfl (by kernel_rfl) (fun _ _ _=>id) (by rfl) (by rintro V h0;go_simp) hS ?_
  try simp only [Act.put,sA,sB,sC]
  refine tkI 15 (.agg #[.slice p n cp,.int .i64 (a1:Nat),.int .i64 (a2:Nat),.int .i64 (at_:Nat)]) 42 rfl rfl (by kernel_rfl) (fun _ _ _=>id) (by rfl) (by rintro V h0;go_simp) hS ?_
  try simp only [Act.put,sA,sB,sC]
  have hS2:RdIn (w4.alloc (.cells #[.slice p n cp,.int .i64 (a1:Nat),.int .i64 (a2:Nat),.int .i64 (at_:Nat)] 66)).drew r p n cp a1 en sz B:=hS.blw ((Below.refl _ _).alloc (Nat.le_refl _) _)
  refine oneH (i:=16) (by kernel_rfl) ?_
  refine stepD (i:=16) rfl (by rfl) (fun K5 h5=>?_)
  go_simp
  refine h5.out _ _ hS2 ?_
  clear h5
  try simp only [Act.put,sA,sB,sC]
  have hb6:Below w4.heap.size w4.drew (w4.alloc (.cells #[.slice p n cp,.int .i64 (a1:Nat),.int .i64 (a2:Nat),.int .i64 (at_:Nat)] 66)).drew:=(Below.refl w4.heap.size w4.drew).alloc (Nat.le_refl w4.heap.size) _
  have ox:(w4.alloc (.cells #[.slice p n cp,.int .i64 (a1:Nat),.int .i64 (a2:Nat),.int .i64 (at_:Nat)] 66)).drew.heap[w4.heap.size]? = some (.cells #[.slice p n cp,.int .i64 (a1:Nat),.int .i64 (a2:Nat),.int .i64 (at_:Nat)] 66 (0,0)):=zN w4.drew _
  generalize (w4.alloc (.cells #[.slice p n cp,.int .i64 (a1:Nat),.int .i64 (a2:Nat),.int .i64 (at_:Nat)] 66)).drew = w5 at *
  obtain ⟨q,hq⟩:∃ q,w4.heap.size = q:=⟨_,rfl⟩
  rw [hq] at ox ⊢
  have HQ:=zH (And.intro hq (And.intro hb6 ox))
  clear hq hb6 ox
  refine tkD (i:=17) (v:=.pointer (some ⟨q,0,none⟩)) (some 10) rfl rfl (by kernel_rfl) (fun _ _ _ h=>h) (Or.inl ⟨by rfl,by rintro V h0;go_simp⟩) hS2 ?_
  try simp only [Act.put,sA,sB,sC]
  refine wpAnyH_done (by kernel_rfl) ?_ _
  have HR5:=zH hS2
  have HQ5:=zH (show RdIn w5 q p n cp a1 a2 (at_:Nat) B from ⟨HQ.out.2.2,hS2.src.up (by have:=HR4.out.lt;have:=HQ.out.1;omega),hs2'.out.1,by have:=hs2'.out.2;have:=hS2.hen;omega,hS2.hn⟩)
  have HM5:=zH (HMV.out.keep.trans ((KeepF.of_below HB4.out).trans ((KeepF.of_below (bdrew (Below.refl _ _))).trans (KeepF.of_below HQ.out.2.1))))
  clear hS hS2
  go_wp2_with fail
  trace_state
  refine (HC.out _ _ (by have:=HQ.out.1;have:=HMV.out.keep.size;have:=HB4.out.size;omega) HM5.out HR5.out HQ5.out).mono ?_
  rintro e w6 (⟨ps,rfl,hp⟩|⟨rfl,hr6,⟨a3,hq6⟩,hfin⟩)
  ·exact ⟨rfl,hp⟩
  have hr6':=hr6.trans HR5.out.row
  have q2:w6.cell? ⟨q,2,none⟩ = some (.int .i64 (a2:Nat)):=(cell_of_row _ _ 2 _ _ _ hq6).trans rfl
  have r1:w6.cell? ⟨r,1,none⟩ = some (.int .i64 (a1:Nat)):=(cell_of_row _ _ 1 _ _ _ hr6').trans rfl
  have fr:w6.frozen? ⟨r,1,none⟩ = false:=by simp [World.frozen?,hr6']
  have hk7:KeepF (fun g=>g = r) w6 (w6.setCell ⟨r,1,none⟩ (.int .i64 (a2:Nat))):=⟨rfl,rfl,rfl,by simp,fun j hj hne=>set_farV hne⟩
  have or7:=heap_setCell_same w6 r 1 _ _ (.int .i64 (a2:Nat)) hr6'
  have HF:=zH (hfin _ ⟨hk7,or7⟩)
  clear hk7 or7 hfin hr6 hr6' hq6
  go_wp2_with fail
  go_end0
  exact HF.out
def within_s:=fun wd least=>(mrg_within_s wd least).1
def within_a:=fun wd least=>(mrg_within_s wd least).2

section
variable {P:Program} {ops:Array Oper} {Q:Exit -> Act -> World -> Prop} {md:Region.Mode} {S:Array Bool -> World -> Prop}

def wpAnyT (P:Program) (md:Region.Mode) (ops:Array Oper) (Q:Exit -> Act -> World -> Prop) (S:Array Bool -> World -> Prop):Nat -> Array Bool -> Act -> World -> Prop
 | 0,l,a,w=>Region.ready md ops l = []∧Q .normal a w
 | f+1,l,a,w=>(Region.ready md ops l = [] -> Q .normal a w)∧∀ i ∈ Region.ready md ops l,wpOp P ops Q i (fun a' w'=>S (l.setIfInBounds i true) w'∧wpAnyT P md ops Q S f (l.setIfInBounds i true) a' w') a w

theorem wpAny_of_T:∀ (f:Nat) (l:Array Bool) (a:Act) (w:World),wpAnyT P md ops Q S f l a w -> wpAny P md ops Q f l a w
 | 0,_,_,_,h=>h
 | f+1,_,_,_,h=>⟨h.1,fun i hi=>wpOp_mono (fun a' w' h'=>wpAny_of_T f _ a' w' h'.2) (h.2 i hi)⟩

def waitsD (md:Region.Mode) (ops:Array Oper) (i:Nat) (D:List Nat):Bool :=
 D.all fun d=>match ops[d]? with
  | some o=>o.after.toList.any fun e=>Region.binds md e && (e.on == i || D.contains e.on)
  | none=>false
def offD (l:Array Bool) (D:List Nat):Bool:=D.all fun d=>l.getD d true == false
theorem offD_get {l:Array Bool} {D:List Nat} (h:offD l D = true) {d:Nat} (hd:d ∈ D):l.getD d true = false:=by
 have:=List.all_eq_true.1 h d hd
 simpa using this
theorem getD_off {l:Array Bool} {d:Nat} (h:l.getD d true = false):l.getD d false = false:=by
 rcases Nat.lt_or_ge d l.size with q|q
 ·simpa [q] using h
 ·simp [Array.getElem?_eq_none q] at h
theorem offD_set {l:Array Bool} {i j:Nat} {D:List Nat} (hw:waitsD md ops i D = true) (hi:i ∈ Region.ready md ops l) (hj:j ∈ Region.ready md ops l) (h:offD l D = true):offD (l.setIfInBounds j true) D = true:=by
 refine List.all_eq_true.2 (fun d hd=>?_)
 have h0:=offD_get h hd
 have hjd:j ≠ d:=by
  rintro rfl
  have hj2:=List.all_eq_true.1 hw j hd
  obtain ⟨_,o,ho,hall⟩:=mem_ready.1 hj
  simp only [ho] at hj2
  obtain ⟨e,he,hb⟩:=List.any_eq_true.1 hj2
  simp only [Bool.and_eq_true,Bool.or_eq_true,beq_iff_eq,List.contains_iff_mem] at hb
  have h1:=hall e (by simpa using he) hb.1
  rcases hb.2 with q|q
  ·have h2:=getD_off (mem_ready.1 hi).1
   rw [q,h2] at h1
   cases h1
  ·have h2:=getD_off (offD_get h q)
   rw [h2] at h1
   cases h1
 rw [getD_set_ne true hjd,h0]
 rfl

theorem wpAnyT_first {i:Nat} {oi:Oper} {v:Value} {D:List Nat} (hi:ops[i]? = some oi) (hsel:∀ (j:Nat) (o:Oper) cs b,ops[j]? = some o -> o.op ≠ .select cs b)
  (hQ:∀ c a w,Q (.panic c) (a.put oi.dst v) w -> Q (.panic c) a w) (hw:waitsD md ops i D = true) (hS2:∀ m w,offD m D = true -> m.getD i true = false -> S (m.setIfInBounds i true) w -> S m w) :
  ∀ (f:Nat) (l:Array Bool) (a:Act) (w:World),(∀ j oj,ops[j]? = some oj -> j ≠ i -> l.getD j true = false -> (∀ e ∈ oj.after,Region.binds md e = true -> e.on ≠ i) -> oi.apart ops oj = true) →
   i ∈ Region.ready md ops l -> offD l D = true -> YieldsIf P ops (fun w=>∃ m,offD m D = true∧S (m.setIfInBounds i true) w) oi v a -> S (l.setIfInBounds i true) w →
   wpAnyT P md ops Q S f (l.setIfInBounds i true) (a.put oi.dst v) w -> wpAnyT P md ops Q S (f+1) l a w:=by
 intro f
 induction f with
 | zero =>
  intro l a w _ hr hD hy hS H
  refine ⟨fun h=>(by rw [h] at hr;cases hr),fun j hj=>?_⟩
  by_cases hji:j = i
  ·subst hji;exact hy.wpOp hi ⟨l,hD,hS⟩ ⟨hS,H⟩
  ·have:=ready_mono hj hji
   rw [H.1] at this
   cases this
 | succ f ih =>
  intro l a w hfree hr hD hy hS H
  refine ⟨fun h=>(by rw [h] at hr;cases hr),fun j hj=>?_⟩
  by_cases hji:j = i
  ·subst hji;exact hy.wpOp hi ⟨l,hD,hS⟩ ⟨hS,H⟩
  ·have h1:=H.2 j (ready_mono hj hji)
   obtain ⟨hjun,oj,hoj,hall⟩:=mem_ready.1 hj
   have hnot:∀ e ∈ oj.after,Region.binds md e = true -> e.on ≠ i:=fun e he hb heq=>by
    have h1:=hall e he hb
    rw [heq,getD_off (mem_ready.1 hr).1] at h1
    cases h1
   have h2:=wpOp_putIf hoj (hfree j oj hoj hji hjun hnot) (fun cs b=>hsel i oi cs b hi) (fun cs b=>hsel j oj cs b hoj) hQ hy h1
   have hDj:=offD_set hw hr hj hD
   have hfree':∀ k ok,ops[k]? = some ok -> k ≠ i -> (l.setIfInBounds j true).getD k true = false -> (∀ e ∈ ok.after,Region.binds md e = true -> e.on ≠ i) -> oi.apart ops ok = true:=fun k ok hk hki hun hno=>by
    refine hfree k ok hk hki ?_ hno
    by_cases hjk:j = k
    ·subst hjk;exact hjun
    ·rw [getD_set_ne true hjk] at hun;exact hun
   have hri:i ∈ Region.ready md ops (l.setIfInBounds j true):=ready_mono hr (Ne.symm hji)
   refine wpOp_mono (fun a' w' h3=>?_) h2
   have h4:=h3.2.1
   rw [Array.setIfInBounds_comm _ _ (Ne.symm hji)] at h4
   refine ⟨hS2 _ _ hDj (mem_ready.1 hri).1 h4,ih (l.setIfInBounds j true) a' w' hfree' hri hDj h3.1 h4 ?_⟩
   rw [Array.setIfInBounds_comm _ _ hji]
   exact h3.2.2

theorem wpAnyT_all {rs:List Nat} {f:Nat} {l:Array Bool} {a:Act} {w:World} (hr:Region.ready md ops l = rs) (hne:rs ≠ [])
  (h:∀ i ∈ rs,wpOp P ops Q i (fun a' w'=>S (l.setIfInBounds i true) w'∧wpAnyT P md ops Q S f (l.setIfInBounds i true) a' w') a w):wpAnyT P md ops Q S (f+1) l a w :=
 ⟨fun h0=>absurd (hr ▸ h0) hne,hr ▸ h⟩
theorem wpAnyT_done {l:Array Bool} {a:Act} {w:World} (hr:Region.ready md ops l = []) (h:Q .normal a w):∀ f,wpAnyT P md ops Q S f l a w
 | 0=>⟨hr,h⟩
 | _+1=>⟨fun _=>h,by rw [hr];simp⟩
theorem wp_region_T {id:Nat} {a:Act} {w:World} (S:Array Bool -> World -> Prop) (f:Nat) (hf:ops.size = f) (hm:P.follows .mixedOrders = true)
  (h:wpAnyT P .any ops Q S f (Array.replicate f false) a w.drew):(Code.region id ops true).wp P Q a w:=by
 subst hf
 exact wp_region_any hm (wpAny_of_T _ _ _ _ h)
theorem takeT {i:Nat} {oi:Oper} {v:Value} {f:Nat} {l:Array Bool} {a:Act} {w:World} (d:Option Tmp) (D:List Nat) (hi:ops[i]? = some oi) (hd:oi.dst = d)
  (hs:Region.noSelect ops = true) (hf:Region.free md ops l i = true) (hr:(Region.ready md ops l).contains i = true) (hw:waitsD md ops i D = true) (hD:offD l D = true)
  (hQ:∀ c a w,Q (.panic c) (a.put oi.dst v) w -> Q (.panic c) a w) (hS2:∀ m w,offD m D = true -> m.getD i true = false -> S (m.setIfInBounds i true) w -> S m w)
  (hy:YieldsIf P ops (fun w=>∃ m,offD m D = true∧S (m.setIfInBounds i true) w) oi v a) (hS:S (l.setIfInBounds i true) w)
  (h:wpAnyT P md ops Q S f (l.setIfInBounds i true) (a.put d v) w):wpAnyT P md ops Q S (f+1) l a w:=by
 subst hd
 exact wpAnyT_first hi (Region.noSelect_spec hs) hQ hw hS2 f l a w (Region.free_spec hi hf) (by simpa using hr) hD hy hS h
theorem stepT {f:Nat} {l:Array Bool} {a:Act} {w:World} {i:Nat} {o:Oper} (ho:ops[i]? = some o) (hw:Region.wanted o (yielded ops a.tmps) = true)
  (h:∀ K':Act -> World -> Prop,Shut (∀ a w,S (l.setIfInBounds i true) w -> wpAnyT P md ops Q S f (l.setIfInBounds i true) a w -> K' a w) -> Oper.wp P o a w K' Q):wpOp P ops Q i (fun a' w'=>S (l.setIfInBounds i true) w'∧wpAnyT P md ops Q S f (l.setIfInBounds i true) a' w') a w:=by
 unfold wpOp
 simp only [ho]
 rw [if_pos hw]
 exact .inl (h _ (fun a w h1 h2=>⟨h1,h2⟩))
def till (f:Nat) (p:World -> Prop) (l:Array Bool) (w:World):Prop:=l.getD f true = false -> p w
theorem till.set {f i:Nat} {p:World -> Prop} {m:Array Bool} {w:World} (hne:i ≠ f) (h:till f p (m.setIfInBounds i true) w):till f p m w:=by
 intro q
 exact h (by rw [getD_set_ne true hne];exact q)
theorem till.get {f i:Nat} {p:World -> Prop} {m:Array Bool} {w:World} {D:List Nat} (hne:i ≠ f) (hD:offD m D = true) (hf:f ∈ D) (h:till f p (m.setIfInBounds i true) w):p w :=
 h.set hne (offD_get hD hf)
end
theorem tkT {P:Program} {ops:Array Oper} {Q:Exit -> Act -> World -> Prop} {md:Region.Mode} {S:Array Bool -> World -> Prop} {i:Nat} {oi:Oper} {v:Value} {f:Nat} {l:Array Bool} {a:Act} {w:World} (d:Option Tmp) (D:List Nat) (hi:ops[i]? = some oi) (hd:oi.dst = d)
  (hh:(Region.noSelect ops && (Region.free md ops l i && ((Region.ready md ops l).contains i && (waitsD md ops i D && offD l D)))) = true)
  (hQ:∀ c a w,Q (.panic c) (a.put oi.dst v) w -> Q (.panic c) a w) (hS2:∀ m w,offD m D = true -> m.getD i true = false -> S (m.setIfInBounds i true) w -> S m w)
  (hy:YieldsIf P ops (fun w=>∃ m,offD m D = true∧S (m.setIfInBounds i true) w) oi v a) (hS:S (l.setIfInBounds i true) w)
  (h:wpAnyT P md ops Q S f (l.setIfInBounds i true) (a.put d v) w):wpAnyT P md ops Q S (f+1) l a w:=by
 rw [Bool.and_eq_true,Bool.and_eq_true,Bool.and_eq_true,Bool.and_eq_true] at hh
 exact takeT d D hi hd hh.1 hh.2.1 hh.2.2.1 hh.2.2.2.1 hh.2.2.2.2 hQ hS2 hy hS h

/-! ### elements -/
theorem els_snoc {r:List UInt8 -> Res}:∀ {i:Nat} {s:List UInt8} {l:List V} {k:Nat} {v:V} {k2:Nat},els r i s = .ok (l,k) -> r (s.drop k) = .ok (v,k2) -> els r (i+1) s = .ok (l ++ [v],k+k2)
 | 0,s,l,k,v,k2,h,h2=>by
  rw [els] at h
  cases h
  rw [List.drop_zero] at h2
  show els r (0+1) s = _
  rw [els,h2]
  simp [els]
 | i+1,s,l,k,v,k2,h,h2=>by
  rw [els] at h ⊢
  cases hr:r s with
  | error e=>rw [hr] at h;simp at h
  | ok x =>
   obtain ⟨a,ka⟩:=x
   rw [hr] at h
   simp only at h ⊢
   cases he:els r i (s.drop ka) with
   | error e=>rw [he] at h;simp at h
   | ok y =>
    obtain ⟨l2,kb⟩:=y
    rw [he] at h
    simp only [Except.ok.injEq,Prod.mk.injEq] at h
    obtain ⟨rfl,rfl⟩:=h
    rw [els_snoc he (by rw [List.drop_drop];exact h2)]
    simp only [List.cons_append]
    congr 2
    omega
theorem shiftE_shiftE (a b:Nat) (e:Er):shiftE a (shiftE b e) = shiftE (a+b) e:=by
 cases e with
 | short=>rfl
 | own e=>rfl
 | pl r e=>show Er.pl (r+b+a) e = Er.pl (r+(a+b)) e;congr 1;omega
theorem els_err {r:List UInt8 -> Res}:∀ {i:Nat} {s:List UInt8} {l:List V} {k:Nat} {y:Er} {n:Nat},els r i s = .ok (l,k) -> r (s.drop k) = .error y -> i < n -> els r n s = .error (shiftE k y)
 | 0,s,l,k,y,n+1,h,h2,hn=>by
  rw [els] at h
  cases h
  rw [List.drop_zero] at h2
  rw [els,h2]
  cases y <;> rfl
 | i+1,s,l,k,y,n+1,h,h2,hn=>by
  rw [els] at h ⊢
  cases hr:r s with
  | error e=>rw [hr] at h;simp at h
  | ok x =>
   obtain ⟨a,ka⟩:=x
   rw [hr] at h
   simp only at h ⊢
   cases he:els r i (s.drop ka) with
   | error e=>rw [he] at h;simp at h
   | ok q =>
    obtain ⟨l2,kb⟩:=q
    rw [he] at h
    simp only [Except.ok.injEq,Prod.mk.injEq] at h
    obtain ⟨rfl,rfl⟩:=h
    rw [els_err he (by rw [List.drop_drop];exact h2) (by omega)]
    show Except.error (shiftE ka (shiftE kb y)) = _
    rw [shiftE_shiftE]
theorem els_len {r:List UInt8 -> Res}:∀ {i:Nat} {s:List UInt8} {l:List V} {k:Nat},els r i s = .ok (l,k) -> l.length = i
 | 0,s,l,k,h=>by rw [els] at h;cases h;rfl
 | i+1,s,l,k,h=>by
  rw [els] at h
  cases hr:r s with
  | error e=>rw [hr] at h;simp at h
  | ok x =>
   obtain ⟨a,ka⟩:=x
   rw [hr] at h
   simp only at h
   cases he:els r i (s.drop ka) with
   | error e=>rw [he] at h;simp at h
   | ok q =>
    obtain ⟨l2,kb⟩:=q
    rw [he] at h
    simp only [Except.ok.injEq,Prod.mk.injEq] at h
    obtain ⟨rfl,rfl⟩:=h
    rw [List.length_cons,els_len he]
/-! ### one more, in two steps: room for it, then itself -/
theorem splice_end {A Z M:List Value} {o:Nat} (ha:A.length = o) (hz:Z.length = M.length):splice (A ++ Z) o M = A ++ M:=by
 subst ha
 unfold splice
 rw [List.take_left,List.drop_eq_nil_of_le (by rw [List.length_append];omega),List.append_nil]
theorem VO.two {w:World} {v:V} {s:Value} {B:Nat} {F:Nat -> Prop} {l:List V} (h:VO w B (v.with l) s F) (hB:B <= w.heap.size) :
  ∃ xs,w.ownsRow B 25 5 s l.length xs∧∀ w1 s',App1 w w1 B 25 5 l.length s s' (xs ++ vcells zeroV nilS) -> ∀ w2 x t Fx (H:Nat -> Prop),KeepF H w1 w2 -> (∀ b,H b -> b < B) -> VO w2 B x t Fx -> (∀ b,F b -> ¬ Fx b) -> (∀ b,s'.ownBlock = some b -> ¬ Fx b) →
   ∃ g cap,s' = .slice (some ⟨g,0,none⟩) (l.length+1) cap∧w2.there g (l.length * 5) 5∧B <= g∧g < w1.heap.size∧∃ F',VO (w2.setCells g (l.length * 5) (vcells x t)) B (v.with (l ++ [x])) s' F':=by
 obtain ⟨_,_,_,ss,Fs,wf,hrow,hin,hd,hs,hF⟩:=h
 simp only [V.with_list] at hrow hin hd hs hF
 refine ⟨_,hrow,fun w1 s' hA w2 x t Fx H hb12 hH hx hdj hsx=>?_⟩
 have hg:=hA.grown
 have hown:=hA.owns hB
 obtain ⟨p,c,rfl,hc1,hc2,hc3⟩:=ownsRow_form hown
 obtain ⟨g,rfl,hBg,hg1⟩:=hc3 (by omega)
 have hown2:=ownsRow_keep hown (fun j hj=>hb12.block j (by simp only [Value.ownBlock,Option.some.injEq] at hj;omega) (fun e=>by have:=hH j e;simp only [Value.ownBlock,Option.some.injEq] at hj;omega))
 have hth:=ownsRow_there hown2 (k:=l.length) (Nat.lt_succ_self _)
 have hset:=ownsRow_set hown2 (k:=l.length) (ms:=vcells x t) (Nat.lt_succ_self _) (vcells_len _ _)
 rw [splice_end (by rw [vrow_len]) (by rw [vcells_len,vcells_len])] at hset
 have hgn:∀ i,i < l.length -> ¬ Fs i g:=by
  intro i hi hb
  rcases hA.own (j:=g) rfl with q|q
  ·exact hs g q i hi hb
  ·have:=((hin i hi).lt g hb).2;omega
 refine ⟨g,c,rfl,hth,hBg,hg1,fun b=>b = g ∨ ∃ i,i < (l ++ [x]).length∧(if i < l.length then Fs i else Fx) b,.mk _ _ _ (fun i=>if i < l.length then ss i else t) (fun i=>if i < l.length then Fs i else Fx) ⟨wf.k,wf.n,wf.t,wf.e⟩ ?_ ?_ ?_ ?_ (fun b=>?_)⟩
 ·simp only [V.with_list]
  rw [List.length_append,List.length_singleton,vrow_snoc,if_neg (Nat.lt_irrefl _),vrow_congr l _ ss (fun i hi=>if_pos hi)]
  exact hset
 ·intro i hi
  simp only [V.with_list] at hi ⊢
  by_cases hil:i < l.length
  ·simp only [if_pos hil,List.getElem_append_left hil]
   refine (hin i hil).keep (fun b hb=>?_)
   have hlt:=((hin i hil).lt b hb).2
   rw [World.heap_setCells_other w2 g _ _ (by have:=hb12.size;have:=hg.size;omega) (fun e=>by subst e;exact hgn i hil hb),hb12.block b (Nat.lt_of_lt_of_le hlt hg.size) (fun e=>by have:=hH b e;have:=((hin i hil).lt b hb).1;omega)]
   exact hg.block b hlt (fun q=>hs b q.symm i hil hb)
  ·have hie:i = l.length:=by simp at hi;omega
   subst hie
   simp only [if_neg hil,List.getElem_append_right (Nat.le_refl _),Nat.sub_self,List.getElem_cons_zero]
   refine hx.keep (fun b hb=>World.heap_setCells_other w2 g _ _ ((hx.lt b hb).2) (fun e=>hsx g rfl (e ▸ hb)))
 ·intro i j hi hj hij b hbi hbj
  simp only [V.with_list,List.length_append,List.length_singleton] at hi hj
  by_cases hil:i < l.length
  ·rw [if_pos hil] at hbi
   by_cases hjl:j < l.length
   ·rw [if_pos hjl] at hbj
    exact hd i j hil hjl hij b hbi hbj
   ·rw [if_neg hjl] at hbj
    exact hdj b ((hF b).2 (.inr ⟨i,hil,hbi⟩)) hbj
  ·rw [if_neg hil] at hbi
   have hjl:j < l.length:=by omega
   rw [if_pos hjl] at hbj
   exact hdj b ((hF b).2 (.inr ⟨j,hjl,hbj⟩)) hbi
 ·intro b hgs i hi hb
  simp only [V.with_list,List.length_append,List.length_singleton] at hi
  have hbg:g = b:=by simpa [Value.ownBlock] using hgs
  subst hbg
  by_cases hil:i < l.length
  ·rw [if_pos hil] at hb
   exact hgn i hil hb
  ·rw [if_neg hil] at hb
   exact hsx g rfl hb
 ·simp only [V.with_list,Value.ownBlock,Option.some.injEq]
  constructor
  ·rintro (rfl|q)
   ·exact .inl rfl
   ·exact .inr q
  ·rintro (rfl|q)
   ·exact .inl rfl
   ·exact .inr q
theorem App1.vo {w w1:World} {x:V} {s s' t:Value} {B B2 n:Nat} {Fx:Nat -> Prop} {xs:List Value} (hA:App1 w w1 B 25 5 n s s' xs) (hx:VO w B2 x t Fx) (hs:∀ b,s.ownBlock = some b -> ¬ Fx b) :
  VO w1 B2 x t Fx∧∀ b,s'.ownBlock = some b -> ¬ Fx b:=by
 refine ⟨hx.keep (fun b hb=>hA.grown.block b (hx.lt b hb).2 (fun q=>hs b q.symm hb)),fun b hb hf=>?_⟩
 rcases hA.own hb with q|q
 ·exact hs b q hf
 ·have:=(hx.lt b hf).2;omega
theorem VO.own {w:World} {v:V} {s:Value} {B b:Nat} {F:Nat -> Prop} (h:VO w B v s F) (hb:s.ownBlock = some b):F b:=by
 cases h with
 | mk _ _ _ ss Fs wf hrow hin hd hs hF=>exact (hF b).2 (.inl hb)
theorem row_cells {w:World} {z t j:Nat} {cs:List Value} {u:Value} (h:w.heap[z]? = some (.cells cs.toArray t (0,0))) (hj:cs[j]? = some u):w.cell? ((⟨z,0,none⟩:Addr).add j) = some u:=by
 have e:(⟨z,0,none⟩:Addr).add j = ⟨z,0+j,none⟩:=by unfold Addr.add;split <;> simp_all
 rw [e,Nat.zero_add,cell_of_row _ _ j _ _ _ h]
 simpa using hj
theorem wp_append_twoN {P:Program} (w:World) {o:Oper} {a:Act} {K:Act -> World -> Prop} {Q:Exit -> Act -> World -> Prop} (d:Option Tmp) (hd:o.dst = d) (s x:Operand) (t:TypeId)
  (ho:o.op = .call { callee:=.builtin .append,args:=#[s,x],argTypes:=#[t,t] }) (base:Nat) (e:TypeId) (i:TypeInfo) (z:Value) (size bytes:Nat) (ht:P.underlying t = some (.slice e)) (hi:P.info? e = some i) (hz:i.zero = some z)
  (hsize:i.size = size) (hby:i.bytes = bytes) (hzs:z.cells.size = size) (v:Value) (n:Nat) (xs:List Value) (hs:a.eval s = v) (hown:w.ownsRow base e size v n xs)
  (ad:Addr) (c:Nat) (news:List Value) (hx:a.eval x = .slice (some ad) 1 c) (hl:news.length = size) (hnews:∀ j u,news[j]? = some u -> w.cell? (ad.add j) = some u) (h1:∀ u ∈ news,u.oneCell' = true)
  (h63:n+1 <= maxLen) (hbytes:(n+1) * bytes <= 140737488355328)
  (h:∀ v' w',App1 w w' base e size n v v' (xs ++ news) -> K (a.put d v') w'):o.wp P a w K Q:=by
 subst hd
 obtain ⟨v',w',hr,h2⟩:=run_append_two w base t o.type e i z size bytes ht hi hz hsize hby hzs v n xs hown ad c news hl hnews h1 h63 hbytes
 unfold Oper.wp execOp
 simp only [ho,resolve,invoke,builtin,Sem.run_bind,Sem.run_pure,Result.andThen_ok,List.map_toArray,List.map_cons,List.map_nil,hs,hx,hr]
 exact h v' w' h2
end Go.Proofs.YtnnnfhobbnjmfaaGreatDoor
