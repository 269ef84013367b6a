/-
  Lemmas on the codec. Conditions: as each says.
-/
import Derived.Test.YtnnnfhobbnjmfaaGreatDoorWn05
import Derived.Test.YtnnnfhobbnjmfaaGreatDoorWn06
import Derived.Test.YtnnnfhobbnjmfaaGreatDoorWn02
import Derived.Orders
import Derived.OrdersIn
import Derived.OrdersHeld
import Derived.Deep.RegionHeld
import Derived.RangeFuncCalls
import Derived.Laws.Rows
import Derived.Laws.Tables
import Derived.Sort.CutIn
import Derived.Test.YtnnnfhobbnjmfaaGreatDoorWn03
import Derived.Test.YtnnnfhobbnjmfaaGreatDoorWn04
import Derived.Test.YtnnnfhobbnjmfaaGreatDoorWn01
namespace Go.Proofs.YtnnnfhobbnjmfaaGreatDoor
open Go.RowKit Go.Proofs.Tryz
set_option linter.all false
set_option maxHeartbeats 40000000
set_option maxRecDepth 20000

attribute [local go_sem] Oper.semAt_some

theorem calls_of_wp_marks {P:Program} {f:FuncId} {fn:Func} {c:Code} {args:Array Value} {w:World} {R:Ending -> World -> Prop}
  (hf:P.funcs[f]? = some fn) (hb:fn.body = some c)
  (h:c.wp P (bodyPostM Fence.wide 5 P fn R) { tmps:=args ++ Array.replicate (fn.ntmps - args.size) undef,defers:=[] } w):Calls P f args w R :=
 (callsIn_wide (n:=5)).1 (callsIn_of_wp_marks hf hb trivial ((wpIn_wide (n:=5)).2 h))
theorem Tabs.rd {w W:World} (h:Tabs w) (hr:Rd w W):Tabs W:=by
 obtain ⟨h1,h2⟩:=h
 exact ⟨fun c hc=>hr _ _ _ (h1 c hc),fun i hi=>⟨hr _ _ _ (h2 i hi).1,hr _ _ _ (h2 i hi).2⟩⟩
structure InBody (lp:Nat) (W Wb:World):Prop where
 rest:∀ j,j < W.heap.size -> j ≠ lp -> Wb.heap[j]? = W.heap[j]?
 size:W.heap.size <= Wb.heap.size
 os:Wb.os = W.os
 tape:Wb.tape = W.tape
 output:Wb.output = W.output
theorem inBody_of {lp:Nat} {W Wa Wb:World} (hg:Below W.heap.size W Wa) (ht:Turn lp Wa Wb):InBody lp W Wb :=
 ⟨fun j h1 h2=>(ht.1.block j (Nat.lt_of_lt_of_le h1 hg.size) (fun h=>h2 (Option.some.inj h))).trans (hg.block j h1),Nat.le_trans hg.size ht.1.size,ht.1.os.trans hg.os,ht.1.tape.trans hg.tape,ht.1.output.trans hg.output⟩
theorem InBody.rd {lp:Nat} {W Wb:World} (h:InBody lp W Wb) (hl:∃ o,W.heap[lp]? = some o∧o.isCells = false):Rd W Wb:=by
 obtain ⟨ol,hl,hlc⟩:=hl
 intro b' i' u' hc
 refine (World.cell?_of_block (h.rest b' (World.block_lt_of_cell? W _ hc) ?_)).trans hc
 rintro rfl
 rw [World.cell?,hl] at hc
 cases ol <;> simp [Obj.isCells] at hlc <;> simp at hc
theorem InBody.keepR {lp:Nat} {W Wb w1:World} (h:InBody lp W Wb) (hb:Below Wb.heap.size Wb w1) (O:Nat -> Prop):KeepR lp O W O w1 :=
 ⟨hb.os.trans h.os,hb.tape.trans h.tape,hb.output.trans h.output,Nat.le_trans h.size hb.size,fun j h1 h2 h3=>(hb.block j (Nat.lt_of_lt_of_le h1 h.size)).trans (h.rest j h1 h3),fun j hj=>.inl hj⟩
theorem InBody.below {lp:Nat} {wE W Wb:World} (h:InBody lp W Wb) (hb:Below wE.heap.size wE W) (hlp:wE.heap.size <= lp):Below wE.heap.size wE Wb :=
 ⟨h.os.trans hb.os,h.tape.trans hb.tape,h.output.trans hb.output,Nat.le_trans hb.size h.size,fun j hj=>(h.rest j (Nat.lt_of_lt_of_le hj hb.size) (by omega)).trans (hb.block j hj)⟩
def rfOf:Code -> Option (Code × Code)
 | .seq a b=>match rfOf a with|some r=>some r|none=>rfOf b
 | .cond _ a b=>match rfOf a with|some r=>some r|none=>rfOf b
 | .block _ c=>rfOf c
 | .loop c=>rfOf c
 | .scope c=>rfOf c
 | .rangeFunc _ _ a b=>some (a,b)
 | _=>none

def MidC (tm:Array Value) (W:World) (x:V) (t:Value) (e:Exit) (a:Act) (Wa:World):Prop :=
 e = .normal∧a = { tmps:=tm,defers:=[] }∧Below W.heap.size W Wa∧Wa.heap[W.heap.size]? = some (.cells #[.int .i64 x.kind,.int .u64 x.num,.string x.text,t,.int .i64 x.elem] 25 (0,0))

noncomputable def firstBad:List (Int × V) -> Int
 | []=>0
 | (d,x) :: r=>if aloneC x d = 0 then firstBad r else aloneC x d

def CkI (wE:World) (r:Nat) (L:List (Int × V)) (k:Nat) (O:Nat -> Prop) (W:World):Prop :=
 (O = fun j=>j = r)∧Below wE.heap.size wE W∧W.heap[r]? = some (.cells #[.int .i64 0] 29 (0,0))∧wE.heap.size <= r∧firstBad L = firstBad (L.drop k)
def CkX (wE:World) (r:Nat) (L:List (Int × V)) (c:Code) (O:Nat -> Prop) (W:World):Prop :=
 c = .ret∧(O = fun j=>j = r)∧Below wE.heap.size wE W∧W.heap[r]? = some (.cells #[.int .i64 (firstBad L)] 29 (0,0))∧wE.heap.size <= r

theorem round_check {D lp:Nat} (K:LoopBook D lp) (wE W:World) (r:Nat) (L:List (Int × V)) (k:Nat) (d:Int) (x:V) (t v0 v1 v6 v7:Value) (asg bdy:Code) (hrf:(Tryz.f33.body.bind rfOf) = some (asg,bdy))
  (hrd:K.rdy W) (hI:CkI wE r L k (fun j=>j = r) W) (hL:L[k]? = some (d,x)) (hx:VIn W x t) (hT:Tabs W) (hts:x.text.size <= 9223372036854775800) (hDz:D+2 <= W.heap.size) (hlp:lp = D+1) (hrD:r < D) :
  RoundOf prog K #[v0,v1,.pointer (some ⟨r,0,none⟩),undef,undef,undef,v6,v7,undef,undef,undef,undef,undef,undef,undef,undef] #[8,9] asg bdy #[.int .i64 d,.agg #[.int .i64 x.kind,.int .u64 x.num,.string x.text,t,.int .i64 x.elem]] W
   (fun W3=>∃ O2,CkI wE r L (k+1) O2 W3∧KeepR lp (fun j=>j = r) W O2 W3) (fun c W3=>∃ O2,CkX wE r L c O2 W3∧KeepR lp (fun j=>j = r) W O2 W3):=by
 simp only [Tryz.f33,Option.bind_some,rfOf,Option.some.injEq,Prod.mk.injEq] at hrf
 obtain ⟨rfl,rfl⟩:=hrf
 unfold RoundOf
 obtain ⟨p,c,hs,_⟩:=hx.slice
 subst hs
 obtain ⟨N,hN⟩:∃ N,x.list.length = N:=⟨_,rfl⟩
 rw [hN] at hx ⊢
 have HI:=zH hI
 have HX:=zH hx
 clear hI hx hN
 refine wpIn_mono (Q:=MidC #[v0,v1,.pointer (some ⟨r,0,none⟩),.int .i64 d,.pointer (some ⟨W.heap.size,0,none⟩),undef,v6,v7,.int .i64 d,.agg #[.int .i64 x.kind,.int .u64 x.num,.string x.text,(.slice p N c),.int .i64 x.elem],undef,undef,undef,undef,undef,undef] W x (.slice p N c)) ?_ ?_
 ·gi_wp2
  exact ⟨rfl,rfl,(Below.refl _ _).alloc (Nat.le_refl _) _,zN _ _⟩
 ·rintro e a' Wa ⟨rfl,rfl,hg,hi⟩
  obtain ⟨⟨oD,hD,hDc⟩,⟨ol,hl,hlc⟩⟩:=K.rdyN W hrd
  have hDlt:=(Array.getElem?_eq_some_iff.1 hD).1
  have hllt:=(Array.getElem?_eq_some_iff.1 hl).1
  refine ⟨K.keepR W Wa hrd (hg.block D hDlt) (hg.block lp hllt),?_⟩
  intro Wb ht hb
  have hib:Wb.heap[W.heap.size]? = some (.cells #[.int .i64 x.kind,.int .u64 x.num,.string x.text,(.slice p N c),.int .i64 x.elem] 25 (0,0)) :=
   (ht.1.block W.heap.size (Array.getElem?_eq_some_iff.1 hi).1 (fun h=>by have:=Option.some.inj h;omega)).trans hi
  have hib2:=inBody_of hg ht
  have hrdW:=hib2.rd ⟨ol,hl,hlc⟩
  obtain ⟨hO,hB,hr0,hrE,hfb⟩:=HI.out
  have hrW:=(Array.getElem?_eq_some_iff.1 hr0).1
  have hrl:r ≠ lp:=by omega
  have hrb:=(hib2.rest r hrW hrl).trans hr0
  have HL:=zH (And.intro hL hfb)
  have HBE:=zH (hib2.below hB (by omega))
  have HIB:=zH hib2
  have hc:=alone_any x d Wb _ (HX.out.rd hrdW) (hT.rd hrdW) hts
  obtain ⟨z,hz⟩:∃ z,aloneC x d = z:=⟨_,rfl⟩
  rw [hz] at hc
  have HZ:=zH hz
  have HKB:=zH hb
  have HDL:=zH (And.intro (Nat.lt_of_lt_of_le hDlt hib2.size) (Nat.lt_of_lt_of_le hllt hib2.size))
  have HRB:=zH (And.intro hrb (And.intro hrE hrD))
  obtain ⟨v0',v1',v2',v3',v4'⟩:=c5 hib
  obtain ⟨y,hy⟩:∃ y,W.heap.size = y:=⟨_,rfl⟩
  rw [hy] at v0' v1' v2' v3' v4' ⊢
  clear hz hL hB hfb hrdW hb hD hl hDc hlc hDlt hllt hrb hrE hrW hrl hib hi hg ht hr0 hO hrd hT hts hDz hrD hy hib2
  gi_wp2
  refine ⟨trivial,(CallsIn.inRound lp (callsIn_wide.2 hc)).mono ?_⟩
  clear hc v0' v1' v2' v3' v4'
  rintro e w1 ⟨rfl,hb1⟩
  have hr1:=(hb1.block r (Array.getElem?_eq_some_iff.1 HRB.out.1).1).trans HRB.out.1
  have HF:=zH (And.intro (K.keepB Wb w1 HKB.out (hb1.block D HDL.out.1) (hb1.block lp HDL.out.2)) (And.intro (HIB.out.keepR hb1 (fun j=>j = r)) (And.intro (HBE.out.trans (hb1.mono HBE.out.size)) hr1)))
  clear hb1
  by_cases hz0:z = 0
  ·have hzt:(z != 0) = false:=by simpa using hz0
   have HZ0:=zH hz0
   clear hr1 hz0
   gi_wp2
   obtain ⟨f1,f2,f3,f4⟩:=HF.out
   refine ⟨f1,_,⟨rfl,f3,f4,HRB.out.2.1,?_⟩,f2⟩
   rw [HL.out.2,List.drop_eq_getElem_cons (List.getElem?_eq_some_iff.1 HL.out.1).1,(List.getElem?_eq_some_iff.1 HL.out.1).2,firstBad,if_pos (by rw [HZ.out];exact HZ0.out)]
  ·have hzt:(z != 0) = true:=by simpa using hz0
   have c1:w1.cell? ⟨r,0,none⟩ = some (.int .i64 0):=(cell_of_row _ _ 0 _ _ _ hr1).trans rfl
   have f1:w1.frozen? ⟨r,0,none⟩ = false:=by simp [World.frozen?,hr1]
   have HZ0:=zH hz0
   clear hr1 hz0
   gi_wp2
   obtain ⟨f1,f2,f3,f4⟩:=HF.out
   have hrD:=HRB.out.2.2
   have s4:(w1.setCell ⟨r,0,none⟩ (.int .i64 z)).heap[r]? = some (.cells #[.int .i64 z] 29 (0,0)):=heap_setCell_same w1 r 0 _ _ (.int .i64 z) f4
   have hfar:∀ j,j ≠ r -> (w1.setCell ⟨r,0,none⟩ (.int .i64 z)).heap[j]? = w1.heap[j]?:=fun j hj=>set_farV hj
   have hsz:(w1.setCell ⟨r,0,none⟩ (.int .i64 z)).heap.size = w1.heap.size:=by simp
   have hfz:firstBad L = z:=by
    rw [HL.out.2,List.drop_eq_getElem_cons (List.getElem?_eq_some_iff.1 HL.out.1).1,(List.getElem?_eq_some_iff.1 HL.out.1).2,firstBad,if_neg (by rw [HZ.out];exact HZ0.out),HZ.out]
   refine ⟨K.keepB _ _ f1 (hfar D (by omega)) (hfar lp (by omega)),fun j=>j = r,⟨rfl,rfl,f3.setCell (p:=⟨r,0,none⟩) HRB.out.2.1 _,by rw [hfz];exact s4,HRB.out.2.1⟩,⟨f2.os,f2.tape,f2.output,by rw [hsz];exact f2.size,fun j h1 h2 h3=>(hfar j h2).trans (f2.block j h1 h2 h3),f2.own⟩⟩

theorem pre_wt:∀ (v:V) (d:Int) (p:Int × V),p ∈ v.pre d -> p.2.wt <= v.wt:=by
 refine V.ind (fun v ih d p hp=>?_)
 rw [V.pre_eq] at hp
 rcases List.mem_cons.1 hp with rfl|hp
 ·exact Nat.le_refl _
 have key:∀ (l:List V),(∀ x ∈ l,∀ d p,p ∈ x.pre d -> p.2.wt <= x.wt) -> ∀ d,p ∈ pres l d -> p.2.wt <= wts l:=by
  intro l
  induction l with
  | nil=>intro _ d hp;simp [pres] at hp
  | cons a r ihl =>
   intro h d hp
   rw [pres,List.mem_append] at hp
   rw [wts]
   rcases hp with hp|hp
   ·have:=h a (List.mem_cons_self ..) d p hp;omega
   ·have:=ihl (fun x hx=>h x (List.mem_cons_of_mem _ hx)) d hp;omega
 have:=key v.list ih _ hp
 rw [v.wt_eq]
 omega
theorem each_any (v:V) (s:Value) (W:World) (p:Option Addr) (n c:Nat) (hs:s = .slice p n c) :
  Calls prog 48 #[.agg #[.int .i64 v.kind,.int .u64 v.num,.string v.text,s,.int .i64 v.elem]] W fun e w'=>e = .returned (.func (.func 68) #[] #[.pointer (some ⟨W.heap.size,0,none⟩)])∧w' = W.alloc (.cells #[.int .i64 v.kind,.int .u64 v.num,.string v.text,s,.int .i64 v.elem] 25):=by
 subst hs
 have hmf:∀ (fn:Fn) (first cap:Array Value) (w:World),(Instr.makeFunc fn first cap).run prog w = .ok (.func fn first cap) w:=fun _ _ _ _=>rfl
 go_enter func48,ntmps48
 go_wp2_with fail
 go_ret
 exact ⟨rfl,rfl⟩
theorem below_putObj {B D:Nat} {w W:World} (h:Below B w W) (hD:B <= D) (o:Obj):Below B w (W.putObj D o) :=
 ⟨h.os,h.tape,h.output,by have:=h.size;simpa [World.putObj] using this,fun j hj=>(World.putObj_heap_other (by omega)).trans (h.block j hj)⟩
theorem leaves_one {P:Program} {fn:Func} {tm:Array Value} {R:Ending -> World -> Prop} {D:Nat} {W:World} {u:Value} (hD:W.heap[D]? = some (.deferred (some [])))
  (hr:(results fn tm).run P (W.putObj D (.deferred none)) = .ok u (W.putObj D (.deferred none))) (h:R (.returned u) (W.putObj D (.deferred none))) :
  LeavesInM Fence.wide 5 P fn tm R [{ target:=.collected D,args:=#[] }] .returning W :=
 ⟨by simp,.inl ⟨D,_,rfl,run_takeDeferred hD,⟨u,hr,h⟩⟩⟩

theorem check_any (v:V) (w:World) (s:Value) (h:VIn w v s) (hT:Tabs w) (hwt:v.wt <= 2000000) :
  Calls prog 33 #[.agg #[.int .i64 v.kind,.int .u64 v.num,.string v.text,s,.int .i64 v.elem]] w fun e w'=>e = .returned (.int .i64 (firstBad (v.pre 1)))∧Below w.heap.size w w':=by
 obtain ⟨p,c,hs,h1,h2,h3⟩:=h.slice
 obtain ⟨N,hN⟩:∃ N,v.list.length = N:=⟨_,rfl⟩
 rw [hN] at hs h1 h3
 subst hs
 unfold maxLen at h2
 have HV:=zH h
 have HN:=zH hN
 have HT:=zH hT
 have HW:=zH hwt
 clear h hN hT hwt
 refine calls_of_wp_marks func33 rfl ?_
 simp only [ntmps33,List.size_toArray,List.length_cons,List.length_nil,Nat.reduceAdd,Nat.reduceSub,Array.replicate_succ,Array.replicate_zero,List.push_toArray,List.append_toArray,List.nil_append,List.cons_append]
 go_upto_region 1 with fail
 have hb0:Below w.heap.size w ((w.alloc (.cells #[.int .i64 v.kind,.int .u64 v.num,.string v.text,(.slice p N c),.int .i64 v.elem] 25)).alloc (.cells #[.int .i64 0] 29)):=((Below.refl _ _).alloc (Nat.le_refl _) _).alloc (by simp) _
 have ox:((w.alloc (.cells #[.int .i64 v.kind,.int .u64 v.num,.string v.text,(.slice p N c),.int .i64 v.elem] 25)).alloc (.cells #[.int .i64 0] 29)).heap[w.heap.size]? = some (.cells #[.int .i64 v.kind,.int .u64 v.num,.string v.text,(.slice p N c),.int .i64 v.elem] 25 (0,0)):=(hao _ _ (by simp)).trans (zN _ _)
 have oy:((w.alloc (.cells #[.int .i64 v.kind,.int .u64 v.num,.string v.text,(.slice p N c),.int .i64 v.elem] 25)).alloc (.cells #[.int .i64 0] 29)).heap[w.heap.size+1]? = some (.cells #[.int .i64 0] 29 (0,0)):=by have:=zN (w.alloc (.cells #[.int .i64 v.kind,.int .u64 v.num,.string v.text,(.slice p N c),.int .i64 v.elem] 25)) (.cells #[.int .i64 0] 29);rwa [World.size_alloc] at this
 generalize ((w.alloc (.cells #[.int .i64 v.kind,.int .u64 v.num,.string v.text,(.slice p N c),.int .i64 v.elem] 25)).alloc (.cells #[.int .i64 0] 29)) = w0 at *
 obtain ⟨x,hx⟩:∃ x,w.heap.size = x:=⟨_,rfl⟩
 rw [hx] at ox oy ⊢
 obtain ⟨r,hr⟩:∃ r,x+1 = r:=⟨_,rfl⟩
 rw [hr] at oy ⊢
 obtain ⟨x0,x1,x2,x3,x4⟩:=c5 ox
 have HB0:=zH hb0
 have HX:=zH (show w.heap.size <= r by omega)
 have HOY:=zH oy
 clear hb0 ox oy hx hr
 have hc:=each_any v _ w0 p N c rfl
 go_wp2_with fail
 refine hc.mono ?_
 clear hc x0 x1 x2 x3 x4
 rintro e w1 ⟨rfl,rfl⟩
 have hb1:Below w.heap.size w (w0.alloc (.cells #[.int .i64 v.kind,.int .u64 v.num,.string v.text,(.slice p N c),.int .i64 v.elem] 25)):=HB0.out.alloc HB0.out.size _
 have oy1:(w0.alloc (.cells #[.int .i64 v.kind,.int .u64 v.num,.string v.text,(.slice p N c),.int .i64 v.elem] 25)).heap[r]? = _:=(hao w0 (.cells #[.int .i64 v.kind,.int .u64 v.num,.string v.text,(.slice p N c),.int .i64 v.elem] 25) (Array.getElem?_eq_some_iff.1 HOY.out).1).trans HOY.out
 have oy2:=zN w0 (.cells #[.int .i64 v.kind,.int .u64 v.num,.string v.text,(.slice p N c),.int .i64 v.elem] 25)
 have hrl:=(Array.getElem?_eq_some_iff.1 oy1).1
 generalize w0.alloc (.cells #[.int .i64 v.kind,.int .u64 v.num,.string v.text,(.slice p N c),.int .i64 v.elem] 25) = w1 at *
 obtain ⟨y,hy⟩:∃ y,w0.heap.size = y:=⟨_,rfl⟩
 rw [hy] at oy2 ⊢
 have HB1:=zH hb1
 have HO1:=zH (And.intro oy1 (And.intro oy2 hrl))
 clear hb1 oy1 oy2 hrl hy
 go_wp2_with fail
 refine wp_range_each (wv:=w) (v:=v) (s:=.slice p N c) (y:=y) rfl rfl HO1.out.2.1 HV.out (by have:=HW.out;omega) (CkI w r (v.pre 1)) (CkX w r (v.pre 1)) (fun j=>j = r) ?_ ?_ ?_ ?_ ?_ ?_ ?_ ?_
 ·rintro k O W ⟨_,hB,_⟩
  exact rd_below hB
 ·rintro k O W ⟨rfl,hB,hc,_⟩ j hj
  have:j = r:=hj
  rw [this]
  exact (Array.getElem?_eq_some_iff.1 hc).1
 ·rintro k O W W' d ⟨rfl,hB,hc,h1,h2⟩ hg hd hO
  have:=HB1.out.size
  exact ⟨rfl,⟨hg.os.trans hB.os,hg.tape.trans hB.tape,hg.output.trans hB.output,Nat.le_trans hB.size hg.size,fun j hj=>(hg.block j (Nat.lt_of_lt_of_le hj hB.size) (fun e=>by have:=Option.some.inj e;omega)).trans (hB.block j hj)⟩,
   (hg.block r (Array.getElem?_eq_some_iff.1 hc).1 (fun e=>hO (Option.some.inj e).symm)).trans hc,h1,h2⟩
 ·rintro cc O W W' d ⟨rfl,rfl,hB,hc,h1⟩ hg hd hO
  have:=HB1.out.size
  exact ⟨rfl,rfl,⟨hg.os.trans hB.os,hg.tape.trans hB.tape,hg.output.trans hB.output,Nat.le_trans hB.size hg.size,fun j hj=>(hg.block j (Nat.lt_of_lt_of_le hj hB.size) (fun e=>by have:=Option.some.inj e;omega)).trans (hB.block j hj)⟩,
   (hg.block r (Array.getElem?_eq_some_iff.1 hc).1 (fun e=>hO (Option.some.inj e).symm)).trans hc,h1⟩
 ·exact ⟨rfl,HB1.out,HO1.out.1,HX.out,by rw [List.drop_zero]⟩
 ·intro K k O d z t W hrd hI n1 n2 hz hL hzin
  obtain ⟨rfl,hI2⟩:=hI
  have hI:CkI w r (v.pre 1) k (fun j=>j = r) W:=⟨rfl,hI2⟩
  have hzt:=pre_wt v 1 (d,z) (List.mem_of_getElem? hL)
  have hzw:=z.text_le
  refine round_check K w W r (v.pre 1) k d z t _ _ _ _ _ _ (by kernel_rfl) hrd hI hL hzin (HT.out.below hI2.1) ?_ hz rfl HO1.out.2.2
  have:=HW.out
  simp only at hzt
  omega
 ·rintro O W ⟨rfl,hB,hc,hw1,hf⟩ hD hO
  have c0:W.cell? ⟨r,0,none⟩ = some (.int .i64 0):=(cell_of_row _ _ 0 _ _ _ hc).trans rfl
  have f0:W.frozen? ⟨r,0,none⟩ = false:=by simp [World.frozen?,hc]
  have hO2:w1.heap.size ≠ r:=hO
  have H:=zH (And.intro hB (And.intro hc (And.intro hw1 (And.intro hf (And.intro hD hO2)))))
  clear hB hc hw1 hf hD hO hO2
  simp only [Exit.inBlock,Exit.then]
  go_at_K
  go_wp2_with fail
  obtain ⟨hB,hc,hw1,hf,hD,hO2⟩:=H.out
  have s4:(W.setCell ⟨r,0,none⟩ (.int .i64 0)).heap[r]? = some (.cells #[.int .i64 0] 29 (0,0)):=heap_setCell_same W r 0 _ _ (.int .i64 0) hc
  have hD4:=(set_farV (w:=W) (i:=0) (v:=.int .i64 0) hO2).trans hD
  have hB4:=hB.setCell (p:=⟨r,0,none⟩) hw1 (.int .i64 0)
  rw [List.drop_length,firstBad] at hf
  have s5:=(World.putObj_heap_other (w:=W.setCell ⟨r,0,none⟩ (.int .i64 0)) (o:=.deferred none) hO2.symm).trans s4
  have k0:=(cell_of_row _ _ 0 _ _ _ s5).trans rfl
  refine leaves_one (u:=.int .i64 0) hD4 (by simp [results,Tryz.f33,go_sem,k0]) ⟨by rw [hf],below_putObj hB4 HB1.out.size _⟩
 rintro cc O W ⟨rfl,rfl,hB,hc,hw1⟩ hD hO
 have hO2:w1.heap.size ≠ r:=hO
 refine (wpIn_wide (n:=5)).1 (wpIn_ret ?_)
 have s5:=(World.putObj_heap_other (w:=W) (o:=.deferred none) hO2.symm).trans hc
 have k0:=(cell_of_row _ _ 0 _ _ _ s5).trans rfl
 refine leaves_one (u:=.int .i64 _) hD (by simp [results,Tryz.f33,go_sem,k0]) ⟨rfl,below_putObj hB HB1.out.size _⟩


attribute [local go_sem] Oper.semAt_some

section
end


attribute [local go_sem] Oper.semAt_some

noncomputable def only (w:World) (F:Nat -> Prop):World:=by
 classical
 exact { w with heap:=w.heap.mapIdx fun i o=>if F i then o else .deferred none }
theorem only_heap {w:World} {F:Nat -> Prop} {b:Nat} (h:F b):(only w F).heap[b]? = w.heap[b]?:=by
 simp only [only,Array.getElem?_mapIdx]
 cases w.heap[b]? <;> simp [h]
theorem VO.only {w:World} {B:Nat} {v:V} {s:Value} {F:Nat -> Prop} (h:VO w B v s F):VIn (only w F) v s:=(h.keep (w':=Proofs.YtnnnfhobbnjmfaaGreatDoor.only w F) (fun b hb=>only_heap hb)).vin

structure RidesA (n0 l:Nat) (wA:World) (F0:Nat -> Prop) (L:List (Int × V)) (J:Nat -> (Nat -> Prop) -> World -> Prop) (Jx:(Nat -> Prop) -> World -> Prop):Prop where
 reads:∀ k O W,J k O W -> ∀ j,F0 j -> W.heap[j]? = wA.heap[j]?
 fresh:∀ k O W,J k O W -> ∀ j,O j -> j < W.heap.size
 turn:∀ k O W W' d,J k O W -> W.grownBy W' (some d) -> n0 <= d -> ¬ O d -> J k O W'
 turnX:∀ O W W' d,Jx O W -> W.grownBy W' (some d) -> n0 <= d -> ¬ O d -> Jx O W'
 yields:∀ k O W W' d x t F,J k O W -> L[k]? = some (d,x) -> Below W.heap.size W W' -> VO W' W.heap.size x t F -> YieldAt Fence.wide 3 Tryz.prog l #[.int .i64 d,.agg #[.int .i64 x.kind,.int .u64 x.num,.string x.text,t,.int .i64 x.elem]] W' fun e W2 =>
  (e = .returned (.bool true)∧∃ O2,J (k+1) O2 W2∧KeepW (fun j=>O j ∨ F j) W' O2 W2) ∨ (e = .returned (.bool false)∧∃ O2,Jx O2 W2∧KeepW (fun j=>O j ∨ F j) W' O2 W2)



attribute [local go_sem] Oper.semAt_some

def foldD (g:Int -> Int -> Int):Int -> List (Int × V) -> Int
 | m,[]=>m
 | m,(d,_) :: r=>foldD g (g m d) r
def CellI (wE:World) (r:Nat) (g:Int -> Int -> Int) (P:Int -> Prop) (L:List (Int × V)) (k:Nat) (O:Nat -> Prop) (W:World):Prop :=
 (O = fun j=>j = r)∧Below wE.heap.size wE W∧wE.heap.size <= r∧∃ m:Int,P m∧W.heap[r]? = some (.cells #[.int .i64 m] 3 (0,0))∧foldD g m (L.drop k) = foldD g 0 L
theorem CellI.turn {wE W W':World} {r d:Nat} {g:Int -> Int -> Int} {P:Int -> Prop} {L:List (Int × V)} {k:Nat} {O:Nat -> Prop} (h:CellI wE r g P L k O W) (hg:W.grownBy W' (some d)) (hd:wE.heap.size <= d) (hO:¬ O d):CellI wE r g P L k O W':=by
 obtain ⟨rfl,hB,h1,m,hm,hc,hf⟩:=h
 exact ⟨rfl,⟨hg.os.trans hB.os,hg.tape.trans hB.tape,hg.output.trans hB.output,Nat.le_trans hB.size hg.size,fun j hj=>(hg.block j (Nat.lt_of_lt_of_le hj hB.size) (fun e=>by have:=Option.some.inj e;omega)).trans (hB.block j hj)⟩,h1,m,hm,
   (hg.block r (Array.getElem?_eq_some_iff.1 hc).1 (fun e=>hO (Option.some.inj e).symm)).trans hc,hf⟩
theorem CellI.fresh {wE W:World} {r:Nat} {g:Int -> Int -> Int} {P:Int -> Prop} {L:List (Int × V)} {k:Nat} {O:Nat -> Prop} (h:CellI wE r g P L k O W):∀ j,O j -> j < W.heap.size:=by
 obtain ⟨rfl,hB,h1,m,hm,hc,hf⟩:=h
 intro j hj
 have:j = r:=hj
 rw [this]
 exact (Array.getElem?_eq_some_iff.1 hc).1
theorem CellI.next {wE Wb:World} {r k:Nat} {g:Int -> Int -> Int} {P:Int -> Prop} {L:List (Int × V)} {d m:Int} {x:V} (hB:Below wE.heap.size wE Wb) (h1:wE.heap.size <= r) (hc:Wb.heap[r]? = some (.cells #[.int .i64 m] 3 (0,0))) (hf:foldD g m (L.drop k) = foldD g 0 L) (hL:L[k]? = some (d,x)) (hP:P (g m d)) :
  CellI wE r g P L (k+1) (fun j=>j = r) (Wb.setCell ⟨r,0,none⟩ (.int .i64 (g m d))):=by
 refine ⟨rfl,hB.setCell (p:=⟨r,0,none⟩) h1 _,h1,g m d,hP,heap_setCell_same Wb r 0 _ _ _ hc,?_⟩
 rw [← hf,List.drop_eq_getElem_cons (List.getElem?_eq_some_iff.1 hL).1,(List.getElem?_eq_some_iff.1 hL).2,foldD]


mutual
def V.dep:V -> Int
 | .mk _ _ _ l _=>deps l 0+1
def deps:List V -> Int -> Int
 | [],n=>n
 | v :: r,n=>deps r (max n v.dep)
end
theorem V.dep_eq (v:V):v.dep = deps v.list 0+1:=by cases v;rw [V.dep];rfl
theorem dep_bd:∀ v:V,1 <= v.dep∧v.dep <= v.wt:=by
 refine V.ind (fun v ih=>?_)
 have key:∀ (l:List V),(∀ x ∈ l,1 <= x.dep∧x.dep <= x.wt) -> ∀ n:Int,n <= deps l n∧deps l n <= max n (wts l):=by
  intro l
  induction l with
  | nil=>intro _ n;rw [deps];omega
  | cons a r ihl =>
   intro h n
   obtain ⟨h1,h2⟩:=h a (List.mem_cons_self ..)
   obtain ⟨q1,q2⟩:=ihl (fun x hx=>h x (List.mem_cons_of_mem _ hx)) (max n a.dep)
   rw [deps,wts]
   omega
 have h0:=key v.list ih 0
 rw [V.dep_eq,V.wt_eq]
 omega
theorem deps_mono (l:List V):∀ n:Int,0 <= n -> deps l n = max n (deps l 0):=by
 induction l with
 | nil=>intro n hn;rw [deps,deps];omega
 | cons a r ih =>
  intro n hn
  have h1:=(dep_bd a).1
  rw [deps,deps,ih (max n a.dep) (by omega),ih (max 0 a.dep) (by omega)]
  omega

theorem firstBad_zero (L:List (Int × V)):firstBad L = 0 ↔ ∀ p ∈ L,aloneC p.2 p.1 = 0:=by
 induction L with
 | nil=>simp [firstBad]
 | cons a r ih =>
  obtain ⟨d,x⟩:=a
  rw [firstBad]
  by_cases h:aloneC x d = 0
  ·rw [if_pos h,ih]
   constructor
   ·intro q p hp
    rcases List.mem_cons.1 hp with rfl|hp
    ·exact h
    ·exact q p hp
   ·intro q p hp
    exact q p (List.mem_cons_of_mem _ hp)
  ·rw [if_neg h]
   constructor
   ·intro q;exact (h q).elim
   ·intro q;exact (h (q _ (List.mem_cons_self ..))).elim
theorem aloneC_iff (x:V) (d:Int) (hd:1 <= d):aloneC x d = 0 ↔ aloneC x 1 = 0∧d <= 32:=by
 by_cases h0:x.kind < 0
 ·simp [aloneC,h0]
 by_cases h1:24 < x.kind
 ·simp [aloneC,h0,h1]
 by_cases h2:32 < d
 ·simp only [aloneC,if_neg h0,if_neg h1,if_pos h2]
  constructor
  ·intro q;omega
  ·intro q;omega
 simp only [aloneC,if_neg h0,if_neg h1,if_neg h2,if_neg (show ¬ (32:Int) < 1 by omega)]
 exact ⟨fun q=>⟨q,by omega⟩,fun q=>q.1⟩
def AllOk (v:V) (d:Int):Prop:=∀ p ∈ v.pre d,aloneC p.2 1 = 0
theorem mem_pres {l:List V} {d:Int} {p:Int × V}:p ∈ pres l d ↔ ∃ x ∈ l,p ∈ x.pre d:=by
 induction l with
 | nil=>simp [pres]
 | cons a r ih=>simp [pres,ih]
theorem pre_depth:∀ (v:V) (d:Int) (p:Int × V),p ∈ v.pre d -> d <= p.1∧p.1 <= d - 1+v.dep:=by
 refine V.ind (fun v ih d p hp=>?_)
 have hb:=(dep_bd v).1
 rw [V.pre_eq] at hp
 rcases List.mem_cons.1 hp with rfl|hp
 ·exact ⟨Int.le_refl _,by simp only;omega⟩
 obtain ⟨x,hx,hp⟩:=mem_pres.1 hp
 have h1:=ih x hx _ _ hp
 have h2:x.dep+1 <= v.dep:=by
  have key:∀ (l:List V) (n:Int),0 <= n -> x ∈ l -> x.dep <= deps l n:=by
   intro l
   induction l with
   | nil=>intro n _ h;cases h
   | cons a r ih2 =>
    intro n hn h
    rw [deps,deps_mono r _ (by have:=(dep_bd a).1;omega)]
    rcases List.mem_cons.1 h with rfl|h
    ·omega
    ·have:=ih2 0 (Int.le_refl _) h;omega
  have:=key v.list 0 (Int.le_refl _) hx
  rw [v.dep_eq]
  omega
 omega
theorem allOk_iff (v:V) (d:Int):AllOk v d ↔ aloneC v 1 = 0∧∀ x ∈ v.list,AllOk x (d+1):=by
 unfold AllOk
 rw [V.pre_eq]
 constructor
 ·intro h
  exact ⟨h (d,v) (List.mem_cons_self ..),fun x hx p hp=>h p (List.mem_cons_of_mem _ (mem_pres.2 ⟨x,hx,hp⟩))⟩
 rintro ⟨h1,h2⟩ p hp
 rcases List.mem_cons.1 hp with rfl|hp
 ·exact h1
 obtain ⟨x,hx,hp⟩:=mem_pres.1 hp
 exact h2 x hx p hp
theorem allOk_any:∀ (v:V) (d e:Int),AllOk v d ↔ AllOk v e:=by
 refine V.ind (fun v ih d e=>?_)
 rw [allOk_iff,allOk_iff]
 exact ⟨fun h=>⟨h.1,fun x hx=>(ih x hx _ _).1 (h.2 x hx)⟩,fun h=>⟨h.1,fun x hx=>(ih x hx _ _).1 (h.2 x hx)⟩⟩
theorem deps_max (l:List V) (n:Int) (h:∀ x ∈ l,x.dep <= n) (hn:0 <= n):deps l 0 <= n:=by
 induction l with
 | nil=>rw [deps];exact hn
 | cons a r ih =>
  rw [deps,deps_mono r _ (by have:=(dep_bd a).1;omega)]
  have h1:=h a (List.mem_cons_self ..)
  have h2:=ih (fun x hx=>h x (List.mem_cons_of_mem _ hx))
  omega
theorem pre_deepest:∀ (v:V) (d n:Int),(∀ p ∈ v.pre d,p.1 <= n) -> d - 1+v.dep <= n:=by
 refine V.ind (fun v ih d n h=>?_)
 rw [V.pre_eq] at h
 have h0:=h (d,v) (List.mem_cons_self ..)
 have h1:=deps_max v.list (n - d) (fun x hx=>by
  have:=ih x hx (d+1) n (fun p hp=>h p (List.mem_cons_of_mem _ (mem_pres.2 ⟨x,hx,hp⟩)))
  omega) (by simp only at h0;omega)
 rw [v.dep_eq]
 omega
theorem check_law (v:V) (d:Int) (hd:1 <= d):firstBad (v.pre d) = 0 ↔ AllOk v 1∧d - 1+v.dep <= 32:=by
 rw [firstBad_zero]
 constructor
 ·intro h
  refine ⟨(allOk_any v 1 d).2 (fun p hp=>((aloneC_iff p.2 p.1 (by have:=(pre_depth v d p hp).1;omega)).1 (h p hp)).1),pre_deepest v d 32 (fun p hp=>((aloneC_iff p.2 p.1 (by have:=(pre_depth v d p hp).1;omega)).1 (h p hp)).2)⟩
 rintro ⟨h1,h2⟩ p hp
 have h3:=pre_depth v d p hp
 exact (aloneC_iff p.2 p.1 (by omega)).2 ⟨(allOk_any v 1 d).1 h1 p hp,by omega⟩

/-! ### the constructors -/
def kindC (c:Nat):Int :=
 if c = 0 then 24 else if c = 0x40 then 0 else if c = 0x41 ∨ c = 0x42 ∨ c = 0x56 then 1 else if c = 0x43 ∨ c = 0x52 ∨ c = 0x70 then 4 else if c = 0x44 ∨ c = 0x53 ∨ c = 0x80 then 5 else if c = 0x45 ∨ c = 0xc0 ∨ c = 0xd0 then 21
 else if c = 0x50 then 2 else if c = 0x60 then 3 else if c = 0x51 then 6 else if c = 0x61 then 7 else if c = 0x54 ∨ c = 0x71 then 8 else if c = 0x55 ∨ c = 0x81 then 9
 else if c = 0x72 then 10 else if c = 0x82 then 11 else if c = 0x73 then 15 else if c = 0x74 then 12 else if c = 0x83 then 16 else if c = 0x84 then 13 else if c = 0x94 then 14 else if c = 0x98 then 17
 else if c = 0xa0 ∨ c = 0xb0 then 18 else if c = 0xa1 ∨ c = 0xb1 then 19 else if c = 0xa3 ∨ c = 0xb3 then 20 else if c = 0xc1 ∨ c = 0xd1 then 22 else if c = 0xe0 ∨ c = 0xf0 then 23 else -1
def widC (c:Nat):Nat:=if c / 16 = 5 then 1 else if c / 16 = 6 then 2 else if c / 16 = 7 then 4 else if c / 16 = 8 then 8 else 16
def wOf (c:Nat):Nat:=if c / 16 % 2 = 0 then 1 else 4
def codeK (k:Int) (small:Bool):Nat :=
 if k = 1 then 0x56 else if k = 2 then 0x50 else if k = 3 then 0x60 else if k = 6 then 0x51 else if k = 7 then 0x61 else if k = 10 then 0x72 else if k = 11 then 0x82 else if k = 12 then 0x74 else if k = 13 then 0x84 else if k = 15 then 0x73 else if k = 16 then 0x83
 else if k = 4 then (if small then 0x52 else 0x70) else if k = 5 then (if small then 0x53 else 0x80) else if k = 8 then (if small then 0x54 else 0x71) else if k = 9 then (if small then 0x55 else 0x81) else if k = 14 then 0x94 else if k = 17 then 0x98
 else if k = 18 then (if small then 0xa0 else 0xb0) else if k = 19 then (if small then 0xa1 else 0xb1) else if k = 20 then (if small then 0xa3 else 0xb3) else if k = 21 then (if small then 0xc0 else 0xd0) else if k = 22 then (if small then 0xc1 else 0xd1) else (if small then 0xe0 else 0xf0)
def smC (c:Nat):Bool:=decide (c = 0x52 ∨ c = 0x53 ∨ c = 0x54 ∨ c = 0x55 ∨ c = 0xa0 ∨ c = 0xa1 ∨ c = 0xa3 ∨ c = 0xc0 ∨ c = 0xc1 ∨ c = 0xe0)
def DatC (c:Nat):Prop:=0 ≤ kindC c∧c ≠ 0∧c / 16 ≠ 4
instance (c:Nat):Decidable (DatC c):=by unfold DatC;infer_instance

/-! ### writing -/
def V.tb (v:V):List UInt8:=v.text.data.toList
theorem V.tb_len (v:V):v.tb.length = v.text.size:=rfl
def narrowV (v:V):Bool :=
 if v.kind = 4 ∨ v.kind = 5 then decide (v.num ≤ 255) else if v.kind = 8 ∨ v.kind = 9 then decide (-128 ≤ twoC v.num∧twoC v.num ≤ 127) else if v.kind = 18 ∨ v.kind = 19 ∨ v.kind = 20 then decide (v.text.size ≤ 255) else true
def loneC (v:V):Option Nat :=
 if v.kind = 0 then some 0x40 else if v.kind = 1∧v.num = 1 then some 0x41 else if v.kind = 1 then some 0x42 else if v.kind = 4∧v.num = 0 then some 0x43 else if v.kind = 5∧v.num = 0 then some 0x44 else if v.kind = 21∧v.list = [] then some 0x45 else none
def datB (c:Nat) (v:V) (b:List UInt8):List UInt8 :=
 if c / 16 = 9 then v.tb else if c / 16 = 10 ∨ c / 16 = 11 then putL v.text.size (wOf c) ++ v.tb
 else if 12 ≤ c / 16 then putL (wOf c+b.length) (wOf c) ++ (putL v.list.length (wOf c) ++ b) else putL v.num.toNat (widC c)
def spansB (n m:Nat):Bool:=decide (n ≤ 255∧1+m ≤ 255)
def IsSp (k:Int):Prop:=k = 21 ∨ k = 22 ∨ k = 23
instance (k:Int):Decidable (IsSp k):=by unfold IsSp;infer_instance
def smallV (v:V) (b:List UInt8):Bool:=if IsSp v.kind then spansB v.list.length b.length else narrowV v
def headB (v:V) (b:List UInt8):List UInt8 :=
 match loneC v with
 | some c=>[UInt8.ofNat c]
 | none=>if v.kind = 24 then 0 :: b else UInt8.ofNat (codeK v.kind (smallV v b)) :: datB (codeK v.kind (smallV v b)) v b
def zipAll:List V → List (List UInt8) → Bool
 | v :: l,b :: bs=>smallV v b && zipAll l bs
 | _,_=>true
def zipDat (c:Nat):List V → List (List UInt8) → List UInt8
 | v :: l,b :: bs=>datB c v b ++ zipDat c l bs
 | _,_=>[]
def zipHead:List V → List (List UInt8) → List UInt8
 | v :: l,b :: bs=>headB v b ++ zipHead l bs
 | _,_=>[]
mutual
def inn:V → List UInt8
 | .mk k _ _ l e=>if k = 23 then UInt8.ofNat (codeK e (zipAll l (inns l))) :: zipDat (codeK e (zipAll l (inns l))) l (inns l) else zipHead l (inns l)
def inns:List V → List (List UInt8)
 | []=>[]
 | v :: r=>inn v :: inns r
end
def putV (v:V):List UInt8:=headB v (inn v)
def putVs (l:List V):List UInt8:=l.flatMap putV
def datV (c:Nat) (v:V):List UInt8:=datB c v (inn v)
def datVs (c:Nat) (l:List V):List UInt8:=l.flatMap (datV c)
def smV (v:V):Bool:=smallV v (inn v)
theorem zipHead_eq (l:List V):zipHead l (inns l) = putVs l:=by
 induction l with
 | nil=>rfl
 | cons a r ih=>rw [inns,zipHead,ih];rfl
theorem zipDat_eq (c:Nat) (l:List V):zipDat c l (inns l) = datVs c l:=by
 induction l with
 | nil=>rfl
 | cons a r ih=>rw [inns,zipDat,ih];rfl
theorem zipAll_eq (l:List V):zipAll l (inns l) = l.all smV:=by
 induction l with
 | nil=>rfl
 | cons a r ih=>rw [inns,zipAll,ih];rfl
def uniC (v:V):Nat:=codeK v.elem (v.list.all smV)
theorem inn_eq (v:V):inn v = if v.kind = 23 then UInt8.ofNat (uniC v) :: datVs (uniC v) v.list else putVs v.list:=by
 cases v with
 | mk k n t l e=>rw [inn,zipHead_eq,zipAll_eq,zipDat_eq];rfl
theorem putV_eq (v:V):putV v = match loneC v with
 | some c=>[UInt8.ofNat c]
 | none=>if v.kind = 24 then 0 :: inn v else UInt8.ofNat (codeK v.kind (smV v)) :: datV (codeK v.kind (smV v)) v:=rfl

/-! ### reading -/
def EC:Type:={ n:Int // n ≠ 0 }
def ec (n:Int) (h:n ≠ 0:=by decide):EC:=⟨n,h⟩
inductive Er where
 | short
 | own (e:EC)
 | pl (r:Nat) (e:EC)
def shiftE (k:Nat):Er → Er
 | .short=>.short
 | .own e=>.own e
 | .pl r e=>.pl (r+k) e
def spanE (k:Nat):Er → Er
 | .short=>.pl 0 (ec 32)
 | .own e=>.own e
 | .pl r e=>.pl (r+k) e
def headE:Er → Er
 | .short=>.short
 | .own e=>.pl 0 e
 | .pl r e=>.pl (r+1) e
def bareE:Er → Er
 | .short=>.short
 | .own e=>.pl 0 e
 | .pl r e=>.pl r e
abbrev Res:=Except Er (V × Nat)
def els (r:List UInt8 → Res):Nat → List UInt8 → Except Er (List V × Nat)
 | 0,_=>.ok ([],0)
 | n+1,s=>match r s with
  | .error e=>.error e
  | .ok (v,k)=>match els r n (s.drop k) with
   | .error e=>.error (shiftE k e)
   | .ok (l,k2)=>.ok (v :: l,k+k2)
def txB (s:List UInt8):ByteArray:=⟨s.toArray⟩
def sgnW (k:Int) (w n:Nat):Int:=if (k = 6 ∨ k = 7 ∨ k = 8 ∨ k = 9)∧w < 8∧256 ^ w / 2 ≤ n then (n:Int)+18446744073709551616 - (256 ^ w:Nat) else n
def isCh (n:Nat):Bool:=decide (n ≤ 1114111∧(n < 55296 ∨ 57343 < n))
def fixedR (c:Nat) (s:List UInt8):Res :=
 if s.length < widC c then .error .short else
 if c = 0x56∧1 < beVal (s.take (widC c)) then .error (.pl 0 (ec 31)) else
 if c = 0x73∧isCh (beVal (s.take (widC c))) = false then .error (.pl 0 (ec 31)) else
 .ok (.mk (kindC c) (sgnW (kindC c) (widC c) (beVal (s.take (widC c)))) ⟨#[]⟩ [] 0,widC c)
def rawR (c:Nat) (s:List UInt8):Res:=if s.length < 16 then .error .short else .ok (.mk (kindC c) 0 (txB (s.take 16)) [] 0,16)
def badT (k:Int) (t:ByteArray):Int:=if k = 19 then utf8S t else if k = 20 then asciiS t else -1
def textR (c:Nat) (s:List UInt8):Res :=
 if s.length < wOf c then .error .short else
 if s.length < wOf c+beVal (s.take (wOf c)) then .error .short else
 if 0 ≤ badT (kindC c) (txB ((s.drop (wOf c)).take (beVal (s.take (wOf c))))) then .error (.pl (wOf c+(badT (kindC c) (txB ((s.drop (wOf c)).take (beVal (s.take (wOf c)))))).toNat) (ec 33)) else
 .ok (.mk (kindC c) 0 (txB ((s.drop (wOf c)).take (beVal (s.take (wOf c))))) [] 0,wOf c+beVal (s.take (wOf c)))
noncomputable def spanIn (rv:List UInt8 → Res) (c n:Nat) (q:List UInt8):Res :=
 if kindC c = 22∧beVal (q.take (wOf c)) % 2 ≠ 0 then .error (.own (ec 34)) else
 if kindC c = 22∧1024 < beVal (q.take (wOf c)) / 2 then .error (.own (ec 2)) else
 match els rv (beVal (q.take (wOf c))) (q.drop (wOf c)) with
 | .error e=>.error (spanE (wOf c+wOf c) e)
 | .ok (l,k)=>if wOf c+k < n then .error (.pl 0 (ec 32)) else if kindC c = 22∧¬ (evens l).Nodup then .error (.own (ec 34)) else .ok (.mk (kindC c) 0 ⟨#[]⟩ l 0,wOf c+n)
def bareR (rd:Nat → List UInt8 → Res) (c:Nat) (s:List UInt8):Res:=match rd c s with
 | .error e=>.error (bareE e)
 | .ok x=>.ok x
def arrIn (rd:Nat → List UInt8 → Res) (c n:Nat) (q:List UInt8):Res :=
 let c':=((q.drop (wOf c)).headD 0).toNat
 if kindC c' < 0 ∨ c' = 0 ∨ c' / 16 = 4 then .error (.pl (wOf c+wOf c) (ec 30)) else
 match els (bareR rd c') (beVal (q.take (wOf c))) (q.drop (wOf c+1)) with
 | .error e=>.error (spanE (wOf c+wOf c+1) e)
 | .ok (l,k)=>if wOf c+1+k < n then .error (.pl 0 (ec 32)) else .ok (.mk (kindC c) 0 ⟨#[]⟩ l (kindC c'),wOf c+n)
def withinR (c least:Nat) (rd:Nat → List UInt8 → Res) (s:List UInt8):Res :=
 if s.length < wOf c then .error .short else
 if beVal (s.take (wOf c)) < least then .error (.pl 0 (ec 32)) else
 if s.length < wOf c+beVal (s.take (wOf c)) then .error .short else
 rd (beVal (s.take (wOf c))) ((s.drop (wOf c)).take (beVal (s.take (wOf c))))
noncomputable def datR (rv:List UInt8 → Res) (rd:Nat → List UInt8 → Res) (c:Nat) (s:List UInt8):Res :=
 if c / 16 = 9 then rawR c s else if c / 16 = 10 ∨ c / 16 = 11 then textR c s else if c / 16 = 12 ∨ c / 16 = 13 then withinR c (wOf c) (spanIn rv c) s
 else if c / 16 = 14 ∨ c / 16 = 15 then withinR c (wOf c+1) (arrIn rd c) s else fixedR c s
def pairR (rv:List UInt8 → Res) (t:List UInt8):Res :=
 match rv t with
 | .error e=>.error (shiftE 1 e)
 | .ok (d,k)=>match rv (t.drop k) with
  | .error e=>.error (shiftE (1+k) e)
  | .ok (v,k2)=>.ok (.mk 24 0 ⟨#[]⟩ [d,v] 0,1+k+k2)
noncomputable def valR (rv:List UInt8 → Res) (rd:Nat → List UInt8 → Res):List UInt8 → Res
 | []=>.error .short
 | x :: t =>
  if kindC x.toNat < 0 then .error (.pl 0 (ec 30)) else if x.toNat = 0 then pairR rv t
  else if x.toNat / 16 = 4 then .ok (.mk (kindC x.toNat) (if x.toNat = 0x41 then 1 else 0) ⟨#[]⟩ [] 0,1)
  else match datR rv rd x.toNat t with
   | .error e=>.error (headE e)
   | .ok (v,k)=>.ok (v,1+k)
theorem valR_cons (rv:List UInt8 → Res) (rd:Nat → List UInt8 → Res) (x:UInt8) (t:List UInt8):valR rv rd (x :: t) = if kindC x.toNat < 0 then .error (.pl 0 (ec 30)) else if x.toNat = 0 then pairR rv t
  else if x.toNat / 16 = 4 then .ok (.mk (kindC x.toNat) (if x.toNat = 0x41 then 1 else 0) ⟨#[]⟩ [] 0,1)
  else match datR rv rd x.toNat t with
   | .error e=>.error (headE e)
   | .ok (v,k)=>.ok (v,1+k):=rfl
def deepR:List UInt8 → Res
 | []=>.error .short
 | x :: t=>if kindC x.toNat < 0 then .error (.pl 0 (ec 30)) else .error (.pl 0 (ec 26))
theorem deepR_cons (x:UInt8) (t:List UInt8):deepR (x :: t) = if kindC x.toNat < 0 then .error (.pl 0 (ec 30)) else .error (.pl 0 (ec 26)):=rfl
noncomputable def lev:Nat → (List UInt8 → Res) × (Nat → List UInt8 → Res)
 | 0=>(deepR,fun _ _=>.error (.pl 0 (ec 26)))
 | n+1=>(valR (lev n).1 (lev n).2,datR (lev n).1 (lev n).2)
noncomputable def rdV (n:Nat):List UInt8 → Res:=(lev n).1
noncomputable def rdD (n:Nat):Nat → List UInt8 → Res:=(lev n).2
theorem rdV_succ (n:Nat):rdV (n+1) = valR (rdV n) (rdD n):=rfl
theorem rdD_succ (n:Nat):rdD (n+1) = datR (rdV n) (rdD n):=rfl
def zeroV:V:=.mk 0 0 ⟨#[]⟩ [] 0
noncomputable def decS (b:List UInt8) (at_:Int):V × Int × Int :=
 if at_ < 0 ∨ (b.length:Int) < at_ then (zeroV,0,1) else
 match rdV 32 (b.drop at_.toNat) with
 | .error .short=>(zeroV,b.length,10)
 | .error (.own e)=>(zeroV,at_,e.1)
 | .error (.pl r e)=>(zeroV,at_+r,e.1)
 | .ok (v,k)=>if 1048576 < k then (zeroV,at_,2) else (v,at_+k,0)
noncomputable def wholeS (b:List UInt8):V × Int × Int :=
 if (decS b 0).2.2 ≠ 0 then (zeroV,(decS b 0).2.1,(decS b 0).2.2) else if (decS b 0).2.1 < b.length then (zeroV,(decS b 0).2.1,35) else ((decS b 0).1,0,0)
noncomputable def encS (v:V):List UInt8 × Int :=
 if firstBad (v.pre 1) ≠ 0 then ([],firstBad (v.pre 1)) else if 1048576 < (putV v).length then ([],2) else (putV v,0)
noncomputable def shortestS (b:List UInt8):Bool :=
 if (wholeS b).2.2 ≠ 0 then false else decide ((encS (wholeS b).1).2 = 0∧(encS (wholeS b).1).1 = b)
end Go.Proofs.YtnnnfhobbnjmfaaGreatDoor
