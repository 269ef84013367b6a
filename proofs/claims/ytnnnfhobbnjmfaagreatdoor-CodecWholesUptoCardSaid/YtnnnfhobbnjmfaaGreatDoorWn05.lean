/-
  Lemmas on the codec. Conditions: as each says.
-/
import Derived.RangeFuncNested
import Derived.RangeFuncBound
import Derived.RangeFuncCalls
import Derived.RangeFuncLeaves
import Derived.Shelf.Abstract
import Derived.Shelf.RegionOpen
import Derived.WalkKit
import Derived.OwnWalkIn
import Derived.TacticsInMore
import Derived.LoopNIn
import Derived.LoopIn
import Derived.Test.YtnnnfhobbnjmfaaGreatDoorWn04
import Derived.Test.YtnnnfhobbnjmfaaGreatDoorWn03
import Derived.Sort.Grow
namespace Go.Proofs.YtnnnfhobbnjmfaaGreatDoor
open Go.RowKit Go.Proofs.Tryz
set_option linter.all false
set_option maxHeartbeats 40000000
set_option maxRecDepth 20000

def Turn (l:Nat) (W W':World):Prop:=W.grownBy W' (some l)∧W'.heap.size = W.heap.size

theorem turn_putObj (W:World) (l:Nat) (o:Obj):Turn l W (W.putObj l o):=⟨grownBy_putObj' W l o,by simp [World.putObj]⟩

structure LoopBook (D l:Nat) where
 rdy:World → Prop
 busy:World → Prop
 fin:Code → World → Prop
 keepR:∀ A B,rdy A → B.heap[D]? = A.heap[D]? → B.heap[l]? = A.heap[l]? → rdy B
 keepB:∀ A B,busy A → B.heap[D]? = A.heap[D]? → B.heap[l]? = A.heap[l]? → busy B
 keepF:∀ c A B,fin c A → B.heap[D]? = A.heap[D]? → B.heap[l]? = A.heap[l]? → fin c B
 rdyN:∀ A,rdy A → (∃ o,A.heap[D]? = some o∧o.isCells = false)∧(∃ o,A.heap[l]? = some o∧o.isCells = false)
 busyN:∀ A,busy A → (∃ o,A.heap[D]? = some o∧o.isCells = false)∧(∃ o,A.heap[l]? = some o∧o.isCells = false)
 finN:∀ c A,fin c A → (∃ o,A.heap[D]? = some o∧o.isCells = false)∧(∃ o,A.heap[l]? = some o∧o.isCells = false)

def bodyP {D l:Nat} (K:LoopBook D l) (I:World → Prop) (Ix:Code → World → Prop):Exit → Act → World → Prop
 | .normal,_,W=>K.busy W∧I W
 | .ret,_,W=>K.busy W∧Ix .ret W
 | .exit id,_,W=>K.busy W∧Ix (.exit id) W
 | .goto t,_,W=>K.busy W∧Ix (.goto t) W
 | .panic _,_,_=>False
 | .outgrown,_,_=>False

def RoundOf {D l:Nat} (P:Program) (K:LoopBook D l) (tmps:Array Value) (ps:Array Tmp) (assign body:Code) (xs:Array Value) (W:World) (I:World → Prop) (Ix:Code → World → Prop):Prop :=
 assign.wpIn (Fence.wide.inRound l) 3 P (Exit.then (fun a' Wa=>K.rdy Wa∧∀ Wb,Turn l Wa Wb → K.busy Wb → body.wpIn (Fence.wide.inRound l) 3 P (bodyP K I Ix) a' Wb) (fun _ _ _=>False))
  { tmps:=(ps.zip xs).foldl (fun t (p,v)=>t.setIfInBounds p v) tmps,defers:=[] } W

def YieldOf {D l:Nat} (K:LoopBook D l) (I:World → Prop) (Ix:Code → World → Prop) (e:Ending) (W':World):Prop :=
 (e = .returned (.bool true)∧K.rdy W'∧∃ W3,I W3∧Turn l W3 W') ∨ (e = .returned (.bool false)∧∃ c,K.fin c W'∧∃ W3,Ix c W3∧Turn l W3 W')

theorem wp_rangeFunc_any {P:Program} {g:Operand} {ps:Array Tmp} {assign body:Code} {Q:Exit → Act → World → Prop} {a:Act} {w:World} {gf:Nat} {lb:Array Value}
  (hg:a.eval g = .func (.func gf) #[] lb) (eg:∀ args w,(callFunc gf args).run P w = .ok (.enter gf args) w)
  (hseq:∀ (K:LoopBook w.heap.size (w.heap.size+1)) (W1:World),w.grownBy W1 none → W1.heap.size = w.heap.size+2 → K.rdy W1 →
   (∀ (xs:Array Value) (W:World) (I:World → Prop) (Ix:Code → World → Prop),xs.size = ps.size → K.rdy W → RoundOf P K a.tmps ps assign body xs W I Ix →
    YieldAt Fence.wide 3 P (w.heap.size+1) xs W (YieldOf K I Ix)) →
   Calls P gf (#[.func (.yield (w.heap.size+1)) #[] #[]] ++ lb) W1 fun e W2=>(∃ v,e = .returned v) ∧
    ((K.rdy W2∧∀ W3,Turn (w.heap.size+1) W2 W3 → W3.heap[w.heap.size]? = some (.deferred (some [])) → Q .normal { a with defers:={ target:=.collected w.heap.size,args:=#[] } :: a.defers } W3) ∨
     (∃ c,K.fin c W2∧∀ W3,Turn (w.heap.size+1) W2 W3 → W3.heap[w.heap.size]? = some (.deferred (some [])) → c.wp P Q { a with defers:={ target:=.collected w.heap.size,args:=#[] } :: a.defers } W3))) :
  (Code.rangeFunc g ps assign body).wp P Q a w:=by
 refine (wpIn_wide (n:=5)).1 ?_
 refine wpIn_rangeFunc ?_
 intro fn hfn
 obtain ⟨rec,hrec⟩:∃ rec:LoopState → Option Code → Loop,rec = fun st pe=>{ state:=st,pending:=pe,fn,tmps:=a.tmps,params:=ps,assign,body,defers:=w.heap.size }:=⟨_,rfl⟩
 obtain ⟨W1,hW1⟩:∃ W1,(w.alloc (.deferred (some []))).alloc (.loop (rec .ready none)) = W1:=⟨_,rfl⟩
 have hL1:W1.heap[w.heap.size+1]? = some (.loop (rec .ready none)):=by
  rw [← hW1];have:=World.alloc_heap_new (w.alloc (.deferred (some []))) (.loop (rec .ready none));rwa [World.size_alloc] at this
 have hK1:W1.heap[w.heap.size]? = some (.deferred (some [])):=by
  rw [← hW1];exact (Below.heap_alloc _ _ _ (by simp)).trans (World.alloc_heap_new w _)
 have hg1:w.grownBy W1 none:=by
  have hb:Below w.heap.size w W1:=by rw [← hW1];exact ((Below.refl _ w).alloc (Nat.le_refl _) _).alloc (by simp) _
  exact ⟨hb.os,hb.tape,hb.output,hb.size,fun k hk _=>hb.block k hk⟩
 have hs1:W1.heap.size = w.heap.size+2:=by rw [← hW1];simp
 refine ⟨w.heap.size+1,[{ target:=.collected w.heap.size,args:=#[] }],W1,{ target:=.fn (.func gf) lb,args:=#[.func (.yield (w.heap.size+1)) #[] #[]] },W1,gf,
  #[.func (.yield (w.heap.size+1)) #[] #[]] ++ lb,W1,?_,?_,?_,?_,fun _=>by omega,?_⟩
 ·rw [← hW1,hrec];exact run_enterLoop_outer _ _ _ _ _
 ·simp only [resolve,hg]
  simp [go_sem]
 ·intro f' hf';trivial
 ·simp [invoke,go_sem,eg]
 ·obtain ⟨Rd,hRd⟩:∃ Rd:World → Prop,Rd = fun W=>W.heap[w.heap.size+1]? = some (.loop (rec .ready none))∧W.heap[w.heap.size]? = some (.deferred (some [])):=⟨_,rfl⟩
  obtain ⟨Bs,hBs⟩:∃ Bs:World → Prop,Bs = fun W=>W.heap[w.heap.size+1]? = some (.loop { rec .ready none with state:=.busy })∧W.heap[w.heap.size]? = some (.deferred (some [])):=⟨_,rfl⟩
  obtain ⟨Fn_,hFn⟩:∃ Fn_:Code → World → Prop,Fn_ = fun c W=>W.heap[w.heap.size+1]? = some (.loop (rec .done (some c)))∧W.heap[w.heap.size]? = some (.deferred (some [])):=⟨_,rfl⟩
  let K:LoopBook w.heap.size (w.heap.size+1):={
   rdy:=Rd,busy:=Bs,fin:=Fn_
   keepR:=fun A B h h1 h2=>by subst hRd;exact ⟨h2.trans h.1,h1.trans h.2⟩
   keepB:=fun A B h h1 h2=>by subst hBs;exact ⟨h2.trans h.1,h1.trans h.2⟩
   keepF:=fun c A B h h1 h2=>by subst hFn;exact ⟨h2.trans h.1,h1.trans h.2⟩
   rdyN:=fun A h=>by subst hRd;exact ⟨⟨_,h.2,rfl⟩,⟨_,h.1,rfl⟩⟩
   busyN:=fun A h=>by subst hBs;exact ⟨⟨_,h.2,rfl⟩,⟨_,h.1,rfl⟩⟩
   finN:=fun c A h=>by subst hFn;exact ⟨⟨_,h.2,rfl⟩,⟨_,h.1,rfl⟩⟩ }
  have hcall:=hseq K W1 hg1 hs1 (by show Rd W1;subst hRd;exact ⟨hL1,hK1⟩) (by
   intro xs W I Ix hxs hrd hro
   have hrd':Rd W:=hrd
   rw [hRd] at hrd'
   obtain ⟨hl,hk⟩:=hrd'
   have hy:=run_yield (P:=P) (args:=xs) hl (by rw [hrec];exact hxs)
   rw [hrec] at hy
   refine ⟨fn,_,assign,body,hy,roundIn_of_wpIn trivial (wpIn_mono hro ?_)⟩
   rintro e a3 W3 hp
   cases e with
   | normal =>
    obtain ⟨hrd3,hb3⟩:=hp
    have hrd3':Rd W3:=hrd3
    rw [hRd] at hrd3'
    obtain ⟨hl3,hk3⟩:=hrd3'
    have hlt:w.heap.size+1 < W3.heap.size:=(Array.getElem?_eq_some_iff.1 hl3).1
    refine ⟨_,run_beginRound hl3 (by rw [hrec]),?_⟩
    have hl4:(W3.putObj (w.heap.size+1) (.loop { rec .ready none with state:=.busy })).heap[w.heap.size+1]? = some (.loop { rec .ready none with state:=.busy }):=World.putObj_heap_same hlt
    have hk4:(W3.putObj (w.heap.size+1) (.loop { rec .ready none with state:=.busy })).heap[w.heap.size]? = some (.deferred (some [])):=(World.putObj_heap_other (by omega)).trans hk3
    refine wpIn_mono (hb3 _ (turn_putObj _ _ _) (by show Bs _;subst hBs;exact ⟨hl4,hk4⟩)) ?_
    have fin:∀ (jump:Option Code) (W5:World),Bs W5 →
      (Instr.endRound (w.heap.size+1) jump).run P W5 = .ok (.bool jump.isNone) (W5.putObj (w.heap.size+1) (.loop (rec (if jump.isNone then .ready else .done) jump))) ∧
      (W5.putObj (w.heap.size+1) (.loop (rec (if jump.isNone then .ready else .done) jump))).heap[w.heap.size+1]? = some (.loop (rec (if jump.isNone then .ready else .done) jump)) ∧
      (W5.putObj (w.heap.size+1) (.loop (rec (if jump.isNone then .ready else .done) jump))).heap[w.heap.size]? = some (.deferred (some [])):=fun jump W5 hb5=>by
     rw [hBs] at hb5
     obtain ⟨hl5,hk5⟩:=hb5
     have:=run_endRound (P:=P) jump hl5
     rw [hrec] at this ⊢
     exact ⟨this,World.putObj_heap_same (Array.getElem?_eq_some_iff.1 hl5).1,(World.putObj_heap_other (by omega)).trans hk5⟩
    rintro e a5 W5 hp
    cases e with
    | normal =>
     obtain ⟨hb5,hi5⟩:=hp
     obtain ⟨hr,hl6,hk6⟩:=fin none W5 hb5
     exact ⟨_,_,hr,.inl ⟨rfl,by show Rd _;subst hRd;exact ⟨hl6,hk6⟩,W5,hi5,turn_putObj _ _ _⟩⟩
    | ret =>
     obtain ⟨hb5,hi5⟩:=hp
     obtain ⟨hr,hl6,hk6⟩:=fin (some .ret) W5 hb5
     exact ⟨_,_,hr,.inr ⟨rfl,.ret,by show Fn_ _ _;subst hFn;exact ⟨hl6,hk6⟩,W5,hi5,turn_putObj _ _ _⟩⟩
    | exit id =>
     obtain ⟨hb5,hi5⟩:=hp
     obtain ⟨hr,hl6,hk6⟩:=fin (some (.exit id)) W5 hb5
     exact ⟨_,_,hr,.inr ⟨rfl,.exit id,by show Fn_ _ _;subst hFn;exact ⟨hl6,hk6⟩,W5,hi5,turn_putObj _ _ _⟩⟩
    | goto t =>
     obtain ⟨hb5,hi5⟩:=hp
     obtain ⟨hr,hl6,hk6⟩:=fin (some (.goto t)) W5 hb5
     exact ⟨_,_,hr,.inr ⟨rfl,.goto t,by show Fn_ _ _;subst hFn;exact ⟨hl6,hk6⟩,W5,hi5,turn_putObj _ _ _⟩⟩
    | panic ch=>exact hp.elim
    | outgrown=>exact hp.elim
   | ret=>exact hp.elim
   | exit id=>exact hp.elim
   | goto t=>exact hp.elim
   | panic ch=>exact hp.elim
   | outgrown=>exact hp.elim)
  refine (callsIn_wide.2 hcall).mono ?_
  rintro e W2 ⟨⟨v,rfl⟩,(⟨hrd,hq⟩|⟨c,hfi,hq⟩)⟩
  ·have hrd':Rd W2:=hrd
   rw [hRd] at hrd'
   obtain ⟨hl,hk⟩:=hrd'
   exact ⟨none,_,by have:=run_endLoop (P:=P) hl (by rw [hrec];simp);rw [hrec] at this;exact this,hq _ (turn_putObj _ _ _) ((World.putObj_heap_other (by omega)).trans hk)⟩
  ·have hfi':Fn_ c W2:=hfi
   rw [hFn] at hfi'
   obtain ⟨hl,hk⟩:=hfi'
   exact ⟨some c,_,by have:=run_endLoop (P:=P) hl (by rw [hrec];simp);rw [hrec] at this;exact this,(wpIn_wide (n:=5)).2 (hq _ (turn_putObj _ _ _) ((World.putObj_heap_other (by omega)).trans hk))⟩

mutual
def V.pre:V -> Int -> List (Int × V)
 | .mk k n t l e,d=>(d,.mk k n t l e) :: pres l (d+1)
def pres:List V -> Int -> List (Int × V)
 | [],_=>[]
 | v :: r,d=>v.pre d ++ pres r d
end
theorem V.pre_eq (v:V) (d:Int):v.pre d = (d,v) :: pres v.list (d+1):=by cases v;rw [V.pre];rfl
theorem pres_take (l:List V) (d:Int) {i:Nat} (h:i < l.length):pres (l.take (i+1)) d = pres (l.take i) d ++ l[i].pre d:=by
 induction l generalizing i with
 | nil=>simp at h
 | cons a r ih =>
  cases i with
  | zero=>simp [pres]
  | succ i =>
   have h2:i < r.length:=by simpa using h
   simp only [List.take_succ_cons,pres,List.getElem_cons_succ,List.append_assoc,ih h2]
theorem pres_split (l:List V) (d:Int) (i:Nat):pres l d = pres (l.take i) d ++ pres (l.drop i) d:=by
 induction l generalizing i with
 | nil=>simp [pres]
 | cons a r ih =>
  cases i with
  | zero=>simp [pres]
  | succ i=>simp only [List.take_succ_cons,List.drop_succ_cons,pres,List.append_assoc,← ih]
def Rd (w W:World):Prop:=∀ (b i:Nat) (u:Value),w.cell? ⟨b,i,none⟩ = some u -> W.cell? ⟨b,i,none⟩ = some u
theorem VIn.rd {w W:World} {v:V} {s:Value} (h:VIn w v s) (hr:Rd w W):VIn W v s:=by
 induction h with
 | mk v p c ss wf hc hm ha hcell hin ih =>
  exact .mk v p c ss wf hc hm ha (fun b o e i hi j u hu=>hr _ _ _ (hcell b o e i hi j u hu)) ih
theorem rd_below {w W:World} (h:Below w.heap.size w W):Rd w W:=fun b i u hc=>bs_cellV h hc
theorem Rd.trans {w W W':World} (h:Rd w W) (h':Rd W W'):Rd w W':=fun b i u hc=>h' b i u (h b i u hc)
theorem rangeAt_rd {w W:World} {b o:Nat} {l:List Value} (h:w.rangeAt b o l) (hr:Rd w W):W.rangeAt b o l:=fun j u hu=>hr _ _ _ (h j u hu)

structure KeepW (O:Nat -> Prop) (W:World) (O2:Nat -> Prop) (W2:World):Prop where
 os:W2.os = W.os
 tape:W2.tape = W.tape
 output:W2.output = W.output
 size:W.heap.size <= W2.heap.size
 block:∀ j,j < W.heap.size -> ¬ O j -> W2.heap[j]? = W.heap[j]?
 own:∀ j,O2 j -> O j ∨ W.heap.size <= j
theorem KeepW.trans {O O2 O3:Nat -> Prop} {W W2 W3:World} (h:KeepW O W O2 W2) (h':KeepW O2 W2 O3 W3):KeepW O W O3 W3:=by
 refine ⟨h'.os.trans h.os,h'.tape.trans h.tape,h'.output.trans h.output,Nat.le_trans h.size h'.size,fun j hj ho=>(h'.block j (Nat.lt_of_lt_of_le hj h.size) (fun q=>?_)).trans (h.block j hj ho),fun j hj=>?_⟩
 ·rcases h.own j q with r|r
  ·exact ho r
  ·omega
 ·have:=h.size
  rcases h'.own j hj with r|r
  ·exact h.own j r
  ·exact .inr (by omega)
theorem keepW_below {O:Nat -> Prop} {W W2:World} (h:Below W.heap.size W W2):KeepW O W O W2:=⟨h.os,h.tape,h.output,h.size,fun j hj _=>h.block j hj,fun j hj=>.inl hj⟩

structure RidesW (l:Nat) (w:World) (L:List (Int × V)) (J:Nat -> (Nat -> Prop) -> World -> Prop) (Jx:(Nat -> Prop) -> World -> Prop):Prop where
 reads:∀ k O W,J k O W -> Rd w W
 fresh:∀ k O W,J k O W -> ∀ j,O j -> j < W.heap.size
 turn:∀ k O W W',J k O W -> Below W.heap.size W W' -> J k O W'
 yields:∀ k O W d x t,J k O W -> L[k]? = some (d,x) -> VIn w x t -> YieldAt Fence.wide 3 Tryz.prog l #[.int .i64 d,.agg #[.int .i64 x.kind,.int .u64 x.num,.string x.text,t,.int .i64 x.elem]] W fun e W2 =>
  (e = .returned (.bool true)∧∃ O2,J (k+1) O2 W2∧KeepW O W O2 W2) ∨ (e = .returned (.bool false)∧∃ O2,Jx O2 W2∧KeepW O W O2 W2)
def WalkEnd (J:Nat -> (Nat -> Prop) -> World -> Prop) (Jx:(Nat -> Prop) -> World -> Prop) (k:Nat) (O:Nat -> Prop) (W:World) (e:Ending) (W':World):Prop :=
 (e = .returned (.bool true)∧∃ O2,J k O2 W'∧KeepW O W O2 W') ∨ (e = .returned (.bool false)∧∃ O2,Jx O2 W'∧KeepW O W O2 W')

theorem walk_in {l:Nat} {w:World} {L:List (Int × V)} {J:Nat -> (Nat -> Prop) -> World -> Prop} {Jx:(Nat -> Prop) -> World -> Prop} (hR:RidesW l w L J Jx):∀ (v:V) (d:Int) (s:Value) (k:Nat) (O:Nat -> Prop) (W:World),
  VIn w v s -> J k O W -> (∀ i,i < (v.pre d).length -> L[k+i]? = (v.pre d)[i]?) -> 0 <= d -> d+v.wt <= 4611686018427387904 →
  Calls Tryz.prog 69 #[.agg #[.int .i64 v.kind,.int .u64 v.num,.string v.text,s,.int .i64 v.elem],.int .i64 d,.func (.yield l) #[] #[]] W (WalkEnd J Jx (k+(v.pre d).length) O W):=by
 refine V.ind (fun v ih d s k O W h hJ hL hd0 hd1=>?_)
 obtain ⟨p,c,hs,h1,h2,h3⟩:=h.slice
 obtain ⟨N,hN⟩:∃ N,v.list.length = N:=⟨_,rfl⟩
 rw [hN] at hs h1 h3
 subst hs
 unfold maxLen at h2
 have HI:=zH ih
 have HN:=zH hN
 have HV:=zH h
 have HJ:=zH hJ
 have HL:=zH hL
 have HD:=zH hd1
 have HR:=zH hR
 have hd2:d+1 <= 9223372036854775807:=by omega
 obtain ⟨K,hK⟩:∃ K,k+(v.pre d).length = K:=⟨_,rfl⟩
 have HK:=zH hK
 rw [hK]
 clear ih h hN hJ hL hd1 hR hK
 go_enter Tryz.func69,Tryz.ntmps69
 go_upto_region 1 with fail
 have hb0:Below W.heap.size W (W.alloc (.cells #[.int .i64 v.kind,.int .u64 v.num,.string v.text,(.slice p N c),.int .i64 v.elem] 25)):=((Below.refl _ _).alloc (Nat.le_refl _) _)
 have ox:=zN W (.cells #[.int .i64 v.kind,.int .u64 v.num,.string v.text,(.slice p N c),.int .i64 v.elem] 25)
 generalize (W.alloc (.cells #[.int .i64 v.kind,.int .u64 v.num,.string v.text,(.slice p N c),.int .i64 v.elem] 25)) = w0 at *
 obtain ⟨x,hx⟩:∃ x,W.heap.size = x:=⟨_,rfl⟩
 have HX0:=zH hx
 rw [hx] at ox ⊢
 have HB0:=zH hb0
 have HOx:=zH ox
 clear hb0 ox hx
 obtain ⟨x0,x1,x2,x3,x4⟩:=c5 HOx.out
 have HX:Hid (W.heap.size = x∧x < w0.heap.size):=zH ⟨HX0.out,(Array.getElem?_eq_some_iff.1 HOx.out).1⟩
 have hJ0:=HR.out.turn k O W w0 HJ.out HB0.out
 have h0:L[k]? = some (d,v):=by
  have:=HL.out 0 (by rw [V.pre_eq];simp)
  rw [V.pre_eq] at this
  simpa using this
 have hyl:=HR.out.yields k O w0 d v _ hJ0 h0 HV.out
 obtain ⟨fn,tmps,assign,body,hyy,hRd⟩:=hyl
 have HRd:=zH hRd
 clear hRd hJ0 h0
 refine (wpIn_wide (n:=4)).1 ?_
 gi_wp2
 refine HRd.out.mono ?_
 rintro e W2 (⟨rfl,O2,hj2,hk2⟩|⟨rfl,O2,hj2,hk2⟩)
 ·have HK2:=zH ((keepW_below (O:=O) HB0.out).trans hk2)
  have HJ2:=zH hj2
  have hxo:¬ O2 x:=fun q=>by
   have h1:=HX.out
   rcases HK2.out.own x q with r|r
   ·have:=HR.out.fresh k O W HJ.out x r;omega
   ·rcases hk2.own x q with r2|r2
    ·have:=HR.out.fresh k O W HJ.out x r2;omega
    ·omega
  have hxb:W2.heap[x]? = _:=(hk2.block x HX.out.2 (fun q=>by have:=HR.out.fresh k O W HJ.out x q;have:=HX.out.1;omega)).trans HOx.out
  have c3:W2.cell? ⟨x,3,none⟩ = some (.slice p N c):=(cell_of_row _ _ 3 _ _ _ hxb).trans rfl
  clear hj2 hk2 hxb hxo x0 x1 x2 x3 x4 hyy
  gi_wp2
  go_wp2_with fail
  go_loopw [17] (fun v5 wr=>∃ (i:Nat) (O3:Nat -> Prop),i <= N∧v5 = .int .i64 i∧J (k+1+(pres (v.list.take i) (d+1)).length) O3 wr∧KeepW O W O3 wr) (fun v5 _=>N - (intOf v5).toNat)
  case atStart=>exact ⟨0,O2,Nat.zero_le _,rfl,by rw [List.take_zero];exact HJ2.out,HK2.out⟩
  case round =>
   obtain ⟨i,O3,hi,rfl,hj3,hk3⟩:=hrel
   have HR3:=zH (And.intro hj3 hk3)
   clear hj3 hk3 c3
   by_cases hkN:(i:Int) < N
   ·have ka:i < v.list.length:=by rw [HN.out];omega
    obtain ⟨b1,o1,rfl⟩:=h3 (by omega)
    obtain ⟨ta,hta,hia⟩:=HV.out.part rfl ka
    obtain ⟨pa,ca,hsa,_⟩:=hia.slice
    subst hsa
    obtain ⟨c0,c1,c2,c3,c4⟩:=part_cells (rangeAt_rd hta (HR.out.reads _ _ _ HR3.out.1))
    have htk:=pres_take v.list (d+1) ka
    have hwt:=V.wt_lt (List.getElem_mem ka)
    have hIH:=HI.out _ (List.getElem_mem ka) (d+1) (.slice pa v.list[i].list.length ca) (k+1+(pres (v.list.take i) (d+1)).length) O3
    have hseg:∀ j,j < (v.list[i].pre (d+1)).length -> L[k+1+(pres (v.list.take i) (d+1)).length+j]? = (v.list[i].pre (d+1))[j]?:=by
     intro j hj
     have hsp:=pres_split v.list (d+1) (i+1)
     rw [htk] at hsp
     have hlen:(v.pre d).length = 1+((pres (v.list.take i) (d+1)).length+(v.list[i].pre (d+1)).length+(pres (v.list.drop (i+1)) (d+1)).length):=by
      rw [V.pre_eq,hsp];simp only [List.length_cons,List.length_append];omega
     have:=HL.out (1+(pres (v.list.take i) (d+1)).length+j) (by omega)
     rw [show k+1+(pres (v.list.take i) (d+1)).length+j = k+(1+(pres (v.list.take i) (d+1)).length+j) by omega,this,V.pre_eq,hsp,
      show 1+(pres (v.list.take i) (d+1)).length+j = ((pres (v.list.take i) (d+1)).length+j)+1 by omega,List.getElem?_cons_succ,List.append_assoc,
      List.getElem?_append_right (by omega),Nat.add_sub_cancel_left,List.getElem?_append_left hj]
    have hnext:k+1+(pres (v.list.take i) (d+1)).length+(v.list[i].pre (d+1)).length = k+1+(pres (v.list.take (i+1)) (d+1)).length:=by rw [htk,List.length_append];omega
    obtain ⟨ya,hya⟩:∃ ya,v.list[i] = ya:=⟨_,rfl⟩
    rw [hya] at c0 c1 c2 c3 c4 hia hIH hseg hnext hwt
    have hIH2:=fun W hJ=>hIH W hia hJ hseg (by omega) (by have:=HD.out;omega)
    rw [hnext] at hIH2
    obtain ⟨na,hna⟩:∃ na,ya.list.length = na:=⟨_,rfl⟩
    rw [hna] at c3 hIH2
    have HIH:=zH hIH2
    clear hta hia hya hna htk hIH hseg hnext hwt hIH2
    go_upto_region 6 with (refine stV (.tmp 8) (.tmp 20) rfl rfl rfl rfl rfl (zN wr _) rfl ?_)
    refine layW wr ?_
    intro w1 hb_w1 oy
    obtain ⟨y,hx_y⟩:∃ x,wr.heap.size = x:=⟨_,rfl⟩
    rw [hx_y] at oy ⊢
    clear hx_y
    obtain ⟨y0,y1,y2,y3,y4⟩:=c5 oy
    have hc:=HIH.out w1 (HR.out.turn _ _ _ _ HR3.out.1 hb_w1)
    have HB1:=zH hb_w1
    have HC:=zH hc
    clear hb_w1 oy hc c0 c1 c2 c3 c4
    go_wp2_with fail
    refine HC.out.mono ?_
    rintro e w2 (⟨rfl,O4,hj4,hk4⟩|⟨rfl,O4,hj4,hk4⟩)
    ·have HR4:=zH (And.intro hj4 ((HR3.out.2.trans (keepW_below HB1.out)).trans hk4))
     clear hj4 hk4 y0 y1 y2 y3 y4
     go_wp2_with fail
     go_roundw
     case rel=>exact ⟨i+1,O4,by omega,by go_num,HR4.out.1,HR4.out.2⟩
     case measure=>simp [intOf];omega
    ·have HR4:=zH (And.intro hj4 ((HR3.out.2.trans (keepW_below HB1.out)).trans hk4))
     clear hj4 hk4 y0 y1 y2 y3 y4
     go_wp2_with fail
     go_ret
     exact .inr ⟨rfl,O4,HR4.out.1,HR4.out.2⟩
   ·have hJK:J K O3 wr:=by
     have h1:=HR3.out.1
     rw [List.take_of_length_le (by rw [HN.out];omega)] at h1
     rw [← HK.out,V.pre_eq,List.length_cons,show k+((pres v.list (d+1)).length+1) = k+1+(pres v.list (d+1)).length by omega]
     exact h1
    have HJK:=zH hJK
    clear hJK
    go_wp2_with fail
    go_ret
    exact .inl ⟨rfl,O3,HJK.out,HR3.out.2⟩
 ·have HK2:=zH (And.intro hj2 ((keepW_below (O:=O) HB0.out).trans hk2))
  clear hj2 hk2 x0 x1 x2 x3 x4 hyy
  gi_wp2
  go_wp2_with fail
  go_ret
  exact .inr ⟨rfl,O2,HK2.out.1,HK2.out.2⟩



structure KeepR (lp:Nat) (O:Nat -> Prop) (W:World) (O2:Nat -> Prop) (W2:World):Prop where
 os:W2.os = W.os
 tape:W2.tape = W.tape
 output:W2.output = W.output
 size:W.heap.size <= W2.heap.size
 block:∀ j,j < W.heap.size -> ¬ O j -> j ≠ lp -> W2.heap[j]? = W.heap[j]?
 own:∀ j,O2 j -> O j ∨ W.heap.size <= j
theorem KeepR.turn {lp:Nat} {O O2:Nat -> Prop} {W W2 W3:World} (h:KeepR lp O W O2 W2) (ht:Turn lp W2 W3):KeepW (fun j=>O j ∨ j = lp) W (fun j=>O2 j ∨ j = lp) W3:=by
 obtain ⟨g,hz⟩:=ht
 refine ⟨g.os.trans h.os,g.tape.trans h.tape,g.output.trans h.output,Nat.le_trans h.size g.size,fun j hj ho=>?_,fun j hj=>?_⟩
 ·rw [g.block j (Nat.lt_of_lt_of_le hj h.size) (fun e=>ho (.inr (Option.some.inj e))),h.block j hj (fun q=>ho (.inl q)) (fun q=>ho (.inr q))]
 ·rcases hj with hj|hj
  ·rcases h.own j hj with q|q
   ·exact .inl (.inl q)
   ·exact .inr q
  ·exact .inl (.inr hj)
theorem grown_below {W W':World} (h:Below W.heap.size W W') (d:Nat):W.grownBy W' (some d):=⟨h.os,h.tape,h.output,h.size,fun k hk _=>h.block k hk⟩

theorem each1_in {l:Nat} {w:World} {J:Nat -> (Nat -> Prop) -> World -> Prop} {Jx:(Nat -> Prop) -> World -> Prop} {v:V} {s:Value} {O:Nat -> Prop} {W:World} {y:Nat} (hR:RidesW l w (v.pre 1) J Jx) (hv:VIn w v s) (hJ:J 0 O W) (hwt:v.wt <= 4611686018427387000)
  (hy:W.heap[y]? = some (.cells #[.int .i64 v.kind,.int .u64 v.num,.string v.text,s,.int .i64 v.elem] 25 (0,0))) :
  Calls prog 68 #[.func (.yield l) #[] #[],.pointer (some ⟨y,0,none⟩)] W fun e W'=>(∃ u,e = .returned u)∧((∃ O2,J (v.pre 1).length O2 W') ∨ ∃ O2,Jx O2 W'):=by
 have hc:=walk_in hR v 1 s 0 O W hv hJ (fun i _=>by rw [Nat.zero_add]) (by omega) (by omega)
 obtain ⟨p,c,hs,h1,h2,h3⟩:=hv.slice
 obtain ⟨N,hN⟩:∃ N,v.list.length = N:=⟨_,rfl⟩
 rw [hN] at hs
 subst hs
 rw [Nat.zero_add] at hc
 obtain ⟨y0,y1,y2,y3,y4⟩:=c5 hy
 have HC:=zH hc
 clear hc h1 h2 h3 hN hy hv hJ hR hwt
 go_enter func68,ntmps68
 go_wp2_with fail
 refine HC.out.mono ?_
 rintro e w1 (⟨rfl,O2,hj,_⟩|⟨rfl,O2,hj,_⟩)
 ·have H:=zH hj
  clear hj y0 y1 y2 y3 y4
  go_wp2_with fail
  go_end0
  exact ⟨⟨_,rfl⟩,.inl ⟨O2,H.out⟩⟩
 ·have H:=zH hj
  clear hj y0 y1 y2 y3 y4
  go_wp2_with fail
  go_end0
  exact ⟨⟨_,rfl⟩,.inr ⟨O2,H.out⟩⟩

theorem wp_range_each {a:Act} {w wv:World} {g:Operand} {ps:Array Tmp} {assign body:Code} {Q:Exit -> Act -> World -> Prop} {y:Nat} {v:V} {s:Value}
  (hg:a.eval g = .func (.func 68) #[] #[.pointer (some ⟨y,0,none⟩)]) (hps:ps.size = 2)
  (hy:w.heap[y]? = some (.cells #[.int .i64 v.kind,.int .u64 v.num,.string v.text,s,.int .i64 v.elem] 25 (0,0))) (hv:VIn wv v s) (hwt:v.wt <= 4611686018427387000)
  (I:Nat -> (Nat -> Prop) -> World -> Prop) (Ix:Code -> (Nat -> Prop) -> World -> Prop) (O:Nat -> Prop)
  (hrd:∀ k O W,I k O W -> Rd wv W) (hfr:∀ k O W,I k O W -> ∀ j,O j -> j < W.heap.size)
  (hturn:∀ k O W W' d,I k O W -> W.grownBy W' (some d) -> w.heap.size <= d -> ¬ O d -> I k O W')
  (hturnX:∀ c O W W' d,Ix c O W -> W.grownBy W' (some d) -> w.heap.size <= d -> ¬ O d -> Ix c O W')
  (hI0:I 0 O w)
  (hround:∀ (K:LoopBook w.heap.size (w.heap.size+1)) k O d x t W,K.rdy W -> I k O W -> ¬ O w.heap.size -> ¬ O (w.heap.size+1) -> w.heap.size+2 <= W.heap.size -> (v.pre 1)[k]? = some (d,x) -> VIn W x t →
   RoundOf prog K a.tmps ps assign body #[.int .i64 d,.agg #[.int .i64 x.kind,.int .u64 x.num,.string x.text,t,.int .i64 x.elem]] W (fun W3=>∃ O2,I (k+1) O2 W3∧KeepR (w.heap.size+1) O W O2 W3) (fun c W3=>∃ O2,Ix c O2 W3∧KeepR (w.heap.size+1) O W O2 W3))
  (hdone:∀ O W,I (v.pre 1).length O W -> W.heap[w.heap.size]? = some (.deferred (some [])) -> ¬ O w.heap.size -> Q .normal { a with defers:={ target:=.collected w.heap.size,args:=#[] } :: a.defers } W)
  (hexit:∀ c O W,Ix c O W -> W.heap[w.heap.size]? = some (.deferred (some [])) -> ¬ O w.heap.size -> c.wp prog Q { a with defers:={ target:=.collected w.heap.size,args:=#[] } :: a.defers } W) :
  (Code.rangeFunc g ps assign body).wp prog Q a w:=by
 refine wp_rangeFunc_any (gf:=68) (lb:=#[.pointer (some ⟨y,0,none⟩)]) hg (enters_of func68 (by kernel_rfl) rfl) ?_
 intro K W1 hg1 hz1 hrd1 hyield
 have hylt:=(Array.getElem?_eq_some_iff.1 hy).1
 have hy1:=(hg1.block y hylt (by simp)).trans hy
 have hfr0:=hfr 0 O w hI0
 have hOD:¬ O w.heap.size:=fun q=>by have:=hfr0 _ q;omega
 have hOl:¬ O (w.heap.size+1):=fun q=>by have:=hfr0 _ q;omega
 let J:Nat -> (Nat -> Prop) -> World -> Prop:=fun k O' W=>∃ O,(O' = fun j=>O j ∨ j = w.heap.size+1)∧K.rdy W∧I k O W∧¬ O w.heap.size∧¬ O (w.heap.size+1)∧w.heap.size+2 <= W.heap.size
 let Jx:(Nat -> Prop) -> World -> Prop:=fun O' W=>∃ O c,(O' = fun j=>O j ∨ j = w.heap.size+1)∧K.fin c W∧Ix c O W∧¬ O w.heap.size∧¬ O (w.heap.size+1)
 have hR:RidesW (w.heap.size+1) wv (v.pre 1) J Jx:=by
  refine ⟨?_,?_,?_,?_⟩
  ·rintro k O' W ⟨O,rfl,_,hI,_⟩
   exact hrd k O W hI
  ·rintro k O' W ⟨O,rfl,_,hI,_,_,hz⟩ j (hj|hj)
   ·exact hfr k O W hI j hj
   ·omega
  ·rintro k O' W W' ⟨O,rfl,hr,hI,h1,h2,hz⟩ hb
   exact ⟨O,rfl,K.keepR W W' hr (hb.block _ (by omega)) (hb.block _ (by omega)),hturn k O W W' _ hI (grown_below hb w.heap.size) (Nat.le_refl _) h1,h1,h2,Nat.le_trans hz hb.size⟩
  ·rintro k O' W d x t ⟨O,rfl,hr,hI,h1,h2,hz⟩ hL hx
   have hyl:=hyield #[.int .i64 d,.agg #[.int .i64 x.kind,.int .u64 x.num,.string x.text,t,.int .i64 x.elem]] W _ _ (by rw [hps];rfl) hr (hround K k O d x t W hr hI h1 h2 hz hL (hx.rd (hrd k O W hI)))
   obtain ⟨fn,tmps,asg,bd,hyy,hRd⟩:=hyl
   refine ⟨fn,tmps,asg,bd,hyy,hRd.mono ?_⟩
   rintro e W' (⟨rfl,hr',W3,⟨O2,hI2,hk2⟩,ht⟩|⟨rfl,c,hf',W3,⟨O2,hI2,hk2⟩,ht⟩)
   ·have n1:¬ O2 w.heap.size:=fun q=>by rcases hk2.own _ q with r|r;exact h1 r;omega
    have n2:¬ O2 (w.heap.size+1):=fun q=>by rcases hk2.own _ q with r|r;exact h2 r;omega
    exact .inl ⟨rfl,_,⟨O2,rfl,hr',hturn _ _ _ _ _ hI2 ht.1 (by omega) n2,n1,n2,Nat.le_trans hz (Nat.le_trans hk2.size ht.1.size)⟩,hk2.turn ht⟩
   ·have n1:¬ O2 w.heap.size:=fun q=>by rcases hk2.own _ q with r|r;exact h1 r;omega
    have n2:¬ O2 (w.heap.size+1):=fun q=>by rcases hk2.own _ q with r|r;exact h2 r;omega
    exact .inr ⟨rfl,_,⟨O2,c,rfl,hf',hturnX _ _ _ _ _ hI2 ht.1 (by omega) n2,n1,n2⟩,hk2.turn ht⟩
 have hJ1:J 0 (fun j=>O j ∨ j = w.heap.size+1) W1:=⟨O,rfl,hrd1,hturn 0 O w W1 w.heap.size hI0 ⟨hg1.os,hg1.tape,hg1.output,hg1.size,fun k hk _=>hg1.block k hk (by simp)⟩ (Nat.le_refl _) hOD,hOD,hOl,by omega⟩
 refine (each1_in hR hv hJ1 hwt hy1).mono ?_
 rintro e W2 ⟨⟨u,rfl⟩,(⟨O2,O3,rfl,hr,hI,h1,h2,hz⟩|⟨O2,O3,c,rfl,hf,hI,h1,h2⟩)⟩
 ·exact ⟨⟨_,rfl⟩,.inl ⟨hr,fun W3 ht hD=>hdone O3 W3 (hturn _ _ _ _ _ hI ht.1 (by omega) h2) hD h1⟩⟩
 ·exact ⟨⟨_,rfl⟩,.inr ⟨c,hf,fun W3 ht hD=>hexit c O3 W3 (hturnX _ _ _ _ _ hI ht.1 (by omega) h2) hD h1⟩⟩

structure BelowD (B:Nat) (w w':World):Prop extends Below B w w' where
 drawn:w.drawn <= w'.drawn
theorem BelowD.refl (B:Nat) (w:World):BelowD B w w:=⟨Below.refl B w,Nat.le_refl _⟩
theorem BelowD.trans {B:Nat} {a b c:World} (h:BelowD B a b) (k:BelowD B b c):BelowD B a c:=⟨h.toBelow.trans k.toBelow,Nat.le_trans h.drawn k.drawn⟩
theorem BelowD.mono {B B':Nat} {a b:World} (h:BelowD B a b) (hB:B' <= B):BelowD B' a b:=⟨h.toBelow.mono hB,h.drawn⟩
theorem BelowD.alloc {B:Nat} {a b:World} (h:BelowD B a b) (hB:B <= b.heap.size) (o:Obj):BelowD B a (b.alloc o):=⟨h.toBelow.alloc hB o,h.drawn⟩
theorem below_setRowD {B:Nat} {w w':World} {g:Nat} (h:BelowD B w w') (hg:B <= g) (cs:Array Value):BelowD B w (w'.setRow g cs):=⟨below_setRow h.toBelow hg cs,h.drawn⟩
theorem bs_cellD {w w':World} {a:Addr} {u:Value} (hb:BelowD w.heap.size w w') (h:w.cell? a = some u):w'.cell? a = some u:=bs_cellV hb.toBelow h
theorem VIn.blwD {w w':World} {v:V} {s:Value} (h:VIn w v s) (hb:BelowD w.heap.size w w'):VIn w' v s:=h.blw hb.toBelow

def OrdOnD (a:V):Prop:=∀ (w:World) (s:Value) (b:V) (t:Value),VIn w a s -> VIn w b t →
  Calls prog 103 #[.agg #[.int .i64 a.kind,.int .u64 a.num,.string a.text,s,.int .i64 a.elem],.agg #[.int .i64 b.kind,.int .u64 b.num,.string b.text,t,.int .i64 b.elem]] w fun e w'=>e = .returned (.int .i64 (ordV a b))∧BelowD w.heap.size w w'

theorem cmpfuncD_any (a:V) (ih:∀ x ∈ a.list,OrdOnD x) (w:World) (s:Value) (b:V) (t:Value) (h:VIn w a s) (hb:VIn w b t) :
  Calls prog 126 #[s,t,.func (.func 103) #[] #[]] w fun e w'=>e = .returned (.int .i64 (ordL a.list b.list))∧BelowD w.heap.size w w':=by
 obtain ⟨p,c,hs,h1,h2,h3⟩:=h.slice
 obtain ⟨q,d,ht,k1,k2,k3⟩:=hb.slice
 obtain ⟨N,hN⟩:∃ N,a.list.length = N:=⟨_,rfl⟩
 obtain ⟨M,hM⟩:∃ M,b.list.length = M:=⟨_,rfl⟩
 rw [hN] at hs h1 h3
 rw [hM] at ht k1 k3
 subst hs ht
 unfold maxLen at h2 k2
 obtain ⟨D,hD⟩:∃ D,ordL a.list b.list = D:=⟨_,rfl⟩
 rw [hD]
 have HD:=zH hD
 clear hD
 have HI:=zH ih
 have HN:=zH (And.intro hN hM)
 have HV:=zH (And.intro h hb)
 clear ih h hb hN hM
 go_enter func126,ntmps126
 go_wp2_with fail
 go_loopw [13] (fun v5 wr=>∃ k:Nat,k <= N∧v5 = .int .i64 k∧a.list.take k = b.list.take k∧BelowD w.heap.size w wr) (fun v5 _=>N - (intOf v5).toNat)
 case atStart=>exact ⟨0,Nat.zero_le _,rfl,by rw [List.take_zero,List.take_zero],BelowD.refl _ _⟩
 obtain ⟨k,hk',rfl,hsame,hbw⟩:=hrel
 have HR:=zH (And.intro hsame hbw)
 clear hsame hbw
 by_cases hkN:(k:Int) < N
 ·have ka:k < a.list.length:=by rw [HN.out.1];omega
  obtain ⟨b1,o1,rfl⟩:=h3 (by omega)
  obtain ⟨ta,hta,hia⟩:=(HV.out.1.blwD HR.out.2).part rfl ka
  obtain ⟨pa,ca,hsa,_⟩:=hia.slice
  subst hsa
  obtain ⟨c0,c1,c2,c3,c4⟩:=part_cells hta
  obtain ⟨ya,hya⟩:∃ ya,a.list[k] = ya:=⟨_,rfl⟩
  have HYA:=zH hya
  have HIK:=zH (HI.out _ (List.getElem_mem ka))
  rw [hya] at c0 c1 c2 c3 c4 hia HIK
  obtain ⟨na,hna⟩:∃ na,ya.list.length = na:=⟨_,rfl⟩
  rw [hna] at c3 hia
  have HP:=zH hia
  clear hta hia hya hna
  go_upto_region 4 with (refine stV (.tmp 8) (.tmp 17) rfl rfl rfl rfl rfl (zN wr _) rfl ?_)
  have hb_w1:BelowD wr.heap.size wr ((wr.alloc (.cells zR 25)).setRow wr.heap.size #[.int .i64 ya.kind,.int .u64 ya.num,.string ya.text,(.slice pa na ca),.int .i64 ya.elem]):=below_setRowD ((BelowD.refl _ _).alloc (Nat.le_refl _) _) (Nat.le_refl _) _
  have ox:=setRow_heap (wr.alloc (.cells zR 25)) wr.heap.size _ #[.int .i64 ya.kind,.int .u64 ya.num,.string ya.text,(.slice pa na ca),.int .i64 ya.elem] _ _ (zN wr _)
  change Code.wp _ _ _ _ ((wr.alloc (.cells zR 25)).setRow wr.heap.size #[.int .i64 ya.kind,.int .u64 ya.num,.string ya.text,(.slice pa na ca),.int .i64 ya.elem])
  generalize ((wr.alloc (.cells zR 25)).setRow wr.heap.size #[.int .i64 ya.kind,.int .u64 ya.num,.string ya.text,(.slice pa na ca),.int .i64 ya.elem]) = w1 at *
  obtain ⟨x,hx_x⟩:∃ x,wr.heap.size = x:=⟨_,rfl⟩
  rw [hx_x] at ox ⊢
  clear hx_x
  have HB1:=zH (HR.out.2.trans (hb_w1.mono HR.out.2.size))
  have HP1:=zH (HP.out.blwD hb_w1)
  have HOX:=zH ox
  clear hb_w1 ox c0 c1 c2 c3 c4
  by_cases hkM:(k:Int) < M
  ·have kb:k < b.list.length:=by rw [HN.out.2];omega
   obtain ⟨b2,o2,rfl⟩:=k3 (by omega)
   obtain ⟨tb,htb,hib⟩:=(HV.out.2.blwD HB1.out).part rfl kb
   obtain ⟨pb,cb,hsb,_⟩:=hib.slice
   subst hsb
   obtain ⟨d0,d1,d2,d3,d4⟩:=part_cells htb
   obtain ⟨yb,hyb⟩:∃ yb,b.list[k] = yb:=⟨_,rfl⟩
   have HYB:=zH hyb
   rw [hyb] at d0 d1 d2 d3 d4 hib
   obtain ⟨nb,hnb⟩:∃ nb,yb.list.length = nb:=⟨_,rfl⟩
   rw [hnb] at d3 hib
   have HPB:=zH hib
   clear htb hib hyb hnb
   go_upto_region 7 with (refine stV (.tmp 9) (.tmp 25) rfl rfl rfl rfl rfl (zN w1 _) rfl ?_)
   have hb_w2:BelowD w1.heap.size w1 ((w1.alloc (.cells zR 25)).setRow w1.heap.size #[.int .i64 yb.kind,.int .u64 yb.num,.string yb.text,(.slice pb nb cb),.int .i64 yb.elem]):=below_setRowD ((BelowD.refl _ _).alloc (Nat.le_refl _) _) (Nat.le_refl _) _
   have oy:=setRow_heap (w1.alloc (.cells zR 25)) w1.heap.size _ #[.int .i64 yb.kind,.int .u64 yb.num,.string yb.text,(.slice pb nb cb),.int .i64 yb.elem] _ _ (zN w1 _)
   change Code.wp _ _ _ _ ((w1.alloc (.cells zR 25)).setRow w1.heap.size #[.int .i64 yb.kind,.int .u64 yb.num,.string yb.text,(.slice pb nb cb),.int .i64 yb.elem])
   generalize ((w1.alloc (.cells zR 25)).setRow w1.heap.size #[.int .i64 yb.kind,.int .u64 yb.num,.string yb.text,(.slice pb nb cb),.int .i64 yb.elem]) = w2 at *
   obtain ⟨y,hx_y⟩:∃ x,w1.heap.size = x:=⟨_,rfl⟩
   rw [hx_y] at oy ⊢
   clear hx_y
   have hox:=(hb_w2.block x (Array.getElem?_eq_some_iff.1 HOX.out).1).trans HOX.out
   obtain ⟨x0,x1,x2,x3,x4⟩:=c5 hox
   obtain ⟨y0,y1,y2,y3,y4⟩:=c5 oy
   have HB2:=zH (HB1.out.trans (hb_w2.mono HB1.out.size))
   have hc:=HIK.out w2 _ yb _ (HP1.out.blwD hb_w2) (HPB.out.blwD hb_w2)
   have hat:=ordL_at HR.out.1 ka kb
   rw [HD.out,HYA.out,HYB.out] at hat
   have hz:ordV ya yb = 0 -> a.list.take (k+1) = b.list.take (k+1):=fun q=>take_next HR.out.1 ka kb (by rw [HYA.out,HYB.out];exact ordV_zero.1 q)
   obtain ⟨z,hzz⟩:∃ z,ordV ya yb = z:=⟨_,rfl⟩
   rw [hzz] at hc hat hz
   have HZ:=zH (And.intro hat hz)
   clear hb_w2 hox oy d0 d1 d2 d3 d4 hat hz hzz
   have HC:=zH hc
   clear hc
   go_wp2_with fail
   refine HC.out.mono ?_
   rintro e w3 ⟨rfl,hb3⟩
   have HB3:=zH (HB2.out.trans (hb3.mono HB2.out.size))
   clear hb3 x0 x1 x2 x3 x4 y0 y1 y2 y3 y4
   by_cases hz0:z = 0
   ·have hzt:(z == 0) = true:=by simpa using hz0
    have HZ2:=zH (HZ.out.2 hz0)
    subst hz0
    go_wp2_with fail
    go_roundw
    case rel=>exact ⟨k+1,by omega,by go_num,HZ2.out,HB3.out⟩
    case measure=>simp [intOf];omega
   ·have hzt:(z == 0) = false:=by simpa using hz0
    have HDZ:=zH (show D = z by rw [HZ.out.1];simp [thenZ,hz0])
    go_wp2_with fail
    go_ret
    exact ⟨by rw [HDZ.out];rfl,HB3.out⟩
  ·have HD1:=zH (show D = 1 by rw [← HD.out];exact ordL_longer HR.out.1 ka (by rw [HN.out.2];omega))
   go_wp2_with fail
   go_ret
   exact ⟨by rw [HD1.out];rfl,HB1.out⟩
 have hkN2:k = N:=by omega
 have hend:=ordL_end HR.out.1 (by rw [HN.out.1];omega) (by rw [HN.out.1];omega)
 rw [HD.out,HN.out.1,HN.out.2] at hend
 have hMN:¬ M < N:=by
  intro q
  have:=congrArg List.length HR.out.1
  rw [List.length_take,List.length_take,HN.out.1,HN.out.2] at this
  omega
 by_cases hlt:(N:Int) < M
 ·have HE:=zH (show D = -1 by rw [hend,if_pos (by omega)])
  clear hend hkN2 hMN
  go_wp2_with fail
  go_ret
  exact ⟨by rw [HE.out];rfl,HR.out.2⟩
 have HE:=zH (show D = 0 by rw [hend,if_neg (by omega),if_neg hMN])
 clear hend hkN2 hMN
 go_wp2_with fail
 go_ret
 exact ⟨by rw [HE.out];rfl,HR.out.2⟩
theorem orderD_on:∀ a:V,OrdOnD a:=by
 refine V.ind (fun a ih w s b t h hb=>?_)
 have hef:=cmpfuncD_any a ih
 obtain ⟨p,c,hs,h1,h2,h3⟩:=h.slice
 obtain ⟨q,d,ht,k1,k2,k3⟩:=hb.slice
 obtain ⟨N,hN⟩:∃ N,a.list.length = N:=⟨_,rfl⟩
 obtain ⟨M,hM⟩:∃ M,b.list.length = M:=⟨_,rfl⟩
 rw [hN] at hs h1 h3
 rw [hM] at ht k1 k3
 subst hs ht
 unfold maxLen at h2 k2
 obtain ⟨D,hD⟩:∃ D,ordV a b = D:=⟨_,rfl⟩
 rw [hD]
 have HD:=zH (show thenZ (sgnZ a.kind b.kind) (thenZ (sgnZ a.num b.num) (thenZ (cmpT a.text b.text) (thenZ (ordL a.list b.list) (sgnZ a.elem b.elem)))) = D by rw [← ordV_eq];exact hD)
 have HEF:=zH hef
 clear hD hef
 have HI:=zH ih
 have HN:=zH (And.intro hN hM)
 have HV:=zH (And.intro h hb)
 clear ih h hb hN hM
 go_enter func103,ntmps103
 go_upto_region 1 with fail
 have hb0:BelowD w.heap.size w ((w.alloc (.cells #[.int .i64 a.kind,.int .u64 a.num,.string a.text,(.slice p N c),.int .i64 a.elem] 25)).alloc (.cells #[.int .i64 b.kind,.int .u64 b.num,.string b.text,(.slice q M d),.int .i64 b.elem] 25)):=(((BelowD.refl _ _).alloc (Nat.le_refl _) _).alloc (by simp) _)
 have ox:((w.alloc (.cells #[.int .i64 a.kind,.int .u64 a.num,.string a.text,(.slice p N c),.int .i64 a.elem] 25)).alloc (.cells #[.int .i64 b.kind,.int .u64 b.num,.string b.text,(.slice q M d),.int .i64 b.elem] 25)).heap[w.heap.size]? = some (.cells #[.int .i64 a.kind,.int .u64 a.num,.string a.text,(.slice p N c),.int .i64 a.elem] 25 (0,0)):=(hao _ _ (by simp)).trans (zN _ _)
 have oy:((w.alloc (.cells #[.int .i64 a.kind,.int .u64 a.num,.string a.text,(.slice p N c),.int .i64 a.elem] 25)).alloc (.cells #[.int .i64 b.kind,.int .u64 b.num,.string b.text,(.slice q M d),.int .i64 b.elem] 25)).heap[w.heap.size+1]? = some (.cells #[.int .i64 b.kind,.int .u64 b.num,.string b.text,(.slice q M d),.int .i64 b.elem] 25 (0,0)):=by have:=zN (w.alloc (.cells #[.int .i64 a.kind,.int .u64 a.num,.string a.text,(.slice p N c),.int .i64 a.elem] 25)) (.cells #[.int .i64 b.kind,.int .u64 b.num,.string b.text,(.slice q M d),.int .i64 b.elem] 25);rwa [World.size_alloc] at this
 generalize ((w.alloc (.cells #[.int .i64 a.kind,.int .u64 a.num,.string a.text,(.slice p N c),.int .i64 a.elem] 25)).alloc (.cells #[.int .i64 b.kind,.int .u64 b.num,.string b.text,(.slice q M d),.int .i64 b.elem] 25)) = w0 at *
 obtain ⟨x,hx⟩:∃ x,w.heap.size = x:=⟨_,rfl⟩
 rw [hx] at ox oy ⊢
 obtain ⟨y,hy⟩:∃ y,x+1 = y:=⟨_,rfl⟩
 rw [hy] at oy ⊢
 have HB0:=zH hb0
 have HOx:=zH ox
 have HOy:=zH oy
 clear hb0 ox oy hx hy
 obtain ⟨x0,x1,x2,x3,x4⟩:=c5 HOx.out
 obtain ⟨y0,y1,y2,y3,y4⟩:=c5 HOy.out
 obtain ⟨z1,hz1⟩:∃ z,sgnZ a.kind b.kind = z:=⟨_,rfl⟩
 obtain ⟨z2,hz2⟩:∃ z,sgnZ a.num b.num = z:=⟨_,rfl⟩
 obtain ⟨z3,hz3⟩:∃ z,cmpT a.text b.text = z:=⟨_,rfl⟩
 obtain ⟨z4,hz4⟩:∃ z,ordL a.list b.list = z:=⟨_,rfl⟩
 obtain ⟨z5,hz5⟩:∃ z,sgnZ a.elem b.elem = z:=⟨_,rfl⟩
 have hk1:=fun W=>compare_int a.kind b.kind W
 have hk2:=fun W=>compare_uint64 a.num b.num W
 have hk3:=fun W=>strcmp_any a.text b.text W
 have hk5:=fun W=>compare_int a.elem b.elem W
 rw [hz1] at hk1
 rw [hz2] at hk2
 rw [hz3] at hk3
 rw [hz5] at hk5
 have HK:=zH (And.intro hk1 (And.intro hk2 (And.intro hk3 hk5)))
 have HD2:Hid (thenZ z1 (thenZ z2 (thenZ z3 (thenZ z4 z5))) = D):=zH (by rw [← hz1,← hz2,← hz3,← hz4,← hz5];exact HD.out)
 have HZ4:=zH hz4
 have HX:Hid (∀ W',BelowD w0.heap.size w0 W' -> W'.cell? ⟨x,0,none⟩ = some (.int .i64 a.kind)∧W'.cell? ⟨x,1,none⟩ = some (.int .u64 a.num)∧W'.cell? ⟨x,2,none⟩ = some (.string a.text)∧W'.cell? ⟨y,0,none⟩ = some (.int .i64 b.kind)∧W'.cell? ⟨y,1,none⟩ = some (.int .u64 b.num)∧W'.cell? ⟨y,2,none⟩ = some (.string b.text)):=zH (fun W' hB=>⟨bs_cellD hB x0,bs_cellD hB x1,bs_cellD hB x2,bs_cellD hB y0,bs_cellD hB y1,bs_cellD hB y2⟩)
 have HX4:Hid (∀ W',BelowD w0.heap.size w0 W' -> W'.cell? ⟨x,3,none⟩ = some (.slice p N c)∧W'.cell? ⟨x,4,none⟩ = some (.int .i64 a.elem)∧W'.cell? ⟨y,3,none⟩ = some (.slice q M d)∧W'.cell? ⟨y,4,none⟩ = some (.int .i64 b.elem)):=zH (fun W' hB=>⟨bs_cellD hB x3,bs_cellD hB x4,bs_cellD hB y3,bs_cellD hB y4⟩)
 clear hz1 hz2 hz3 hz4 hz5 hk1 hk2 hk3 hk5 x3 x4 y3 y4
 obtain ⟨u,hu⟩:∃ u,orL [z1,z2,z3] = u:=⟨_,rfl⟩
 have HU:=zH hu
 clear hu
 have hdr:BelowD w0.heap.size w0 w0.drew:=⟨⟨rfl,rfl,rfl,Nat.le_refl _,fun _ _=>rfl⟩,Nat.le_succ _⟩
 go_region_held3 (fun w'=>w'.cell? ⟨x,0,none⟩ = some (.int .i64 a.kind)∧w'.cell? ⟨x,1,none⟩ = some (.int .u64 a.num)∧w'.cell? ⟨x,2,none⟩ = some (.string a.text)∧w'.cell? ⟨y,0,none⟩ = some (.int .i64 b.kind)∧w'.cell? ⟨y,1,none⟩ = some (.int .u64 b.num)∧w'.cell? ⟨y,2,none⟩ = some (.string b.text)) (first|exact HX.out _ hdr|exact HX.out _ (hdr.alloc (Nat.le_refl _) _)|exact HX.out _ (by assumption))
  (first
   | (go_at_call 123;refine (HK.out.1 _).mono ?_;rintro e w' ⟨rfl,rfl⟩)
   | (go_at_call 124;refine (HK.out.2.1 _).mono ?_;rintro e w' ⟨rfl,rfl⟩)
   | (go_at_call 125;refine (HK.out.2.2.1 _).mono ?_;rintro e w' ⟨rfl,rfl⟩)
   | (go_at_call 122;refine (or_any _ _ 3 3 [z1,z2,z3] rfl (by omega) (by omega) (or_cells [z1,z2,z3])).mono ?_;rintro e w' ⟨rfl,rfl⟩;rw [HU.out]))
 have hd1:BelowD w0.heap.size w0 ((w0.alloc (.cells #[.int .i64 z1,.int .i64 z2,.int .i64 z3] 3)).drew):=(hdr.alloc (Nat.le_refl _) _)
 generalize ((w0.alloc (.cells #[.int .i64 z1,.int .i64 z2,.int .i64 z3] 3)).drew) = w1 at *
 have HB1:=zH hd1
 clear hd1 hdr x0 x1 x2 y0 y1 y2
 by_cases hu0:u = 0
 ·have hut:(u == 0) = true:=by simpa using hu0
  have hDu:thenZ z4 z5 = D:=by rw [← HD2.out];exact (orL_zero (by rw [HU.out];exact hu0)).symm
  obtain ⟨v,hv⟩:∃ v,orL [z4,z5] = v:=⟨_,rfl⟩
  have HV2:=zH hv
  have hvD:v = D:=by rw [← hDu,← hv];simp only [orL,thenZ];by_cases h:z5 = 0 <;> simp [h]
  subst hvD
  subst hu0
  obtain ⟨e3,e4,g3,g4⟩:=HX4.out w1 HB1.out
  clear hDu hv
  go_upto_region 4 with fail
  have hdr:BelowD w0.heap.size w0 w1.drew:=⟨⟨HB1.out.os,HB1.out.tape,HB1.out.output,HB1.out.size,HB1.out.block⟩,Nat.le_succ_of_le HB1.out.drawn⟩
  have hc:=HEF.out w1.drew _ b _ (HV.out.1.blwD (HB0.out.trans (hdr.mono HB0.out.size))) (HV.out.2.blwD (HB0.out.trans (hdr.mono HB0.out.size)))
  rw [HZ4.out] at hc
  have HC:=zH hc
  clear hc
  go_region_held3 (fun w'=>w'.cell? ⟨x,3,none⟩ = some (.slice p N c)∧w'.cell? ⟨x,4,none⟩ = some (.int .i64 a.elem)∧w'.cell? ⟨y,3,none⟩ = some (.slice q M d)∧w'.cell? ⟨y,4,none⟩ = some (.int .i64 b.elem)) (first|exact HX4.out _ hdr|exact HX4.out _ (by assumption)|exact HX4.out _ (hw2.alloc hw2.size _))
   (first
    | (go_at_call 126;refine HC.out.mono ?_;rintro e w2 ⟨rfl,hb2⟩;have hw2:BelowD w0.heap.size w0 w2:=hdr.trans (hb2.mono hdr.size);clear hb2)
    | (go_at_call 123;refine (HK.out.2.2.2 _).mono ?_;rintro e w' ⟨rfl,rfl⟩)
    | (go_at_call 122;refine (or_any _ _ 2 2 [z4,z5] rfl (by omega) (by omega) (or_cells' [z4,z5])).mono ?_;rintro e w' ⟨rfl,rfl⟩;rw [HV2.out]))
  go_wp2_with fail
  go_ret
  exact ⟨rfl,HB0.out.trans ((hw2.alloc hw2.size _).mono HB0.out.size)⟩
 have hut:(u == 0) = false:=by simpa using hu0
 have HDu:=zH (show D = u by rw [← HD2.out,← HU.out];exact orL_pos (by rw [HU.out];exact hu0))
 go_wp2_with fail
 go_ret
 exact ⟨by rw [HDu.out];rfl,HB0.out.trans (HB1.out.mono HB0.out.size)⟩
theorem grow_of_below {W w':World} (h:BelowD W.heap.size W w'):∃ q os',w' = Go.Sort.grow (W.drewN q) os':=by
 refine ⟨w'.drawn - W.drawn,w'.heap.extract W.heap.size w'.heap.size,?_⟩
 obtain ⟨⟨h1,h2,h3,h4,h5⟩,h6⟩:=h
 obtain ⟨hp,tp,dr,o,out⟩:=w'
 simp only at h1 h2 h3 h4 h5 h6 ⊢
 subst h1 h2 h3
 simp only [Go.Sort.grow,World.drewN,World.mk.injEq,and_true,true_and]
 refine ⟨?_,by omega⟩
 apply Array.ext_getElem?
 intro i
 by_cases hi:i < W.heap.size
 ·rw [h5 i hi,Array.getElem?_append_left hi]
 ·rw [Array.getElem?_append_right (by omega),Array.getElem?_extract]
  by_cases hi2:i < hp.size
  ·rw [if_pos (by omega)];congr 1;omega
  ·rw [if_neg (by omega),Array.getElem?_eq_none (by omega)]

end Go.Proofs.YtnnnfhobbnjmfaaGreatDoor
