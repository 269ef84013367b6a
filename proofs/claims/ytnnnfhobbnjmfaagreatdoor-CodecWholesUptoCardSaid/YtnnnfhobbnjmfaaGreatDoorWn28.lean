/-
  Lemmas on the codec. Conditions: as each says.
-/
import Derived.Test.YtnnnfhobbnjmfaaGreatDoorWn27
namespace Go.Proofs.YtnnnfhobbnjmfaaGreatDoor
open Go.RowKit Go.Proofs.Tryz
set_option linter.all false
set_option maxHeartbeats 40000000
set_option maxRecDepth 20000

attribute [local go_sem] Oper.semAt_some

theorem alloc_at (w:World) (o:Obj) (n:Nat) (h:w.heap.size = n):(w.alloc o).heap[n]? = some o∧(w.alloc o).heap.size = n+1:=by subst h;exact ⟨zN _ _,by simp⟩
theorem five_allocs (w:World) (a b c d e:Obj):∀ W,W = ((((w.alloc a).alloc b).alloc c).alloc d).alloc e -> W.heap[w.heap.size]? = some a∧W.heap[w.heap.size+1]? = some b∧W.heap[w.heap.size+2]? = some c∧W.heap[w.heap.size+3]? = some d∧W.heap[w.heap.size+4]? = some e∧W.heap.size = w.heap.size+5∧Below w.heap.size w W:=by
 rintro W rfl
 obtain ⟨a1,a2⟩:=alloc_at w a _ rfl
 obtain ⟨b1,b2⟩:=alloc_at _ b _ a2
 obtain ⟨c1,c2⟩:=alloc_at _ c _ b2
 obtain ⟨d1,d2⟩:=alloc_at _ d _ c2
 obtain ⟨e1,e2⟩:=alloc_at _ e _ d2
 have o5:=fun j (hj:j < w.heap.size+4)=>hao ((((w.alloc a).alloc b).alloc c).alloc d) e (r:=j) (by rw [d2];exact hj)
 have o4:=fun j (hj:j < w.heap.size+3)=>hao (((w.alloc a).alloc b).alloc c) d (r:=j) (by rw [c2];exact hj)
 have o3:=fun j (hj:j < w.heap.size+2)=>hao ((w.alloc a).alloc b) c (r:=j) (by rw [b2];exact hj)
 have o2:=fun j (hj:j < w.heap.size+1)=>hao (w.alloc a) b (r:=j) (by rw [a2];exact hj)
 refine ⟨?_,?_,?_,?_,e1,e2,?_⟩
 ·rw [o5 _ (by omega),o4 _ (by omega),o3 _ (by omega),o2 _ (by omega)];exact a1
 ·rw [o5 _ (by omega),o4 _ (by omega),o3 _ (by omega)];exact b1
 ·rw [o5 _ (by omega),o4 _ (by omega)];exact c1
 ·rw [o5 _ (by omega)];exact d1
 exact (((((Below.refl _ _).alloc (Nat.le_refl _) _).alloc (by rw [a2];omega) _).alloc (by rw [b2];omega) _).alloc (by rw [c2];omega) _).alloc (by rw [d2];omega) _
def WTo (w:World) (r bv:Nat) (p:Option Addr) (n cp at_ en:Nat) (sz own K el:Int) (x:Except Er (List V × Nat)) (e:Ending) (w':World):Prop :=
 match x with
 | .error y=>e = faultE (erP n sz own at_ y) (erC sz y)∧KeepF (fun g=>g = r ∨ g = bv) w w'
 | .ok (l,k)=>e = .returned (.tuple #[])∧KeepF (fun g=>g = r ∨ g = bv) w w'∧(∃ s F,VO w' w.heap.size (V.mk K 0 ⟨#[]⟩ l el) s F∧w'.heap[bv]? = some (.cells #[.int .i64 K,.int .u64 0,.string ⟨#[]⟩,s,.int .i64 el] 25 (0,0)))∧w'.heap[r]? = some (.cells #[.slice p n cp,.int .i64 (at_+k:Nat),.int .i64 (en:Nat),.int .i64 sz] 66 (0,0))
def spanV (K el:Int) (x:Except Er (List V × Nat)):Res:=match x with
 | .error y=>.error y
 | .ok (l,k)=>.ok (.mk K 0 ⟨#[]⟩ l el,k)
def dupV (x:Except Er (List V × Nat)):Res:=match x with
 | .error y=>.error y
 | .ok _=>.error (.own (ec 34))
theorem mrg_span_list (wd:Nat) (K d:Int) (w:World) (r:Nat) (p:Option Addr) (n cp at_ en:Nat) (sz own:Int) (B:List UInt8) (h:RdIn w r p n cp at_ en sz B):(∀ (hk:(K == 22) = false) (x:Except Er (List V × Nat)) (hx:∀ W b,r < b -> w.heap.size <= b -> RdIn W r p n cp at_ en sz B -> W.cell? ⟨b,0,none⟩ = some (.int .i64 K) -> W.cell? ⟨b+1,0,none⟩ = some (.int .i64 (wd:Nat)) -> W.cell? ⟨b+2,0,none⟩ = some (.int .i64 own) -> W.cell? ⟨b+3,0,none⟩ = some (.int .i64 d) -> W.heap[b+5]? = some (.cells #[.int .i64 K,.int .u64 0,.string ⟨#[]⟩,.slice none 0 0,.int .i64 0] 25 (0,0)) →
   Calls prog 107 #[.pointer (some ⟨r,0,none⟩),.int .i64 (wd:Nat),.int .i64 (wd:Nat),.func (.func 108) #[] #[.pointer (some ⟨b+1,0,none⟩),.pointer (some ⟨b,0,none⟩),.pointer (some ⟨b+2,0,none⟩),.pointer (some ⟨b+5,0,none⟩),.pointer (some ⟨b+3,0,none⟩)]] W fun e w'=>WTo W r (b+5) p n cp at_ en sz own K 0 x e w'),Calls prog 82 #[.pointer (some ⟨r,0,none⟩),.int .i64 K,.int .i64 (wd:Nat),.int .i64 own,.int .i64 d] w fun e w'=>RdTo w r p n cp at_ en sz own (spanV K 0 x) e w') ∧
  (∀ (hk:K = 22) (x:Except Er (List V × Nat)) (hx:∀ W b,r < b -> w.heap.size <= b -> RdIn W r p n cp at_ en sz B -> W.cell? ⟨b,0,none⟩ = some (.int .i64 K) -> W.cell? ⟨b+1,0,none⟩ = some (.int .i64 (wd:Nat)) -> W.cell? ⟨b+2,0,none⟩ = some (.int .i64 own) -> W.cell? ⟨b+3,0,none⟩ = some (.int .i64 d) -> W.heap[b+5]? = some (.cells #[.int .i64 K,.int .u64 0,.string ⟨#[]⟩,.slice none 0 0,.int .i64 0] 25 (0,0)) →
   Calls prog 107 #[.pointer (some ⟨r,0,none⟩),.int .i64 (wd:Nat),.int .i64 (wd:Nat),.func (.func 108) #[] #[.pointer (some ⟨b+1,0,none⟩),.pointer (some ⟨b,0,none⟩),.pointer (some ⟨b+2,0,none⟩),.pointer (some ⟨b+5,0,none⟩),.pointer (some ⟨b+3,0,none⟩)]] W fun e w'=>WTo W r (b+5) p n cp at_ en sz own K 0 x e w') (hT:∀ l k,x = .ok (l,k) -> ∀ W Bs s F,VO W Bs (V.mk 22 0 ⟨#[]⟩ l 0) s F -> Tabs W -> Calls prog 110 #[s] W fun e w'=>e = .returned (.bool false)∧Below W.heap.size W w'),Calls prog 82 #[.pointer (some ⟨r,0,none⟩),.int .i64 K,.int .i64 (wd:Nat),.int .i64 own,.int .i64 d] w fun e w'=>RdTo w r p n cp at_ en sz own (spanV K 0 x) e w') ∧
  (∀ (hk:K = 22) (x:Except Er (List V × Nat)) (hx:∀ W b,r < b -> w.heap.size <= b -> RdIn W r p n cp at_ en sz B -> W.cell? ⟨b,0,none⟩ = some (.int .i64 K) -> W.cell? ⟨b+1,0,none⟩ = some (.int .i64 (wd:Nat)) -> W.cell? ⟨b+2,0,none⟩ = some (.int .i64 own) -> W.cell? ⟨b+3,0,none⟩ = some (.int .i64 d) -> W.heap[b+5]? = some (.cells #[.int .i64 K,.int .u64 0,.string ⟨#[]⟩,.slice none 0 0,.int .i64 0] 25 (0,0)) →
   Calls prog 107 #[.pointer (some ⟨r,0,none⟩),.int .i64 (wd:Nat),.int .i64 (wd:Nat),.func (.func 108) #[] #[.pointer (some ⟨b+1,0,none⟩),.pointer (some ⟨b,0,none⟩),.pointer (some ⟨b+2,0,none⟩),.pointer (some ⟨b+5,0,none⟩),.pointer (some ⟨b+3,0,none⟩)]] W fun e w'=>WTo W r (b+5) p n cp at_ en sz own K 0 x e w') (hT:∀ l k,x = .ok (l,k) -> ∀ W Bs s F,VO W Bs (V.mk 22 0 ⟨#[]⟩ l 0) s F -> Tabs W -> Calls prog 110 #[s] W fun e w'=>e = .returned (.bool true)∧Below W.heap.size W w'),Calls prog 82 #[.pointer (some ⟨r,0,none⟩),.int .i64 K,.int .i64 (wd:Nat),.int .i64 own,.int .i64 d] w fun e w'=>RdTo w r p n cp at_ en sz own (dupV x) e w'):=by
 refine ⟨?_,?_,?_⟩
 intro hk x hx
 rotate_left
 intro hk x hx hT
 subst hk
 have HTT:=zH hT
 clear hT
 rotate_left
 intro hk x hx hT
 subst hk
 have HTT:=zH hT
 clear hT
 rotate_left
 all_goals
  have hmf:∀ (fn:Fn) (first cap:Array Value) (w:World),(Instr.makeFunc fn first cap).run prog w = .ok (.func fn first cap) w:=fun _ _ _ _=>rfl
  have HX:=zH hx
  have HR:=zH h
  clear hx h
  go_enter func82,ntmps82
  go_upto_region 1 with fail
 obtain ⟨W0,hW0⟩:∃ W0,W0 = (((((w.alloc (.cells #[.int .i64 K] 3)).alloc (.cells #[.int .i64 (wd:Nat)] 3)).alloc (.cells #[.int .i64 own] 3)).alloc (.cells #[.int .i64 d] 3)).alloc (.cells zR 25)):=⟨_,rfl⟩
 rotate_left
 obtain ⟨W0,hW0⟩:∃ W0,W0 = (((((w.alloc (.cells #[.int .i64 22] 3)).alloc (.cells #[.int .i64 (wd:Nat)] 3)).alloc (.cells #[.int .i64 own] 3)).alloc (.cells #[.int .i64 d] 3)).alloc (.cells zR 25)):=⟨_,rfl⟩
 rotate_left
 obtain ⟨W0,hW0⟩:∃ W0,W0 = (((((w.alloc (.cells #[.int .i64 22] 3)).alloc (.cells #[.int .i64 (wd:Nat)] 3)).alloc (.cells #[.int .i64 own] 3)).alloc (.cells #[.int .i64 d] 3)).alloc (.cells zR 25)):=⟨_,rfl⟩
 rotate_left
 all_goals
  have h5:=five_allocs w _ _ _ _ _ W0 hW0
  rw [← hW0]
  clear hW0
  obtain ⟨b,hb⟩:∃ b,w.heap.size = b:=⟨_,rfl⟩
  rw [hb] at h5
  simp only [hb,Nat.add_assoc,Nat.reduceAdd]
  obtain ⟨f0,f1,f2,f3,f4,fz,hb0⟩:=h5
 have x0:W0.cell? ⟨b,0,none⟩ = some (.int .i64 K):=(cell_of_row _ _ 0 _ _ _ f0).trans rfl
 rotate_left
 have x0:W0.cell? ⟨b,0,none⟩ = some (.int .i64 22):=(cell_of_row _ _ 0 _ _ _ f0).trans rfl
 rotate_left
 have x0:W0.cell? ⟨b,0,none⟩ = some (.int .i64 22):=(cell_of_row _ _ 0 _ _ _ f0).trans rfl
 rotate_left
 all_goals
  have x1:W0.cell? ⟨b+1,0,none⟩ = some (.int .i64 (wd:Nat)):=(cell_of_row _ _ 0 _ _ _ f1).trans rfl
  have x2:W0.cell? ⟨b+2,0,none⟩ = some (.int .i64 own):=(cell_of_row _ _ 0 _ _ _ f2).trans rfl
  have x3:W0.cell? ⟨b+3,0,none⟩ = some (.int .i64 d):=(cell_of_row _ _ 0 _ _ _ f3).trans rfl
  have hb0w:Below w.heap.size w W0:=by rw [hb];exact hb0
  have H0:=zH (And.intro hb (And.intro hb0w (And.intro fz f4)))
  have HC0:=zH (And.intro x0 (And.intro x1 (And.intro x2 x3)))
  clear f0 f1 f2 f3 f4 fz hb0 hb0w hb x1 x2 x3
  go_upto_region 2 with (refine stV (.tmp 11) (.tmp 13) rfl rfl rfl rfl rfl (zN _ _) rfl ?_)
  refine layW W0 ?_
  intro w1 hb1 ov
  have hz5:=H0.out.2.2.1
  rw [hz5] at ov ⊢
  have y0:=bs_cellV hb1 HC0.out.1
  have y1:=bs_cellV hb1 HC0.out.2.1
  have y2:=bs_cellV hb1 HC0.out.2.2.1
  have y3:=bs_cellV hb1 HC0.out.2.2.2
  have H1:=zH (And.intro (H0.out.2.1.trans (hb1.mono H0.out.2.1.size)) (And.intro ov ((hb1.block (b+4) (by omega)).trans H0.out.2.2.2)))
  have HR1:=zH (HR.out.blw H1.out.1)
  have HC1:=zH (And.intro y0 (And.intro y1 (And.intro y2 y3)))
  clear hb1 ov hz5 x0 y0 y2 y3
  go_wp2_with fail
  refine (HX.out w1 b (by have:=HR.out.lt;have:=H0.out.1;omega) (by have:=H0.out.1;omega) HR1.out HC1.out.1 HC1.out.2.1 HC1.out.2.2.1 HC1.out.2.2.2 H1.out.2.1).mono ?_
  rintro e w2 hto
  rcases x with er|⟨l,k⟩
  ·obtain ⟨rfl,hk2⟩:=hto
   have hkk:=(KeepF.of_below (F:=fun g=>g = r) H1.out.1).on (H:=fun g=>g = r ∨ g = b+5) hk2 (fun j hj h=>by rcases h with h|h;exact h;exact absurd hj (by have:=H0.out.1;omega))
   exact ⟨rfl,rfl,hkk⟩
  obtain ⟨rfl,hk2,⟨sl,F,hvo,hbx⟩,hrow⟩:=hto
  obtain ⟨ps,cs,hss,_,_⟩:=hvo.slice
 rw [show (V.mk K 0 ⟨#[]⟩ l 0).list.length = l.length from rfl] at hss
 rotate_left
 rw [show (V.mk 22 0 ⟨#[]⟩ l 0).list.length = l.length from rfl] at hss
 rotate_left
 rw [show (V.mk 22 0 ⟨#[]⟩ l 0).list.length = l.length from rfl] at hss
 rotate_left
 all_goals
  subst hss
  have hlt:=HR.out.lt
  have H2:=zH (And.intro hvo (And.intro hbx (And.intro hrow hk2)))
 have z0:w2.cell? ⟨b,0,none⟩ = some (.int .i64 K):=hk2.cell HC1.out.1 (by have:=H0.out.1;omega)
 rotate_left
 have z0:w2.cell? ⟨b,0,none⟩ = some (.int .i64 22):=hk2.cell HC1.out.1 (by have:=H0.out.1;omega)
 rotate_left
 have z0:w2.cell? ⟨b,0,none⟩ = some (.int .i64 22):=hk2.cell HC1.out.1 (by have:=H0.out.1;omega)
 rotate_left
 all_goals
  have z2:w2.cell? ⟨b+2,0,none⟩ = some (.int .i64 own):=hk2.cell HC1.out.2.2.1 (by have:=H0.out.1;omega)
  have oy2:=(hk2.block (b+4) (gl H1.out.2.2) (by have:=H0.out.1;omega)).trans H1.out.2.2
  have HO2:=zH oy2
  clear hvo hbx hrow hk2 oy2 y1
 ·have HY3:=HO2
  have hb3:=H2.out.2.1
  have H3:=zH (And.intro H2.out.1 (And.intro H2.out.2.2.2 H2.out.2.2.1))
  clear H2
  generalize w2 = w3 at *
  clear z2
  obtain ⟨v0,v1,v2,v3,v4⟩:=c5 hb3
  clear hb3
  go_wp2_with (refine stV (.tmp 10) (.tmp 28) rfl rfl rfl rfl rfl HY3.out rfl ?_)
  have hh:=setRow_heap w3 (b+4) _ #[.int .i64 K,.int .u64 0,.string ⟨#[]⟩,(.slice ps l.length cs),.int .i64 0] _ _ HY3.out
  refine bodyPost_ret (results_cell_row (p:=10) (ty:=25) (by kernel_rfl) _ _ (b+4) 25 #[.int .i64 K,.int .u64 0,.string ⟨#[]⟩,(.slice ps l.length cs),.int .i64 0] (0,0) _ rfl hh underlying25 rfl (by as_aux_lemma=>kernel_rfl)) rfl ?_
  show RdTo w r _ n cp at_ en sz own (spanV K 0 (.ok (l,k))) _ _
  have hkk:=(KeepF.of_below (F:=fun g=>g = r) H1.out.1).on (H:=fun g=>g = r ∨ g = b+5) H3.out.2.1 (fun j hj h=>by rcases h with h|h;exact h;exact absurd hj (by have:=H0.out.1;omega))
  have q1:=H0.out.1
  have q2:=(gl H1.out.2.1)
  have q3:=H1.out.1.size
  exact ⟨_,F,rfl,(H3.out.1.mono q3).keep (fun j hj=>setRow_other w3 (b+4) j _ (fun e=>by have:=(H3.out.1.lt j hj).1;omega)),⟨⟨hkk.os,hkk.tape,hkk.output,Nat.le_trans hkk.size (by simp),fun j hj hne=>(setRow_other w3 (b+4) j _ (fun e=>by omega)).trans (hkk.block j hj hne)⟩,(setRow_other w3 (b+4) r _ (fun e=>by omega)).trans H3.out.2.2⟩⟩
 ·have hc:=HTT.out l k rfl w2 _ _ F H2.out.1 ((HR1.out.src.keep (H2.out.2.2.2.wide (fun j h=>by have:=HR.out.lt;have:=H0.out.1;omega))).tabs)
  have HC:=zH hc
  have c3:w2.cell? ⟨b+5,3,none⟩ = some (.slice ps l.length cs):=(cell_of_row _ _ 3 _ _ _ H2.out.2.1).trans rfl
  clear hc HTT
  go_wp2_with fail
  refine HC.out.mono ?_
  rintro e w3 ⟨rfl,hb23⟩
  have HY3:=zH ((hb23.block (b+4) (gl HO2.out)).trans HO2.out)
  have hb3:=(hb23.block (b+5) (gl H2.out.2.1)).trans H2.out.2.1
  have H3:=zH (And.intro (H2.out.1.blw hb23) (And.intro (H2.out.2.2.2.trans (KeepF.of_below hb23)) ((hb23.block r (gl H2.out.2.2.1)).trans H2.out.2.2.1)))
  clear HO2 HC H2 hb23 z0 z2 c3
  obtain ⟨v0,v1,v2,v3,v4⟩:=c5 hb3
  clear hb3
  go_wp2_with (refine stV (.tmp 10) (.tmp 28) rfl rfl rfl rfl rfl HY3.out rfl ?_)
  have hh:=setRow_heap w3 (b+4) _ #[.int .i64 22,.int .u64 0,.string ⟨#[]⟩,(.slice ps l.length cs),.int .i64 0] _ _ HY3.out
  refine bodyPost_ret (results_cell_row (p:=10) (ty:=25) (by kernel_rfl) _ _ (b+4) 25 #[.int .i64 22,.int .u64 0,.string ⟨#[]⟩,(.slice ps l.length cs),.int .i64 0] (0,0) _ rfl hh underlying25 rfl (by as_aux_lemma=>kernel_rfl)) rfl ?_
  show RdTo w r _ n cp at_ en sz own (spanV 22 0 (.ok (l,k))) _ _
  have hkk:=(KeepF.of_below (F:=fun g=>g = r) H1.out.1).on (H:=fun g=>g = r ∨ g = b+5) H3.out.2.1 (fun j hj h=>by rcases h with h|h;exact h;exact absurd hj (by have:=H0.out.1;omega))
  have q1:=H0.out.1
  have q2:=(gl H1.out.2.1)
  have q3:=H1.out.1.size
  exact ⟨_,F,rfl,(H3.out.1.mono q3).keep (fun j hj=>setRow_other w3 (b+4) j _ (fun e=>by have:=(H3.out.1.lt j hj).1;omega)),⟨⟨hkk.os,hkk.tape,hkk.output,Nat.le_trans hkk.size (by simp),fun j hj hne=>(setRow_other w3 (b+4) j _ (fun e=>by omega)).trans (hkk.block j hj hne)⟩,(setRow_other w3 (b+4) r _ (fun e=>by omega)).trans H3.out.2.2⟩⟩
 have hc:=HTT.out l k rfl w2 _ _ F H2.out.1 ((HR1.out.src.keep (H2.out.2.2.2.wide (fun j h=>by have:=HR.out.lt;have:=H0.out.1;omega))).tabs)
 have HC:=zH hc
 have c3:w2.cell? ⟨b+5,3,none⟩ = some (.slice ps l.length cs):=(cell_of_row _ _ 3 _ _ _ H2.out.2.1).trans rfl
 clear hc HTT
 go_wp2_with fail
 refine HC.out.mono ?_
 rintro e w3 ⟨rfl,hb23⟩
 have z23:=bs_cellV hb23 z2
 have HB23:=zH hb23
 clear hb23
 go_wp2_with fail
 refine (wrong_any _ _ _).mono ?_
 rintro e w4 ⟨rfl,rfl⟩
 have hkk:=(KeepF.of_below (F:=fun g=>g = r) H1.out.1).on (H:=fun g=>g = r ∨ g = b+5) (H2.out.2.2.2.trans (KeepF.of_below HB23.out)) (fun j hj h=>by rcases h with h|h;exact h;exact absurd hj (by have:=H0.out.1;omega))
 exact ⟨rfl,rfl,hkk⟩
def span_list:=fun wd K d w r p n cp at_ en sz own B h=>(mrg_span_list wd K d w r p n cp at_ en sz own B h).1
def span_map:=fun wd K d w r p n cp at_ en sz own B h=>(mrg_span_list wd K d w r p n cp at_ en sz own B h).2.1
def span_twice:=fun wd K d w r p n cp at_ en sz own B h=>(mrg_span_list wd K d w r p n cp at_ en sz own B h).2.2
end Go.Proofs.YtnnnfhobbnjmfaaGreatDoor
