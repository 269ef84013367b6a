/-
  Lemmas on the codec. Conditions: as each says.
-/
import Derived.Shelf.SlSortCmp.WholeK
import Derived.Test.YtnnnfhobbnjmfaaGreatDoorProg
import Derived.Test.YtnnnfhobbnjmfaaGreatDoorWn05
import Derived.OwnWalk
namespace Go.Proofs
open Go.Shelf
def Tryz.sort_ren:Go.Shelf.Ren:=⟨fun|6=>102|15=>121|14=>120|28=>144|29=>145|20=>136|21=>137|22=>138|23=>139|24=>140|25=>141|26=>142|27=>143|46=>150|47=>151|48=>152|49=>153|50=>154|57=>158|n=>n,fun|22=>23|24=>25|25=>117|3=>3|39=>119|0=>0|53=>150|55=>22|4=>4|46=>143|45=>142|50=>147|5=>5|9=>9|66=>157|70=>161|76=>165|77=>166|n=>n,fun|n=>n⟩
theorem Tryz.sort:Go.Proofs.SlLaysF0.n6 Tryz.prog Tryz.sort_ren:={
 mixed:=by kernel_rfl
 f6:=⟨Tryz.f102.name,by decide,Tryz.func102.trans (congrArg some (by kernel_rfl))⟩
 f14:=⟨Tryz.f120.name,by decide,Tryz.func120.trans (congrArg some (by kernel_rfl))⟩
 f15:=Tryz.func121.trans (congrArg some (by kernel_rfl))
 f20:=⟨Tryz.f136.name,by decide,Tryz.func136.trans (congrArg some (by kernel_rfl))⟩
 f21:=⟨Tryz.f137.name,by decide,Tryz.func137.trans (congrArg some (by kernel_rfl))⟩
 f22:=⟨Tryz.f138.name,by decide,Tryz.func138.trans (congrArg some (by kernel_rfl))⟩
 f23:=⟨Tryz.f139.name,by decide,Tryz.func139.trans (congrArg some (by kernel_rfl))⟩
 f24:=⟨Tryz.f140.name,by decide,Tryz.func140.trans (congrArg some (by kernel_rfl))⟩
 f25:=⟨Tryz.f141.name,by decide,Tryz.func141.trans (congrArg some (by kernel_rfl))⟩
 f26:=⟨Tryz.f142.name,by decide,Tryz.func142.trans (congrArg some (by kernel_rfl))⟩
 f27:=⟨Tryz.f143.name,by decide,Tryz.func143.trans (congrArg some (by kernel_rfl))⟩
 f28:=Tryz.func144.trans (congrArg some (by kernel_rfl))
 f29:=Tryz.func145.trans (congrArg some (by kernel_rfl))
 f46:=⟨Tryz.f150.name,by decide,Tryz.func150.trans (congrArg some (by kernel_rfl))⟩
 f47:=Tryz.func151.trans (congrArg some (by kernel_rfl))
 f48:=Tryz.func152.trans (congrArg some (by kernel_rfl))
 f49:=⟨Tryz.f153.name,by decide,Tryz.func153.trans (congrArg some (by kernel_rfl))⟩
 f50:=⟨Tryz.f154.name,by decide,Tryz.func154.trans (congrArg some (by kernel_rfl))⟩
 f57:=⟨Tryz.f158.name,by decide,Tryz.func158.trans (congrArg some (by kernel_rfl))⟩
 t0:=Tryz.underlying0
 a0:=Tryz.isAgg0
 z0:=Tryz.sizeOf0
 v0:=Tryz.zeroValue0
 t3:=Tryz.underlying3
 a3:=Tryz.isAgg3
 z3:=Tryz.sizeOf3
 v3:=Tryz.zeroValue3
 t4:=Tryz.underlying4
 a4:=Tryz.isAgg4
 z4:=Tryz.sizeOf4
 v4:=Tryz.zeroValue4
 t5:=Tryz.underlying5
 a5:=Tryz.isAgg5
 z5:=Tryz.sizeOf5
 v5:=Tryz.zeroValue5
 t9:=Tryz.underlying9
 a9:=Tryz.isAgg9
 z9:=Tryz.sizeOf9
 v9:=Tryz.zeroValue9
 t22:=Tryz.underlying23
 a22:=Tryz.isAgg23
 z22:=Tryz.sizeOf23
 v22:=Tryz.zeroValue23
 t25:=Tryz.underlying117
 a25:=Tryz.isAgg117
 z25:=Tryz.sizeOf117
 v25:=Tryz.zeroValue117
 t39:=Tryz.underlying119
 a39:=Tryz.isAgg119
 z39:=Tryz.sizeOf119
 v39:=Tryz.zeroValue119
 t45:=Tryz.underlying142
 a45:=Tryz.isAgg142
 z45:=Tryz.sizeOf142
 v45:=Tryz.zeroValue142
 t46:=Tryz.underlying143
 a46:=Tryz.isAgg143
 z46:=Tryz.sizeOf143
 v46:=Tryz.zeroValue143
 t50:=Tryz.underlying147
 a50:=Tryz.isAgg147
 z50:=Tryz.sizeOf147
 v50:=Tryz.zeroValue147
 t53:=Tryz.underlying150
 a53:=Tryz.isAgg150
 z53:=Tryz.sizeOf150
 v53:=Tryz.zeroValue150
 t55:=Tryz.underlying22
 a55:=Tryz.isAgg22
 z55:=Tryz.sizeOf22
 v55:=Tryz.zeroValue22
 t66:=Tryz.underlying157
 a66:=Tryz.isAgg157
 z66:=Tryz.sizeOf157
 v66:=Tryz.zeroValue157
 t70:=Tryz.underlying161
 a70:=Tryz.isAgg161
 z70:=Tryz.sizeOf161
 v70:=Tryz.zeroValue161
 t76:=Tryz.underlying165
 a76:=Tryz.isAgg165
 z76:=Tryz.sizeOf165
 v76:=Tryz.zeroValue165
 t77:=Tryz.underlying166
 a77:=Tryz.isAgg166
 z77:=Tryz.sizeOf166
 v77:=Tryz.zeroValue166 }
end Go.Proofs

namespace Go.Proofs.YtnnnfhobbnjmfaaGreatDoor
open Go.RowKit Go.Proofs.Tryz
set_option linter.all false
set_option maxHeartbeats 40000000
set_option maxRecDepth 20000

open Go.Sort
def evens:List V -> List V
 | []=>[]
 | [a]=>[a]
 | a :: _ :: r=>a :: evens r
theorem evens_len:∀ l:List V,(evens l).length = (l.length+1) / 2
 | []=>rfl
 | [_]=>by simp [evens]
 | a :: b :: r=>by rw [evens,List.length_cons,evens_len r,List.length_cons,List.length_cons];omega
theorem evens_get:∀ (l:List V) (i:Nat) (h:2 * i < l.length) (h2:i < (evens l).length),(evens l)[i] = l[2 * i]
 | [],i,h,_=>by simp at h
 | [_],i,h,_=>by
  have:i = 0:=by simp at h;omega
  subst this
  rfl
 | a :: b :: r,0,h,_=>rfl
 | a :: b :: r,i+1,h,h2=>by
  have h3:2 * i < r.length:=by simp only [List.length_cons] at h;omega
  have h4:i < (evens r).length:=by rw [evens_len];omega
  have:=evens_get r i h3 h4
  simp only [evens,List.getElem_cons_succ,this,show 2 * (i+1) = 2 * i+1+1 by omega]
theorem evens_take (l:List V) (i:Nat) (h:2 * i < l.length):(evens l).take (i+1) = (evens l).take i ++ [l[2 * i]]:=by
 have h2:i < (evens l).length:=by rw [evens_len];omega
 rw [List.take_add_one,List.getElem?_eq_getElem h2,evens_get l i h h2,Option.toList_some]
noncomputable def mapOk (l:List V):Bool:=decide (l.length % 2 = 0∧l.length <= 2048∧(evens l).Nodup)

theorem VIn.parts {w:World} {v:V} {p:Option Addr} {n c:Nat} (h:VIn w v (.slice p n c)):∃ ss:Nat -> Value,∀ i (hi:i < v.list.length),VIn w v.list[i] (ss i)∧∀ b o,p = some ⟨b,o,none⟩ -> w.rangeAt b (o+i * 5) (vcells v.list[i] (ss i)):=by
 cases h with
 | mk _ _ _ ss wf hc hm ha hcell hin=>exact ⟨ss,fun i hi=>⟨hin i hi,fun b o e=>hcell b o e i hi⟩⟩

abbrev VP (w:World):={ p:V × Value // VIn w p.1 p.2 }
theorem vin_nil (w:World):VIn w default (.slice none 0 0):=(VO.nil w 0 (v:=default) ⟨⟨by decide,by decide⟩,⟨by decide,by decide⟩,Nat.zero_le _,⟨by decide,by decide⟩⟩ rfl).vin
instance (w:World):Inhabited (VP w):=⟨⟨(default,.slice none 0 0),vin_nil w⟩⟩
def encP {w:World} (x:VP w):List Value:=vcells x.1.1 x.1.2
def cfP {w:World} (x y:VP w):Int:=ordV x.1.1 y.1.1
theorem swoP (w:World):SWO (ltOf (cfP (w:=w))):=by
 refine ⟨fun x=>?_,fun x y z h1 h2=>?_,fun x y z h1 h2=>?_⟩
 ·simp [ltOf,cfP,ordV_self]
 ·have h1:ordV x.1.1 y.1.1 < 0:=of_decide_eq_true h1
  have h2:ordV y.1.1 z.1.1 < 0:=of_decide_eq_true h2
  refine decide_eq_true (show ordV x.1.1 z.1.1 < 0 from ?_)
  obtain ⟨q1,q2⟩:=ordV_tri x.1.1 y.1.1 z.1.1 (by omega) (by omega)
  have:ordV x.1.1 z.1.1 ≠ 0:=fun q=>by have:=q2.1 q;omega
  omega
 have h1:¬ ordV x.1.1 y.1.1 < 0:=of_decide_eq_false h1
 have h2:¬ ordV y.1.1 z.1.1 < 0:=of_decide_eq_false h2
 refine decide_eq_false (show ¬ ordV x.1.1 z.1.1 < 0 from ?_)
 have n1:=ordV_neg x.1.1 y.1.1
 have n2:=ordV_neg y.1.1 z.1.1
 have n3:=ordV_neg x.1.1 z.1.1
 obtain ⟨q1,q2⟩:=ordV_tri z.1.1 y.1.1 x.1.1 (by omega) (by omega)
 omega
theorem below_sort {w w1:World} {blk m:Nat} {dk:Array (VP w)} {os:Array Obj} (hb:Below w.heap.size w w1) (hg:w.heap.size <= blk):Below w.heap.size w (sortWorldK encP 5 w1 blk 0 m dk os):=by
 have hz:=hb.size
 refine ⟨hb.os,hb.tape,hb.output,Nat.le_trans hz (size_sortWorldK_c _ _ _ _ _ _ _ _),fun j hj=>?_⟩
 have h1:=hb.block j hj
 rw [← h1]
 show ((w1.heap.modify blk _) ++ os)[j]? = _
 rw [Array.getElem?_append_left (by simp;omega),Array.getElem?_modify,if_neg (by omega)]
theorem cmpP {w w1:World} {blk size:Nat} (hb:Below w.heap.size w w1) (hg:w.heap.size <= blk):CmpLays Tryz.prog 103 #[] (encP (w:=w)) 5 cfP blk 0 size w1:=by
 intro m os dk hs x y
 have hB:=below_sort (m:=m) (dk:=dk) (os:=os) hb hg
 refine (orderD_on x.1.1 (sortWorldK encP 5 w1 blk 0 m dk os) x.1.2 y.1.1 y.1.2 (x.2.blw hB) (y.2.blw hB)).mono ?_
 rintro e w' ⟨rfl,hbd⟩
 exact ⟨rfl,grow_of_below hbd⟩

def rowP (w:World) (l:List V) (ss:Nat -> Value) (h:∀ i (hi:i < l.length),VIn w l[i] (ss i)):Array (VP w):=Array.ofFn (n:=l.length) fun i=>⟨(l[i.1],ss i.1),h i.1 i.2⟩
theorem rowP_size (w:World) (l:List V) (ss:Nat -> Value) (h):(rowP w l ss h).size = l.length:=by simp [rowP]
theorem rowP_get (w:World) (l:List V) (ss:Nat -> Value) (h) (i:Nat) (hi:i < l.length):((rowP w l ss h)[i]!).1 = (l[i],ss i):=by
 rw [getElem!_pos _ i (by rw [rowP_size];exact hi)]
 simp [rowP]
theorem holds_rowP {w w1:World} {l:List V} {ss:Nat -> Value} {h} {g cap:Nat} {B:Nat} (hr:w1.ownsRow B 25 5 (.slice (some ⟨g,0,none⟩) l.length cap) l.length (vrow l ss)):HoldsK encP 5 w1 g 0 (rowP w l ss h):=by
 have hcell:=hr
 rcases hr.2 with hn|⟨g',cap',cur,hv,hbg,hh,_⟩
 ·simp at hn
 simp only [Value.slice.injEq,Option.some.injEq,Addr.mk.injEq] at hv
 obtain ⟨⟨rfl,_⟩,_,rfl⟩:=hv
 intro j hj
 rw [size_flatK,rowP_size] at hj
 have hj5:j / 5 < l.length:=by omega
 refine ⟨?_,by simp [World.frozen?,hh]⟩
 rw [Nat.zero_add,get_flatK _ _ _ _ (by rw [rowP_size];exact hj)]
 have h1:=vrow_get l ss (j / 5) (j % 5) hj5 (Nat.mod_lt _ (by omega))
 have h2:=rowP_get w l ss h (j / 5) hj5
 have h3:encP (rowP w l ss h)[j / 5]! = vcells l[j / 5] (ss (j / 5)):=by
  unfold encP
  rw [h2]
 rw [h3]
 have h4:(vcells l[j / 5] (ss (j / 5)))[j % 5]? = some (vcells l[j / 5] (ss (j / 5)))[j % 5]!:=by
  have:j % 5 < (vcells l[j / 5] (ss (j / 5))).length:=by rw [vcells_len];exact Nat.mod_lt _ (by omega)
  rw [List.getElem?_eq_getElem this,getElem!_pos (vcells l[j / 5] (ss (j / 5))) (j % 5) this]
 rw [h4] at h1
 have h5:=ownsRow_cell hcell (i:=j / 5 * 5+j % 5) h1
 rw [show j / 5 * 5+j % 5 = j by omega] at h5
 exact h5

theorem sorted_keys {w:World} {l:List V} {ss:Nat -> Value} {h} {d':Array (VP w)} (hp:PermIn 0 l.length (rowP w l ss h) d'):d'.size = l.length∧(d'.toList.map fun x=>x.1.1).Perm l:=by
 obtain ⟨h1,_,h3⟩:=hp
 rw [rowP_size] at h1
 refine ⟨h1,?_⟩
 have e1:d'.extract 0 l.length = d':=by rw [← h1];exact Array.extract_size
 have e2:(rowP w l ss h).extract 0 l.length = rowP w l ss h:=by
  have:=Array.extract_size (xs:=rowP w l ss h)
  rwa [rowP_size] at this
 rw [e1,e2] at h3
 have h4:=h3.map (fun x=>x.1.1)
 have e3:(rowP w l ss h).toList.map (fun x=>x.1.1) = l:=by
  apply List.ext_getElem?
  intro i
  by_cases hi:i < l.length
  ·simp [rowP,hi]
  ·rw [List.getElem?_eq_none (by simp [rowP];omega),List.getElem?_eq_none (by omega)]
 rw [e3] at h4
 exact h4
theorem nodup_sorted {ks:List V} (hs:∀ i j (hi:i < ks.length) (hj:j < ks.length),i < j -> ¬ ordV ks[j] ks[i] < 0) (hn:∀ i (hi:i+1 < ks.length),ordV ks[i] ks[i+1] ≠ 0):ks.Nodup:=by
 have key:∀ k i (hi:i < ks.length) (hj:i+k+1 < ks.length),ordV ks[i] ks[i+k+1] < 0:=by
  intro k
  induction k with
  | zero =>
   intro i hi hj
   have h1:=hs i (i+1) hi hj (by omega)
   have h2:=hn i hj
   have h3:=ordV_neg ks[i] ks[i+1]
   simp only [Nat.add_zero]
   omega
  | succ k ih =>
   intro i hi hj
   have h1:=ih i hi (by omega)
   have h2:=ih 0 (by omega) (by omega)
   have h4:=hs (i+k+1) (i+k+1+1) (by omega) (by omega) (by omega)
   have h5:=hn (i+k+1) (by omega)
   have h6:=ordV_neg ks[i+k+1] ks[i+k+1+1]
   obtain ⟨q1,q2⟩:=ordV_tri ks[i] ks[i+k+1] ks[i+k+1+1] (by omega) (by omega)
   have:ordV ks[i] ks[i+k+1+1] ≠ 0:=fun q=>by have:=q2.1 q;omega
   simp only [show i+(k+1)+1 = i+k+1+1 by omega]
   omega
 rw [List.nodup_iff_pairwise_ne,List.pairwise_iff_getElem]
 intro i j hi hj hij e
 have h1:=key (j - i - 1) i hi (by omega)
 simp only [show i+(j - i - 1)+1 = j by omega] at h1
 rw [e,ordV_self] at h1
 omega


open Go.Sort
theorem sortkeys_any {w w1:World} {l:List V} {ss:Nat -> Value} (h:∀ i (hi:i < l.length),VIn w l[i] (ss i)) {g cap:Nat} (hb:Below w.heap.size w w1) (hg:w.heap.size <= g) (hr:w1.ownsRow w.heap.size 25 5 (.slice (some ⟨g,0,none⟩) l.length cap) l.length (vrow l ss)) (hl:l.length <= 1024) :
  Calls prog 102 #[.slice (some ⟨g,0,none⟩) l.length cap,.func (.func 103) #[] #[]] w1 fun e w'=>e = .returned (.tuple #[])∧∃ (ks:List V) (tt:Nat -> Value),ks.Perm l∧(∀ i j (hi:i < ks.length) (hj:j < ks.length),i < j -> ¬ ordV ks[j] ks[i] < 0) ∧
   (∀ i (hi:i < ks.length),VIn w' ks[i] (tt i)∧w'.rangeAt g (i * 5) (vcells ks[i] (tt i)))∧Below w.heap.size w w':=by
 have eg:∀ args w,(callFunc 103 args).run prog w = .ok (.enter 103 args) w:=enters_of func103 (by kernel_rfl) rfl
 have hH:=holds_rowP (h:=h) hr
 have hgl:g < w1.heap.size:=by
  rcases hr.2 with hn|⟨g',cap',cur,hv,hbg,hh,_⟩
  ·simp at hn
  simp only [Value.slice.injEq,Option.some.injEq,Addr.mk.injEq] at hv
  obtain ⟨⟨rfl,_⟩,_,rfl⟩:=hv
  exact (Array.getElem?_eq_some_iff.1 hh).1
 have hcon:=AnyQ.slices_SortFunc Tryz.sort 5 Tryz.isAgg25 Tryz.sizeOf25 (encP (w:=w)) (fun _=>rfl) (fun x v hv=>by
   obtain ⟨p,c,e,_⟩:=x.2.slice
   simp only [encP,vcells,List.mem_cons,List.not_mem_nil,or_false] at hv
   rcases hv with rfl|rfl|rfl|rfl|rfl <;> first|rfl|(rw [e];rfl)) cfP (swoP w) 103 #[] g 0 cap (rowP w l ss h) w1 eg (cmpP hb hg) hH hgl (by rw [rowP_size];omega)
 rw [rowP_size] at hcon
 change Calls prog 102 _ _ _ at hcon
 refine hcon.mono ?_
 rintro e w' ⟨rfl,d',n,os,hp,hs,rfl⟩
 obtain ⟨h1,h2⟩:=sorted_keys hp
 have hB:=below_sort (m:=n) (dk:=d') (os:=os) hb hg
 have hH2:=holdsK_sortWorldK_c encP 5 w1 g 0 _ d' n os hH hgl (by rw [h1,rowP_size])
 have hget:∀ i (hi:i < (d'.toList.map fun x=>x.1.1).length),(d'.toList.map fun x=>x.1.1)[i] = (d'[i]!).1.1:=fun i hi=>by
  have hi2:i < d'.size:=by simpa using hi
  rw [getElem!_pos _ i hi2]
  simp
 refine ⟨rfl,d'.toList.map fun x=>x.1.1,fun i=>(d'[i]!).1.2,h2,?_,?_,hB⟩
 ·intro i j hi hj hij
  rw [hget i hi,hget j hj]
  exact of_decide_eq_false (hs i j (Nat.zero_le _) hij (by rw [List.length_map,Array.length_toList,h1] at hj;exact hj))
 ·intro i hi
  have hi2:i < d'.size:=by simpa using hi
  rw [hget i hi]
  refine ⟨(d'[i]!).2.blw hB,?_⟩
  intro j u hj
  have hj5:j < 5:=(List.getElem?_eq_some_iff.1 hj).1
  have h3:=(hH2.cell hi2 hj5).1
  rw [Nat.zero_add] at h3
  rw [h3]
  show some (vcells (d'[i]!).1.1 (d'[i]!).1.2)[j]! = some u
  obtain ⟨q,e⟩:=List.getElem?_eq_some_iff.1 hj
  rw [getElem!_pos (vcells (d'[i]!).1.1 (d'[i]!).1.2) j q,e]

theorem isMap_any (v:V) (w:World) (s:Value) (h:VIn w v s) :
  Calls prog 73 #[s] w fun e w'=>e = .returned (.bool (mapOk v.list))∧Below w.heap.size w w':=by
 obtain ⟨p,c,hs,h1,h2,h3⟩:=h.slice
 obtain ⟨N,hN⟩:∃ N,v.list.length = N:=⟨_,rfl⟩
 rw [hN] at hs h1 h3
 subst hs
 unfold maxLen at h2
 obtain ⟨D,hD⟩:∃ D,mapOk v.list = D:=⟨_,rfl⟩
 rw [hD]
 have HD:=zH hD
 obtain ⟨ss,hss⟩:=h.parts
 have HV:=zH (And.intro h hss)
 have HN:=zH hN
 clear h hN hD hss
 go_enter func73,ntmps73
 obtain ⟨i0,hi,hz0,hz1,hz2⟩:=info_partsV info_val
 by_cases e1:(N:Int) % 2 = 0
 ·by_cases e2:2048 < (N:Int)
  ·have HDX:=zH (show D = false by rw [← HD.out];exact decide_eq_false (fun q=>by have:=q.2.1;rw [HN.out] at this;omega))
   go_wp2_with fail
   go_ret
   exact ⟨by rw [HDX.out];rfl,Below.refl _ _⟩
  ·have hN2:N <= 2048:=by omega
   have HE:=zH (show N % 2 = 0 by omega)
   go_wp2_with (at_make;refine wpList_make_own _ rfl _ _ 23 rfl w.heap.size 25 i0 _ 5 underlying23 hi hz0 hz1 .i64 .i64 _ (N / 2) rfl rfl (by omega) (by rw [hz2];omega) (by unfold maxLen;omega) (Nat.le_refl _) ?_)
   intro w1 hr1 hg1
   have HR1:=zH (And.intro hr1 (And.intro (show Below w.heap.size w w1 from ⟨hg1.os,hg1.tape,hg1.output,hg1.size,fun j hj=>hg1.block j hj (by simp)⟩) (Nat.le_refl w.heap.size)))
   clear hr1 hg1 e1 e2
   generalize hgg:w.heap.size = g0 at HR1 ⊢
   have HG0:=zH hgg
   clear hgg
   go_wp2_with fail
   have HP:=zH (show ∀ k (hk:k < v.list.length),VIn w v.list[k] (ss k)∧∀ b o,p = some ⟨b,o,none⟩ -> w.rangeAt b (o+k * 5) (vcells v.list[k] (ss k)) from fun k hk=>HV.out.2 k hk)
   go_loopw [3,4] (fun v3 v4 wr=>∃ (k j g cap:Nat),k <= N∧Hid (k = 2 * j)∧v4 = .int .i64 k∧v3 = .slice (some ⟨g,0,none⟩) j cap∧wr.ownsRow g0 25 5 (.slice (some ⟨g,0,none⟩) j cap) j (vrow ((evens v.list).take j) (fun i=>ss (2 * i)))∧Below w.heap.size w wr∧g0 <= g) (fun _ v4 _=>N - (intOf v4).toNat)
   case atStart=>exact ⟨0,0,g0,N / 2,Nat.zero_le _,zH rfl,rfl,rfl,by rw [List.take_zero];exact HR1.out.1,by rw [HG0.out];exact HR1.out.2.1,Nat.le_refl _⟩
   case round =>
    obtain ⟨k,j,g,cap,hk',hkj,rfl,rfl,hrow,hbw,hgg⟩:=hrel
    have HR:=zH (And.intro hrow (And.intro hbw hgg))
    have hbz:=hbw.size
    rw [HG0.out] at hbz
    clear hrow hbw hgg
    by_cases hkN:(k:Int) < N
    ·have ka:k < v.list.length:=by rw [HN.out];omega
     have hjN:j < 2000:=by have:=hkj.out;omega
     obtain ⟨b1,o1,rfl⟩:=h3 (by omega)
     obtain ⟨hia,hta⟩:=HP.out k ka
     obtain ⟨c0,c1,c2,c3,c4⟩:=part_cells (rangeAt_rd (hta b1 o1 rfl) (rd_below HR.out.2.1))
     have htk:(evens v.list).take (j+1) = (evens v.list).take j ++ [v.list[k]]:=by
      rw [evens_take _ j (by have:=hkj.out;omega)]
      simp only [hkj.out]
     have htl:((evens v.list).take j).length = j:=by rw [List.length_take,evens_len];have:=hkj.out;rw [HN.out];omega
     obtain ⟨ya,hya⟩:∃ ya,v.list[k] = ya:=⟨_,rfl⟩
     rw [hya] at c0 c1 c2 c4 hia htk
     obtain ⟨pa,ca,hsa,_⟩:=hia.slice
     have HSA:=zH hsa
     rw [hsa] at c3
     obtain ⟨na,hna⟩:∃ na,ya.list.length = na:=⟨_,rfl⟩
     rw [hna] at c3 HSA
     have HT:=zH (And.intro htk htl)
     clear hia hta htk htl hya hsa hna
     have hrow2:(wr.alloc (.cells #[.int .i64 ya.kind,.int .u64 ya.num,.string ya.text,.slice pa na ca,.int .i64 ya.elem] 25)).ownsRow g0 25 5 (.slice (some ⟨g,0,none⟩) j cap) j (vrow ((evens v.list).take j) (fun i=>ss (2 * i))) :=
      ownsRow_keep HR.out.1 (fun b hb=>Below.heap_alloc _ _ _ (HR.out.1.lt b hb).2)
     have HRW:=zH hrow2
     clear hrow2
     go_wp2_with (first
      | (at_builtin;refine wpList_append_two _ rfl (.tmp 25) (.tmp 30) 23 rfl g0 25 i0 _ 5 64 underlying23 hi hz0 hz1 hz2 rfl _ _ _ rfl HRW.out ⟨wr.heap.size,0,none⟩ 1 [.int .i64 ya.kind,.int .u64 ya.num,.string ya.text,.slice pa na ca,.int .i64 ya.elem] rfl rfl (fun j u hj=>cell_of_newrow hj) (by simp [Value.oneCell']) (by unfold maxLen;omega) (by omega) ?_;intro v' w9 hA;have HA:=zH hA;clear hA))
     have hown:=HA.out.owns (by simp;omega)
     have hgr:=HA.out.grown
     have HB9:Hid (Below w.heap.size w w9):=zH (((HR.out.2.1.alloc (by rw [HG0.out];exact hbz) _)).grown hgr (by rw [HG0.out,World.size_alloc];omega) (fun j hj=>by rw [HG0.out];exact (HRW.out.lt j hj).1))
     have hrow3:w9.ownsRow g0 25 5 v' (j+1) (vrow ((evens v.list).take (j+1)) (fun i=>ss (2 * i))):=by
      rw [HT.out.1,vrow_snoc,HT.out.2]
      have:ss (2 * j) = .slice pa na ca:=by rw [← hkj.out];exact HSA.out
      simp only [this]
      exact hown
     have hform:∃ g2 cap2,v' = .slice (some ⟨g2,0,none⟩) (j+1) cap2∧g0 <= g2:=by
      rcases HA.out with ⟨g',cap',e1,e2,_⟩|⟨cap',e2,_⟩
      ·have q:some g = some g':=congrArg Value.ownBlock e1
       exact ⟨g',cap',e2,by have:=HR.out.2.2;have:=Option.some.inj q;omega⟩
      ·exact ⟨_,cap',e2,by rw [World.size_alloc];omega⟩
     obtain ⟨g2,cap2,rfl,hg2⟩:=hform
     have HF:=zH (And.intro hrow3 hg2)
     have HKJ:=zH (show k+2 = 2 * (j+1) by have:=hkj.out;omega)
     clear hown hgr hrow3 hg2 c0 c1 c2 c3 c4
     go_roundw
     case rel=>exact ⟨k+2,j+1,g2,cap2,by have:=HE.out;have:=hkj.out;omega,HKJ,by go_num,rfl,HF.out.1,HB9.out,HF.out.2⟩
     case measure=>simp [intOf];omega
    ·have hlen:(evens v.list).length = j:=by rw [evens_len,HN.out];have:=hkj.out;omega
     have hc:=sortkeys_any (w:=w) (w1:=wr) (l:=evens v.list) (ss:=fun i=>ss (2 * i)) (fun i hi=>by
      rw [evens_get _ i (by rw [evens_len] at hi;rw [HN.out] at hi ⊢;have:=HE.out;omega) hi]
      exact (HP.out (2 * i) _).1) (g:=g) (cap:=cap) HR.out.2.1 (by rw [HG0.out];exact HR.out.2.2) (by
       have:=HR.out.1
       rw [List.take_of_length_le (by omega)] at this
       rw [hlen,HG0.out]
       exact this) (by have:=hkj.out;omega)
     rw [hlen] at hc
     have HC:=zH hc
     clear hc
     go_wp2_with fail
     refine HC.out.mono ?_
     rintro e w2 ⟨rfl,ks,tt,hperm,hsort,hks,hb2⟩
     have hkl:ks.length = j:=by rw [hperm.length_eq,hlen]
     have HK:=zH (And.intro hperm (And.intro hsort (And.intro hks (And.intro hb2 hkl))))
     have hjN:j <= 2000:=by have:=hkj.out;omega
     clear hperm hsort hks hb2 hkl hlen
     go_wp2_with fail
     go_loopw [5] (fun v5 wz=>∃ m:Nat,v5 = .int .i64 ((m:Int)+1)∧(m+1 <= j ∨ m = 0)∧(∀ q (hq:q+1 < ks.length),q < m -> ordV ks[q] ks[q+1] ≠ 0)∧Below w2.heap.size w2 wz) (fun v5 _=>j+1 - (intOf v5).toNat)
     case atStart=>exact ⟨0,by simp,.inr rfl,fun q hq h=>by omega,Below.refl _ _⟩
     case round =>
      obtain ⟨m,rfl,hmj,hun,hbz⟩:=hrel
      have HZ:=zH (And.intro hun hbz)
      clear hun hbz
      by_cases hmi:(m:Int)+1 < j
      ·have hm0:m < ks.length:=by rw [HK.out.2.2.2.2];omega
       have hm1:m+1 < ks.length:=by rw [HK.out.2.2.2.2];omega
       obtain ⟨hia,hta⟩:=HK.out.2.2.1 m hm0
       obtain ⟨hib,htb⟩:=HK.out.2.2.1 (m+1) hm1
       obtain ⟨c0,c1,c2,c3,c4⟩:=part_cells (o:=0) (i:=m) (by rw [Nat.zero_add];exact rangeAt_rd hta (rd_below HZ.out.2))
       obtain ⟨d0,d1,d2,d3,d4⟩:=part_cells (o:=0) (i:=m+1) (by rw [Nat.zero_add];exact rangeAt_rd htb (rd_below HZ.out.2))
       have HUN:=zH (show ordV ks[m] ks[m+1] ≠ 0 -> ∀ q (hq:q+1 < ks.length),q < m+1 -> ordV ks[q] ks[q+1] ≠ 0 from fun hne q hq hqm=>by
        by_cases e:q = m
        ·subst e;exact hne
        ·exact HZ.out.1 q hq (by omega))
       have HEQ:=zH (show ordV ks[m] ks[m+1] = 0 -> D = false from fun he=>by
        rw [← HD.out]
        refine decide_eq_false (fun q=>?_)
        have hnd:=(HK.out.1.nodup_iff).2 q.2.2
        rw [List.nodup_iff_pairwise_ne,List.pairwise_iff_getElem] at hnd
        exact hnd m (m+1) hm0 hm1 (by omega) (ordV_zero.1 he))
       generalize ks[m] = ya at *
       generalize ks[m+1] = yb at *
       have HPA:=zH (And.intro (hia.blw HZ.out.2) (hib.blw HZ.out.2))
       clear hia hta hib htb
       rw [Nat.zero_add] at c0 c1 c2 c3 c4 d0 d1 d2 d3 d4
       obtain ⟨pa,ca,hsa,_⟩:=HPA.out.1.slice
       obtain ⟨pb,cb,hsb,_⟩:=HPA.out.2.slice
       rw [hsa] at c3 HPA
       rw [hsb] at d3 HPA
       obtain ⟨na,hna⟩:∃ na,ya.list.length = na:=⟨_,rfl⟩
       obtain ⟨nb,hnb⟩:∃ nb,yb.list.length = nb:=⟨_,rfl⟩
       rw [hna] at c3 HPA
       rw [hnb] at d3 HPA
       clear hsa hsb hna hnb
       obtain ⟨z,hzz⟩:∃ z,ordV ya yb = z:=⟨_,rfl⟩
       rw [hzz] at HUN HEQ
       have HZZ:=zH hzz
       clear hzz
       have hma:(m:Int) < j:=by omega
       have hmb:¬ ((m:Int)+1 < 0):=by omega
       have hmt:((m:Int)+1).toNat = m+1:=by omega
       have hma0:(0:Int) <= (m:Int):=by omega
       have hmb0:(0:Int) <= (m:Int)+1:=by omega
       have hmw2:IntKind.i64.wrap (m:Int) = (m:Int):=by simp [IntKind.wrap,IntKind.bits,IntKind.signed];omega
       have hmw:IntKind.i64.wrap ((m:Int)+1 - 1) = (m:Int):=by simp [IntKind.wrap,IntKind.bits,IntKind.signed];omega
       go_upto_region 12 with fail
       have hdr:Below wr.heap.size wr wr.drew:=⟨rfl,rfl,rfl,Nat.le_refl _,fun _ _=>rfl⟩
       have hc:=order_on ya wr.drew _ yb _ (HPA.out.1.blw hdr) (HPA.out.2.blw hdr)
       rw [HZZ.out] at hc
       have HCC:=zH hc
       clear hc
       go_region_held3 (fun w'=>w'.cell? ⟨g,m * 5,none⟩ = some (.int .i64 ya.kind)∧w'.cell? ⟨g,m * 5+1,none⟩ = some (.int .u64 ya.num)∧w'.cell? ⟨g,m * 5+2,none⟩ = some (.string ya.text)∧w'.cell? ⟨g,m * 5+3,none⟩ = some (.slice pa na ca)∧w'.cell? ⟨g,m * 5+4,none⟩ = some (.int .i64 ya.elem)∧w'.cell? ⟨g,(m+1) * 5,none⟩ = some (.int .i64 yb.kind)∧w'.cell? ⟨g,(m+1) * 5+1,none⟩ = some (.int .u64 yb.num)∧w'.cell? ⟨g,(m+1) * 5+2,none⟩ = some (.string yb.text)∧w'.cell? ⟨g,(m+1) * 5+3,none⟩ = some (.slice pb nb cb)∧w'.cell? ⟨g,(m+1) * 5+4,none⟩ = some (.int .i64 yb.elem)) (first|exact ⟨c0,c1,c2,c3,c4,d0,d1,d2,d3,d4⟩|exact ⟨bs_cellV (w:=wr.drew) hb4 c0,bs_cellV (w:=wr.drew) hb4 c1,bs_cellV (w:=wr.drew) hb4 c2,bs_cellV (w:=wr.drew) hb4 c3,bs_cellV (w:=wr.drew) hb4 c4,bs_cellV (w:=wr.drew) hb4 d0,bs_cellV (w:=wr.drew) hb4 d1,bs_cellV (w:=wr.drew) hb4 d2,bs_cellV (w:=wr.drew) hb4 d3,bs_cellV (w:=wr.drew) hb4 d4⟩|fail)
        (first
         | (go_at_call 103;refine HCC.out.mono ?_;rintro e w4 ⟨rfl,hb4⟩)
         | fail)
       have HB4:=zH (hdr.trans (hb4.mono hdr.size))
       clear hb4 hdr c0 c1 c2 c3 c4 d0 d1 d2 d3 d4
       by_cases hz0:z = 0
       ·have hzt:(z == 0) = true:=by simpa using hz0
        have HDF:=zH (HEQ.out hz0)
        clear hz0
        go_wp2_with fail
        go_ret
        exact ⟨by rw [HDF.out];rfl,HK.out.2.2.2.1.trans ((HZ.out.2.trans (HB4.out.mono HZ.out.2.size)).mono HK.out.2.2.2.1.size)⟩
       ·have hzt:(z == 0) = false:=by simpa using hz0
        have HUN2:=zH (HUN.out hz0)
        clear hz0
        go_wp2_with fail
        go_roundw
        case rel=>exact ⟨m+1,by go_num,.inl (by omega),HUN2.out,HZ.out.2.trans (HB4.out.mono HZ.out.2.size)⟩
        case measure=>simp [intOf];omega
      ·have HDT:=zH (show D = true by
        rw [← HD.out]
        refine decide_eq_true ⟨by rw [HN.out];exact HE.out,by rw [HN.out];exact hN2,?_⟩
        refine (HK.out.1.nodup_iff).1 (nodup_sorted (fun i j hi hj hij=>by have:=HK.out.2.1 i j hi hj hij;omega) (fun i hi=>HZ.out.1 i hi ?_))
        have:=HK.out.2.2.2.2
        omega)
       go_wp2_with fail
       go_ret
       exact ⟨by rw [HDT.out];rfl,HK.out.2.2.2.1.trans (HZ.out.2.mono HK.out.2.2.2.1.size)⟩
 have HDX:=zH (show D = false by rw [← HD.out];exact decide_eq_false (fun q=>by have:=q.1;rw [HN.out] at this;omega))
 go_wp2_with fail
 go_ret
 exact ⟨by rw [HDX.out];rfl,Below.refl _ _⟩

noncomputable def aloneC (v:V) (d:Int):Int :=
 if v.kind < 0 then 20 else if 24 < v.kind then 20 else if 32 < d then 26 else if extraV v = true then 25 else if numOk v.kind v.num = false then 21 else if textOk v.kind v.text = false then 22 else
 if v.kind = 22 then (if mapOk v.list = false then 23 else 0) else if v.kind = 23 then (if arrOk v = false then 24 else 0) else if v.kind = 24 then (if v.list.length = 2 then 0 else 27) else 0
def InK (v:V) (d:Int):Prop:=¬ v.kind < 0∧¬ 24 < v.kind∧¬ 32 < d
theorem aloneC_in {v:V} {d:Int} (h:InK v d):aloneC v d = if extraV v = true then 25 else if numOk v.kind v.num = false then 21 else if textOk v.kind v.text = false then 22 else
  if v.kind = 22 then (if mapOk v.list = false then 23 else 0) else if v.kind = 23 then (if arrOk v = false then 24 else 0) else if v.kind = 24 then (if v.list.length = 2 then 0 else 27) else 0:=by
 rw [aloneC,if_neg h.1,if_neg h.2.1,if_neg h.2.2]
theorem aloneC_in3 {v:V} {d:Int} (h:InK v d∧extraV v = false∧numOk v.kind v.num = true∧textOk v.kind v.text = true):aloneC v d =
  if v.kind = 22 then (if mapOk v.list = false then 23 else 0) else if v.kind = 23 then (if arrOk v = false then 24 else 0) else if v.kind = 24 then (if v.list.length = 2 then 0 else 27) else 0:=by
 rw [aloneC_in h.1,if_neg (by rw [h.2.1];simp),if_neg (by rw [h.2.2.1];simp),if_neg (by rw [h.2.2.2];simp)]
theorem ret_intV {a b:Int} (h:a = b):Ending.returned (.int .i64 a) = .returned (.int .i64 b):=by rw [h]

theorem alone_any (v:V) (d:Int) (w:World) (s:Value) (h:VIn w v s) (hT:Tabs w) (hts:v.text.size <= 9223372036854775800) :
  Calls Tryz.prog 49 #[.agg #[.int .i64 v.kind,.int .u64 v.num,.string v.text,s,.int .i64 v.elem],.int .i64 d] w fun e w'=>e = .returned (.int .i64 (aloneC v d))∧Below w.heap.size w w':=by
 obtain ⟨p,c,hs,h1,h2,h3⟩:=h.slice
 obtain ⟨N,hN⟩:∃ N,v.list.length = N:=⟨_,rfl⟩
 rw [hN] at hs h1 h3
 subst hs
 unfold maxLen at h2
 obtain ⟨D,hD⟩:∃ D,aloneC v d = D:=⟨_,rfl⟩
 rw [hD]
 have HD:=zH hD
 have HV:=zH h
 have HN:=zH hN
 have HT:=zH hT
 have HTS:=zH hts
 clear h hN hD hT hts
 go_enter Tryz.func49,Tryz.ntmps49
 go_upto_region 1 with fail
 obtain ⟨w0,x,hw,hx,HB0,-,HOx,x0,x1,x2,x3,x4⟩:=bxV w v (.slice p N c)
 rw [hw,hx]
 clear hw hx
 have HX:Hid (∀ W',Below w0.heap.size w0 W' -> W'.cell? ⟨x,0,none⟩ = some (.int .i64 v.kind)∧W'.cell? ⟨x,1,none⟩ = some (.int .u64 v.num)∧W'.cell? ⟨x,2,none⟩ = some (.string v.text)∧W'.cell? ⟨x,3,none⟩ = some (.slice p N c)∧W'.cell? ⟨x,4,none⟩ = some (.int .i64 v.elem)):=zH (fun W' hB=>⟨bs_cellV hB x0,bs_cellV hB x1,bs_cellV hB x2,bs_cellV hB x3,bs_cellV hB x4⟩)
 by_cases k0:v.kind < 0
 ·clear x1 x2 x3 x4
  have HDX:=zH (show D = 20 by rw [← HD.out];simp [aloneC,k0])
  go_wp2_with fail
  go_ret
  exact ⟨by rw [HDX.out];rfl,HB0.out⟩
 by_cases k1:24 < v.kind
 ·clear x1 x2 x3 x4
  have HDX:=zH (show D = 20 by rw [← HD.out];simp [aloneC,k0,k1])
  go_wp2_with fail
  go_ret
  exact ⟨by rw [HDX.out];rfl,HB0.out⟩
 by_cases k2:32 < d
 ·clear x1 x2 x3 x4
  have HDX:=zH (show D = 26 by rw [← HD.out];simp [aloneC,k0,k1,k2])
  go_wp2_with fail
  go_ret
  exact ⟨by rw [HDX.out];rfl,HB0.out⟩
 have K:Hid (InK v d):=zH (And.intro k0 (And.intro k1 k2))
 have hc:=extra_any v w0 _ (HV.out.blw HB0.out)
 obtain ⟨z1,hz1⟩:∃ z,extraV v = z:=⟨_,rfl⟩
 rw [hz1] at hc
 have Z1:=zH hz1
 clear hz1
 have HC:=zH hc
 clear hc
 go_wp2_with fail
 refine HC.out.mono ?_
 rintro e w1 ⟨rfl,hb1⟩
 have HB1:=zH hb1
 clear hb1 x0 x1 x2 x3 x4 HC
 obtain ⟨x0,x1,x2,x3,x4⟩:=HX.out w1 HB1.out
 cases z1
 rotate_left
 ·clear x0 x1 x2 x3 x4
  have HDX:=zH (show D = 25 by rw [← HD.out];rw [aloneC_in K.out];simp [Z1.out])
  go_wp2_with fail
  go_ret
  exact ⟨by rw [HDX.out];rfl,HB0.out.trans (HB1.out.mono HB0.out.size)⟩
 have hc:=isNum_any v w1 _ (HV.out.blw (HB0.out.trans (HB1.out.mono HB0.out.size)))
 obtain ⟨z2,hz2⟩:∃ z,numOk v.kind v.num = z:=⟨_,rfl⟩
 rw [hz2] at hc
 have Z2:=zH hz2
 clear hz2
 have HC:=zH hc
 clear hc
 go_wp2_with fail
 refine HC.out.mono ?_
 rintro e w2 ⟨rfl,hb2⟩
 have HB2:=zH (HB1.out.trans (hb2.mono HB1.out.size))
 clear hb2 x0 x1 x2 x3 x4 HC
 obtain ⟨x0,x1,x2,x3,x4⟩:=HX.out w2 HB2.out
 cases z2
 ·clear x0 x1 x2 x3 x4
  have HDX:=zH (show D = 21 by rw [← HD.out];rw [aloneC_in K.out];simp [Z1.out,Z2.out])
  go_wp2_with fail
  go_ret
  exact ⟨by rw [HDX.out];rfl,HB0.out.trans (HB2.out.mono HB0.out.size)⟩
 have hc:=isText_any v w2 _ (HV.out.blw (HB0.out.trans (HB2.out.mono HB0.out.size))) (HT.out.below (HB0.out.trans (HB2.out.mono HB0.out.size))) HTS.out
 obtain ⟨z3,hz3⟩:∃ z,textOk v.kind v.text = z:=⟨_,rfl⟩
 rw [hz3] at hc
 have Z3:=zH hz3
 clear hz3
 have HC:=zH hc
 clear hc
 go_wp2_with fail
 refine HC.out.mono ?_
 rintro e w3 ⟨rfl,hb3⟩
 have HB3:=zH (HB2.out.trans (hb3.mono HB2.out.size))
 clear hb3 x0 x1 x2 x3 x4 HC
 obtain ⟨x0,x1,x2,x3,x4⟩:=HX.out w3 HB3.out
 cases z3
 ·clear x0 x1 x2 x3 x4
  have HDX:=zH (show D = 22 by rw [← HD.out];rw [aloneC_in K.out];simp [Z1.out,Z2.out,Z3.out])
  go_wp2_with fail
  go_ret
  exact ⟨by rw [HDX.out];rfl,HB0.out.trans (HB3.out.mono HB0.out.size)⟩
 have ZZ:=zH (And.intro K.out (And.intro Z1.out (And.intro Z2.out Z3.out)))
 by_cases m22:v.kind = 22
 ·have t22:(v.kind == 22) = true:=by simpa using m22
  have t23:(v.kind == 23) = false:=by simp [m22]
  have t24:(v.kind == 24) = false:=by simp [m22]
  have M:=zH m22
  clear m22
  have hc:=isMap_any v w3 _ (HV.out.blw (HB0.out.trans (HB3.out.mono HB0.out.size)))
  obtain ⟨z4,hz4⟩:∃ z,mapOk v.list = z:=⟨_,rfl⟩
  rw [hz4] at hc
  have Z4:=zH hz4
  clear hz4
  have HC:=zH hc
  clear hc
  go_wp2_with fail
  refine HC.out.mono ?_
  rintro e w4 ⟨rfl,hb4⟩
  have HB4:=zH (HB3.out.trans (hb4.mono HB3.out.size))
  clear hb4 x0 x1 x2 x3 x4 HC
  obtain ⟨x0,x1,x2,x3,x4⟩:=HX.out w4 HB4.out
  cases z4
  ·clear x1 x2 x3 x4
   have HDX:=zH (show D = 23 by rw [← HD.out];rw [aloneC_in3 ZZ.out];simp [M.out,Z4.out])
   go_wp2_with fail
   go_ret
   exact ⟨by rw [HDX.out];rfl,HB0.out.trans (HB4.out.mono HB0.out.size)⟩
  ·clear x1 x2 x3 x4
   have HDX:=zH (show D = 0 by rw [← HD.out];rw [aloneC_in3 ZZ.out];simp [M.out,Z4.out])
   go_wp2_with fail
   go_ret
   exact ⟨by rw [HDX.out];rfl,HB0.out.trans (HB4.out.mono HB0.out.size)⟩
 have t22:(v.kind == 22) = false:=by simpa using m22
 have M:=zH m22
 clear m22
 by_cases m23:v.kind = 23
 ·have t23:(v.kind == 23) = true:=by simpa using m23
  have t24:(v.kind == 24) = false:=by simp [m23]
  have M2:=zH m23
  clear m23
  have hc:=isArray_any v w3 _ (HV.out.blw (HB0.out.trans (HB3.out.mono HB0.out.size)))
  obtain ⟨z4,hz4⟩:∃ z,arrOk v = z:=⟨_,rfl⟩
  rw [hz4] at hc
  have Z4:=zH hz4
  clear hz4
  have HC:=zH hc
  clear hc
  go_wp2_with fail
  refine HC.out.mono ?_
  rintro e w4 ⟨rfl,hb4⟩
  have HB4:=zH (HB3.out.trans (hb4.mono HB3.out.size))
  clear hb4 x0 x1 x2 x3 x4 HC
  obtain ⟨x0,x1,x2,x3,x4⟩:=HX.out w4 HB4.out
  cases z4
  ·clear x1 x2 x3 x4
   have HDX:=zH (show D = 24 by rw [← HD.out];rw [aloneC_in3 ZZ.out];simp [M2.out,Z4.out])
   go_wp2_with fail
   go_ret
   exact ⟨by rw [HDX.out];rfl,HB0.out.trans (HB4.out.mono HB0.out.size)⟩
  ·clear x1 x2 x3 x4
   have HDX:=zH (show D = 0 by rw [← HD.out];rw [aloneC_in3 ZZ.out];simp [M2.out,Z4.out])
   go_wp2_with fail
   go_ret
   exact ⟨by rw [HDX.out];rfl,HB0.out.trans (HB4.out.mono HB0.out.size)⟩
 have t23:(v.kind == 23) = false:=by simpa using m23
 have M2:=zH m23
 clear m23
 by_cases m24:v.kind = 24
 ·have t24:(v.kind == 24) = true:=by simpa using m24
  have M3:=zH m24
  clear m24
  by_cases q:N = 2
  ·have qn:((N:Int) != 2) = false:=by simp [q]
   have Q:=zH q
   clear q
   clear x1 x2 x4
   have HDX:=zH (show D = 0 by rw [← HD.out];rw [aloneC_in3 ZZ.out];simp [M3.out,HN.out,Q.out])
   go_wp2_with fail
   go_ret
   exact ⟨by rw [HDX.out];rfl,HB0.out.trans (HB3.out.mono HB0.out.size)⟩
  ·have qn:((N:Int) != 2) = true:=by simp;omega
   have Q:=zH q
   clear q
   clear x1 x2 x4
   have HDX:=zH (show D = 27 by rw [← HD.out];rw [aloneC_in3 ZZ.out];simp [M3.out,HN.out,Q.out])
   go_wp2_with fail
   go_ret
   exact ⟨by rw [HDX.out];rfl,HB0.out.trans (HB3.out.mono HB0.out.size)⟩
 have t24:(v.kind == 24) = false:=by simpa using m24
 have M3:=zH m24
 clear m24 x1 x2 x4
 have HDX:=zH (show D = 0 by rw [← HD.out];rw [aloneC_in3 ZZ.out];simp [M.out,M2.out,M3.out])
 go_wp2_with fail
 go_ret
 exact ⟨by rw [HDX.out];rfl,HB0.out.trans (HB3.out.mono HB0.out.size)⟩
end Go.Proofs.YtnnnfhobbnjmfaaGreatDoor
