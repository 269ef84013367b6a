/-
  Lemmas on the codec. Conditions: as each says.
-/
import Derived.Test.YtnnnfhobbnjmfaaGreatDoorWn20
import Derived.Test.YtnnnfhobbnjmfaaGreatDoorWn10
import Derived.Test.YtnnnfhobbnjmfaaGreatDoorWn05
import Derived.Test.YtnnnfhobbnjmfaaGreatDoorWn39
import Derived.Handy
import Derived.Deep.DeepCutAuto
import Derived.Deep.QuietTactic
import Derived.BigQuiet
import Derived.OwnWalk
import Derived.StillTailTactics
import Derived.Deep.RegionLaw
import Derived.Lib.SlBytesConst
import Derived.Laws.IdiomCopy
import Derived.Lib.AppendStr
import Derived.Lib.ConvBytes
import Derived.Lib.SmallJoins
import Derived.Deep.AppendLies
import Derived.Laws.EntriesVeiled
import Derived.Deep.OwnRows
import Derived.Test.YtnnnfhobbnjmfaaGreatDoorWn04
import Derived.Lib.LaidU8
import Derived.PinnedBridge
import Derived.Test.YtnnnfhobbnjmfaaGreatDoorRows
namespace Go.Proofs.YtnnnfhobbnjmfaaGreatDoor
open Go.RowKit Go.Proofs.Tryz
set_option linter.all false
set_option maxHeartbeats 40000000
set_option maxRecDepth 20000

attribute [local go_sem] Oper.semAt_some

end Go.Proofs.YtnnnfhobbnjmfaaGreatDoor

namespace Go.Proofs.YtnnnfhobbnjmfaaGreatDoor
open Go.RowKit Go.Proofs.Tryz
open Go.RowKit Go.Proofs.Tryz Go.Maps
set_option linter.all false
set_option maxHeartbeats 40000000
set_option maxRecDepth 20000

theorem set_offV {w:World} {b i j:Nat} {v:Value} (h:b ≠ j):(w.setCell ⟨b,i,none⟩ v).heap[j]? = w.heap[j]?:=set_farV (fun e=>h e.symm)
theorem mem_getD {α:Type} {l:List α} {x:α} (d:α) (h:x ∈ l):∃ j,j < l.length∧l.getD j d = x:=by
 obtain ⟨j,hj,rfl⟩:=List.mem_iff_getElem.1 h
 exact ⟨j,hj,by rw [List.getD_eq_getElem?_getD,List.getElem?_eq_getElem hj];rfl⟩
theorem getD_snoc_lt {α:Type} {l:List α} {x d:α} {j:Nat} (h:j < l.length):(l ++ [x]).getD j d = l.getD j d:=by
 rw [List.getD_eq_getElem?_getD,List.getElem?_append_left h,← List.getD_eq_getElem?_getD]
theorem getD_snoc_eq {α:Type} {l:List α} {x d:α} {j:Nat} (h:j = l.length):(l ++ [x]).getD j d = x:=by
 subst h;simp

def IsVal (w:World) (g:Nat):Prop:=∃ cs fr,w.heap[g]? = some (.cells cs 25 fr)
theorem ownsRow_isVal {w:World} {B n:Nat} {v:Value} {xs:List Value} (h:w.ownsRow B 25 5 v n xs) {g:Nat} (hg:v.ownBlock = some g):IsVal w g:=by
 rcases h.2 with ⟨rfl,_⟩|⟨b,cap,cur,rfl,_,hb,_⟩
 ·cases hg
 ·simp only [Value.ownBlock,Option.some.injEq] at hg
  subst hg
  exact ⟨_,_,hb⟩
theorem VO.isVal {w:World} {B:Nat} {v:V} {s:Value} {F:Nat -> Prop} (h:VO w B v s F):∀ g,F g -> IsVal w g:=by
 induction h with
 | mk v s F ss Fs wf hrow hin hd hs hF ih =>
  intro g hg
  rcases (hF g).1 hg with q|⟨i,hi,q⟩
  ·exact ownsRow_isVal hrow q
  ·exact ih i hi g q

def IsBk (w:World) (g:Nat):Prop:=(∃ cs fr,w.heap[g]? = some (.cells cs 50 fr)) ∨ ∃ cs fr,w.heap[g]? = some (.cells cs 23 fr)
theorem IsBk.of {w w':World} {g:Nat} (h:IsBk w g) (e:w'.heap[g]? = w.heap[g]?):IsBk w' g:=by
 rcases h with ⟨a,b,h⟩|⟨a,b,h⟩
 ·exact .inl ⟨a,b,e.trans h⟩
 ·exact .inr ⟨a,b,e.trans h⟩
theorem IsVal.lt {w:World} {g:Nat} (h:IsVal w g):g < w.heap.size:=by obtain ⟨_,_,h⟩:=h;exact (Array.getElem?_eq_some_iff.1 h).1
theorem IsVal.of {w w':World} {g:Nat} (h:IsVal w g) (e:w'.heap[g]? = w.heap[g]?):IsVal w' g:=by obtain ⟨a,b,h⟩:=h;exact ⟨a,b,e.trans h⟩
theorem IsVal.notBk {w:World} {g:Nat} (h:IsVal w g):¬ IsBk w g:=by
 obtain ⟨a,b,h⟩:=h
 rintro (⟨c,d,q⟩|⟨c,d,q⟩)
 ·rw [h] at q;simp at q
 ·rw [h] at q;simp at q
structure BkMv (w w':World):Prop where
 os:w'.os = w.os
 tape:w'.tape = w.tape
 output:w'.output = w.output
 size:w.heap.size <= w'.heap.size
 oth:∀ g,g < w.heap.size -> ¬ IsBk w g -> w'.heap[g]? = w.heap[g]?
theorem BkMv.val {w w':World} (h:BkMv w w'):∀ g,IsVal w g -> w'.heap[g]? = w.heap[g]?:=fun g hg=>h.oth g hg.lt hg.notBk
theorem BkMv.refl (w:World):BkMv w w:=⟨rfl,rfl,rfl,Nat.le_refl _,fun _ _ _=>rfl⟩
theorem BkMv.trans {w w1 w2:World} (h:BkMv w w1) (k:BkMv w1 w2):BkMv w w2 :=
 ⟨k.os.trans h.os,k.tape.trans h.tape,k.output.trans h.output,Nat.le_trans h.size k.size,fun g hg hn=>(k.oth g (Nat.lt_of_lt_of_le hg h.size) (fun q=>hn (q.of (h.oth g hg hn).symm))).trans (h.oth g hg hn)⟩
theorem BkMv.of_below {w w':World} (h:Below w.heap.size w w'):BkMv w w':=⟨h.os,h.tape,h.output,h.size,fun g hg _=>h.block g hg⟩
theorem BkMv.own {w w':World} (h:BkMv w w') {B n:Nat} {v:Value} {xs:List Value} (hv:w.ownsRow B 25 5 v n xs):w'.ownsRow B 25 5 v n xs :=
 ownsRow_keep hv (fun j hj=>h.val j (ownsRow_isVal hv hj))
theorem VL.isVal {w:World} {B:Nat} {v:V} {s:Value} {F:Nat -> Prop} (h:VL w B v s F):∀ g,F g -> IsVal w g:=by
 induction h with
 | mk v b F c ss Fs wf hc hrow h1 h2 hin hd hs hF ih =>
  intro g hg
  rcases (hF g).1 hg with rfl|⟨i,hi,q⟩
  ·exact ownsRow_isVal hrow rfl
  ·exact ih i hi g q
theorem BkMv.vl {w w':World} (h:BkMv w w') {B:Nat} {v:V} {s:Value} {F:Nat -> Prop} (hv:VL w B v s F):VL w' B v s F:=hv.keep (fun b hb=>h.val b (hv.isVal b hb))
theorem BkMv.vo {w w':World} (h:BkMv w w') {B:Nat} {v:V} {s:Value} {F:Nat -> Prop} (hv:VO w B v s F):VO w' B v s F:=hv.keep (fun b hb=>h.val b (hv.isVal b hb))

structure BkIn (w:World) (B bp:Nat) (vl:Value) (vs:List Value) (Q:Nat -> Prop):Prop where
 at_:w.heap[bp]? = some (.cells #[vl] 50 (0,0))
 row:w.ownsRow B 23 1 vl vs.length vs
 has:∀ j,j < vs.length -> ∃ n xs,w.ownsRow B 25 5 (vs.getD j default) n xs∧n <= 6000000
 blk:∀ j,j < vs.length -> ∀ g,(vs.getD j default).ownBlock = some g -> Q g
 dist:DistG vs
 lt:B <= bp
 le:B <= w.heap.size
section
variable {w w' wr:World} {B bp:Nat} {vl vl':Value} {vs:List Value} {Q:Nat -> Prop}
theorem BkIn.offl (h:BkIn w B bp vl vs Q):vl.ownBlock ≠ some bp:=ownsRow_off h.row h.at_ (by decide)
theorem BkIn.below (h:BkIn w B bp vl vs Q) (hb:Below w.heap.size w w'):BkIn w' B bp vl vs Q :=
 ⟨(hb.block bp (Array.getElem?_eq_some_iff.1 h.at_).1).trans h.at_,ownsRow_keep h.row (fun j hj=>hb.block j (h.row.lt j hj).2),fun j hj=>by obtain ⟨n,xs,h1,h2⟩:=h.has j hj;exact ⟨n,xs,ownsRow_keep h1 (fun i hi=>hb.block i (h1.lt i hi).2),h2⟩,h.blk,h.dist,h.lt,Nat.le_trans h.le hb.size⟩
theorem BkIn.wide {Q':Nat -> Prop} (h:BkIn w B bp vl vs Q) (hq:∀ g,Q g -> Q' g):BkIn w B bp vl vs Q':=⟨h.at_,h.row,h.has,fun j hj g hg=>hq g (h.blk j hj g hg),h.dist,h.lt,h.le⟩
theorem BkIn.keepF {F:Nat -> Prop} (h:BkIn w B bp vl vs Q) (hk:KeepF F w w') (hF:∀ g,F g -> IsVal w g) (hd:∀ g,Q g -> ¬ F g):BkIn w' B bp vl vs Q:=by
 have off:∀ {g T:Nat} {cs:Array Value} {fr:Nat × Nat},w.heap[g]? = some (.cells cs T fr) -> T ≠ 25 -> ¬ F g:=fun {g T cs fr} hg hT hf=>by
  obtain ⟨c2,f2,h2⟩:=hF g hf
  rw [hg] at h2
  simp only [Option.some.injEq,Obj.cells.injEq] at h2
  exact hT h2.2.1
 refine ⟨(hk.block bp (Array.getElem?_eq_some_iff.1 h.at_).1 (off h.at_ (by decide))).trans h.at_,ownsRow_keep h.row (fun j hj=>hk.block j (h.row.lt j hj).2 (fun hf=>?_)),fun j hj=>by obtain ⟨n,xs,h1,h2⟩:=h.has j hj;exact ⟨n,xs,ownsRow_keep h1 (fun i hi=>hk.block i (h1.lt i hi).2 (hd i (h.blk j hj i hi))),h2⟩,h.blk,h.dist,h.lt,Nat.le_trans h.le hk.size⟩
 rcases h.row.2 with ⟨rfl,_⟩|⟨b,cap,cur,rfl,_,hb,_⟩
 ·cases hj
 ·simp only [Value.ownBlock,Option.some.injEq] at hj
  subst hj
  exact off hb (by decide) hf
theorem BkIn.start {w:World} {B:Nat} (hB:B <= w.heap.size):BkIn (w.alloc (.cells #[.slice none 0 0] 50)) B w.heap.size (.slice none 0 0) [] (fun _=>False) :=
 ⟨zN _ _,World.ownsRow_nil _ _ _ _,fun j hj=>absurd hj (Nat.not_lt_zero _),fun j hj=>absurd hj (Nat.not_lt_zero _),fun i j hi=>absurd hi (Nat.not_lt_zero _),hB,by simp;omega⟩
theorem BkIn.push {v:Value} {n:Nat} {xs:List Value} (h:BkIn wr B bp vl vs Q) (hv:wr.ownsRow B 25 5 v n xs) (hn:n <= 6000000) (hdis:∀ g,v.ownBlock = some g -> ¬ Q g)
  (hr:w'.ownsRow B 23 1 vl' (vs.length+1) (vs ++ [v])) (hg:wr.grownBy w' vl.ownBlock) (hs:SameOrNew wr vl vl') :
  BkIn (w'.setCell ⟨bp,0,none⟩ vl') B bp vl' (vs ++ [v]) (fun g=>Q g ∨ v.ownBlock = some g)∧BkMv wr (w'.setCell ⟨bp,0,none⟩ vl')∧Below B wr (w'.setCell ⟨bp,0,none⟩ vl'):=by
 have hbp:w'.heap[bp]? = _:=(hg.block bp (Array.getElem?_eq_some_iff.1 h.at_).1 (fun e=>h.offl e.symm)).trans h.at_
 have hnew:∀ j,vl'.ownBlock = some j -> vl.ownBlock = some j ∨ wr.heap.size <= j:=fun j hj=>by
  rcases hs with q|⟨g,q,q2⟩
  ·exact .inl (by rw [← q,hj])
  ·rw [hj] at q;cases q;exact .inr q2
 have hbl:bp < wr.heap.size:=(Array.getElem?_eq_some_iff.1 h.at_).1
 have hmv:BkMv wr (w'.setCell ⟨bp,0,none⟩ vl'):=by
  refine ⟨hg.os,hg.tape,hg.output,by have:=hg.size;simp [World.setCell];omega,fun g hgl hnb=>?_⟩
  have h1:bp ≠ g:=fun e=>by subst e;exact hnb (.inl ⟨_,_,h.at_⟩)
  have h2:some g ≠ vl.ownBlock:=fun e=>by
   rcases h.row.2 with ⟨q,_⟩|⟨b,cap,cur,q,_,hb,_⟩
   ·rw [q] at e;cases e
   ·rw [q] at e
    simp only [Value.ownBlock,Option.some.injEq] at e
    subst e
    exact hnb (.inr ⟨_,_,hb⟩)
  rw [set_offV h1]
  exact hg.block g hgl h2
 refine ⟨⟨?_,?_,fun j hj=>?_,fun j hj g hgj=>?_,fun i j hi hj hij=>?_,h.lt,?_⟩,hmv,((Below.refl B wr).grown hg h.le (fun k hk=>(h.row.lt k hk).1)).setCell (p:=⟨bp,0,none⟩) h.lt _⟩
 ·rw [heap_setCell_same _ bp 0 _ _ _ hbp]
  rfl
 ·rw [List.length_append,List.length_singleton]
  refine ownsRow_keep hr (fun j hj=>set_offV (fun e=>?_))
  subst e
  rcases hnew _ hj with q|q
  ·exact h.offl q
  ·omega
 ·by_cases hjl:j < vs.length
  ·rw [getD_snoc_lt hjl]
   obtain ⟨m,ys,h1,h2⟩:=h.has j hjl
   exact ⟨m,ys,hmv.own h1,h2⟩
  ·rw [getD_snoc_eq (by simp at hj;omega)]
   exact ⟨n,xs,hmv.own hv,hn⟩
 ·by_cases hjl:j < vs.length
  ·rw [getD_snoc_lt hjl] at hgj
   exact .inl (h.blk j hjl g hgj)
  ·rw [getD_snoc_eq (by simp at hj;omega)] at hgj
   exact .inr hgj
 ·rw [List.length_append,List.length_singleton] at hi hj
  by_cases hiv:i < vs.length
  ·rw [getD_snoc_lt hiv]
   by_cases hjv:j < vs.length
   ·rw [getD_snoc_lt hjv];exact h.dist i j hiv hjv hij
   ·rw [getD_snoc_eq (show j = vs.length by omega)]
    cases hb:(vs.getD i default).ownBlock with
    | none=>exact .inl rfl
    | some b=>exact .inr (fun q=>hdis b q.symm (h.blk i hiv b hb))
  ·rw [getD_snoc_eq (show i = vs.length by omega),getD_snoc_lt (show j < vs.length by omega)]
   cases hb:v.ownBlock with
   | none=>exact .inl rfl
   | some b=>exact .inr (fun q=>hdis b hb (h.blk j (by omega) b q.symm))
 ·have:=hg.size
  have:=h.le
  simp [World.setCell]
  omega
end

attribute [local go_sem] Oper.semAt_some

theorem val_ne:(25:Nat) ≠ 23:=by decide

theorem BkIn.only {w w':World} {B bp:Nat} {vl:Value} {vs:List Value} {Q:Nat -> Prop} (h:BkIn w B bp vl vs Q) (ho:OnlyG vs w w'):w'.heap[bp]? = some (.cells #[vl] 50 (0,0))∧w'.ownsRow B 23 1 vl vs.length vs:=by
 have hv:∀ v ∈ vs,∃ (B' n:Nat) (xs:List Value),w.ownsRow B' 25 5 v n xs:=fun v hv=>by
  obtain ⟨j,hj,rfl⟩:=mem_getD default hv
  obtain ⟨n,xs,h1,_⟩:=h.has j hj
  exact ⟨_,_,_,h1⟩
 refine ⟨?_,?_⟩
 ·rw [ho.block bp (Array.getElem?_eq_some_iff.1 h.at_).1 (fun v hv'=>by obtain ⟨B',n,xs,hr⟩:=hv v hv';exact ownsRow_off hr h.at_ (by decide))]
  exact h.at_
 ·exact ho.keep h.row (fun v hv'=>by
   obtain ⟨B',n,xs,hr⟩:=hv v hv'
   rcases ownsRow_apart hr h.row val_ne with q|q
   ·exact .inl q
   ·exact .inr (fun e=>q e.symm))

end Go.Proofs.YtnnnfhobbnjmfaaGreatDoor

namespace Go.Proofs.YtnnnfhobbnjmfaaGreatDoor
open Go.RowKit Go.Proofs.Tryz
open Go.RowKit Go.Lib Go.Proofs.Tryz
set_option linter.all false
set_option maxHeartbeats 40000000
set_option maxRecDepth 20000
theorem OwnBytes.slice {w:World} {B T n c:Nat} {p:Option Addr} {l:List UInt8} (h:OwnBytes w B T (.slice p n c) l):l.length = n∧BytesIn w p n c l:=by
 obtain ⟨a,c',e,hb⟩:=h.bytes
 simp only [Value.slice.injEq] at e
 obtain ⟨rfl,rfl,rfl⟩:=e
 exact ⟨rfl,hb⟩

structure Lent (w:World) (b:Nat) (L:List UInt8):Prop where
 ex:∃ fz:Nat × Nat,w.heap[b]? = some (.cells (L.map byteV).toArray 5 fz)∧(fz.2 = 0 ∨ L.length <= fz.1)

theorem Lent.lt {w:World} {b:Nat} {L:List UInt8} (h:Lent w b L):b < w.heap.size:=by
 obtain ⟨fz,h1,_⟩:=h.ex
 exact (gl h1)
theorem Lent.of_block {w w':World} {b:Nat} {L:List UInt8} (h:Lent w b L) (e:w'.heap[b]? = w.heap[b]?):Lent w' b L:=by
 obtain ⟨fz,h1,h2⟩:=h.ex
 exact ⟨fz,e.trans h1,h2⟩
theorem Lent.below {w w':World} {b:Nat} {L:List UInt8} (h:Lent w b L) (hb:Below w.heap.size w w'):Lent w' b L:=h.of_block (hb.block b h.lt)
theorem Lent.cell {w:World} {b:Nat} {L:List UInt8} (h:Lent w b L) (i:Nat) (hi:i < L.length):w.cell? ⟨b,i,none⟩ = some (.int .u8 (L.getD i 0).toNat):=by
 obtain ⟨fz,h1,_⟩:=h.ex
 simp only [World.cell?,h1,Option.isSome_none,Bool.false_eq_true,if_false]
 simp [byteV,List.getD_eq_getElem?_getD,hi]
theorem Lent.frozen {w:World} {b:Nat} {L:List UInt8} (h:Lent w b L) (i:Nat) (hi:i < L.length):w.frozen? ⟨b,i,none⟩ = false:=by
 obtain ⟨fz,h1,h2⟩:=h.ex
 simp only [World.frozen?,h1]
 rcases h2 with h2|h2
 ·simp [h2]
 ·have:¬ fz.1 <= i:=by omega
  simp [this]
theorem Lent.set {w:World} {b:Nat} {L:List UInt8} (h:Lent w b L) (i:Nat) (x:UInt8):Lent (w.setCell ⟨b,i,none⟩ (.int .u8 (x.toNat:Int))) b (L.set i x):=by
 obtain ⟨fz,h1,h2⟩:=h.ex
 refine ⟨fz,?_,by rw [List.length_set];exact h2⟩
 rw [Go.Joins.block_setCell h1]
 congr 2
 simp [byteV]
theorem Lent.setCells {b:Nat}:∀ (cs L:List UInt8) (off:Nat) (w:World),Lent w b L -> off+cs.length <= L.length -> Lent (w.setCells b off (cs.map byteV)) b (L.take off ++ (cs ++ L.drop (off+cs.length)))
 | [],L,off,w,h,hl=>by simpa [World.setCells] using h
 | c :: cs,L,off,w,h,hl=>by
  have h1:=Lent.setCells cs (L.set off c) (off+1) (w.setCell ⟨b,off,none⟩ (byteV c)) (h.set off c) (by rw [List.length_set];simp at hl;omega)
  have e:(L.set off c).take (off+1) ++ (cs ++ (L.set off c).drop (off+1+cs.length)) = L.take off ++ (c :: cs ++ L.drop (off+(c :: cs).length)):=by
   have hlo:off < L.length:=by simp at hl;omega
   rw [List.take_set,List.take_succ_eq_append_getElem hlo,List.set_append_right _ _ (by simp;omega)]
   have:off - (L.take off).length = 0:=by simp;omega
   rw [this,List.drop_set_of_lt (by omega)]
   simp [Nat.add_assoc,Nat.add_comm 1]
  rw [e] at h1
  exact h1
theorem Lent.bytes {w:World} {b:Nat} {L:List UInt8} (h:Lent w b L) (off n c:Nat) (hn:off+n <= L.length) (hc:n <= c) (hm:c <= maxLen):BytesIn w (some ⟨b,off,none⟩) n c ((L.drop off).take n):=by
 refine ⟨by rw [List.length_take,List.length_drop];omega,hc,hm,fun _=>⟨b,off,rfl,h.lt,fun i hi=>?_⟩⟩
 rw [h.cell (off+i) (by omega)]
 simp only [List.getD_eq_getElem?_getD,List.getElem?_take,if_pos hi,List.getElem?_drop]

theorem setCells_other (b:Nat):∀ (cs:List Value) (off:Nat) (w:World) (k:Nat),k ≠ b -> (w.setCells b off cs).heap[k]? = w.heap[k]?
 | [],_,_,_,_=>rfl
 | v :: cs,off,w,k,h=>by
  show ((w.setCell ⟨b,off,none⟩ v).setCells b (off+1) cs).heap[k]? = _
  rw [setCells_other b cs (off+1) _ k h]
  exact heap_setCell_other w ⟨b,off,none⟩ k v h
theorem setCells_below (B b:Nat) (hB:B <= b):∀ (cs:List Value) (off:Nat) (w:World),Below B w (w.setCells b off cs)
 | [],_,w=>Below.refl _ _
 | v :: cs,off,w=>((Below.refl B w).setCell hB v).trans (setCells_below B b hB cs (off+1) _)
theorem setCells_size (b:Nat):∀ (cs:List Value) (off:Nat) (w:World),(w.setCells b off cs).heap.size = w.heap.size
 | [],_,_=>rfl
 | v :: cs,off,w=>by
  show ((w.setCell ⟨b,off,none⟩ v).setCells b (off+1) cs).heap.size = _
  rw [setCells_size b cs (off+1)]
  simp

theorem setCell_grown (w:World) (b j:Nat) (v:Value):w.grownBy (w.setCell ⟨b,j,none⟩ v) (some b) :=
 ⟨rfl,rfl,rfl,by simp [World.setCell],fun k hk hne=>by
  have:b ≠ k:=fun h=>hne (by rw [h])
  simp [World.setCell,Array.getElem?_modify,this]⟩

theorem OwnBytes.off {w:World} {B T b:Nat} {v:Value} {l:List UInt8} (h:OwnBytes w B T v l) (hb:b < B):v.ownBlock = none ∨ v.ownBlock ≠ some b:=by
 cases hv:v.ownBlock with
 | none=>exact .inl rfl
 | some g =>
  refine .inr (fun he=>?_)
  simp only [Option.some.injEq] at he
  have:=(h.row.lt g hv).1
  omega

theorem grown_trans {w w1 w2:World} {row:Option Nat} (h1:w.grownBy w1 row) (h2:w1.grownBy w2 row):w.grownBy w2 row :=
 ⟨h2.os.trans h1.os,h2.tape.trans h1.tape,h2.output.trans h1.output,Nat.le_trans h1.size h2.size,fun k hk hne=>(h2.block k (Nat.lt_of_lt_of_le hk h1.size) hne).trans (h1.block k hk hne)⟩
set_option linter.all false
set_option maxHeartbeats 40000000
set_option maxRecDepth 20000

theorem wpList_copy_lent2 {P:Program} {w:World} {ops:Array Oper} {rest:List Oper} {o:Oper} {a:Act} {Q:Exit -> Act -> World -> Prop} (hgd:o.guard = none) (d s:Operand) (dT:TypeId)
  (ho:o.op = .call { callee:=.builtin .copy,args:=#[d,s],argTypes:=#[dT,dT] }) (hu:P.underlying dT = some (.slice 5)) (hinfo:(P.info? 5).map (fun i=>(i.zero,i.size,i.bytes)) = some (some (.int .u8 0),1,1))
  (sp:Option Addr) (dn n dCap sCap:Nat) (hdn:n <= dn) (b:Nat) (hd:a.eval d = .slice (some ⟨b,0,none⟩) dn dCap) (hs:a.eval s = .slice sp n sCap)
  (L src:List UInt8) (hb:Lent w b L) (hsrc:BytesIn w sp n sCap src) (hfit:n <= L.length)
  (h:∀ w',Lent w' b (src ++ L.drop n) -> Below b w w' -> w'.heap.size = w.heap.size -> (∀ k,k ≠ b -> w'.heap[k]? = w.heap[k]?) -> wpList P ops Q rest (a.put o.dst (goInt (n:Int))) w') :
  wpList P ops Q (o :: rest) a w:=by
 obtain ⟨i,hi,hzz⟩:=Option.map_eq_some_iff.1 hinfo
 simp only [Prod.mk.injEq] at hzz
 have hsz:(P.info? 5).map (·.size) = some 1:=by rw [hi];simp [hzz.2.1]
 have hl:=hsrc.len
 refine wpList_plain hgd fun K hK=>?_
 by_cases h0:n = 0
 ·subst h0
  have hrun:=run_copy_none (P:=P) w dT dT o.type 5 (some ⟨b,0,none⟩) sp dn dCap 0 sCap hu hsz (by simp)
  obtain rfl:src = []:=List.eq_nil_of_length_eq_zero hl
  have:=h w (by simpa using hb) (Below.refl _ _) rfl (fun _ _=>rfl)
  unfold Oper.wp
  simp [execOp,ho,resolve,invoke,builtin,hd,hs,hrun,Result.andThen]
  exact hK _ _ this
 ·obtain ⟨sb,so,rfl,hsb,hcell⟩:=hsrc.at_ (by have:=hsrc.le;omega)
  have hrun:=run_copy_cells (P:=P) w dT dT o.type 5 b 0 dn dCap ⟨sb,so,none⟩ n sCap (src.map byteV) hu hsz (by rw [List.length_map,hl];exact (Nat.min_eq_left hdn).symm) (by
   intro j v hj
   have hadd:(⟨sb,so,none⟩:Addr).add j = ⟨sb,so+j,none⟩:=by unfold Addr.add;split <;> simp_all
   have hjl:j < n:=by
    have:=(List.getElem?_eq_some_iff.1 hj).1
    rw [List.length_map,hl] at this
    exact this
   rw [hadd,hcell j hjl,← hj,List.getElem?_map,List.getD_eq_getElem?_getD,List.getElem?_eq_getElem (by omega)]
   simp [byteV]) (by
   intro j hj
   rw [List.length_map,hl] at hj
   rw [Nat.zero_add,hb.cell j (by omega)]
   rfl) (by
   intro j hj
   rw [List.length_map,hl] at hj
   rw [Nat.zero_add]
   exact hb.frozen j (by omega)) (by
   intro v hv
   obtain ⟨x,_,rfl⟩:=List.mem_map.1 hv
   rfl)
  rw [List.length_map,hl] at hrun
  have hnew:=Lent.setCells src L 0 w hb (by omega)
  rw [Nat.zero_add,hl,List.take_zero,List.nil_append] at hnew
  unfold Oper.wp
  simp only [execOp,ho,resolve,invoke,builtin,Sem.run_bind,Sem.run_pure,Result.andThen_ok,List.map_toArray,List.map_cons,List.map_nil,hd,hs,hrun]
  exact hK _ _ (h _ hnew (setCells_below b b (Nat.le_refl _) _ _ _) (setCells_size _ _ _ _) (fun k hk=>setCells_other _ _ _ _ k hk))

def markB:List UInt8:=[200,201,202,203,204,205,206,207,208]
theorem markB_getD (k:Nat) (h:k < 9):markB.getD k 0 = UInt8.ofNat (200+k):=by
 match k,h with
 | 0,_=>rfl
 | 1,_=>rfl
 | 2,_=>rfl
 | 3,_=>rfl
 | 4,_=>rfl
 | 5,_=>rfl
 | 6,_=>rfl
 | 7,_=>rfl
 | 8,_=>rfl
theorem markB_toNat (k:Nat) (h:k < 9):((markB.getD k 0).toNat:Int) = 200+(k:Int):=by
 rw [markB_getD k h]
 simp only [UInt8.toNat_ofNat']
 omega
def lentTo (l:List UInt8) (k:Nat):List UInt8:=l ++ (markB.take k ++ List.replicate (9 - k) 0)
theorem lentTo_length (l:List UInt8) (k:Nat) (h:k <= 9):(lentTo l k).length = l.length+9:=by
 simp only [lentTo,List.length_append,List.length_take,List.length_replicate,show markB.length = 9 from rfl]
 omega
theorem lentTo_set (l:List UInt8) (k:Nat) (h:k < 9):(lentTo l k).set (l.length+k) (UInt8.ofNat (200+k)) = lentTo l (k+1):=by
 unfold lentTo
 rw [List.set_append_right _ _ (by omega)]
 congr 1
 rw [show l.length+k - l.length = k by omega]
 match k,h with
 | 0,_=>rfl
 | 1,_=>rfl
 | 2,_=>rfl
 | 3,_=>rfl
 | 4,_=>rfl
 | 5,_=>rfl
 | 6,_=>rfl
 | 7,_=>rfl
 | 8,_=>rfl
theorem lentTo_all (l:List UInt8):lentTo l 9 = l ++ markB:=by simp [lentTo,markB]

def LbOut (w:World) (l:List UInt8) (e:Ending) (w':World):Prop :=
 e = .returned (.slice (some ⟨w.heap.size,0,none⟩) l.length (l.length+9))∧Below w.heap.size w w'∧w'.heap.size = w.heap.size+1∧Lent w' w.heap.size (l ++ markB)

theorem lentB_any (w:World) (a:Option Addr) (n c:Nat) (l:List UInt8) (h:BytesIn w a n c l) (hz:n <= 1048576) :
  Calls prog 17 #[.slice a n c] w (LbOut w l):=by
 have hl:=h.len
 have hcap:=h.cap
 have hle:=h.le
 unfold maxLen at hcap
 have hmk:=run_make_row' (P:=prog) 28 5 (.int .u8 0) 1 underlying28 info_u8 rfl .i64 .i64 (n+9) (by omega) (by omega) w
 have a0:(w.alloc (.cells (madeCells #[.int .u8 0] (n+9)) 5)).heap[w.heap.size]? = some (.cells (madeCells #[.int .u8 0] (n+9)) 5 (0,0)):=heap_alloc_new _ _
 have hmc:madeCells #[.int .u8 0] (n+9) = ((List.replicate (n+9) (0:UInt8)).map byteV).toArray:=by
  apply Array.ext
  ·simp [size_madeCells]
  ·intro i h1 h2
   simp [madeCells,Nat.mod_one,byteV]
 have hL0:Lent (w.alloc (.cells (madeCells #[.int .u8 0] (n+9)) 5)) w.heap.size (List.replicate (n+9) 0):=⟨(0,0),by rw [a0,hmc],.inl rfl⟩
 have hb1:Below w.heap.size w (w.alloc (.cells (madeCells #[.int .u8 0] (n+9)) 5)):=(Below.refl _ w).alloc (Nat.le_refl _) _
 have hz1:(w.alloc (.cells (madeCells #[.int .u8 0] (n+9)) 5)).heap.size = w.heap.size+1:=by simp
 have hs1:=h.below hb1
 obtain ⟨g,hg⟩:∃ g,w.heap.size = g:=⟨_,rfl⟩
 unfold LbOut
 rw [hg] at hL0 hb1 hz1 hmk ⊢
 rw [hl]
 generalize (w.alloc (.cells (madeCells #[.int .u8 0] (n+9)) 5)) = w1 at *
 generalize madeCells #[.int .u8 0] (n+9) = mc at *
 have HL0:=zH hL0
 have HB1:=zH hb1
 have HS1:=zH hs1
 have HG:=zH hg
 have HZ:=zH hz1
 have HL:=zH hl
 have hmk':(Instr.makeSlice 28 (.int .i64 ((n:Int)+9)) (.int .i64 ((n:Int)+9))).run prog w = .ok (.slice (some ⟨g,0,none⟩) (n+9) (n+9)) w1:=hmk
 clear hL0 hb1 hs1 h a0 hmc hmk hg hz1 hl
 go_enter func17,ntmps17
 go_upto_region 2 with fail
 go_wp2_with (refine wpList_copy_lent2 rfl (.tmp 9) (.tmp 10) 28 rfl underlying28 info_u8 a (n+9) n (n+9) c (by omega) g rfl rfl (List.replicate (n+9) 0) l HL0.out HS1.out (by simp) ?_)
 intro w2 hl2 hb2 hz2 hk2
 have hl2':Lent w2 g (lentTo l 0):=by
  have e:lentTo l 0 = l ++ [0,0,0,0,0,0,0,0,0]:=by simp [lentTo]
  rw [e]
  first
   | exact hl2
   | simpa [show n+9 - n = 9 by omega] using hl2
 have HL2:=zH hl2'
 have HB2:=zH (HB1.out.trans hb2)
 have HZ2:=zH (hz2.trans HZ.out)
 clear hl2 hb2 hz2 hk2 hl2' hmk' HL0 HB1 HS1 HZ
 go_wp2_with fail
 go_loopw [4] (fun i wr=>∃ k:Nat,k <= 9∧i = .int .i64 ((n:Int)+(k:Int))∧Lent wr g (lentTo l k)∧Below g w wr∧wr.heap.size = g+1) (fun i _=>n+9 - (intOf i).toNat)
 case atStart=>exact ⟨0,by omega,by simp,HL2.out,HB2.out,HZ2.out⟩
 obtain ⟨k,hk,rfl,hL,hB,hZ⟩:=hrel
 by_cases hlt:k < 9
 ·have hln:(n:Int)+(k:Int) < (n:Int)+9:=by omega
  have hn0:¬ (n:Int)+(k:Int) < 0:=by omega
  have hcl:=hL.cell (n+k) (by rw [lentTo_length l k hk,HL.out];omega)
  have hfz:=hL.frozen (n+k) (by rw [lentTo_length l k hk,HL.out];omega)
  have hs:=hL.set (n+k) (UInt8.ofNat (200+k))
  have hset:=lentTo_set l k hlt
  rw [HL.out] at hset
  rw [hset] at hs
  have e200:((UInt8.ofNat (200+k)).toNat:Int) = 200+(k:Int):=by rw [← markB_getD k hlt];exact markB_toNat k hlt
  rw [e200] at hs
  have HS:=zH hs
  have HBn:=zH (hB.setCell (p:=⟨g,n+k,none⟩) (Nat.le_refl _) (.int .u8 (200+(k:Int))))
  have HZn:=zH hZ
  clear hL hs hset e200 hB hZ HL2 HB2 HZ2
  go_wp2_with fail
  rw [show (200+((n:Int)+(k:Int)) - (n:Int)) = 200+(k:Int) from by omega]
  go_roundw
  case rel=>exact ⟨k+1,by omega,by congr 1,HS.out,HBn.out,by simpa using HZn.out⟩
  case measure=>simp [intOf];omega
 obtain rfl:k = 9:=by omega
 rw [lentTo_all] at hL
 have HLL:=zH hL
 have HBB:=zH hB
 have HZZ:=zH hZ
 have hn9:¬ (n:Int)+9 < (n:Int)+9:=by omega
 clear hL hB hZ HL2 HB2 HZ2
 go_wp2_with fail
 go_ret
 exact ⟨rfl,HBB.out,HZZ.out,HLL.out⟩
theorem asLentB_any (w:World) (g n c:Nat) (l:List UInt8) (a:Option Addr) (hg:Lent w g (l ++ markB)) (h:BytesIn w a n c l) (hz:n <= 1048576) :
  Calls prog 21 #[.slice (some ⟨g,0,none⟩) n (n+9),.slice a n c] w fun e w'=>e = .returned (.bool true)∧w.grownBy w' (some g)∧w'.heap.size = w.heap.size:=by
 have hcc:=h.cap
 have hcl:=h.le
 unfold maxLen at hcc
 have hrl:=h.len
 have hll:(l ++ markB).length = n+9:=by rw [List.length_append,hrl];rfl
 have hall:=hg.bytes 0 n (n+9) (by omega) (by omega) (by unfold maxLen;omega)
 rw [List.drop_zero,List.take_left' hrl] at hall
 have v1:=run_string_bytes (P:=prog) w 28 9 5 underlying28 underlying5 underlying9 _ _ _ _ hall
 have v2:=run_string_bytes (P:=prog) w 28 9 5 underlying28 underlying5 underlying9 _ _ _ _ h
 have HG:=zH hg
 have HLL:=zH hll
 have HRL:=zH hrl
 clear h hall hg hll hrl
 go_enter func21,ntmps21
 go_wp2_with fail
 go_loopw [6,7] (fun s6 s7 wr=>∃ (k:Nat) (L':List UInt8),k <= n+9∧s6 = .bool true∧s7 = .int .i64 k∧Lent wr g L'∧L'.length = n+9∧(∀ j,k <= j -> L'.getD j 0 = (l ++ markB).getD j 0)∧w.grownBy wr (some g)∧wr.heap.size = w.heap.size) (fun _ s7 _=>n+9 - (intOf s7).toNat)
 case atStart=>exact ⟨0,_,by omega,by first|rfl|simp,rfl,HG.out,HLL.out,fun j _=>rfl,⟨rfl,rfl,rfl,Nat.le_refl _,fun _ _ _=>rfl⟩,rfl⟩
 obtain ⟨k,L',hk,rfl,rfl,hl,hll,hsame,hgr,hzz⟩:=hrel
 by_cases hlt:k < n+9
 ·have hc:=hl.cell k (by omega)
  have hf:=hl.frozen k (by omega)
  have hs:=hl.set k 77
  have hs':Lent (wr.setCell ⟨g,k,none⟩ (.int .u8 77)) g (L'.set k 77):=hs
  have hgr2:w.grownBy (wr.setCell ⟨g,k,none⟩ (.int .u8 77)) (some g):=grown_trans hgr (setCell_grown wr g k _)
  have hkv:=hsame k (Nat.le_refl _)
  have hsm:∀ j,k+1 <= j -> (L'.set k 77).getD j 0 = (l ++ markB).getD j 0:=fun j hj=>by
   rw [List.getD_eq_getElem?_getD,List.getElem?_set_ne (by omega),← List.getD_eq_getElem?_getD]
   exact hsame j (by omega)
  have HS:=zH hs'
  have HGR:=zH hgr2
  have HSM:=zH hsm
  have HZ:=zH hzz
  have HL':=zH hll
  have hklt:(k:Int) < (n:Int)+9:=by omega
  rw [hkv] at hc
  by_cases hkn:k < n
  ·have hkn':¬ (n:Int) <= (k:Int):=by omega
   have hkd:decide ((n:Int) <= (k:Int)) = false:=by simpa using hkn
   obtain ⟨y,hy⟩:∃ y,(((l ++ markB).getD k 0).toNat:Int) = y:=⟨_,rfl⟩
   rw [hy] at hc
   clear hl hs hs' hgr hgr2 hkv hsame hsm hll hy hzz v1 v2
   go_wp2_with fail
   go_roundw
   case rel=>exact ⟨k+1,_,by omega,rfl,by go_num,HS.out,by rw [List.length_set];exact HL'.out,HSM.out,HGR.out,by simpa using HZ.out⟩
   case measure=>simp [intOf];omega
  ·obtain ⟨m,rfl⟩:∃ m,k = n+m:=⟨k - n,by omega⟩
   have hm:m < 9:=by omega
   have ev:(((l ++ markB).getD (n+m) 0).toNat:Int) = 200+(m:Int):=by
    rw [← HRL.out,List.getD_eq_getElem?_getD,List.getElem?_append_right (by omega),show l.length+m - l.length = m by omega,← List.getD_eq_getElem?_getD]
    exact markB_toNat m hm
   rw [ev] at hc
   have hkn':(n:Int) <= ((n+m:Nat):Int):=by omega
   clear hl hs hs' hgr hgr2 hkv hsame hsm hll ev hzz v1 v2
   go_wp2_with fail
   go_roundw
   case rel=>exact ⟨n+m+1,_,by omega,rfl,by go_num,HS.out,by rw [List.length_set];exact HL'.out,HSM.out,HGR.out,by simpa using HZ.out⟩
   case measure=>simp [intOf];omega
 obtain rfl:k = n+9:=by omega
 have HGR:=zH hgr
 have HZ:=zH hzz
 clear hl hgr hsame hll hzz v1 v2
 go_wp2_with fail
 go_ret
 exact ⟨rfl,HGR.out,HZ.out⟩

attribute [local go_sem] Oper.semAt_some

theorem lent_bytes {w:World} {g:Nat} {B:List UInt8} {n:Nat} (h:Lent w g (B ++ markB)) (hn:B.length = n) (hm:n ≤ 1048576):BytesIn w (some ⟨g,0,none⟩) n (n+9) B:=by
 have q:=h.bytes 0 n (n+9) (by rw [List.length_append];omega) (by omega) (by unfold maxLen;omega)
 rw [List.drop_zero,List.take_append_of_le_length (by omega),List.take_of_length_le (by omega)] at q
 exact q
theorem whole_as (w:World) (p:Option Addr) (n cp:Nat) (B:List UInt8) (hB:BytesIn w p n cp B) (hT:Tabs w) (hn:n ≤ 140737488355328) {v:V} {pl ec:Int} (hA:wholeS B = (v,pl,ec)) :
  Calls Tryz.prog 24 #[.slice p n cp] w fun e w'=>∃ q c F,e = .returned (.tuple #[.agg #[.int .i64 v.kind,.int .u64 v.num,.string v.text,.slice q v.list.length c,.int .i64 v.elem],.int .i64 pl,.int .i64 ec])∧VO w' w.heap.size v (.slice q v.list.length c) F∧Below w.heap.size w w':=by
 refine (whole_any w p n cp B hB hT hn).mono (fun e w' h=>?_)
 obtain ⟨s,F,he,hv,hb⟩:=h
 rw [hA] at he hv
 obtain ⟨q,c,hs,_,_⟩:=hv.slice
 subst hs
 exact ⟨q,c,F,he,hv,hb⟩
theorem rwhole_as (w:World) (p:Option Addr) (n cp:Nat) (B:List UInt8) (hB:BytesIn w p n cp B) (hT:Tabs w) (hn:n ≤ 140737488355328) {v:V} {pl ec:Int} (hA:wholeS B = (v,pl,ec)) :
  Calls Tryz.prog 26 #[.slice p n cp] w fun e w'=>∃ q c F,e = .returned (.tuple #[.agg #[.int .i64 v.kind,.int .u64 v.num,.string v.text,.slice q v.list.length c,.int .i64 v.elem],.int .i64 pl,.int .i64 ec])∧VO w' w.heap.size v (.slice q v.list.length c) F∧Below w.heap.size w w':=by
 refine (rwhole_any w p n cp B hB hT hn).mono (fun e w' h=>?_)
 obtain ⟨s,F,he,hv,hb⟩:=h
 rw [hA] at he hv
 obtain ⟨q,c,hs,_,_⟩:=hv.slice
 subst hs
 exact ⟨q,c,F,he,hv,hb⟩
structure Wv (W:World) (lo z:Nat) (v:V) (s:Value):Prop where
 row:W.heap[z]? = some (.cells #[.int .i64 v.kind,.int .u64 v.num,.string v.text,s,.int .i64 v.elem] 25 (0,0))
 hz:lo ≤ z
 vo:∃ F,VO W lo v s F
theorem Wv.below {W W':World} {lo z:Nat} {v:V} {s:Value} (h:Wv W lo z v s) (hb:Below W.heap.size W W'):Wv W' lo z v s :=
 ⟨(hb.block z (gl h.row)).trans h.row,h.hz,by obtain ⟨F,hv⟩:=h.vo;exact ⟨F,hv.blw hb⟩⟩
theorem Wv.grown {W W':World} {lo z g:Nat} {v:V} {s:Value} (h:Wv W lo z v s) (hg:W.grownBy W' (some g)) (hl:g < lo):Wv W' lo z v s :=
 ⟨(hg.block z (gl h.row) (fun e=>by cases e;have:=h.hz;omega)).trans h.row,h.hz,by
   obtain ⟨F,hv⟩:=h.vo
   exact ⟨F,hv.keep (fun b hb=>hg.block b (hv.lt b hb).2 (fun e=>by cases e;have:=(hv.lt g hb).1;omega))⟩⟩
theorem Wv.made {W w1:World} {v:V} {p:Option Addr} {c:Nat} {F:Nat → Prop} (hv:VO w1 W.heap.size v (.slice p v.list.length c) F) (hb:Below W.heap.size W w1) :
  Wv ((w1.alloc (.cells zR 25)).setRow w1.heap.size #[.int .i64 v.kind,.int .u64 v.num,.string v.text,.slice p v.list.length c,.int .i64 v.elem]) W.heap.size w1.heap.size v (.slice p v.list.length c):=by
 have hb2:Below w1.heap.size w1 ((w1.alloc (.cells zR 25)).setRow w1.heap.size #[.int .i64 v.kind,.int .u64 v.num,.string v.text,.slice p v.list.length c,.int .i64 v.elem]):=below_setRow ((Below.refl _ _).alloc (Nat.le_refl _) _) (Nat.le_refl _) _
 exact ⟨setRow_heap (w1.alloc (.cells zR 25)) w1.heap.size _ #[.int .i64 v.kind,.int .u64 v.num,.string v.text,.slice p v.list.length c,.int .i64 v.elem] _ _ (_root_.Go.heap_alloc_new w1 _),hb.size,F,hv.blw hb2⟩
theorem wholes_walk (w:World) (hT:Tabs w) (pb:Option Addr) (nb cb:Nat) (B:List UInt8) (hB:BytesIn w pb nb cb B) (hnb:nb ≤ 1048576) :
  Calls Tryz.prog 5 #[.slice pb nb cb] w fun e w'=>e = .returned (.bool true)∧Below w.heap.size w w':=by
 have hbl:=hB.len
 obtain ⟨⟨v,pl,ec⟩,hA⟩:∃ A,wholeS B = A:=⟨_,rfl⟩
 obtain ⟨sh,hsh⟩:∃ b,shortestS B = b:=⟨_,rfl⟩
 have HT:=Lib.hid hT
 have HBC:=Lib.hid hB
 have HBL:=Lib.hid hbl
 have HBN:=Lib.hid hnb
 have HA:=Lib.hid (And.intro hA hsh)
 have hnb9:(nb:Int) ≤ 1048576:=by omega
 clear hT hB hbl hA hnb hsh
 go_enter Tryz.func5,Tryz.ntmps5
 go_wp2_with fail
 refine (awake_any w HT.out).mono ?_
 rintro e W1 ⟨rfl,hb1⟩
 have H1:=Lib.hid hb1
 clear hb1
 go_wp2_with fail
 refine (lentB_any W1 pb nb cb B (HBC.out.below H1.out) HBN.out).mono ?_
 rintro e W2 ⟨rfl,hb2,hz2,hl2⟩
 rw [HBL.out]
 obtain ⟨g1,hg1⟩:∃ g,W1.heap.size = g:=⟨_,rfl⟩
 rw [hg1] at hz2 hl2 ⊢
 have H2:=Lib.hid (And.intro (H1.out.trans (hb2.mono H1.out.size)) (And.intro (show g1 < W2.heap.size by omega) (And.intro hl2 (show w.heap.size ≤ g1 from hg1 ▸ H1.out.size))))
 clear hb2 hz2 hl2 hg1
 go_wp2_with fail
 refine (whole_as W2 _ _ _ _ (lent_bytes H2.out.2.2.1 HBL.out HBN.out) (HT.out.below H2.out.1) (by have:=HBN.out;omega) HA.out.1).mono ?_
 rintro e wc ⟨q1,kp1,F1,rfl,hv,hb⟩
 go_upto_region 6 with (refine stV (.tmp 5) (.tmp 27) rfl rfl rfl rfl rfl (_root_.Go.heap_alloc_new wc _) rfl ?_)
 have hm:=Wv.made hv hb
 have hb2:Below wc.heap.size wc ((wc.alloc (.cells zR 25)).setRow wc.heap.size #[.int .i64 v.kind,.int .u64 v.num,.string v.text,.slice q1 v.list.length kp1,.int .i64 v.elem]):=below_setRow ((Below.refl _ _).alloc (Nat.le_refl _) _) (Nat.le_refl _) _
 change Code.wp _ _ _ _ ((wc.alloc (.cells zR 25)).setRow wc.heap.size #[.int .i64 v.kind,.int .u64 v.num,.string v.text,.slice q1 v.list.length kp1,.int .i64 v.elem])
 generalize ((wc.alloc (.cells zR 25)).setRow wc.heap.size #[.int .i64 v.kind,.int .u64 v.num,.string v.text,.slice q1 v.list.length kp1,.int .i64 v.elem]) = W3 at *
 obtain ⟨z1,hz⟩:∃ z,wc.heap.size = z:=⟨_,rfl⟩
 rw [hz] at hm ⊢
 have HV1:=Lib.hid hm
 have HB1:=Lib.hid (hb.trans (hb2.mono hb.size))
 clear hm hb2 hv hb hz
 have H3:=Lib.hid (And.intro (H2.out.1.trans (HB1.out.mono H2.out.1.size)) (H2.out.2.2.1.below HB1.out))
 go_wp2_with fail
 refine (shortest_any W3 _ _ _ _ (lent_bytes H3.out.2 HBL.out HBN.out) (HT.out.below H3.out.1) (by have:=HBN.out;omega)).mono ?_
 rintro e W4 ⟨rfl,hb4⟩
 rw [HA.out.2]
 have H4:=Lib.hid (And.intro (H3.out.1.trans (hb4.mono H3.out.1.size)) (And.intro (H3.out.2.below hb4) (HV1.out.below hb4)))
 clear hb4
 go_wp2_with fail
 refine (whole_as W4 _ _ _ _ (lent_bytes H4.out.2.1 HBL.out HBN.out) (HT.out.below H4.out.1) (by have:=HBN.out;omega) HA.out.1).mono ?_
 rintro e wc ⟨q2,kp2,F2,rfl,hv,hb⟩
 go_upto_region 8 with (refine stV (.tmp 9) (.tmp 35) rfl rfl rfl rfl rfl (_root_.Go.heap_alloc_new wc _) rfl ?_)
 have hm:=Wv.made hv hb
 have hb2:Below wc.heap.size wc ((wc.alloc (.cells zR 25)).setRow wc.heap.size #[.int .i64 v.kind,.int .u64 v.num,.string v.text,.slice q2 v.list.length kp2,.int .i64 v.elem]):=below_setRow ((Below.refl _ _).alloc (Nat.le_refl _) _) (Nat.le_refl _) _
 change Code.wp _ _ _ _ ((wc.alloc (.cells zR 25)).setRow wc.heap.size #[.int .i64 v.kind,.int .u64 v.num,.string v.text,.slice q2 v.list.length kp2,.int .i64 v.elem])
 generalize ((wc.alloc (.cells zR 25)).setRow wc.heap.size #[.int .i64 v.kind,.int .u64 v.num,.string v.text,.slice q2 v.list.length kp2,.int .i64 v.elem]) = W5 at *
 obtain ⟨z2,hz⟩:∃ z,wc.heap.size = z:=⟨_,rfl⟩
 rw [hz] at hm ⊢
 have HV2:=Lib.hid hm
 have HB2:=Lib.hid (hb.trans (hb2.mono hb.size))
 clear hm hb2 hv hb hz
 have H5:=Lib.hid (And.intro (H4.out.1.trans (HB2.out.mono H4.out.1.size)) (And.intro (H4.out.2.1.below HB2.out) (H4.out.2.2.below HB2.out)))
 go_wp2_with fail
 refine (asLentB_any W5 g1 nb cb B pb H5.out.2.1 (HBC.out.below H5.out.1) HBN.out).mono ?_
 rintro e W6 ⟨rfl,hg6,hz6⟩
 have H6:=Lib.hid (And.intro (gz_below H5.out.1 hg6 H2.out.2.2.2 H5.out.1.size) (And.intro (H5.out.2.2.grown hg6 H2.out.2.1) (HV2.out.grown hg6 (by have h1:=H2.out.2.1;have h2:=HB1.out.size;have h3:=H4.out.2.1.lt;omega))))
 clear hg6 hz6
 go_wp2_with fail
 refine (rwhole_as W6 _ _ _ _ (HBC.out.below H6.out.1) (HT.out.below H6.out.1) (by have:=HBN.out;omega) HA.out.1).mono ?_
 rintro e wc ⟨q3,kp3,F3,rfl,hv,hb⟩
 go_upto_region 10 with (refine stV (.tmp 13) (.tmp 44) rfl rfl rfl rfl rfl (_root_.Go.heap_alloc_new wc _) rfl ?_)
 have hm:=Wv.made hv hb
 have hb2:Below wc.heap.size wc ((wc.alloc (.cells zR 25)).setRow wc.heap.size #[.int .i64 v.kind,.int .u64 v.num,.string v.text,.slice q3 v.list.length kp3,.int .i64 v.elem]):=below_setRow ((Below.refl _ _).alloc (Nat.le_refl _) _) (Nat.le_refl _) _
 change Code.wp _ _ _ _ ((wc.alloc (.cells zR 25)).setRow wc.heap.size #[.int .i64 v.kind,.int .u64 v.num,.string v.text,.slice q3 v.list.length kp3,.int .i64 v.elem])
 generalize ((wc.alloc (.cells zR 25)).setRow wc.heap.size #[.int .i64 v.kind,.int .u64 v.num,.string v.text,.slice q3 v.list.length kp3,.int .i64 v.elem]) = W7 at *
 obtain ⟨z3,hz⟩:∃ z,wc.heap.size = z:=⟨_,rfl⟩
 rw [hz] at hm ⊢
 have HV3:=Lib.hid hm
 have HB3:=Lib.hid (hb.trans (hb2.mono hb.size))
 clear hm hb2 hv hb hz
 have H7:=Lib.hid (And.intro (H6.out.1.trans (HB3.out.mono H6.out.1.size)) (And.intro (H6.out.2.1.below HB3.out) (H6.out.2.2.below HB3.out)))
 obtain ⟨y10,y11,y12,y13,y14⟩:=c5 H7.out.2.1.row
 obtain ⟨y30,y31,y32,y33,y34⟩:=c5 HV3.out.row
 go_wp2_with fail
 obtain ⟨_,hv1⟩:=H7.out.2.1.vo
 obtain ⟨_,hv3⟩:=HV3.out.vo
 refine (requal_any v W7 _ v _ hv1.vin hv3.vin).mono ?_
 rintro e W8 ⟨rfl,hb8⟩
 rw [decide_eq_true (rfl:v = v)]
 have H8:=Lib.hid (And.intro (H7.out.1.trans (hb8.mono H7.out.1.size)) (And.intro (H7.out.2.2.below hb8) (HV3.out.below hb8)))
 clear hb8 hv1 hv3 y10 y11 y12 y13 y14 y30 y31 y32 y33 y34
 obtain ⟨y20,y21,y22,y23,y24⟩:=c5 H8.out.2.1.row
 obtain ⟨y30,y31,y32,y33,y34⟩:=c5 H8.out.2.2.row
 go_wp2_with fail
 obtain ⟨_,hv2⟩:=H8.out.2.1.vo
 obtain ⟨_,hv3⟩:=H8.out.2.2.vo
 refine (requal_any v W8 _ v _ hv2.vin hv3.vin).mono ?_
 rintro e W9 ⟨rfl,hb9⟩
 rw [decide_eq_true (rfl:v = v)]
 have H9:=Lib.hid (H8.out.1.trans (hb9.mono H8.out.1.size))
 clear hb9 hv2 hv3 y20 y21 y22 y23 y24 y30 y31 y32 y33 y34
 go_wp2_with fail
 refine (rshortest_any W9 _ _ _ _ (HBC.out.below H9.out) (HT.out.below H9.out) (by have:=HBN.out;omega)).mono ?_
 rintro e W10 ⟨rfl,hb10⟩
 rw [HA.out.2]
 have H10:=Lib.hid (H9.out.trans (hb10.mono H9.out.size))
 have hpl:(pl == pl) = true:=by simp
 have hec:(ec == ec) = true:=by simp
 have hss:(sh == sh) = true:=by simp
 clear hb10
 go_wp2_with fail
 go_ret
 exact ⟨rfl,H10.out⟩
end Go.Proofs.YtnnnfhobbnjmfaaGreatDoor


namespace Go.Proofs.YtnnnfhobbnjmfaaGreatDoor
set_option linter.all false
set_option maxHeartbeats 40000000
set_option maxRecDepth 20000
open Go.RowKit Go.Proofs.Tryz
set_option maxRecDepth 100000

theorem accept_eq:(Rows.laid_unicode_utf8_acceptRanges:DataW Unit) = Lib.acceptData:=by kernel_rfl
theorem tabs_of {W:World} (hL:laidMetH Tryz.prog [("unicode/utf8.acceptRanges",Rows.laid_unicode_utf8_acceptRanges),("unicode/utf8.first",Rows.laid_unicode_utf8_first)] W):Tabs W:=by
 have h3:=Lib.laidMet.reads hL (.tail _ (.head _))
 have h4:=Lib.laidMet.reads hL (.head _)
 have e3:Rows.laid_unicode_utf8_first = Lib.firstData:=Pinned.utf8First_eq
 rw [e3] at h3
 rw [accept_eq] at h4
 exact utf8Tabs_of_reads Tryz.lays260 ⟨by kernel_rfl,by kernel_rfl,by kernel_rfl,by kernel_rfl,by kernel_rfl,by kernel_rfl,by kernel_rfl⟩ h3 h4

def putTab (vals:Array Value):Obj → Obj
 | .cells _ t frozen=>.cells vals t frozen
 | o=>o
noncomputable def laidWorld (os:Os):World :=
 { World.holding Tryz.prog os ⟨#[],#[],[]⟩ with
  heap:=((World.holding Tryz.prog os ⟨#[],#[],[]⟩).heap.modify 0 (putTab ((List.range 256).map fun c=>(Value.int .u8 (Lib.firstT c:Int))).toArray)).modify 1 (putTab ((List.range 32).map fun c=>(Value.int .u8 ((if c % 2 = 0 then Lib.accLo (c / 2) else Lib.accHi (c / 2):Nat):Int))).toArray) }
end Go.Proofs.YtnnnfhobbnjmfaaGreatDoor

namespace Go.Proofs.YtnnnfhobbnjmfaaGreatDoor
open Go.RowKit Go.Proofs.Tryz
set_option linter.all false
set_option maxHeartbeats 40000000
set_option maxRecDepth 20000
theorem bulk_pos {H:Type} (d:DataW H):1 ≤ Rows.uptoBulk d:=by
 cases d with
 | lit l=>cases l <;> simp [Rows.uptoBulk]
 | nil=>simp [Rows.uptoBulk]
 | ptr d=>simp [Rows.uptoBulk]
 | slice elems spare=>simp [Rows.uptoBulk]
 | agg parts=>simp [Rows.uptoBulk]
 | iface t d=>simp [Rows.uptoBulk]
 | map entries=>simp [Rows.uptoBulk]
 | held h=>simp [Rows.uptoBulk]
theorem bulk_length {H:Type} (l:List (DataW H)):l.length ≤ Rows.uptoBulkAll l:=by
 induction l with
 | nil=>simp [Rows.uptoBulkAll]
 | cons x r ih=>have:=bulk_pos x;simp only [Rows.uptoBulkAll,List.length_cons];omega
theorem bulk_slice {H:Type} {d:DataW H} {n c:Nat} (h:(n = 0∧d = .nil) ∨ ∃ es sp:List (DataW H),d = .slice es sp∧es.length = n∧sp.length = c - n):n ≤ Rows.uptoBulk d:=by
 rcases h with ⟨rfl,rfl⟩|⟨es,sp,rfl,rfl,_⟩
 ·exact Nat.zero_le _
 ·have:=bulk_length es;simp only [Rows.uptoBulk];omega
theorem bulk_bound {H:Type} {l:List (DataW H)} (hk:Rows.uptoSmall H l = true):Rows.uptoBulkAll l ≤ 1048576:=of_decide_eq_true hk
end Go.Proofs.YtnnnfhobbnjmfaaGreatDoor
