/-
  Lemmas on the codec. Conditions: as each says.
-/
import Derived.Test.YtnnnfhobbnjmfaaGreatDoorWn01
import Derived.Deep.MidRow
import Derived.Deep.Upon
import Derived.Deep.Draws
import Derived.Deep.AppendLies
import Derived.Laws.OwnMore
import Derived.Test.YtnnnfhobbnjmfaaGreatDoorProg
import Derived.Great.BuildSlice
import Derived.Laws.CopyOwn
import Derived.Laws.Tables
import Derived.Test.YtnnnfhobbnjmfaaGreatDoorRows
import Derived.WalkKit
import Derived.Deep.DeepCutAuto
import Derived.StillTailTactics
import Derived.Deep.QuietTactic
import Derived.BigQuiet
import Derived.Laws.Rows
import Derived.Deep.RegionHeld3
import Derived.Orders
import Derived.OrdersHeld
import Derived.Deep.RegionHeld
namespace Go.Proofs.YtnnnfhobbnjmfaaGreatDoor
open Go.RowKit
set_option linter.all false
set_option maxHeartbeats 40000000
set_option maxRecDepth 20000

/-! ### a store of several cells -/
def splice (l:List Value) (o:Nat) (vs:List Value):List Value:=l.take o ++ vs ++ l.drop (o+vs.length)
theorem splice_length (l:List Value) (o:Nat) (vs:List Value) (h:o+vs.length ≤ l.length):(splice l o vs).length = l.length:=by
 simp [splice];omega
theorem splice_cons (l:List Value) (o:Nat) (v:Value) (vs:List Value) (h:o+(vs.length+1) ≤ l.length):splice (l.set o v) (o+1) vs = splice l o (v :: vs):=by
 apply List.ext_getElem?
 intro i
 unfold splice
 have h1:((l.set o v).take (o+1)).length = o+1:=by simp;omega
 have h2:(l.take o).length = o:=by simp;omega
 by_cases a:i < o
 ·rw [List.append_assoc,List.append_assoc,List.getElem?_append_left (by omega),List.getElem?_append_left (by omega),List.getElem?_take_of_lt (by omega),List.getElem?_take_of_lt a,List.getElem?_set_ne (by omega)]
 ·by_cases b:i = o
  ·subst b
   rw [List.append_assoc,List.getElem?_append_left (by omega),List.getElem?_take_of_lt (by omega),List.getElem?_set_self (by omega),List.append_assoc,List.getElem?_append_right (by omega),h2]
   simp
  ·rw [List.append_assoc,List.append_assoc,List.getElem?_append_right (l₁:=(l.set o v).take (o+1)) (by omega),List.getElem?_append_right (l₁:=l.take o) (by omega),h1,h2]
   by_cases c:i < o+1+vs.length
   ·rw [List.getElem?_append_left (by omega),List.getElem?_append_left (by simp;omega),show i - o = (i - (o+1))+1 by omega,List.getElem?_cons_succ]
   ·rw [List.getElem?_append_right (by omega),List.getElem?_append_right (by simp;omega),List.getElem?_drop,List.getElem?_drop,List.getElem?_set_ne (by omega)]
    congr 1
    simp
    omega
theorem heap_setCells (g:Nat) (t:TypeId):∀ (vs:List Value) (o:Nat) (w:World) (C:Array Value),w.heap[g]? = some (.cells C t (0,0)) → o+vs.length ≤ C.size → (w.setCells g o vs).heap[g]? = some (.cells (splice C.toList o vs).toArray t (0,0))
 | [],o,w,C,h,_=>by
  simp only [World.setCells,splice,List.append_nil,List.length_nil,Nat.add_zero,List.take_append_drop]
  exact h
 | v :: vs,o,w,C,h,hl=>by
  simp only [World.setCells]
  rw [List.length_cons] at hl
  have h1:=heap_setCell_same w g o C t v h
  have h2:=heap_setCells g t vs (o+1) _ _ h1 (by simp;omega)
  rw [h2]
  congr 2
  rw [Array.toList_setIfInBounds,splice_cons _ _ _ _ (by simp;omega)]
theorem size_setCells (g:Nat) (vs:List Value) (o:Nat) (w:World):(w.setCells g o vs).heap.size = w.heap.size:=by
 induction vs generalizing o w with
 | nil=>rfl
 | cons v vs ih=>simp only [World.setCells];rw [ih];simp [World.setCell]
theorem tape_setCells (g:Nat) (vs:List Value) (o:Nat) (w:World):(w.setCells g o vs).tape = w.tape:=by
 induction vs generalizing o w with
 | nil=>rfl
 | cons v vs ih=>simp only [World.setCells];rw [ih];rfl
theorem setCells_grown (w:World) (g o:Nat) (vs:List Value):w.grownBy (w.setCells g o vs) (some g) :=
 ⟨World.os_setCells w g o vs,tape_setCells g vs o w,World.output_setCells w g o vs,by rw [size_setCells];exact Nat.le_refl _,fun k hk hne=>World.heap_setCells_other w g o vs hk (fun e=>hne (by rw [e]))⟩

/-! ### a row of n elements of K cells each -/
section
variable {e K:Nat}

theorem ownsRow_there {w:World} {B g n cap:Nat} {xs:List Value} (h:w.ownsRow B e K (.slice (some ⟨g,0,none⟩) n cap) n xs) {k:Nat} (hk:k < n):w.there g (k * K) K:=by
 rcases h.2 with ⟨q,_⟩|⟨g',cap',cur,q,_,hb,h1,_,h3,_⟩
 ·simp at q
 ·simp only [Value.slice.injEq,Option.some.injEq,Addr.mk.injEq] at q
  obtain ⟨⟨rfl,_⟩,_,rfl⟩:=q
  intro j hj
  have:k * K+j < cur.size:=by
   have:(k+1) * K ≤ cap * K:=Nat.mul_le_mul_right _ (by omega)
   rw [Nat.succ_mul] at this
   omega
  refine ⟨?_,by simp [World.frozen?,hb]⟩
  rw [cell_of_row _ _ _ _ _ _ hb,Array.getElem?_eq_getElem this]
  rfl

theorem ownsRow_set {w:World} {B g n cap:Nat} {xs ms:List Value} (h:w.ownsRow B e K (.slice (some ⟨g,0,none⟩) n cap) n xs) {k:Nat} (hk:k < n) (hm:ms.length = K) :
  (w.setCells g (k * K) ms).ownsRow B e K (.slice (some ⟨g,0,none⟩) n cap) n (splice xs (k * K) ms):=by
 have hx:=h.1
 have hkn:k * K+K ≤ n * K:=by rw [← Nat.succ_mul];exact Nat.mul_le_mul_right _ hk
 rcases h.2 with ⟨q,_⟩|⟨g',cap',cur,q,hB,hb,h1,h2,h3,h4⟩
 ·simp at q
 ·simp only [Value.slice.injEq,Option.some.injEq,Addr.mk.injEq] at q
  obtain ⟨⟨rfl,_⟩,_,rfl⟩:=q
  have hcn:n * K ≤ cap * K:=Nat.mul_le_mul_right _ h1
  refine ⟨by rw [splice_length _ _ _ (by rw [hx,hm];exact hkn)];exact hx,.inr ⟨g,cap,_,rfl,hB,heap_setCells g e ms (k * K) w cur hb (by rw [hm];omega),h1,h2,?_,?_⟩⟩
  ·rw [List.size_toArray,splice_length cur.toList (k * K) ms (by simp;omega),Array.length_toList];exact h3
  ·rw [← h4]
   have hc:cur.toList.length = cap * K:=by rw [Array.length_toList,h3]
   have h5:(cur.toList.take (k * K)).length = k * K:=by simp;omega
   show (splice cur.toList (k * K) ms).take (n * K) = splice (cur.toList.take (n * K)) (k * K) ms
   unfold splice
   rw [List.take_take,Nat.min_eq_left (by omega),List.take_append,List.length_append,h5,hm,List.take_of_length_le (by rw [List.length_append,h5,hm];omega),List.drop_take]

theorem ownsRow_cell {w:World} {B g n cap:Nat} {xs:List Value} (h:w.ownsRow B e K (.slice (some ⟨g,0,none⟩) n cap) n xs) {i:Nat} {u:Value} (hu:xs[i]? = some u):w.cell? ⟨g,i,none⟩ = some u:=by
 rcases h.2 with ⟨q,_⟩|⟨g',cap',cur,q,_,hb,h1,_,h3,h4⟩
 ·simp at q
 ·simp only [Value.slice.injEq,Option.some.injEq,Addr.mk.injEq] at q
  obtain ⟨⟨rfl,_⟩,_,rfl⟩:=q
  rw [cell_of_row _ _ _ _ _ _ hb,← hu,← h4]
  have hi:i < n * K:=by rw [← h.1];exact (List.getElem?_eq_some_iff.1 hu).1
  rw [List.getElem?_take_of_lt hi,Array.getElem?_toList]

theorem ownsRow_form {w:World} {B n:Nat} {v:Value} {xs:List Value} (h:w.ownsRow B e K v n xs):∃ p c,v = .slice p n c∧n ≤ c∧c ≤ maxLen∧(0 < n → ∃ g,p = some ⟨g,0,none⟩∧B ≤ g∧g < w.heap.size):=by
 rcases h.2 with ⟨rfl,rfl⟩|⟨g,cap,cur,rfl,hB,hb,h1,h2,_⟩
 ·exact ⟨none,0,rfl,by omega,Nat.zero_le _,fun q=>by omega⟩
 ·exact ⟨_,cap,rfl,h1,h2,fun _=>⟨g,rfl,hB,(Array.getElem?_eq_some_iff.1 hb).1⟩⟩

theorem ownsRow_keep {w w':World} {B n:Nat} {v:Value} {xs:List Value} (h:w.ownsRow B e K v n xs) (hk:∀ j,v.ownBlock = some j → w'.heap[j]? = w.heap[j]?):w'.ownsRow B e K v n xs:=by
 refine ⟨h.1,?_⟩
 rcases h.2 with hn|⟨g,cap,cur,hv,hbg,hb,rest⟩
 ·exact .inl hn
 ·exact .inr ⟨g,cap,cur,hv,hbg,(hk g (by rw [hv];rfl)).trans hb,rest⟩
theorem ownsRow_grown {w w':World} {B n:Nat} {v:Value} {xs:List Value} {row:Option Nat} (h:w.ownsRow B e K v n xs) (hg:w.grownBy w' row) (hne:v.ownBlock = none ∨ v.ownBlock ≠ row):w'.ownsRow B e K v n xs :=
 ownsRow_keep h (fun j hj=>hg.block j (h.lt j hj).2 (fun q=>by
  rcases hne with h1|h1
  ·rw [h1] at hj;cases hj
  ·exact h1 (hj.trans q)))
theorem ownsRow_off {w:World} {B n:Nat} {v:Value} {xs:List Value} (h:w.ownsRow B e K v n xs) {b T:Nat} {cs:Array Value} {fr:Nat × Nat} (hv:w.heap[b]? = some (.cells cs T fr)) (hT:e ≠ T):v.ownBlock ≠ some b:=by
 intro q
 rcases h.2 with ⟨rfl,_⟩|⟨g,cap,cur,rfl,_,hb,_⟩
 ·cases q
 ·simp only [Value.ownBlock,Option.some.injEq] at q
  subst q
  rw [hb] at hv
  simp only [Option.some.injEq,Obj.cells.injEq] at hv
  exact hT hv.2.1
theorem ownsRow_apart {w:World} {B B' e' K' n n':Nat} {u v:Value} {xs ys:List Value} (hu:w.ownsRow B e K u n xs) (hv:w.ownsRow B' e' K' v n' ys) (hT:e ≠ e'):u.ownBlock = none ∨ u.ownBlock ≠ v.ownBlock:=by
 rcases hv.2 with ⟨rfl,_⟩|⟨g,cap,cur,rfl,_,hb,_⟩
 ·cases hub:u.ownBlock with
  | none=>exact .inl rfl
  | some b=>exact .inr (fun q=>by cases q)
 ·exact .inr (ownsRow_off hu hb hT)

/-! ### marks -/
def mkRow (ms:List Value):Nat → List Value
 | 0=>[]
 | n+1=>mkRow ms n ++ ms
theorem mkRow_length {ms:List Value} (hm:ms.length = K):∀ n,(mkRow ms n).length = n * K
 | 0=>by simp [mkRow]
 | n+1=>by rw [mkRow,List.length_append,mkRow_length hm n,hm,Nat.succ_mul]
theorem mkRow_get {ms:List Value} (hm:ms.length = K):∀ (n k c:Nat),k < n → c < K → (mkRow ms n)[k * K+c]? = ms[c]?
 | 0,k,c,h,_=>by omega
 | n+1,k,c,h,hc=>by
  rw [mkRow]
  by_cases hk:k < n
  ·have:(k+1) * K ≤ n * K:=Nat.mul_le_mul_right _ hk
   rw [Nat.succ_mul] at this
   rw [List.getElem?_append_left (by rw [mkRow_length hm];omega)]
   exact mkRow_get hm n k c hk hc
  ·obtain rfl:k = n:=by omega
   rw [List.getElem?_append_right (by rw [mkRow_length hm];omega),mkRow_length hm]
   congr 1
   omega
theorem mkRow_take {ms:List Value} (hm:ms.length = K) {m n:Nat} (h:m ≤ n):(mkRow ms n).take (m * K) = mkRow ms m:=by
 induction n with
 | zero=>obtain rfl:m = 0:=by omega
         simp [mkRow]
 | succ n ih =>
  by_cases e:m = n+1
  ·subst e
   rw [List.take_of_length_le (by rw [mkRow_length hm];exact Nat.le_refl _)]
  ·have hmn:m ≤ n:=by omega
   have:=Nat.mul_le_mul_right K hmn
   rw [mkRow,List.take_append_of_le_length (by rw [mkRow_length hm];exact this)]
   exact ih hmn

def KeptG (e K:Nat) (mk:Nat → List Value) (w:World) (B:Nat) (F:List (Value × Nat × Nat)):Prop:=∀ u ∈ F,w.ownsRow B e K u.1 u.2.2 (mkRow (mk u.2.1) u.2.2)
def AptG (F:List (Value × Nat × Nat)) (v:Value) (i n:Nat):Prop:=∀ u ∈ F,u.1.ownBlock = none ∨ u.1.ownBlock ≠ v.ownBlock ∨ (u.2.1 = i∧u.2.2 ≤ n)

variable {mk:Nat → List Value}
theorem KeptG.lt {w:World} {B:Nat} {F:List (Value × Nat × Nat)} (h:KeptG e K mk w B F) {u:Value × Nat × Nat} (hu:u ∈ F) {g:Nat} (hg:u.1.ownBlock = some g):g < w.heap.size:=((h u hu).lt g hg).2

theorem KeptG.step {w w':World} {B i n:Nat} {v v':Value} {F:List (Value × Nat × Nat)} (hK:0 < K) (hm:∀ i,(mk i).length = K) (h:KeptG e K mk w B F) (ha:AptG F v i n) (ho:w.ownsRow B e K v n (mkRow (mk i) n)) (hA:App1 w w' B e K n v v' (mkRow (mk i) n ++ mk i)) :
  KeptG e K mk w' B F∧AptG F v' i (n+1):=by
 have hg:=hA.grown
 refine ⟨fun u hu=>?_,fun u hu=>?_⟩
 ·rcases ha u hu with h1|h1|⟨h1,h2⟩
  ·exact ownsRow_grown (h u hu) hg (.inl h1)
  ·exact ownsRow_grown (h u hu) hg (.inr h1)
  ·by_cases hb:u.1.ownBlock = v.ownBlock
   ·rcases hA with ⟨g,cap,rfl,rfl,hc1,hc2,ho',hg'⟩|⟨cap,rfl,_,_,_,hg'⟩
    ·have hu':=h u hu
     refine ⟨hu'.1,?_⟩
     rcases hu'.2 with hn|⟨g2,cap2,cur2,hv2,hB2,hh2,a1,a2,a3,a4⟩
     ·exact .inl hn
     ·rw [hv2] at hb
      simp only [Value.ownBlock,Option.some.injEq] at hb
      subst hb
      rcases ho.2 with ⟨q,_⟩|⟨g3,cap3,cur3,q,_,hh3,b1,b2,b3,b4⟩
      ·simp at q
      simp only [Value.slice.injEq,Option.some.injEq,Addr.mk.injEq] at q
      obtain ⟨⟨rfl,_⟩,_,rfl⟩:=q
      rw [hh3] at hh2
      simp only [Option.some.injEq,Obj.cells.injEq,and_true] at hh2
      subst hh2
      obtain rfl:cap = cap2:=Nat.eq_of_mul_eq_mul_right hK (b3.symm.trans a3)
      rcases ho'.2 with ⟨q,_⟩|⟨g4,cap4,cur4,q,_,hh4,d1,d2,d3,d4⟩
      ·simp at q
      simp only [Value.slice.injEq,Option.some.injEq,Addr.mk.injEq] at q
      obtain ⟨⟨rfl,_⟩,_,rfl⟩:=q
      refine .inr ⟨g2,cap,cur4,hv2,hB2,hh4,a1,a2,d3,?_⟩
      have hle:u.2.2 * K ≤ (n+1) * K:=Nat.mul_le_mul_right _ (by omega)
      have:(cur4.toList.take ((n+1) * K)).take (u.2.2 * K) = (mkRow (mk i) (n+1)).take (u.2.2 * K):=by rw [d4];rfl
      rw [List.take_take,Nat.min_eq_left hle,mkRow_take (hm i) (by omega)] at this
      rw [this,h1]
    ·exact ownsRow_keep (h u hu) (fun j hj=>hg'.block j ((h u hu).lt j hj).2 (by simp))
   ·exact ownsRow_grown (h u hu) hg (.inr hb)
 ·rcases hA with ⟨g,cap,rfl,rfl,_⟩|⟨cap,rfl,_⟩
  ·rcases ha u hu with h1|h1|⟨h1,h2⟩
   ·exact .inl h1
   ·exact .inr (.inl h1)
   ·exact .inr (.inr ⟨h1,by omega⟩)
  ·refine .inr (.inl (fun he=>?_))
   have:=h.lt hu (g:=w.heap.size) (by rw [he];rfl)
   omega
structure OnlyG (vs:List Value) (w w':World):Prop where
 os:w'.os = w.os
 tape:w'.tape = w.tape
 output:w'.output = w.output
 size:w.heap.size ≤ w'.heap.size
 block:∀ k,k < w.heap.size → (∀ v ∈ vs,v.ownBlock ≠ some k) → w'.heap[k]? = w.heap[k]?

theorem OnlyG.refl (vs:List Value) (w:World):OnlyG vs w w:=⟨rfl,rfl,rfl,Nat.le_refl _,fun _ _ _=>rfl⟩
theorem OnlyG.drewN {vs:List Value} {w w':World} (h:OnlyG vs w w') (m:Nat):OnlyG vs w (w'.drewN m):=⟨h.os,h.tape,h.output,h.size,h.block⟩
theorem OnlyG.grown {vs:List Value} {w wr w':World} {row:Option Nat} (h:OnlyG vs w wr) (hg:wr.grownBy w' row) (hr:∀ k,row = some k → w.heap.size ≤ k ∨ ∃ v ∈ vs,v.ownBlock = some k):OnlyG vs w w':=by
 refine ⟨hg.os.trans h.os,hg.tape.trans h.tape,hg.output.trans h.output,Nat.le_trans h.size hg.size,fun k hk hn=>?_⟩
 have hs:=h.size
 rw [hg.block k (by omega) (fun he=>?_)]
 ·exact h.block k hk hn
 ·rcases hr k he.symm with h1|⟨v,hv,h1⟩
  ·omega
  ·exact hn v hv h1
theorem OnlyG.below {vs:List Value} {B:Nat} {w w':World} (h:OnlyG vs w w') (hB:B ≤ w.heap.size) (hv:∀ v ∈ vs,∀ k,v.ownBlock = some k → B ≤ k):Below B w w':=by
 refine ⟨h.os,h.tape,h.output,h.size,fun k hk=>h.block k (by omega) (fun v hv' he=>?_)⟩
 have:=hv v hv' k he
 omega
theorem OnlyG.then_ {vs:List Value} {w w1 w2:World} (h:OnlyG vs w w1) (hb:Below w1.heap.size w1 w2):OnlyG vs w w2 :=
 ⟨hb.os.trans h.os,hb.tape.trans h.tape,hb.output.trans h.output,Nat.le_trans h.size hb.size,fun k hk hn=>(hb.block k (Nat.lt_of_lt_of_le hk h.size)).trans (h.block k hk hn)⟩
theorem OnlyG.trans {vs:List Value} {w w1 w2:World} (h:OnlyG vs w w1) (k:OnlyG vs w1 w2):OnlyG vs w w2 :=
 ⟨k.os.trans h.os,k.tape.trans h.tape,k.output.trans h.output,Nat.le_trans h.size k.size,fun j hj hn=>(k.block j (Nat.lt_of_lt_of_le hj h.size) hn).trans (h.block j hj hn)⟩
theorem OnlyG.keep {vs:List Value} {w w':World} (h:OnlyG vs w w') {B n e' K':Nat} {u:Value} {xs:List Value} (hu:w.ownsRow B e' K' u n xs) (hne:∀ v ∈ vs,v.ownBlock = none ∨ u.ownBlock ≠ v.ownBlock):w'.ownsRow B e' K' u n xs :=
 ownsRow_keep hu (fun j hj=>h.block j (hu.lt j hj).2 (fun v hv q=>by
  rcases hne v hv with h1|h1
  ·rw [h1] at q;cases q
  ·exact h1 (hj.trans q.symm)))

def DistG (vs:List Value):Prop:=∀ i j,i < vs.length → j < vs.length → i ≠ j → (vs.getD i default).ownBlock = none ∨ (vs.getD i default).ownBlock ≠ (vs.getD j default).ownBlock

def FillG (e K:Nat) (mk:Nat → List Value) (w:World) (B:Nat) (vs:List Value) (nn:Nat → Nat) (i k:Nat):Prop :=
 ∀ j,j < vs.length → ∃ l:List Value,w.ownsRow B e K (vs.getD j default) (nn j) l∧∀ m c,m < nn j → c < K → (j < i ∨ (j = i∧m < k)) → l[m * K+c]? = (mk j)[c]?

theorem FillG.next {w:World} {B:Nat} {vs:List Value} {nn:Nat → Nat} {i:Nat} (h:FillG e K mk w B vs nn i (nn i)):FillG e K mk w B vs nn (i+1) 0:=fun j hj=>by
 obtain ⟨l,h2,h3⟩:=h j hj
 refine ⟨l,h2,fun m c hm hc hq=>h3 m c hm hc ?_⟩
 rcases hq with hq|⟨_,hq⟩
 ·by_cases e:j = i
  ·exact .inr ⟨e,by rw [← e];exact hm⟩
  ·exact .inl (by omega)
 ·omega
theorem FillG.done {w:World} {B:Nat} {vs:List Value} {nn:Nat → Nat} (hK:0 < K) (hmk:∀ i,(mk i).length = K) (h:FillG e K mk w B vs nn vs.length 0) (j:Nat) (hj:j < vs.length):w.ownsRow B e K (vs.getD j default) (nn j) (mkRow (mk j) (nn j)):=by
 obtain ⟨l,h2,h3⟩:=h j hj
 have:l = mkRow (mk j) (nn j):=by
  apply List.ext_getElem?
  intro p
  by_cases hp:p < nn j * K
  ·have e:p = (p / K) * K+p % K:=by rw [Nat.mul_comm];exact (Nat.div_add_mod p K).symm
   have h4:p / K < nn j:=(Nat.div_lt_iff_lt_mul hK).2 hp
   rw [e,h3 _ _ h4 (Nat.mod_lt _ hK) (.inl hj),mkRow_get (hmk j) _ _ _ h4 (Nat.mod_lt _ hK)]
  ·rw [List.getElem?_eq_none (by rw [h2.1];omega),List.getElem?_eq_none (by rw [mkRow_length (hmk j)];omega)]
 rw [← this];exact h2
theorem splice_get (l ms:List Value) (K k m c:Nat) (hl:k * K+K ≤ l.length) (hm:ms.length = K) (hc:c < K):(splice l (k * K) ms)[m * K+c]? = if m = k then ms[c]? else l[m * K+c]?:=by
 have h2:(l.take (k * K)).length = k * K:=by simp;omega
 unfold splice
 by_cases e:m = k
 ·subst e
  rw [if_pos rfl,List.append_assoc,List.getElem?_append_right (by omega),h2,List.getElem?_append_left (by omega)]
  congr 1
  omega
 ·rw [if_neg e]
  by_cases h:m < k
  ·have:(m+1) * K ≤ k * K:=Nat.mul_le_mul_right _ h
   rw [Nat.succ_mul] at this
   rw [List.append_assoc,List.getElem?_append_left (by omega),List.getElem?_take_of_lt (by omega)]
  ·have:(k+1) * K ≤ m * K:=Nat.mul_le_mul_right _ (by omega)
   rw [Nat.succ_mul] at this
   rw [List.getElem?_append_right (by rw [List.length_append];omega),List.getElem?_drop,List.length_append,h2,hm]
   congr 1
   omega
theorem FillG.set {w:World} {B:Nat} {vs:List Value} {nn:Nat → Nat} {i k g cap:Nat} (hmk:∀ i,(mk i).length = K) (h:FillG e K mk w B vs nn i k) (hd:DistG vs) (hi:i < vs.length) (hk:k < nn i) (hv:vs.getD i default = .slice (some ⟨g,0,none⟩) (nn i) cap) :
  FillG e K mk (w.setCells g (k * K) (mk i)) B vs nn i (k+1):=fun j hj=>by
 obtain ⟨l,h2,h3⟩:=h j hj
 by_cases e:j = i
 ·subst e
  rw [hv] at h2
  have hl:=h2.1
  have hkn:k * K+K ≤ l.length:=by rw [hl,← Nat.succ_mul];exact Nat.mul_le_mul_right _ hk
  refine ⟨_,by rw [hv];exact ownsRow_set h2 hk (hmk j),fun m c hm hc hq=>?_⟩
  rw [splice_get _ _ K k m c hkn (hmk j) hc]
  by_cases e:m = k
  ·rw [if_pos e]
  ·rw [if_neg e]
   exact h3 m c hm hc (by omega)
 ·refine ⟨l,ownsRow_grown h2 (setCells_grown w g _ _) ?_,fun m c hm hc hq=>h3 m c hm hc (by omega)⟩
  have:=hd j i hj hi e
  rw [hv] at this
  exact this

def rowsG (vs:List Value) (nn:Nat → Nat):List (Value × Nat × Nat):=(List.range vs.length).map fun j=>(vs.getD j default,j,nn j)
theorem mem_rowsG {vs:List Value} {nn:Nat → Nat} {u:Value × Nat × Nat} (h:u ∈ rowsG vs nn):∃ j,j < vs.length∧u = (vs.getD j default,j,nn j):=by
 simp only [rowsG,List.mem_map,List.mem_range] at h
 obtain ⟨j,hj,rfl⟩:=h
 exact ⟨j,hj,rfl⟩
theorem rowsG_mem {vs:List Value} {nn:Nat → Nat} {j:Nat} (hj:j < vs.length):(vs.getD j default,j,nn j) ∈ rowsG vs nn:=by
 simp only [rowsG,List.mem_map,List.mem_range];exact ⟨j,hj,rfl⟩

def FromG (vs:List Value) (S:Nat) (v:Value) (i:Nat):Prop:=v.ownBlock = (vs.getD i default).ownBlock ∨ ∃ g,v.ownBlock = some g∧S ≤ g

structure GSG (e K st per:Nat) (mk:Nat → List Value) (w wr:World) (B:Nat) (vs:List Value) (nn:Nat → Nat) (gv:Value) (G:List (Value × Nat × Nat)) (i:Nat):Prop where
 only:OnlyG vs w wr
 kept:KeptG e K mk wr B (rowsG vs nn ++ G)
 row:wr.ownsRow w.heap.size st 1 gv G.length (G.map (·.1))
 idx:∀ t,t < G.length → (G.getD t default).2.1 = t / per
 from_:∀ u ∈ G,u.2.1 ≤ i∧FromG vs w.heap.size u.1 u.2.1

structure GKG (e K st per:Nat) (mk:Nat → List Value) (w wr:World) (B:Nat) (vs:List Value) (nn:Nat → Nat) (gv:Value) (G:List (Value × Nat × Nat)) (i n:Nat) (v:Value):Prop extends GSG e K st per mk w wr B vs nn gv G i where
 own:wr.ownsRow B e K v n (mkRow (mk i) n)
 apt:AptG (rowsG vs nn ++ G) v i n
 vfrom:FromG vs w.heap.size v i

variable {st per:Nat}
theorem GSG.start {w wr:World} {B:Nat} {vs:List Value} {nn:Nat → Nat} (hK:0 < K) (hmk:∀ i,(mk i).length = K) (ho:OnlyG vs w wr) (hf:FillG e K mk wr B vs nn vs.length 0):GSG e K st per mk w wr B vs nn (.slice none 0 0) [] 0 :=
 ⟨ho,fun u hu=>by
  rw [List.append_nil] at hu
  obtain ⟨j,hj,rfl⟩:=mem_rowsG hu
  exact hf.done hK hmk j hj,World.ownsRow_nil _ _ _ _,fun t ht=>absurd ht (Nat.not_lt_zero _),fun u hu=>by simp at hu⟩

theorem GSG.below {w wr w':World} {B:Nat} {vs:List Value} {nn:Nat → Nat} {gv:Value} {G:List (Value × Nat × Nat)} {i:Nat} (h:GSG e K st per mk w wr B vs nn gv G i) (hb:Below wr.heap.size wr w'):GSG e K st per mk w w' B vs nn gv G i :=
 ⟨h.only.then_ hb,fun u hu=>ownsRow_keep (h.kept u hu) (fun j hj=>hb.block j ((h.kept u hu).lt j hj).2),ownsRow_keep h.row (fun j hj=>hb.block j (h.row.lt j hj).2),h.idx,h.from_⟩
theorem GKG.below {w wr w':World} {B:Nat} {vs:List Value} {nn:Nat → Nat} {gv v:Value} {G:List (Value × Nat × Nat)} {i n:Nat} (h:GKG e K st per mk w wr B vs nn gv G i n v) (hb:Below wr.heap.size wr w'):GKG e K st per mk w w' B vs nn gv G i n v :=
 { h.toGSG.below hb with own:=ownsRow_keep h.own (fun j hj=>hb.block j (h.own.lt j hj).2),apt:=h.apt,vfrom:=h.vfrom }

theorem GKG.put {w wr w':World} {B:Nat} {vs:List Value} {nn:Nat → Nat} {gv v v':Value} {G:List (Value × Nat × Nat)} {i n:Nat} (hK:0 < K) (hmk:∀ i,(mk i).length = K) (hst:e ≠ st) (h:GKG e K st per mk w wr B vs nn gv G i n v) (hi:i < vs.length) (hB:B ≤ wr.heap.size)
  (hA:App1 wr w' B e K n v v' (mkRow (mk i) n ++ mk i)):GKG e K st per mk w w' B vs nn gv G i (n+1) v':=by
 obtain ⟨hk,ha⟩:=h.kept.step hK hmk h.apt h.own hA
 have hg:=hA.grown
 have hvm:vs.getD i default ∈ vs:=by
  rw [List.getD_eq_getElem?_getD,List.getElem?_eq_getElem hi];exact List.getElem_mem hi
 refine { only:=h.only.grown hg ?_,kept:=hk,row:=?_,idx:=h.idx,from_:=h.from_,own:=hA.owns hB,apt:=ha,vfrom:=?_ }
 ·intro k hk
  rcases h.vfrom with h1|⟨g,h1,h2⟩
  ·exact .inr ⟨_,hvm,by rw [← h1,hk]⟩
  ·rw [h1] at hk
   simp only [Option.some.injEq] at hk
   exact .inl (by omega)
 ·exact ownsRow_grown h.row hg (ownsRow_apart h.row h.own hst.symm)
 ·rcases hA with ⟨g,cap,rfl,rfl,_⟩|⟨cap,rfl,_⟩
  ·exact h.vfrom
  ·exact .inr ⟨_,rfl,h.only.size⟩

theorem GSG.next {w wr:World} {B:Nat} {vs:List Value} {nn:Nat → Nat} {gv:Value} {G:List (Value × Nat × Nat)} {i:Nat} (h:GSG e K st per mk w wr B vs nn gv G i):GSG e K st per mk w wr B vs nn gv G (i+1) :=
 { h with from_:=fun u hu=>⟨Nat.le_succ_of_le (h.from_ u hu).1,(h.from_ u hu).2⟩ }
theorem GSG.list {w wr:World} {B:Nat} {vs:List Value} {nn:Nat → Nat} {gv:Value} {G:List (Value × Nat × Nat)} {i:Nat} (h:GSG e K st per mk w wr B vs nn gv G i) {j:Nat} (hj:j < vs.length):wr.ownsRow B e K (vs.getD j default) (nn j) (mkRow (mk j) (nn j)) :=
 h.kept _ (List.mem_append_left _ (rowsG_mem hj))
end
theorem hao (w:World) (o:Obj) {r:Nat} (h:r < w.heap.size):(w.alloc o).heap[r]? = w.heap[r]?:=by
 show (w.heap.push o)[r]? = _
 rw [Array.getElem?_push_lt h,Array.getElem?_eq_getElem h]
theorem zH {p:Prop} (h:p):Hid p:=Lib.hid h
theorem zN (w:World) (o:Obj):(w.alloc o).heap[w.heap.size]? = some o:=_root_.Go.heap_alloc_new w o
abbrev zR:Array Value:=#[.int .i64 0,.int .u64 0,.string ⟨#[]⟩,.slice none 0 0,.int .i64 0]
theorem stV {ops:Array Oper} {rest:List Oper} {o:Oper} {a:Act} {w:World} {Q:Exit → Act → World → Prop} (x y:Operand) (hgd:o.guard = none) (ho:o.op = .store 25 x y) (hd:o.dst = none) {g:Nat} {k n e:Int} {s:ByteArray} {p:Option Addr} {m c:Nat} {old:Array Value}
  (hx:a.eval x = .pointer (some ⟨g,0,none⟩)) (hy:a.eval y = .agg #[.int .i64 k,.int .u64 n,.string s,.slice p m c,.int .i64 e]) (hg:w.heap[g]? = some (.cells old 25 (0,0))) (hold:old.size = 5)
  (h:wpList Tryz.prog ops Q rest a (w.setRow g #[.int .i64 k,.int .u64 n,.string s,.slice p m c,.int .i64 e])):wpList Tryz.prog ops Q (o :: rest) a w :=
 wpList_store_rowTo hgd 25 x y ho hd g _ hx hy 25 old hg (by as_aux_lemma=>kernel_rfl) hold (by simp [Value.oneCell']) h
theorem layW {P:Program} {c:Code} {Q:Exit → Act → World → Prop} {a:Act} (A:World) {R:Array Value} (h:∀ B:World,Below A.heap.size A B → B.heap[A.heap.size]? = some (.cells R 25 (0,0)) → Code.wp P c Q a B):Code.wp P c Q a ((A.alloc (.cells zR 25)).setRow A.heap.size R) :=
 h _ (below_setRow ((Below.refl _ _).alloc (Nat.le_refl _) _) (Nat.le_refl _) _) (setRow_heap _ _ _ _ _ _ (_root_.Go.heap_alloc_new A _))
theorem c3 {w:World} {g:Nat} {a b c:Value} {t:TypeId} {fr:Nat × Nat} (h:w.heap[g]? = some (.cells #[a,b,c] t fr)):w.cell? ⟨g,0,none⟩ = some a∧w.cell? ⟨g,1,none⟩ = some b∧w.cell? ⟨g,2,none⟩ = some c :=
 ⟨(cell_of_row _ _ 0 _ _ _ h).trans rfl,(cell_of_row _ _ 1 _ _ _ h).trans rfl,(cell_of_row _ _ 2 _ _ _ h).trans rfl⟩
theorem c5 {w:World} {g:Nat} {a b c d e:Value} {t:TypeId} {fr:Nat × Nat} (h:w.heap[g]? = some (.cells #[a,b,c,d,e] t fr)):w.cell? ⟨g,0,none⟩ = some a∧w.cell? ⟨g,1,none⟩ = some b∧w.cell? ⟨g,2,none⟩ = some c∧w.cell? ⟨g,3,none⟩ = some d∧w.cell? ⟨g,4,none⟩ = some e :=
 ⟨(cell_of_row _ _ 0 _ _ _ h).trans rfl,(cell_of_row _ _ 1 _ _ _ h).trans rfl,(cell_of_row _ _ 2 _ _ _ h).trans rfl,(cell_of_row _ _ 3 _ _ _ h).trans rfl,(cell_of_row _ _ 4 _ _ _ h).trans rfl⟩

def IsI64 (a:Int):Prop:=-9223372036854775808 ≤ a∧a ≤ 9223372036854775807
def IsU64 (a:Int):Prop:=0 ≤ a∧a ≤ 18446744073709551615
structure V.Wf (v:V):Prop where
 k:IsI64 v.kind
 n:IsU64 v.num
 t:v.text.size ≤ maxLen
 e:IsI64 v.elem

def vcells (v:V) (s:Value):List Value:=[.int .i64 v.kind,.int .u64 v.num,.string v.text,s,.int .i64 v.elem]
theorem vcells_len (v:V) (s:Value):(vcells v s).length = 5:=rfl
def vrow:List V → (Nat → Value) → List Value
 | [],_=>[]
 | v :: r,ss=>vcells v (ss 0) ++ vrow r (fun i=>ss (i+1))
theorem vrow_len:∀ (l:List V) (ss:Nat → Value),(vrow l ss).length = l.length * 5
 | [],_=>rfl
 | v :: r,ss=>by rw [vrow,List.length_append,vrow_len r,vcells_len,List.length_cons];omega
theorem vrow_get:∀ (l:List V) (ss:Nat → Value) (i j:Nat) (h:i < l.length),j < 5 → (vrow l ss)[i * 5+j]? = (vcells l[i] (ss i))[j]?
 | [],_,i,_,h,_=>by simp at h
 | v :: r,ss,i,j,h,hj=>by
  rw [vrow]
  cases i with
  | zero=>rw [List.getElem?_append_left (by rw [vcells_len];omega)];simp
  | succ i =>
   rw [List.getElem?_append_right (by rw [vcells_len];omega),vcells_len,show (i+1) * 5+j - 5 = i * 5+j by omega]
   have:=vrow_get r (fun i=>ss (i+1)) i j (by simpa using h) hj
   simpa using this
theorem vrow_congr:∀ (l:List V) (ss tt:Nat → Value),(∀ i,i < l.length → ss i = tt i) → vrow l ss = vrow l tt
 | [],_,_,_=>rfl
 | v :: r,ss,tt,h=>by
  rw [vrow,vrow,h 0 (by simp),vrow_congr r _ (fun i=>tt (i+1)) (fun i hi=>h (i+1) (by simpa using hi))]
theorem vrow_snoc:∀ (l:List V) (x:V) (ss:Nat → Value),vrow (l ++ [x]) ss = vrow l ss ++ vcells x (ss l.length)
 | [],x,ss=>by simp [vrow]
 | v :: r,x,ss=>by rw [List.cons_append,vrow,vrow,vrow_snoc r x,List.append_assoc];rfl

theorem bs_cellV {w w':World} {a:Addr} {u:Value} (hb:Below w.heap.size w w') (h:w.cell? a = some u):w'.cell? a = some u:=(World.cell?_of_block (hb.block _ (World.block_lt_of_cell? w a h))).trans h

inductive VIn (w:World):V → Value → Prop
 | mk (v:V) (p:Option Addr) (c:Nat) (ss:Nat → Value) (wf:v.Wf) (hc:v.list.length ≤ c) (hm:c ≤ maxLen) (ha:0 < v.list.length → ∃ b o,p = some ⟨b,o,none⟩)
   (hcell:∀ b o,p = some ⟨b,o,none⟩ → ∀ i (h:i < v.list.length),w.rangeAt b (o+i * 5) (vcells v.list[i] (ss i))) (hin:∀ i (h:i < v.list.length),VIn w v.list[i] (ss i)):VIn w v (.slice p v.list.length c)

section
variable {w w':World} {v:V} {s:Value} {B B':Nat} {F:Nat → Prop}

theorem VIn.wf (h:VIn w v s):v.Wf:=by cases h;assumption
theorem VIn.slice (h:VIn w v s):∃ p c,s = .slice p v.list.length c∧v.list.length ≤ c∧c ≤ maxLen∧(0 < v.list.length → ∃ b o,p = some ⟨b,o,none⟩):=by
 cases h with
 | mk _ p c ss wf hc hm ha hcell hin=>exact ⟨p,c,rfl,hc,hm,ha⟩
theorem VIn.part (h:VIn w v s) {b o n c:Nat} (hs:s = .slice (some ⟨b,o,none⟩) n c) {i:Nat} (hi:i < v.list.length):∃ t,w.rangeAt b (o+i * 5) (vcells v.list[i] t)∧VIn w v.list[i] t:=by
 cases h with
 | mk _ p c' ss wf hc hm ha hcell hin =>
  simp only [Value.slice.injEq] at hs
  exact ⟨ss i,hcell b o hs.1 i hi,hin i hi⟩
theorem VIn.blw (h:VIn w v s) (hb:Below w.heap.size w w'):VIn w' v s:=by
 induction h with
 | mk v p c ss wf hc hm ha hcell hin ih =>
  exact .mk v p c ss wf hc hm ha (fun b o e i hi j u hu=>bs_cellV hb (hcell b o e i hi j u hu)) ih

inductive VO (w:World) (B:Nat):V → Value → (Nat → Prop) → Prop
 | mk (v:V) (s:Value) (F:Nat → Prop) (ss:Nat → Value) (Fs:Nat → Nat → Prop) (wf:v.Wf) (hrow:w.ownsRow B 25 5 s v.list.length (vrow v.list ss)) (hin:∀ i (h:i < v.list.length),VO w B v.list[i] (ss i) (Fs i))
   (hd:∀ i j,i < v.list.length → j < v.list.length → i ≠ j → ∀ b,Fs i b → ¬ Fs j b) (hs:∀ g,s.ownBlock = some g → ∀ i,i < v.list.length → ¬ Fs i g) (hF:∀ b,F b ↔ (s.ownBlock = some b ∨ ∃ i,i < v.list.length∧Fs i b)):VO w B v s F

theorem VO.wf (h:VO w B v s F):v.Wf:=by cases h;assumption
theorem VO.lt (h:VO w B v s F):∀ b,F b → B ≤ b∧b < w.heap.size:=by
 induction h with
 | mk v s F ss Fs wf hrow hin hd hs hF ih =>
  intro b hb
  rcases (hF b).1 hb with q|⟨i,hi,q⟩
  ·exact hrow.lt b q
  ·exact ih i hi b q
theorem VO.keep (h:VO w B v s F) (e:∀ b,F b → w'.heap[b]? = w.heap[b]?):VO w' B v s F:=by
 induction h with
 | mk v s F ss Fs wf hrow hin hd hs hF ih =>
  exact .mk v s F ss Fs wf (ownsRow_keep hrow (fun j hj=>e j ((hF j).2 (.inl hj)))) (fun i hi=>ih i hi (fun b hb=>e b ((hF b).2 (.inr ⟨i,hi,hb⟩)))) hd hs hF
theorem VO.blw (h:VO w B v s F) (hb:Below w.heap.size w w'):VO w' B v s F:=h.keep (fun b q=>hb.block b (h.lt b q).2)
theorem ownsRow_base {B B' n e K:Nat} {u:Value} {xs:List Value} (h:w.ownsRow B e K u n xs) (hB:∀ b,u.ownBlock = some b → B' ≤ b):w.ownsRow B' e K u n xs:=by
 refine ⟨h.1,?_⟩
 rcases h.2 with hn|⟨g,cap,cur,hv,hbg,hb,rest⟩
 ·exact .inl hn
 ·exact .inr ⟨g,cap,cur,hv,hB g (by rw [hv];rfl),hb,rest⟩
theorem VO.base (h:VO w B v s F) (hB:∀ b,F b → B' ≤ b):VO w B' v s F:=by
 induction h with
 | mk v s F ss Fs wf hrow hin hd hs hF ih =>
  exact .mk v s F ss Fs wf (ownsRow_base hrow (fun b hb=>hB b ((hF b).2 (.inl hb)))) (fun i hi=>ih i hi (fun b hb=>hB b ((hF b).2 (.inr ⟨i,hi,hb⟩)))) hd hs hF
theorem VO.mono (h:VO w B v s F) (hB:B' ≤ B):VO w B' v s F:=h.base (fun b hb=>Nat.le_trans hB (h.lt b hb).1)
theorem VO.vin (h:VO w B v s F):VIn w v s:=by
 induction h with
 | mk v s F ss Fs wf hrow hin hd hs hF ih =>
  obtain ⟨p,c,rfl,h1,h2,h3⟩:=ownsRow_form hrow
  refine .mk v p c ss wf h1 h2 (fun q=>by obtain ⟨g,e,_⟩:=h3 q;exact ⟨g,0,e⟩) (fun b o e i hi j u hu=>?_) ih
  obtain ⟨g,e2,_⟩:=h3 (by omega)
  have:b = g∧o = 0:=by rw [e] at e2;simp only [Option.some.injEq,Addr.mk.injEq] at e2;exact ⟨e2.1,e2.2.1⟩
  obtain ⟨rfl,rfl⟩:=this
  have hj:j < 5:=(List.getElem?_eq_some_iff.1 hu).1
  rw [e] at hrow
  rw [Nat.zero_add]
  exact ownsRow_cell hrow (by rw [vrow_get _ _ _ _ hi hj];exact hu)
theorem VO.nil (w:World) (B:Nat) (hw:v.Wf) (hl:v.list = []):VO w B v (.slice none 0 0) (fun _=>False):=by
 have h0:v.list.length = 0:=by rw [hl];rfl
 refine .mk v _ _ (fun _=>undef) (fun _ _=>False) hw ?_ (fun i hi=>by omega) (fun _ _ _ _ _ _ h=>h.elim) (fun _ _ _ _ h=>h) (fun b=>⟨fun h=>h.elim,fun h=>?_⟩)
 ·rw [hl];exact World.ownsRow_nil _ _ _ _
 ·rcases h with h|⟨_,_,h⟩
  ·cases h
  ·exact h
end

def V.with (v:V) (l:List V):V:=.mk v.kind v.num v.text l v.elem
theorem V.with_list (v:V) (l:List V):(v.with l).list = l:=rfl
section
variable {w w' wr:World} {v x:V} {s s' t:Value} {B:Nat} {F Fx:Nat → Prop} {l:List V}
theorem VO.push (h:VO w B (v.with l) s F) (hx:VO w B x t Fx) (hdj:∀ b,F b → ¬ Fx b) (hB:B ≤ w.heap.size) :
  ∃ xs,w.ownsRow B 25 5 s l.length xs∧∀ w' s',App1 w w' B 25 5 l.length s s' (xs ++ vcells x t) → ∃ F',VO w' B (v.with (l ++ [x])) s' F'∧∀ b,F' b → F b ∨ Fx b ∨ w.heap.size ≤ b:=by
 obtain ⟨_,_,_,ss,Fs,wf,hrow,hin,hd,hs,hF⟩:=h
 simp only [V.with_list] at hrow hin hd hs hF
 refine ⟨_,hrow,fun w' s' hA=>?_⟩
 have hg:=hA.grown
 have hown:=hA.owns hB
 refine ⟨fun b=>s'.ownBlock = some b ∨ ∃ i,i < (l ++ [x]).length∧(if i < l.length then Fs i else Fx) b,.mk _ _ _ (fun i=>if i < l.length then ss i else t) (fun i=>if i < l.length then Fs i else Fx) ⟨wf.k,wf.n,wf.t,wf.e⟩ ?_ ?_ ?_ ?_ (fun b=>Iff.rfl),fun b hb=>?_⟩
 ·simp only [V.with_list]
  rw [List.length_append,List.length_singleton,vrow_snoc,if_neg (Nat.lt_irrefl _),vrow_congr l _ ss (fun i hi=>if_pos hi)]
  exact hown
 ·intro i hi
  simp only [V.with_list] at hi ⊢
  by_cases hil:i < l.length
  ·simp only [if_pos hil,List.getElem_append_left hil]
   refine (hin i hil).keep (fun b hb=>hg.block b ((hin i hil).lt b hb).2 (fun q=>hs b q.symm i hil hb))
  ·have hie:i = l.length:=by simp at hi;omega
   subst hie
   simp only [if_neg hil,List.getElem_append_right (Nat.le_refl _),Nat.sub_self,List.getElem_cons_zero]
   exact hx.keep (fun b hb=>hg.block b (hx.lt b hb).2 (fun q=>hdj b ((hF b).2 (.inl q.symm)) hb))
 ·intro i j hi hj hij b hbi hbj
  simp only [V.with_list,List.length_append,List.length_singleton] at hi hj
  by_cases hil:i < l.length
  ·rw [if_pos hil] at hbi
   by_cases hjl:j < l.length
   ·rw [if_pos hjl] at hbj
    exact hd i j hil hjl hij b hbi hbj
   ·rw [if_neg hjl] at hbj
    exact hdj b ((hF b).2 (.inr ⟨i,hil,hbi⟩)) hbj
  ·rw [if_neg hil] at hbi
   have hjl:j < l.length:=by omega
   rw [if_pos hjl] at hbj
   exact hdj b ((hF b).2 (.inr ⟨j,hjl,hbj⟩)) hbi
 ·intro g hgs i hi hb
  simp only [V.with_list,List.length_append,List.length_singleton] at hi
  rcases hA.own hgs with q|q
  ·by_cases hil:i < l.length
   ·rw [if_pos hil] at hb
    exact hs g q i hil hb
   ·rw [if_neg hil] at hb
    exact hdj g ((hF g).2 (.inl q)) hb
  ·by_cases hil:i < l.length
   ·rw [if_pos hil] at hb
    have:=((hin i hil).lt g hb).2;omega
   ·rw [if_neg hil] at hb
    have:=(hx.lt g hb).2;omega
 ·rcases hb with hb|⟨i,hi,hb⟩
  ·rcases hA.own hb with q|q
   ·exact .inl ((hF b).2 (.inl q))
   ·exact .inr (.inr (by omega))
  ·by_cases hil:i < l.length
   ·rw [if_pos hil] at hb
    exact .inl ((hF b).2 (.inr ⟨i,hil,hb⟩))
   ·rw [if_neg hil] at hb
    exact .inr (.inl hb)
end
theorem bxV (w:World) (v:V) (s:Value):∃ w0 x,w.alloc (.cells #[.int .i64 v.kind,.int .u64 v.num,.string v.text,s,.int .i64 v.elem] 25) = w0∧w.heap.size = x∧Hid (Below w.heap.size w w0)∧Hid (w.heap.size = x)∧Hid (w0.heap[x]? = some (.cells #[.int .i64 v.kind,.int .u64 v.num,.string v.text,s,.int .i64 v.elem] 25 (0,0)))∧w0.cell? ⟨x,0,none⟩ = some (.int .i64 v.kind)∧w0.cell? ⟨x,1,none⟩ = some (.int .u64 v.num)∧w0.cell? ⟨x,2,none⟩ = some (.string v.text)∧w0.cell? ⟨x,3,none⟩ = some s∧w0.cell? ⟨x,4,none⟩ = some (.int .i64 v.elem):=by
 have o:=_root_.Go.heap_alloc_new w (.cells #[.int .i64 v.kind,.int .u64 v.num,.string v.text,s,.int .i64 v.elem] 25)
 exact ⟨_,_,rfl,rfl,Lib.hid ((Below.refl _ _).alloc (Nat.le_refl _) _),Lib.hid rfl,Lib.hid o,(cell_of_row _ _ 0 _ _ _ o).trans rfl,(cell_of_row _ _ 1 _ _ _ o).trans rfl,(cell_of_row _ _ 2 _ _ _ o).trans rfl,(cell_of_row _ _ 3 _ _ _ o).trans rfl,(cell_of_row _ _ 4 _ _ _ o).trans rfl⟩

theorem part_cells {w:World} {b o i:Nat} {x:V} {t:Value} (h:w.rangeAt b (o+i * 5) (vcells x t)):w.cell? ⟨b,o+i * 5,none⟩ = some (.int .i64 x.kind)∧w.cell? ⟨b,o+i * 5+1,none⟩ = some (.int .u64 x.num)∧w.cell? ⟨b,o+i * 5+2,none⟩ = some (.string x.text)∧w.cell? ⟨b,o+i * 5+3,none⟩ = some t∧w.cell? ⟨b,o+i * 5+4,none⟩ = some (.int .i64 x.elem) :=
 ⟨h 0 _ rfl,h 1 _ rfl,h 2 _ rfl,h 3 _ rfl,h 4 _ rfl⟩

theorem takeD {P:Program} {ops:Array Oper} {Q:Exit → Act → World → Prop} {md:Region.Mode} {S:World → Prop} {i:Nat} {oi:Oper} {v:Value} {fuel:Nat} {listed:Array Bool} {a:Act} {w:World} (d:Option Tmp) (hi:ops[i]? = some oi) (hd:oi.dst = d)
  (hs:Region.noSelect ops = true) (hf:Region.free md ops listed i = true) (hr:(Region.ready md ops listed).contains i = true)
  (hQ:∀ c a w,Q (.panic c) (a.put oi.dst v) w → Q (.panic c) a w) (hy:YieldsIf P ops S oi v a) (hS:S w)
  (h:wpAnyH P md ops Q S fuel (listed.setIfInBounds i true) (a.put d v) w):wpAnyH P md ops Q S (fuel+1) listed a w:=by
 subst hd
 exact wpAnyH_take hi hs hf hr hQ hy hS h

theorem yieldsIf_load_row {P:Program} {ops:Array Oper} {S:World → Prop} {o:Oper} {a:Act} (ty:TypeId) (x:Operand) (ho:o.op = .load ty x) (hw:Region.wanted o (yielded ops a.tmps) = true) (g:Nat) (hx:a.eval x = .pointer (some ⟨g,0,none⟩)) (t:TypeId) (cs:Array Value) (fr:Nat × Nat) (d:TypeDesc) (hg:∀ V,S V → V.heap[g]? = some (.cells cs t fr))
  (hu:P.underlying ty = some d) (hd:(match d with|.struct _|.array _ _=>true|_=>false) = true) (hi:(P.info? ty).map (·.size) = some cs.size):YieldsIf P ops S o (.agg cs) a:=by
 refine .inl ⟨hw,fun V hV=>?_⟩
 unfold execOp
 simp only [ho,hx,Instr.loadAt,Instr.sureAddr,Sem.run_bind,Sem.run_pure,Result.andThen_ok,run_loadVar_row V g t ty cs fr d (hg V hV) hu hd hi]

theorem stepD {P:Program} {ops:Array Oper} {Q:Exit → Act → World → Prop} {md:Region.Mode} {S:World → Prop} {fuel:Nat} {listed:Array Bool} {a:Act} {w:World} {i:Nat} {o:Oper} (ho:ops[i]? = some o) (hw:Region.wanted o (yielded ops a.tmps) = true)
  (h:∀ K':Act → World → Prop,Shut (∀ a w,S w → wpAnyH P md ops Q S fuel (listed.setIfInBounds i true) a w → K' a w) → Oper.wp P o a w K' Q):wpOp P ops Q i (fun a' w'=>S w'∧wpAnyH P md ops Q S fuel (listed.setIfInBounds i true) a' w') a w:=by
 unfold wpOp
 simp only [ho]
 rw [if_pos hw]
 exact .inl (h _ (fun a w h1 h2=>⟨h1,h2⟩))

theorem wp_region_heldN {P:Program} {ops:Array Oper} {Q:Exit → Act → World → Prop} {id:Nat} {a:Act} {w:World} (S:World → Prop) (f:Nat) (hf:ops.size = f) (hm:P.follows .mixedOrders = true)
  (h:wpAnyH P .any ops Q S f (Array.replicate f false) a w.drew):(Code.region id ops true).wp P Q a w:=by
 subst hf
 exact wp_region_held hm h
theorem sA {α:Type} (l:List α) (i:Nat) (a:α):l.toArray.setIfInBounds i a = (l.set i a).toArray:=List.setIfInBounds_toArray ..
theorem sB {α:Type} {x:α} {xs:List α} {a:α}:(x :: xs).set 0 a = a :: xs:=List.set_cons_zero
theorem sC {α:Type} {x:α} {xs:List α} {i:Nat} {a:α}:(x :: xs).set (i+1) a = x :: xs.set i a:=List.set_cons_succ
theorem tkD {P:Program} {ops:Array Oper} {Q:Exit → Act → World → Prop} {md:Region.Mode} {S:World → Prop} {i:Nat} {oi:Oper} {v:Value} {fuel:Nat} {listed:Array Bool} {a:Act} {w:World} (d:Option Tmp) (hi:ops[i]? = some oi) (hd:oi.dst = d)
  (hh:(Region.noSelect ops && (Region.free md ops listed i && (Region.ready md ops listed).contains i)) = true)
  (hQ:∀ c a w,Q (.panic c) (a.put oi.dst v) w → Q (.panic c) a w) (hy:YieldsIf P ops S oi v a) (hS:S w)
  (h:wpAnyH P md ops Q S fuel (listed.setIfInBounds i true) (a.put d v) w):wpAnyH P md ops Q S (fuel+1) listed a w:=by
 rw [Bool.and_eq_true,Bool.and_eq_true] at hh
 exact takeD d hi hd hh.1 hh.2.1 hh.2.2 hQ hy hS h
theorem tkI {P:Program} {ops:Array Oper} {Q:Exit → Act → World → Prop} {md:Region.Mode} {S:World → Prop} {oi:Oper} {fuel:Nat} {listed:Array Bool} {a:Act} {w:World} (i:Nat) (v:Value) (d:Tmp) (hi:ops[i]? = some oi) (hd:oi.dst = some d)
  (hh:(Region.noSelect ops && (Region.free md ops listed i && (Region.ready md ops listed).contains i)) = true)
  (hQ:∀ c a w,Q (.panic c) (a.put oi.dst v) w → Q (.panic c) a w) (hw:Region.wanted oi (yielded ops a.tmps) = true) (hy:∀ w,S w → (execOp a.eval oi).run P w = .ok (.value v) w) (hS:S w)
  (h:wpAnyH P md ops Q S fuel (listed.setIfInBounds i true) (a.put (some d) v) w):wpAnyH P md ops Q S (fuel+1) listed a w :=
 tkD (i:=i) (v:=v) (some d) hi hd hh hQ (Or.inl ⟨hw,hy⟩) hS h
theorem oneH {P:Program} {ops:Array Oper} {Q:Exit → Act → World → Prop} {md:Region.Mode} {S:World → Prop} {fuel:Nat} {listed:Array Bool} {a:Act} {w:World} {i:Nat} (hr:Region.ready md ops listed = [i])
  (h:wpOp P ops Q i (fun a' w'=>S w'∧wpAnyH P md ops Q S fuel (listed.setIfInBounds i true) a' w') a w):wpAnyH P md ops Q S (fuel+1) listed a w :=
 wpAnyH_all hr (by simp) (fun j hj=>by
  simp only [List.mem_cons,List.not_mem_nil,or_false] at hj
  subst hj
  exact h)
end Go.Proofs.YtnnnfhobbnjmfaaGreatDoor
