/-
  Lemmas on the codec. Conditions: as each says.
-/
import Derived.Lib.Bytealg
import Derived.Lib.Hide
import Derived.WalkKit
import Derived.Deep.OwnRows
import Derived.ProofKit
import Derived.Laws.AppendOwn
namespace Go.Proofs.YtnnnfhobbnjmfaaGreatDoor
set_option linter.all false

inductive V where
 | mk (kind num:Int) (text:ByteArray) (list:List V) (elem:Int)

def V.kind:V → Int|.mk k _ _ _ _=>k
def V.num:V → Int|.mk _ n _ _ _=>n
def V.text:V → ByteArray|.mk _ _ t _ _=>t
def V.list:V → List V|.mk _ _ _ l _=>l
def V.elem:V → Int|.mk _ _ _ _ e=>e

mutual
def V.sz:V → Nat
 | .mk _ _ _ l _=>1+szs l
def szs:List V → Nat
 | []=>0
 | v :: r=>v.sz+szs r
end
mutual
def V.wt:V → Nat
 | .mk _ _ t l _=>1+t.size / 64+wts l
def wts:List V → Nat
 | []=>0
 | v :: r=>v.wt+wts r
end
theorem V.sz_eq (v:V):v.sz = 1+szs v.list:=by cases v;simp [V.sz,V.list]
theorem V.wt_eq (v:V):v.wt = 1+v.text.size / 64+wts v.list:=by cases v;simp [V.wt,V.list,V.text]
theorem V.wt_pos (v:V):1 ≤ v.wt:=by rw [V.wt_eq];omega
theorem szs_mem {v:V} {l:List V} (h:v ∈ l):v.sz ≤ szs l:=by
 induction l with
 | nil=>cases h
 | cons a r ih =>
  simp only [szs]
  rcases List.mem_cons.1 h with rfl|h
  ·omega
  ·have:=ih h;omega
theorem wts_mem {v:V} {l:List V} (h:v ∈ l):v.wt ≤ wts l:=by
 induction l with
 | nil=>cases h
 | cons a r ih =>
  simp only [wts]
  rcases List.mem_cons.1 h with rfl|h
  ·omega
  ·have:=ih h;omega
theorem V.sz_lt {v x:V} (h:x ∈ v.list):x.sz < v.sz:=by rw [v.sz_eq];have:=szs_mem h;omega
theorem V.wt_lt {v x:V} (h:x ∈ v.list):x.wt < v.wt:=by rw [v.wt_eq];have:=wts_mem h;omega
theorem V.ind {P:V → Prop} (h:∀ v,(∀ x ∈ v.list,P x) → P v):∀ v,P v:=by
 intro v
 induction hn:v.sz using Nat.strongRecOn generalizing v with
 | ind n ih=>exact h v (fun x hx=>ih x.sz (by rw [← hn];exact V.sz_lt hx) x rfl)
theorem V.ext {a b:V} (h1:a.kind = b.kind) (h2:a.num = b.num) (h3:a.text = b.text) (h4:a.list = b.list) (h5:a.elem = b.elem):a = b:=by
 cases a;cases b;simp_all [V.kind,V.num,V.text,V.list,V.elem]
theorem len_le_wts (l:List V):l.length ≤ wts l:=by
 induction l with
 | nil=>exact Nat.le_refl _
 | cons a r ih=>have:=a.wt_pos;simp only [wts,List.length_cons];omega
theorem V.len_lt (v:V):v.list.length < v.wt:=by rw [V.wt_eq];have:=len_le_wts v.list;omega
theorem wts_append (l r:List V):wts (l ++ r) = wts l+wts r:=by
 induction l with
 | nil=>simp [wts]
 | cons a t ih=>simp only [List.cons_append,wts,ih];omega
theorem V.text_le (v:V):v.text.size / 64 < v.wt:=by rw [V.wt_eq];omega

noncomputable instance:DecidableEq V:=fun a b=>Classical.propDecidable (a = b)
instance:Inhabited V:=⟨.mk 0 0 ByteArray.empty [] 0⟩

/-! ### the weight, as it is reckoned -/
mutual
def wgh:V → Int → Int
 | .mk _ _ t l _,n=>wghs l (n+1+(t.size / 64:Nat))
def wghs:List V → Int → Int
 | [],n=>n
 | v :: r,n=>if n ≤ 100000 then wghs r (wgh v n) else n
end
/-! ### the order -/
def sgnZ (a b:Int):Int:=if a < b then -1 else if b < a then 1 else 0
def thenZ (a b:Int):Int:=if a ≠ 0 then a else b
def cmpT (a b:ByteArray):Int:=Lib.compareBytes a.data.toList b.data.toList
mutual
def ordV:V → V → Int
 | .mk k n t l e,.mk k' n' t' l' e'=>thenZ (sgnZ k k') (thenZ (sgnZ n n') (thenZ (cmpT t t') (thenZ (ordL l l') (sgnZ e e'))))
def ordL:List V → List V → Int
 | [],[]=>0
 | [],_ :: _=>-1
 | _ :: _,[]=>1
 | a :: r,b :: s=>thenZ (ordV a b) (ordL r s)
end
theorem ordV_eq (a b:V):ordV a b = thenZ (sgnZ a.kind b.kind) (thenZ (sgnZ a.num b.num) (thenZ (cmpT a.text b.text) (thenZ (ordL a.list b.list) (sgnZ a.elem b.elem)))):=by cases a;cases b;rw [ordV];rfl

def Sgn (x:Int):Prop:=x = -1 ∨ x = 0 ∨ x = 1
theorem Sgn.then_ {a b:Int} (h:Sgn a) (k:Sgn b):Sgn (thenZ a b):=by unfold thenZ;split <;> assumption
theorem sgnZ_neg (a b:Int):sgnZ b a = -sgnZ a b:=by unfold sgnZ;by_cases h1:a < b <;> by_cases h2:b < a <;> simp [h1,h2] <;> omega
theorem thenZ_neg {a b a' b':Int} (h:a' = -a) (k:b' = -b):thenZ a' b' = -thenZ a b:=by
 subst h k
 unfold thenZ
 by_cases h:a = 0 <;> simp [h]
theorem cmpB_neg:∀ a b:List UInt8,Lib.compareBytes b a = -Lib.compareBytes a b
 | [],[]=>rfl
 | [],_ :: _=>rfl
 | _ :: _,[]=>rfl
 | a :: r,b :: s=>by
  have ih:=cmpB_neg r s
  unfold Lib.compareBytes
  by_cases h1:a < b
  ·have h2:¬ b < a:=UInt8.lt_asymm h1
   rw [if_neg h2,if_pos h1,if_pos h1];rfl
  ·by_cases h2:b < a
   ·rw [if_pos h2,if_neg h1,if_pos h2]
   ·rw [if_neg h1,if_neg h2,if_neg h2,if_neg h1]
    exact ih
theorem ordV_neg:∀ a b:V,ordV b a = -ordV a b:=by
 refine V.ind (fun a ih b=>?_)
 have key:∀ l:List V,(∀ x ∈ l,∀ b,ordV b x = -ordV x b) → ∀ s,ordL s l = -ordL l s:=by
  intro l
  induction l with
  | nil=>intro _ s;cases s <;> simp [ordL]
  | cons x r ihl =>
   intro h s
   cases s with
   | nil=>simp [ordL]
   | cons y s=>rw [ordL,ordL];exact thenZ_neg (h x (List.mem_cons_self ..) y) (ihl (fun z hz=>h z (List.mem_cons_of_mem _ hz)) s)
 rw [ordV_eq,ordV_eq a b]
 exact thenZ_neg (sgnZ_neg _ _) (thenZ_neg (sgnZ_neg _ _) (thenZ_neg (cmpB_neg _ _) (thenZ_neg (key a.list ih b.list) (sgnZ_neg _ _))))

theorem sgnZ_zero {a b:Int}:sgnZ a b = 0 ↔ a = b:=by unfold sgnZ;split;omega;split <;> omega
theorem thenZ_zero {a b:Int}:thenZ a b = 0 ↔ a = 0∧b = 0:=by unfold thenZ;split <;> omega
theorem cmpB_zero:∀ {a b:List UInt8},Lib.compareBytes a b = 0 ↔ a = b
 | [],[]=>by simp [Lib.compareBytes]
 | [],_ :: _=>by simp [Lib.compareBytes]
 | _ :: _,[]=>by simp [Lib.compareBytes]
 | a :: r,b :: s=>by
  have ih:=@cmpB_zero r s
  unfold Lib.compareBytes
  by_cases h1:a < b
  ·have h:a ≠ b:=fun e=>by subst e;exact UInt8.lt_irrefl _ h1
   rw [if_pos h1];simp [h]
  ·by_cases h2:b < a
   ·have h:a ≠ b:=fun e=>by subst e;exact UInt8.lt_irrefl _ h2
    rw [if_neg h1,if_pos h2];simp [h]
   ·have h:a = b:=UInt8.le_antisymm (UInt8.not_lt.1 h2) (UInt8.not_lt.1 h1)
    rw [if_neg h1,if_neg h2,ih];simp [h]
theorem cmpT_zero {a b:ByteArray}:cmpT a b = 0 ↔ a = b:=by
 unfold cmpT
 rw [cmpB_zero]
 exact ⟨fun h=>by cases a;cases b;congr 1;exact Array.toList_inj.1 h,fun h=>by rw [h]⟩
theorem ordV_zero:∀ {a b:V},ordV a b = 0 ↔ a = b:=by
 have:∀ a:V,∀ b,ordV a b = 0 ↔ a = b:=by
  refine V.ind (fun a ih b=>?_)
  have key:∀ l:List V,(∀ x ∈ l,∀ b,ordV x b = 0 ↔ x = b) → ∀ s,ordL l s = 0 ↔ l = s:=by
   intro l
   induction l with
   | nil=>intro _ s;cases s <;> simp [ordL]
   | cons x r ihl =>
    intro h s
    cases s with
    | nil=>simp [ordL]
    | cons y s=>rw [ordL,thenZ_zero,h x (List.mem_cons_self ..) y,ihl (fun z hz=>h z (List.mem_cons_of_mem _ hz)) s];simp
  rw [ordV_eq,thenZ_zero,thenZ_zero,thenZ_zero,thenZ_zero,sgnZ_zero,sgnZ_zero,cmpT_zero,key a.list ih b.list,sgnZ_zero]
  exact ⟨fun ⟨h1,h2,h3,h4,h5⟩=>V.ext h1 h2 h3 h4 h5,fun h=>by subst h;simp⟩
 intro a b
 exact this a b

def Tri (x y z:Int):Prop:=x ≤ 0 → y ≤ 0 → z ≤ 0∧(z = 0 ↔ x = 0∧y = 0)
theorem Tri.then_ {x y z x' y' z':Int} (h:Tri x y z) (k:x = 0 → y = 0 → Tri x' y' z'):Tri (thenZ x x') (thenZ y y') (thenZ z z'):=by
 unfold Tri thenZ at *
 intro h1 h2
 have hx:x ≤ 0:=by split at h1 <;> omega
 have hy:y ≤ 0:=by split at h2 <;> omega
 obtain ⟨h3,h4⟩:=h hx hy
 by_cases e:x = 0∧y = 0
 ·have hz:=h4.2 e
  simp only [e.1,e.2,hz,ne_eq,not_true,if_false] at h1 h2 ⊢
  exact k e.1 e.2 h1 h2
 ·have hz:z ≠ 0:=fun q=>e (h4.1 q)
  rw [if_pos hz]
  refine ⟨h3,fun q=>absurd q hz,fun q=>?_⟩
  exfalso
  apply e
  obtain ⟨q1,q2⟩:=q
  constructor
  ·split at q1 <;> omega
  ·split at q2 <;> omega
theorem sgnZ_tri (a b c:Int):Tri (sgnZ a b) (sgnZ b c) (sgnZ a c):=by
 have h:∀ x y:Int,(x < y∧sgnZ x y = -1) ∨ (x = y∧sgnZ x y = 0) ∨ (y < x∧sgnZ x y = 1):=fun x y=>by
  unfold sgnZ
  by_cases h1:x < y
  ·simp [h1]
  ·by_cases h2:y < x
   ·simp [h1,h2]
   ·simp [h1,h2];omega
 have h1:=h a b
 have h2:=h b c
 have h3:=h a c
 unfold Tri
 omega
theorem cmpB_tri:∀ a b c:List UInt8,Tri (Lib.compareBytes a b) (Lib.compareBytes b c) (Lib.compareBytes a c)
 | [],[],[]=>by simp [Tri,Lib.compareBytes]
 | [],[],_ :: _=>by simp [Tri,Lib.compareBytes]
 | [],_ :: _,[]=>by simp [Tri,Lib.compareBytes]
 | [],_ :: _,_ :: _=>by simp [Tri,Lib.compareBytes]
 | _ :: _,[],_=>by simp [Tri,Lib.compareBytes]
 | _ :: _,_ :: _,[]=>by simp [Tri,Lib.compareBytes]
 | a :: r,b :: s,c :: t=>by
  have ih:=cmpB_tri r s t
  have e:∀ (x y:UInt8) (p q:List UInt8),Lib.compareBytes (x :: p) (y :: q) = thenZ (sgnZ x.toNat y.toNat) (Lib.compareBytes p q):=fun x y p q=>by
   rw [Lib.compareBytes]
   unfold thenZ sgnZ
   by_cases h1:x < y
   ·have:(x.toNat:Int) < y.toNat:=by have:=UInt8.lt_iff_toNat_lt.1 h1;omega
    simp [h1,this]
   ·by_cases h2:y < x
    ·have h3:(y.toNat:Int) < x.toNat:=by have:=UInt8.lt_iff_toNat_lt.1 h2;omega
     have h4:¬ (x.toNat:Int) < y.toNat:=by omega
     simp only [if_neg h1,if_pos h2,if_neg h4,if_pos h3]
     rfl
    ·have h3:¬ (x.toNat:Int) < y.toNat:=fun q=>h1 (UInt8.lt_iff_toNat_lt.2 (by omega))
     have h4:¬ (y.toNat:Int) < x.toNat:=fun q=>h2 (UInt8.lt_iff_toNat_lt.2 (by omega))
     simp only [if_neg h1,if_neg h2,if_neg h3,if_neg h4]
     simp
  rw [e,e,e]
  exact (sgnZ_tri _ _ _).then_ (fun _ _=>ih)
theorem ordV_tri:∀ a b c:V,Tri (ordV a b) (ordV b c) (ordV a c):=by
 refine V.ind (fun a ih b c=>?_)
 have key:∀ l:List V,(∀ x ∈ l,∀ b c,Tri (ordV x b) (ordV b c) (ordV x c)) → ∀ s t,Tri (ordL l s) (ordL s t) (ordL l t):=by
  intro l
  induction l with
  | nil=>intro _ s t;cases s <;> cases t <;> simp [ordL,Tri]
  | cons x r ihl =>
   intro h s t
   cases s with
   | nil=>simp [ordL,Tri]
   | cons y s =>
    cases t with
    | nil=>simp [ordL,Tri]
    | cons z t =>
     rw [ordL,ordL,ordL]
     exact (h x (List.mem_cons_self ..) y z).then_ (fun _ _=>ihl (fun w hw=>h w (List.mem_cons_of_mem _ hw)) s t)
 rw [ordV_eq a b,ordV_eq b c,ordV_eq a c]
 exact (sgnZ_tri _ _ _).then_ (fun _ _=>(sgnZ_tri _ _ _).then_ (fun _ _=>(cmpB_tri _ _ _).then_ (fun _ _=>(key a.list ih b.list c.list).then_ (fun _ _=>sgnZ_tri _ _ _))))
end Go.Proofs.YtnnnfhobbnjmfaaGreatDoor

namespace Go.Proofs.YtnnnfhobbnjmfaaGreatDoor
open Go.RowKit

structure BytesIn (w:World) (a:Option Addr) (n c:Nat) (l:List UInt8):Prop where
 len:l.length = n
 le:n ≤ c
 cap:c ≤ maxLen
 at_:0 < c → ∃ b o,a = some ⟨b,o,none⟩∧b < w.heap.size∧∀ i,i < n → w.cell? ⟨b,o+i,none⟩ = some (.int .u8 (l.getD i 0).toNat)

theorem BytesIn.below {w w':World} {a:Option Addr} {n c:Nat} {l:List UInt8} (h:BytesIn w a n c l) (hb:Below w.heap.size w w'):BytesIn w' a n c l:=by
 obtain ⟨h1,h2,h3,h4⟩:=h
 refine ⟨h1,h2,h3,fun hc=>?_⟩
 obtain ⟨b,o,e,hlt,hcell⟩:=h4 hc
 exact ⟨b,o,e,Nat.lt_of_lt_of_le hlt hb.size,fun i hi=>(hb.cell (p:=⟨b,o+i,none⟩) hlt).trans (hcell i hi)⟩

theorem BytesIn.nil (w:World):BytesIn w none 0 0 []:=⟨rfl,Nat.le_refl _,Nat.zero_le _,fun h=>absurd h (by omega)⟩

def beVal (l:List UInt8):Nat:=l.foldl (fun n x=>256 * n+x.toNat) 0
theorem beVal_snoc (l:List UInt8) (x:UInt8):beVal (l ++ [x]) = 256 * beVal l+x.toNat:=by simp [beVal]
theorem beVal_fold (l:List UInt8):∀ (k acc:Nat),acc < 256 ^ k → l.foldl (fun n x=>256 * n+x.toNat) acc < 256 ^ (k+l.length):=by
 induction l with
 | nil=>intro k acc h;exact h
 | cons x l ih =>
  intro k acc h
  have hx:=x.toNat_lt
  have:=ih (k+1) (256 * acc+x.toNat) (by rw [Nat.pow_succ];omega)
  rw [List.length_cons,show k+(l.length+1) = k+1+l.length by omega]
  exact this
theorem beVal_lt (l:List UInt8):beVal l < 256 ^ l.length:=by
 have:=beVal_fold l 0 0 (by simp)
 simpa [beVal] using this
def byteAt (n wd i:Nat):Nat:=(n / 256 ^ (wd - 1 - i)) % 256

theorem take_succ_getD (l:List UInt8) (k:Nat) (h:k < l.length):l.take (k+1) = l.take k ++ [l.getD k 0]:=by
 rw [List.take_succ_eq_append_getElem h]
 simp [List.getD_eq_getElem?_getD,h]
theorem drop_take_succ (l:List UInt8) (a k:Nat) (h:a+k < l.length):(l.drop a).take (k+1) = (l.drop a).take k ++ [l.getD (a+k) 0]:=by
 rw [take_succ_getD _ _ (by rw [List.length_drop];omega)]
 simp [List.getD_eq_getElem?_getD]

theorem shl8_or (m y:Nat) (hm:256 * m+255 < 18446744073709551616) (hy:y < 256) :
  bits BinOp.or IntKind.u64 ((m:Int) * 256) (y:Int) = ((256 * m+y:Nat):Int):=by
 have e:(m:Int) * 256 = ((m * 256:Nat):Int):=by omega
 rw [e,u64_or_nat _ _ (by omega) (by omega),nat_join 8 (m * 256) y (by omega) (by omega)]
 congr 1;omega

def byteV (x:UInt8):Value:=.int .u8 (x.toNat:Int)

theorem ownsRow_bytes {w:World} {B T n:Nat} {v:Value} {l:List UInt8} (h:w.ownsRow B T 1 v n (l.map byteV)) :
  ∃ a c,v = .slice a n c∧BytesIn w a n c l:=by
 obtain ⟨h1,h2⟩:=h
 have hl:l.length = n:=by simpa using h1
 rcases h2 with ⟨rfl,rfl⟩|⟨g,cap,cur,rfl,hb,hh,hn,hm,hs,ht⟩
 ·exact ⟨none,0,rfl,by simpa using hl,Nat.le_refl _,Nat.zero_le _,fun h=>absurd h (by omega)⟩
 ·refine ⟨_,_,rfl,hl,hn,hm,fun _=>⟨g,0,rfl,(Array.getElem?_eq_some_iff.1 hh).1,fun i hi=>?_⟩⟩
  rw [Nat.mul_one] at ht
  have e:cur.toList[i]? = (l.map byteV)[i]?:=by rw [← ht,List.getElem?_take,if_pos hi]
  have e2:cur[i]? = (l.map byteV)[i]?:=by rw [← e];simp
  simp only [World.cell?,hh,Option.isSome_none,Bool.false_eq_true,if_false,Nat.zero_add]
  rw [e2,List.getElem?_map,List.getD_eq_getElem?_getD]
  have:i < l.length:=by omega
  simp [this,byteV]

theorem BytesIn.cell {w:World} {a:Option Addr} {n c:Nat} {l:List UInt8} (h:BytesIn w a n c l) {b o:Nat} (e:a = some ⟨b,o,none⟩) (i:Nat) (hi:i < n) :
  w.cell? ⟨b,o+i,none⟩ = some (.int .u8 (l.getD i 0).toNat):=by
 obtain ⟨b',o',e',_,hc⟩:=h.at_ (by have:=h.le;omega)
 rw [e] at e'
 simp only [Option.some.injEq,Addr.mk.injEq] at e'
 obtain ⟨rfl,rfl,_⟩:=e'
 exact hc i hi

structure OwnBytes (w:World) (B T:Nat) (v:Value) (l:List UInt8):Prop where
 row:w.ownsRow B T 1 v l.length (l.map byteV)

theorem OwnBytes.nil (w:World) (B T:Nat):OwnBytes w B T (.slice none 0 0) []:=⟨World.ownsRow_nil _ _ _ _⟩
theorem OwnBytes.bytes {w:World} {B T:Nat} {v:Value} {l:List UInt8} (h:OwnBytes w B T v l):∃ a c,v = .slice a l.length c∧BytesIn w a l.length c l:=ownsRow_bytes h.row
theorem OwnBytes.kept {w w':World} {row:Option Nat} {B T:Nat} {v:Value} {l:List UInt8} (h:OwnBytes w B T v l) (hg:w.grownBy w' row) (hne:v.ownBlock = none ∨ v.ownBlock ≠ row):OwnBytes w' B T v l:=⟨h.row.kept hg hne⟩
theorem OwnBytes.of_below {w w':World} {B T:Nat} {v:Value} {l:List UInt8} (h:OwnBytes w B T v l) (hb:Below w.heap.size w w'):OwnBytes w' B T v l:=by
 have hlt:=h.row.lt
 obtain ⟨h1,h2⟩:=h.row
 refine ⟨h1,?_⟩
 rcases h2 with h2|⟨g,cap,cur,e,hg,hh,r⟩
 ·exact .inl h2
 ·exact .inr ⟨g,cap,cur,e,hg,by rw [hb.block g (Array.getElem?_eq_some_iff.1 hh).1];exact hh,r⟩

theorem OwnBytes.cell {w:World} {B T g n cap:Nat} {l:List UInt8} (h:OwnBytes w B T (.slice (some ⟨g,0,none⟩) n cap) l) (hn:l.length = n) (j:Nat) (hj:j < n) :
  w.cell? ⟨g,j,none⟩ = some (.int .u8 ((l.getD j 0).toNat:Int)):=by
 have h1:=h.row
 rw [hn] at h1
 rw [h1.cellAt j (by omega),List.getElem?_map,List.getD_eq_getElem?_getD,List.getElem?_eq_getElem (by omega)]
 rfl
theorem OwnBytes.frozen {w:World} {B T g n cap:Nat} {l:List UInt8} (h:OwnBytes w B T (.slice (some ⟨g,0,none⟩) n cap) l) (hn:l.length = n) (j:Nat):w.frozen? ⟨g,j,none⟩ = false:=by
 have h1:=h.row
 rw [hn] at h1
 exact h1.frozenAt j
theorem OwnBytes.set {w:World} {B T g n cap:Nat} {l:List UInt8} (h:OwnBytes w B T (.slice (some ⟨g,0,none⟩) n cap) l) (hn:l.length = n) (j:Nat) (y:UInt8) :
  OwnBytes (w.setCell ⟨g,j,none⟩ (.int .u8 (y.toNat:Int))) B T (.slice (some ⟨g,0,none⟩) n cap) (l.set j y):=by
 have h1:=h.row
 rw [hn] at h1
 have h2:=(h1.stored j (.int .u8 (y.toNat:Int))).1
 refine ⟨?_⟩
 rw [List.length_set,hn,List.map_set]
 exact h2

def putL (n wd:Nat):List UInt8:=(List.range wd).map fun i=>UInt8.ofNat (byteAt n wd i)
theorem putL_length (n wd:Nat):(putL n wd).length = wd:=by simp [putL]
theorem byteAt_lt (n wd i:Nat):byteAt n wd i < 256:=Nat.mod_lt _ (by decide)
theorem putL_getD (n wd i:Nat) (h:i < wd):((putL n wd).getD i 0).toNat = byteAt n wd i:=by
 have hb:=byteAt_lt n wd i
 simp only [putL,List.getD_eq_getElem?_getD,List.getElem?_map,List.getElem?_range h,Option.map_some,Option.getD_some,UInt8.toNat_ofNat']
 exact Nat.mod_eq_of_lt hb
theorem beVal_put_take (n wd:Nat):∀ k,k ≤ wd → beVal ((putL n wd).take k) = n / 256 ^ (wd - k) % 256 ^ k
 | 0,_=>by simp [beVal,Nat.mod_one]
 | k+1,h=>by
  rw [take_succ_getD _ _ (by rw [putL_length];omega),beVal_snoc,beVal_put_take n wd k (by omega),putL_getD n wd k (by omega)]
  have e:wd - k = (wd - (k+1))+1:=by omega
  have e2:wd - 1 - k = wd - (k+1):=by omega
  unfold byteAt
  rw [e,e2,Nat.pow_succ,← Nat.div_div_eq_div_mul]
  generalize n / 256 ^ (wd - (k+1)) = m
  rw [Nat.pow_succ,Nat.mul_comm (256 ^ k) 256,Nat.mod_mul]
  omega
theorem beVal_put (n wd:Nat):beVal (putL n wd) = n % 256 ^ wd:=by
 have h:=beVal_put_take n wd wd (Nat.le_refl _)
 rw [List.take_of_length_le (by rw [putL_length];omega)] at h
 simpa using h

theorem rowIs_bytes {w:World} {b T n:Nat} {f:Nat → Value} (l:List UInt8) (h:w.rowIs b T n f) (hl:l.length = n) (hm:n ≤ maxLen) (hf:∀ i,i < n → f i = .int .u8 ((l.getD i 0).toNat:Int)) :
  BytesIn w (some ⟨b,0,none⟩) n n l :=
 ⟨hl,Nat.le_refl _,hm,fun _=>⟨b,0,rfl,h.lt,fun i hi=>by rw [Nat.zero_add,h.cell hi,hf i hi]⟩⟩

section opens
open Go.ChangeShapes Go.WideShapes Go.ChangeAt
variable {H:Type} {enc:TypeId × Value → H} {P:Program} {w:World} {fuel:Nat} {t e:TypeId} {x:DataW H × List MemPlace} {a:Option Addr} {n c:Nat}

structure IntsIn (k:IntKind) (w:World) (a:Option Addr) (n c:Nat) (l:List Int):Prop where
 len:l.length = n
 le:n ≤ c
 cap:c ≤ maxLen
 wf:∀ z ∈ l,(Lit.int k z).wf = true
 at_:0 < c → ∃ b o,a = some ⟨b,o,none⟩∧b < w.heap.size∧∀ i,i < n → w.cell? ⟨b,o+i,none⟩ = some (.int k (l.getD i 0))

theorem IntsIn.below {k:IntKind} {w w':World} {a:Option Addr} {n c:Nat} {l:List Int} (h:IntsIn k w a n c l) (hb:Below w.heap.size w w'):IntsIn k w' a n c l:=by
 obtain ⟨h1,h2,h3,hw,h4⟩:=h
 refine ⟨h1,h2,h3,hw,fun hc=>?_⟩
 obtain ⟨b,o,e,hlt,hcell⟩:=h4 hc
 exact ⟨b,o,e,Nat.lt_of_lt_of_le hlt hb.size,fun i hi=>(hb.cell (p:=⟨b,o+i,none⟩) hlt).trans (hcell i hi)⟩

theorem ints_open {k:IntKind} (ht:P.underlying t = some (.slice e)) (he:P.underlying e = some (.int k)) (hc:P.cellsOf e = 1)
  (h:DataW.trod enc P w 0 (fun _=>true) true fuel t [.slice a n c] = some x) :
  ∃ l,IntsIn k w a n c l∧((n = 0∧x.1 = .nil) ∨ ∃ es sp:List (DataW H),x.1 = .slice es sp∧es.length = n∧sp.length = c - n):=by
 rcases open_ints ht he hc h with ⟨hcs,hx⟩|⟨ad,len,cap,zs,hcs,_,hl,hm,hz,hx,hcell,hwz⟩
 ·simp only [List.cons.injEq,Value.slice.injEq,and_true] at hcs
  obtain ⟨rfl,rfl,rfl⟩:=hcs
  exact ⟨[],⟨rfl,Nat.le_refl _,Nat.zero_le _,fun z hz=>by simp at hz,fun h=>absurd h (by omega)⟩,.inl ⟨rfl,by rw [hx]⟩⟩
 ·simp only [List.cons.injEq,Value.slice.injEq,and_true] at hcs
  obtain ⟨rfl,rfl,rfl⟩:=hcs
  simp only [if_true] at hz
  refine ⟨zs.take n,⟨by rw [List.length_take];omega,hl,hm,fun z hz'=>hwz z (List.mem_of_mem_take hz'),fun hpos=>?_⟩,.inr ⟨lits k (zs.take n),lits k (zs.drop n),by rw [hx],by simp only [lits,List.length_map,List.length_take];omega,by simp only [lits,List.length_map,List.length_drop];omega⟩⟩
  obtain ⟨b,o,spot⟩:=ad
  have h0:=hcell 0 (by omega)
  have hspot:spot = none:=by simpa [Addr.add] using World.cell?_spot h0
  subst hspot
  have hadd:∀ i,(⟨b,o,none⟩:Addr).add i = ⟨b,o+i,none⟩:=fun i=>by unfold Addr.add;split <;> simp_all
  refine ⟨b,o,rfl,?_,fun i hi=>?_⟩
  ·have:=World.block_lt_of_cell? w _ h0
   rwa [hadd] at this
  ·rw [← hadd,hcell i (by omega)]
   congr 2
   simp only [List.getD_eq_getElem?_getD,List.getElem?_take,if_pos hi]

theorem bytes_of_ints {l:List Int} (h:IntsIn .u8 w a n c l):BytesIn w a n c (l.map fun z=>UInt8.ofNat z.toNat):=by
 obtain ⟨h1,h2,h3,hw,h4⟩:=h
 refine ⟨by simpa using h1,h2,h3,fun hc=>?_⟩
 obtain ⟨b,o,e,hlt,hcell⟩:=h4 hc
 refine ⟨b,o,e,hlt,fun i hi=>?_⟩
 rw [hcell i hi]
 have hi':i < l.length:=by omega
 have hz:=hw l[i] (List.getElem_mem hi')
 have hb:0 ≤ l[i]∧l[i] ≤ 255:=by simpa [Lit.wf,IntKind.min,IntKind.max,IntKind.signed,IntKind.bits] using hz
 simp only [List.getD_eq_getElem?_getD,List.getElem?_map,List.getElem?_eq_getElem hi',Option.map_some,Option.getD_some]
 congr 2
 have:(UInt8.ofNat l[i].toNat).toNat = l[i].toNat:=by
  rw [UInt8.toNat_ofNat'];exact Nat.mod_eq_of_lt (by omega)
 rw [this];omega
end opens

theorem bd_u64 {z:Int} (h:(Lit.int .u64 z).wf = true):∃ n:Nat,z = n∧n < 18446744073709551616:=by
 have hb:0 ≤ z∧z ≤ 18446744073709551615:=by simpa [Lit.wf,IntKind.min,IntKind.max,IntKind.signed,IntKind.bits] using h
 exact ⟨z.toNat,by omega,by omega⟩
theorem BytesIn.sub {w:World} {b o n c:Nat} {l:List UInt8} (h:BytesIn w (some ⟨b,o,none⟩) n c l) (A k:Nat) (hk:A+k ≤ n):BytesIn w (some ⟨b,o+A,none⟩) k (c - A) ((l.drop A).take k):=by
 have h1:=h.len
 have h2:=h.le
 have h3:=h.cap
 refine ⟨by rw [List.length_take,List.length_drop];omega,by omega,by omega,fun hc=>?_⟩
 obtain ⟨b',o',e,hlt,hcell⟩:=h.at_ (by omega)
 simp only [Option.some.injEq,Addr.mk.injEq] at e
 obtain ⟨rfl,rfl,_⟩:=e
 refine ⟨b,o+A,rfl,hlt,fun i hi=>?_⟩
 rw [Nat.add_assoc,hcell (A+i) (by omega)]
 simp only [List.getD_eq_getElem?_getD,List.getElem?_take,if_pos hi,List.getElem?_drop]
theorem BytesIn.empty {w:World} (a:Option Addr):BytesIn w a 0 0 []:=⟨rfl,Nat.le_refl _,Nat.zero_le _,fun h=>absurd h (by omega)⟩
theorem gl {α:Type} {xs:Array α} {i:Nat} {a:α} (h:xs[i]? = some a):i < xs.size:=(Array.getElem?_eq_some_iff.1 h).1

def App1 (w w':World) (base e size n:Nat) (v v':Value) (xs:List Value):Prop :=
 (∃ g cap,v = .slice (some ⟨g,0,none⟩) n cap∧v' = .slice (some ⟨g,0,none⟩) (n+1) cap∧n+1 ≤ cap∧cap ≤ maxLen∧w'.ownsRow base e size v' (n+1) xs∧w.grownBy w' (some g)) ∨
 (∃ cap,v' = .slice (some ⟨w.heap.size,0,none⟩) (n+1) cap∧n+1 ≤ cap∧cap ≤ maxLen∧w'.ownsRow w.heap.size e size v' (n+1) xs∧w.grownBy w' none)

section
variable {P:Program}

theorem new_row (w:World) (e:TypeId) (z:Value) (size:Nat) (hzs:z.cells.size = size) (ys:List Value) (k cap:Nat) (hl:ys.length = k * size) (hk:k ≤ cap) (hc:cap ≤ maxLen) :
  (w.drew.alloc (.cells (ys.toArray ++ Builtin.zeroCells z.cells (cap - k)) e)).ownsRow w.heap.size e size (.slice (some ⟨w.heap.size,0,none⟩) k cap) k ys∧w.grownBy (w.drew.alloc (.cells (ys.toArray ++ Builtin.zeroCells z.cells (cap - k)) e)) none:=by
 refine ⟨⟨hl,.inr ⟨w.heap.size,cap,_,rfl,Nat.le_refl _,_root_.Go.heap_alloc_new w.drew _,hk,hc,?_,?_⟩⟩,⟨rfl,rfl,rfl,by simp,fun j hj _=>Below.heap_alloc w.drew _ j hj⟩⟩
 ·rw [Array.size_append,List.size_toArray,size_zeroCells,hzs,hl,← Nat.add_mul]
  congr 1
  omega
 ·rw [Array.toList_append,← hl]
  exact List.take_left

theorem run_append_two (w:World) (base:Nat) (t ty e:TypeId) (i:TypeInfo) (z:Value) (size bytes:Nat) (ht:P.underlying t = some (.slice e)) (hi:P.info? e = some i) (hz:i.zero = some z)
  (hsize:i.size = size) (hby:i.bytes = bytes) (hzs:z.cells.size = size)
  (v:Value) (n:Nat) (xs:List Value) (hown:w.ownsRow base e size v n xs) (a:Addr) (c:Nat) (news:List Value) (hl:news.length = size) (hnews:∀ j u,news[j]? = some u → w.cell? (a.add j) = some u) (h1:∀ u ∈ news,u.oneCell' = true)
  (h63:n+1 ≤ maxLen) (hbytes:(n+1) * bytes ≤ 140737488355328) :
  ∃ v' w',(Builtin.append_ #[t,t] ty #[v,.slice (some a) 1 c]).run P w = .ok v' w'∧App1 w w' base e size n v v' (xs ++ news):=by
 have h64:n+1 ≤ 9223372036854775807:=by unfold maxLen at h63;omega
 have hl1:news.length = 1 * i.size:=by rw [hl,hsize,Nat.one_mul]
 have hys:(xs ++ news).length = (n+1) * size:=by rw [List.length_append,hown.1,hl,Nat.succ_mul]
 rcases hown.2 with ⟨rfl,rfl⟩|⟨g,cap,cur,rfl,hB,hb,hn,hc,hz2,htk⟩
 ·have hx:xs = []:=List.eq_nil_of_length_eq_zero (by have:=hown.1;simpa using this)
  subst hx
  have hr:=run_append_nil (P:=P) w t ty e i z ht hi hz a 1 c news hl1 hnews (by omega) (by omega) (by rw [hby];omega)
  refine ⟨_,_,hr,.inr ⟨_,rfl,grownCap_ge w 1 0 e,grownCap_le_maxLen w 1 0 e h63,?_⟩⟩
  have hnr:=new_row w e z size hzs news 1 (grownCap w 1 0 e) (by rw [hl,Nat.one_mul]) (grownCap_ge w 1 0 e) (grownCap_le_maxLen w 1 0 e h63)
  exact hnr
 ·by_cases hroom:n+1 ≤ cap
  ·have hfit:n * i.size+news.length ≤ cur.size:=by
    rw [hl,hsize,hz2,← Nat.succ_mul]
    exact Nat.mul_le_mul_right _ hroom
   have hr:=run_append_room (P:=P) w t ty e i ht hi g n cap cur hb a 1 c news hl1 hnews h1 hroom hfit
   refine ⟨_,_,hr,.inl ⟨g,cap,rfl,rfl,hroom,hc,⟨hys,.inr ⟨g,cap,_,rfl,hB,setRow_heap w g cur _ e _ hb,hroom,hc,?_,?_⟩⟩,⟨rfl,rfl,rfl,by simp,fun k _ hk=>setRow_other w g k _ (fun e=>hk (by rw [e]))⟩⟩⟩
   ·simp only [List.size_toArray,List.length_append,List.length_take,List.length_drop,Array.length_toList,hsize]
    rw [hsize] at hfit
    omega
   ·rw [hsize,htk]
    have:(n+1) * size = (xs ++ news).length:=hys.symm
    rw [this]
    exact List.take_left
  ·have holds:∀ j u,xs[j]? = some u → w.cell? ((⟨g,0,none⟩:Addr).add j) = some u:=hown.cells (g:=g) rfl
   have hr:=run_append_grow (P:=P) w t ty e i z ht hi hz ⟨g,0,none⟩ n cap xs (by rw [hsize];exact hown.1) holds a 1 c news hl1 hnews (by omega) (by omega) (growslice_fits (by omega) (by rw [hby];exact hbytes))
   refine ⟨_,_,hr,.inr ⟨_,rfl,grownCap_ge w (n+1) cap e,grownCap_le_maxLen w (n+1) cap e h63,?_⟩⟩
   have hnr:=new_row w e z size hzs (xs ++ news) (n+1) (grownCap w (n+1) cap e) hys (grownCap_ge w (n+1) cap e) (grownCap_le_maxLen w (n+1) cap e h63)
   rw [← List.append_toArray xs news] at hnr
   exact hnr

theorem wpList_append_two (w:World) {ops:Array Oper} {rest:List Oper} {o:Oper} {a:Act} {Q:Exit → Act → World → Prop} (hgd:o.guard = none) (s x:Operand) (t:TypeId)
  (ho:o.op = .call { callee:=.builtin .append,args:=#[s,x],argTypes:=#[t,t] }) (base:Nat) (e:TypeId) (i:TypeInfo) (z:Value) (size bytes:Nat) (ht:P.underlying t = some (.slice e)) (hi:P.info? e = some i) (hz:i.zero = some z)
  (hsize:i.size = size) (hby:i.bytes = bytes) (hzs:z.cells.size = size) (v:Value) (n:Nat) (xs:List Value) (hs:a.eval s = v) (hown:w.ownsRow base e size v n xs)
  (ad:Addr) (c:Nat) (news:List Value) (hx:a.eval x = .slice (some ad) 1 c) (hl:news.length = size) (hnews:∀ j u,news[j]? = some u → w.cell? (ad.add j) = some u) (h1:∀ u ∈ news,u.oneCell' = true)
  (h63:n+1 ≤ maxLen) (hbytes:(n+1) * bytes ≤ 140737488355328)
  (h:∀ v' w',App1 w w' base e size n v v' (xs ++ news) → wpList P ops Q rest (a.put o.dst v') w'):wpList P ops Q (o :: rest) a w:=by
 refine wpList_plain hgd fun K hK=>?_
 obtain ⟨v',w',hr,h2⟩:=run_append_two w base t o.type e i z size bytes ht hi hz hsize hby hzs v n xs hown ad c news hl hnews h1 h63 hbytes
 unfold Oper.wp execOp
 simp only [ho,resolve,invoke,builtin,Sem.run_bind,Sem.run_pure,Result.andThen_ok,List.map_toArray,List.map_cons,List.map_nil,hs,hx,hr]
 exact hK _ _ (h v' w' h2)
end

theorem App1.slice {w w':World} {base e size n:Nat} {v v':Value} {xs:List Value} (h:App1 w w' base e size n v v' xs):∃ p c,v' = .slice p (n+1) c:=by
 rcases h with ⟨g,cap,_,h,_⟩|⟨cap,h,_⟩
 ·exact ⟨_,_,h⟩
 ·exact ⟨_,_,h⟩
theorem App1.owns {w w':World} {base e size n:Nat} {v v':Value} {xs:List Value} (h:App1 w w' base e size n v v' xs) (hb:base ≤ w.heap.size):w'.ownsRow base e size v' (n+1) xs:=by
 rcases h with ⟨g,cap,_,_,_,_,h,_⟩|⟨cap,_,_,_,h,_⟩
 ·exact h
 ·refine ⟨h.1,?_⟩
  rcases h.2 with hn|⟨g,cap,cur,hv,hbg,rest⟩
  ·exact .inl hn
  ·exact .inr ⟨g,cap,cur,hv,Nat.le_trans hb hbg,rest⟩
theorem App1.grown {w w':World} {base e size n:Nat} {v v':Value} {xs:List Value} (h:App1 w w' base e size n v v' xs):w.grownBy w' v.ownBlock:=by
 rcases h with ⟨g,cap,rfl,_,_,_,_,h⟩|⟨cap,_,_,_,_,h⟩
 ·exact h
 ·exact ⟨h.os,h.tape,h.output,h.size,fun j hj _=>h.block j hj (by simp)⟩
theorem App1.own {w w':World} {base e size n:Nat} {v v':Value} {xs:List Value} (h:App1 w w' base e size n v v' xs) {j:Nat} (hj:v'.ownBlock = some j):v.ownBlock = some j ∨ j = w.heap.size:=by
 rcases h with ⟨g,cap,rfl,rfl,_⟩|⟨cap,rfl,_⟩
 ·exact .inl hj
 ·simp only [Value.ownBlock,Option.some.injEq] at hj
  exact .inr hj.symm
end Go.Proofs.YtnnnfhobbnjmfaaGreatDoor
