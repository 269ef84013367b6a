/-
  Lemmas on the codec. Conditions: as each says.
-/
import Derived.Test.YtnnnfhobbnjmfaaGreatDoorWn30
import Derived.Defers
import Derived.Recover
namespace Go.Proofs.YtnnnfhobbnjmfaaGreatDoor
open Go.RowKit Go.Proofs.Tryz
set_option linter.all false
set_option maxHeartbeats 40000000
set_option maxRecDepth 20000

def spanX (k0 tot:Nat) (y:Except Er (List V × Nat)):Except Er (List V × Nat):=match y with
 | .error e=>.error (spanE k0 e)
 | .ok (l,_)=>.ok (l,tot)
theorem faultE_span {n at_ a2 k0:Nat} {sz own:Int} (h:at_+k0 = a2) (y:Er):faultE (erP n (at_:Nat) own a2 y) (erC (at_:Nat) y) = faultE (erP n sz own at_ (spanE k0 y)) (erC sz (spanE k0 y)):=by
 cases y with
 | short =>
  show faultE (shP n (at_:Nat)) (shC (at_:Nat)) = faultE ((at_+0:Nat):Int) 32
  unfold shP shC
  rw [if_neg (by omega),if_neg (by omega)]
  rfl
 | own e=>rfl
 | pl j e=>subst h;show faultE _ _ = faultE _ _;congr 1;show ((at_+k0+j:Nat):Int) = ((at_+(j+k0):Nat):Int);omega
theorem wto_in {W W2 w':World} {r q bv:Nat} {p:Option Addr} {n cp at_ en a1 a2e st k0 tot:Nat} {sz own K el:Int} {B:List UInt8} (hk:KeepF (fun g=>g = r) W W2) (hr2:RdIn W2 r p n cp a1 en sz B) (hq:RdIn W2 q p n cp a1 a2e (at_:Nat) B) (hqW:W.heap.size <= q) (hrb:r < bv) (hbv:bv < W.heap.size)
  (hst:at_+k0 = st) (htot:at_+tot = a2e) (y:Except Er (List V × Nat)) {e:Ending} (hsp:SpTo W2 q bv p n cp st a2e (at_:Nat) own K el y e w') :
  (∃ ps,e = .panicked ps∧WTo W r bv p n cp at_ en sz own K el (spanX k0 tot y) e w') ∨ (e = .returned (.tuple #[])∧w'.heap[r]? = W2.heap[r]?∧(∃ a3:Nat,w'.heap[q]? = some (.cells #[.slice p n cp,.int .i64 (a3:Nat),.int .i64 (a2e:Nat),.int .i64 (at_:Nat)] 66 (0,0))) ∧
   ∀ w2,RdMv w' w2 r #[.slice p n cp,.int .i64 (a2e:Nat),.int .i64 (en:Nat),.int .i64 sz] -> WTo W r bv p n cp at_ en sz own K el (spanX k0 tot y) (.returned (.tuple #[])) w2):=by
 have hrlt:=hr2.lt
 have hsz:=hk.size
 have ku:∀ {X:World},KeepF (fun g=>g = q ∨ g = bv) W2 X -> KeepF (fun g=>g = r ∨ g = bv) W X:=fun h =>
  (hk.wide (fun j h=>Or.inl (b:=j = bv) h)).on h (fun j hj h=>by rcases h with h|h;exact absurd hj (by omega);exact .inr h)
 rcases y with er|⟨l,k⟩
 ·obtain ⟨rfl,hk2⟩:=hsp
  exact .inl ⟨_,rfl,faultE_span hst er,ku hk2⟩
 ·obtain ⟨rfl,hk2,⟨s,F,hvo,hbx⟩,hrow⟩:=hsp
  have hrq:w'.heap[r]? = W2.heap[r]?:=hk2.block r hrlt (by omega)
  refine .inr ⟨rfl,hrq,⟨_,hrow⟩,fun w2 hm=>⟨rfl,?_,⟨s,F,?_,?_⟩,?_⟩⟩
  ·exact (ku hk2).trans (hm.keep.wide (fun j h=>.inl h))
  ·refine (hvo.mono hsz).keep (fun b hb=>hm.keep.block b (hvo.lt b hb).2 (fun e=>by have:=(hvo.lt b hb).1;omega))
  ·exact (hm.keep.block bv (by have:=hk2.size;omega) (by omega)).trans hbx
  ·rw [htot];exact hm.at_
theorem wto_err {w w':World} {r bv:Nat} {p:Option Addr} {n cp at_ en:Nat} {sz own K el a b:Int} {y:Er} {e:Ending} (h:e = faultE a b∧KeepF (fun g=>g = r) w w') (hf:faultE a b = faultE (erP n sz own at_ y) (erC sz y)):WTo w r bv p n cp at_ en sz own K el (.error y) e w' :=
 ⟨h.1.trans hf,h.2.wide (fun j h=>.inl h)⟩

noncomputable def mapV (K:Int) (x:Except Er (List V × Nat)):Res:=match x with
 | .error y=>.error y
 | .ok (l,k)=>if K = 22∧¬ (evens l).Nodup then .error (.own (ec 34)) else .ok (.mk K 0 ⟨#[]⟩ l 0,k)
theorem span_x (wd:Nat) (K d:Int) (w:World) (r:Nat) (p:Option Addr) (n cp at_ en:Nat) (sz own:Int) (B:List UInt8) (h:RdIn w r p n cp at_ en sz B) (x:Except Er (List V × Nat)) (hx:∀ W b,r < b -> w.heap.size <= b -> RdIn W r p n cp at_ en sz B -> W.cell? ⟨b,0,none⟩ = some (.int .i64 K) -> W.cell? ⟨b+1,0,none⟩ = some (.int .i64 (wd:Nat)) -> W.cell? ⟨b+2,0,none⟩ = some (.int .i64 own) -> W.cell? ⟨b+3,0,none⟩ = some (.int .i64 d) -> W.heap[b+5]? = some (.cells #[.int .i64 K,.int .u64 0,.string ⟨#[]⟩,.slice none 0 0,.int .i64 0] 25 (0,0)) →
   Calls prog 107 #[.pointer (some ⟨r,0,none⟩),.int .i64 (wd:Nat),.int .i64 (wd:Nat),.func (.func 108) #[] #[.pointer (some ⟨b+1,0,none⟩),.pointer (some ⟨b,0,none⟩),.pointer (some ⟨b+2,0,none⟩),.pointer (some ⟨b+5,0,none⟩),.pointer (some ⟨b+3,0,none⟩)]] W fun e w'=>WTo W r (b+5) p n cp at_ en sz own K 0 x e w')
  (hok:K = 22 -> ∀ l k,x = .ok (l,k) -> (∀ y ∈ l,Okk y)∧l.length <= 4294967296) :
  Calls prog 82 #[.pointer (some ⟨r,0,none⟩),.int .i64 K,.int .i64 (wd:Nat),.int .i64 own,.int .i64 d] w fun e w'=>RdTo w r p n cp at_ en sz own (mapV K x) e w':=by
 by_cases hk:K = 22
 ·cases x with
  | error y =>
   have:=span_map wd K d w r p n cp at_ en sz own B h hk (.error y) hx (fun l k q=>by cases q)
   exact this
  | ok z =>
   obtain ⟨l,k⟩:=z
   obtain ⟨hl1,hl2⟩:=hok hk l k rfl
   by_cases hnd:(evens l).Nodup
   ·have:=span_map wd K d w r p n cp at_ en sz own B h hk (.ok (l,k)) hx (fun l2 k2 q W Bs s F hv hT=>by
     simp only [Except.ok.injEq,Prod.mk.injEq] at q
     obtain ⟨rfl,rfl⟩:=q
     refine (twice_any l hl1 hl2 W Bs s F hv).mono ?_
     rintro e w' ⟨⟨b,rfl,hb⟩,hbl⟩
     cases b with
     | false=>exact ⟨rfl,hbl⟩
     | true=>exact absurd hnd (hb.1 rfl))
    have e:mapV K (.ok (l,k)) = spanV K 0 (.ok (l,k)):=by unfold mapV spanV;simp only;rw [if_neg (fun q=>q.2 hnd)]
    rw [e]
    exact this
   ·have:=span_twice wd K d w r p n cp at_ en sz own B h hk (.ok (l,k)) hx (fun l2 k2 q W Bs s F hv hT=>by
     simp only [Except.ok.injEq,Prod.mk.injEq] at q
     obtain ⟨rfl,rfl⟩:=q
     refine (twice_any l hl1 hl2 W Bs s F hv).mono ?_
     rintro e w' ⟨⟨b,rfl,hb⟩,hbl⟩
     cases b with
     | true=>exact ⟨rfl,hbl⟩
     | false=>exact absurd (hb.2 hnd) (by decide))
    have e:mapV K (.ok (l,k)) = dupV (.ok (l,k)):=by unfold mapV dupV;simp only;rw [if_pos ⟨hk,hnd⟩]
    rw [e]
    exact this
 have:=span_list wd K d w r p n cp at_ en sz own B h (by simp [hk]) x hx
 have e:mapV K x = spanV K 0 x:=by
  cases x with
  | error y=>rfl
  | ok z=>obtain ⟨l,k⟩:=z;unfold mapV spanV;simp only;rw [if_neg (fun q=>hk q.1)]
 rw [e]
 exact this
def ValC (rv:List UInt8 -> Res) (d:Int):Prop:=∀ (W:World) (r:Nat) (p:Option Addr) (n cp at_ en:Nat) (sz own:Int) (B:List UInt8),RdIn W r p n cp at_ en sz B -> Calls prog 38 #[.pointer (some ⟨r,0,none⟩),.int .i64 d] W fun e w'=>RdTo W r p n cp at_ en sz own (rv (sOf B at_ en)) e w'
def DatT (rd:Nat -> List UInt8 -> Res) (d:Int):Prop:=∀ (c:Nat),DatC c -> ∀ (W:World) (r:Nat) (p:Option Addr) (n cp at_ en:Nat) (sz own:Int) (B:List UInt8),RdIn W r p n cp at_ en sz B -> Calls prog 58 #[.pointer (some ⟨r,0,none⟩),.int .u8 (c:Nat),.int .i64 own,.int .i64 d] W fun e w'=>RdTo W r p n cp at_ en sz own (rd c (sOf B at_ en)) e w'
theorem sp_kind {c:Nat} (hc:c / 16 = 12 ∨ c / 16 = 13) (hk:0 <= kindC c):kindC c = 21 ∨ kindC c = 22:=by
 obtain ⟨d,hd,rfl⟩:∃ d,d < 32∧c = 192+d:=⟨c - 192,by omega,by omega⟩
 have key:∀ d:Fin 32,0 <= kindC (192+d.1) -> kindC (192+d.1) = 21 ∨ kindC (192+d.1) = 22:=by decide
 exact key ⟨d,hd⟩ hk
theorem wf_sp {K el:Int} (h:K = 21 ∨ K = 22 ∨ K = 23) (h2:IsI64 el):(V.mk K 0 ⟨#[]⟩ [] el).Wf:=by
 refine ⟨?_,u64_0,Nat.zero_le _,h2⟩
 show IsI64 K
 rcases h with rfl|rfl|rfl <;> constructor <;> decide
theorem span_any (c:Nat) (hc:c / 16 = 12 ∨ c / 16 = 13) (hk:0 <= kindC c) (d:Int) (hwd:IntKind.i64.wrap (d+1) = d+1) (rv:List UInt8 -> Res) (hle:∀ s v k,rv s = .ok (v,k) -> k <= s.length) (hgo:∀ s v k,s.length <= 4294967295 -> rv s = .ok (v,k) -> k <= s.length∧Okk v) (hv:ValC rv (d+1)) (w:World) (r:Nat) (p:Option Addr) (n cp at_ en:Nat) (sz own:Int) (B:List UInt8) (h:RdIn w r p n cp at_ en sz B) :
  Calls prog 82 #[.pointer (some ⟨r,0,none⟩),.int .i64 (kindC c),.int .i64 (wOf c:Nat),.int .i64 own,.int .i64 d] w fun e w'=>RdTo w r p n cp at_ en sz own (withinR c (wOf c) (spanIn rv c) (sOf B at_ en)) e w':=by
 have hl:(sOf B at_ en).length = en - at_:=sOf_len (by rw [h.len];exact h.hen)
 have hae:=h.ha
 have hBl:=h.len
 obtain ⟨hw1,hw4⟩:=wOf_bd c
 have hkk:=sp_kind hc hk
 obtain ⟨K,hK⟩:∃ K,kindC c = K:=⟨_,rfl⟩
 obtain ⟨wd,hwde⟩:∃ wd,wOf c = wd:=⟨_,rfl⟩
 unfold withinR
 rw [hK] at hkk ⊢
 rw [hwde] at hw1 hw4 ⊢
 by_cases hs:en < at_+wd
 ·rw [if_pos (by omega)]
  refine span_x wd K d w r p n cp at_ en sz own B h (.error .short) (fun W b h1 h2 h3 h4 h5 h6 h7 h8=>?_) (fun _ l k q=>by cases q)
  exact (within_short1 wd wd _ W r p n cp at_ en sz own B h3 hs).mono (fun e w' q=>wto_err q rfl)
 rw [if_neg (by omega)]
 have htk:beVal ((sOf B at_ en).take wd) = nAt B at_ wd:=by unfold nAt;rw [sOf_take (by omega)]
 rw [htk]
 obtain ⟨N,hN⟩:∃ N,nAt B at_ wd = N:=⟨_,rfl⟩
 obtain ⟨a1,ha1⟩:∃ a1,at_+wd = a1:=⟨_,rfl⟩
 rw [hN]
 have hNB:N <= 4294967295:=by
  have hlt:=nAt_lt (B:=B) (at_:=at_) (wd:=wd)
  have h2:256 ^ wd <= 256 ^ 4:=Nat.pow_le_pow_right (by omega) hw4
  have h3:256 ^ 4 = 4294967296:=by decide
  rw [hN] at hlt
  exact Nat.le_of_lt_succ (Nat.lt_of_lt_of_le hlt (Nat.le_trans h2 (Nat.le_of_eq h3)))
 by_cases hsm:N < wd
 ·rw [if_pos hsm]
  refine span_x wd K d w r p n cp at_ en sz own B h (.error (.pl 0 (ec 32))) (fun W b h1 h2 h3 h4 h5 h6 h7 h8=>?_) (fun _ l k q=>by cases q)
  exact (within_small wd wd _ W r p n cp at_ en sz own B h3 hw1 hw4 N a1 hN ha1 (by omega) hsm).mono (fun e w' q=>wto_err q rfl)
 rw [if_neg hsm]
 by_cases hs2:en < a1+N
 ·rw [if_pos (by omega)]
  refine span_x wd K d w r p n cp at_ en sz own B h (.error .short) (fun W b h1 h2 h3 h4 h5 h6 h7 h8=>?_) (fun _ l k q=>by cases q)
  exact (within_short2 wd wd _ W r p n cp at_ en sz own B h3 hw1 hw4 N a1 hN ha1 (by omega) (by omega) hs2).mono (fun e w' q=>wto_err q rfl)
 rw [if_neg (by omega)]
 obtain ⟨ae,hae2⟩:∃ ae,a1+N = ae:=⟨_,rfl⟩
 obtain ⟨a2,ha2⟩:∃ a2,a1+wd = a2:=⟨_,rfl⟩
 have hq:((sOf B at_ en).drop wd).take N = sOf B a1 ae:=by rw [sOf_drop,ha1,sOf_cut (by omega),hae2]
 rw [hq]
 have hql:(sOf B a1 ae).length = N:=by rw [sOf_len (by rw [hBl];have:=h.hen;omega)];omega
 obtain ⟨M,hM⟩:∃ M,nAt B a1 wd = M:=⟨_,rfl⟩
 have hMB:M < 4294967296:=by
  have hlt:=nAt_lt (B:=B) (at_:=a1) (wd:=wd)
  have h2:256 ^ wd <= 256 ^ 4:=Nat.pow_le_pow_right (by omega) hw4
  have h3:256 ^ 4 = 4294967296:=by decide
  rw [hM] at hlt
  exact Nat.lt_of_lt_of_le hlt (Nat.le_trans h2 (Nat.le_of_eq h3))
 have hct:beVal ((sOf B a1 ae).take wd) = M:=by rw [sOf_take (by omega)];exact hM
 have hdr:(sOf B a1 ae).drop wd = sOf B a2 ae:=by rw [sOf_drop,ha2]
 have hdl:(sOf B a2 ae).length = ae - a2:=sOf_len (by rw [hBl];have:=h.hen;omega)
 have hnin:spanIn rv c N (sOf B a1 ae) = mapV K (spanX (wd+wd) (wd+N) (if K = 22∧M % 2 ≠ 0 then .error (.own (ec 34)) else if K = 22∧1024 < M / 2 then .error (.own (ec 2)) else spC rv M (sOf B a2 ae) (ae - a2))):=by
  unfold spanIn
  rw [hK,hwde,hct,hdr]
  by_cases o1:K = 22∧M % 2 ≠ 0
  ·rw [if_pos o1,if_pos o1];rfl
  rw [if_neg o1,if_neg o1]
  by_cases o2:K = 22∧1024 < M / 2
  ·rw [if_pos o2,if_pos o2];rfl
  rw [if_neg o2,if_neg o2]
  unfold spC
  cases els rv M (sOf B a2 ae) with
  | error y=>rfl
  | ok z =>
   obtain ⟨l,k⟩:=z
   simp only
   by_cases o3:wd+k < N
   ·rw [if_pos o3,if_pos (show k < ae - a2 by omega)];rfl
   ·rw [if_neg o3,if_neg (show ¬ k < ae - a2 by omega)]
    show _ = mapV K (.ok (l,wd+N))
    unfold mapV
    simp only
 rw [hnin]
 refine span_x wd K d w r p n cp at_ en sz own B h _ (fun W b h1 h2 h3 h4 h5 h6 h7 h8=>?_) (fun hK2 l k q=>?_)
 ·refine within_s wd wd _ _ _ _ _ W r p n cp at_ en sz own B h3 hw1 hw4 N a1 hN ha1 ae hae2 (by omega) (by omega) _ (fun W2 q hWq hkW hrW hqW=>?_)
  have hb5:=(gl h8)
  have nr:∀ j,b <= j -> j ≠ r:=fun j hj=>by omega
  have c0:=hkW.cell h4 (nr b (Nat.le_refl _))
  have c1:=hkW.cell h5 (nr (b+1) (by omega))
  have c2:=hkW.cell h6 (nr (b+2) (by omega))
  have c3:=hkW.cell h7 (nr (b+3) (by omega))
  have ob:=(hkW.block (b+5) hb5 (nr _ (by omega))).trans h8
  have hne:b ≠ q∧b+2 ≠ q∧b+3 ≠ q∧b+5 ≠ q∧b+3 ≠ b+5:=⟨by omega,by omega,by omega,by omega,by omega⟩
  have hsrc:=hrW.src
  have hwf:(V.mk K 0 ⟨#[]⟩ [] 0).Wf:=wf_sp (by omega) i64_0
  have fin:∀ (y:Except Er (List V × Nat)) e w',SpTo W2 q (b+5) p n cp a2 ae (at_:Nat) own K 0 y e w' -> _:=fun y e w' hsp=>wto_in hkW hrW hqW hWq (show r < b+5 by omega) hb5 (show at_+(wd+wd) = a2 by omega) (show at_+(wd+N) = ae by omega) y hsp
  by_cases o1:K = 22∧M % 2 ≠ 0
  ·rw [if_pos o1]
   exact (clos_odd W2 q (b+1) b (b+2) (b+5) (b+3) p n cp a1 ae (at_:Nat) own B hqW wd K d hw1 hw4 M a2 hM ha2 (by omega) c1 c0 c2 c3 ob hne o1.1 o1.2).mono (fun e w' hsp=>fin _ e w' hsp)
  rw [if_neg o1]
  by_cases o2:K = 22∧1024 < M / 2
  ·rw [if_pos o2]
   exact (clos_long W2 q (b+1) b (b+2) (b+5) (b+3) p n cp a1 ae (at_:Nat) own B hqW wd K d hw1 hw4 M a2 hM ha2 (by omega) c1 c0 c2 c3 ob hne o2.1 (by have:=o1;omega) o2.2).mono (fun e w' hsp=>fin _ e w' hsp)
  rw [if_neg o2]
  by_cases hK2:K = 22
  ·exact (clos_map W2 q (b+1) b (b+2) (b+5) (b+3) p n cp a1 ae (at_:Nat) own B hqW wd K d hw1 hw4 M a2 hM ha2 (by omega) c1 c0 c2 c3 ob hne r hsrc (by omega) (by have:=hrW.lt;omega) (by omega) hwf hwd rv hle (fun a3 W3 h3=>hv W3 q p n cp a3 ae _ own B h3) hK2 (by omega) (by omega)).mono (fun e w' hsp=>fin _ e w' hsp)
  ·exact (clos_list W2 q (b+1) b (b+2) (b+5) (b+3) p n cp a1 ae (at_:Nat) own B hqW wd K d hw1 hw4 M a2 hM ha2 (by omega) c1 c0 c2 c3 ob hne r hsrc (by omega) (by have:=hrW.lt;omega) (by omega) hwf hwd rv hle (fun a3 W3 h3=>hv W3 q p n cp a3 ae _ own B h3) (by simp [hK2])).mono (fun e w' hsp=>fin _ e w' hsp)
 by_cases o1:K = 22∧M % 2 ≠ 0
 ·rw [if_pos o1] at q;cases q
 rw [if_neg o1] at q
 by_cases o2:K = 22∧1024 < M / 2
 ·rw [if_pos o2] at q;cases q
 rw [if_neg o2] at q
 unfold spC at q
 cases he:els rv M (sOf B a2 ae) with
 | error y=>rw [he] at q;cases q
 | ok z =>
  obtain ⟨l2,k2⟩:=z
  rw [he] at q
  simp only at q
  by_cases o3:k2 < ae - a2
  ·rw [if_pos o3] at q;cases q
  rw [if_neg o3] at q
  simp only [spanX,Except.ok.injEq,Prod.mk.injEq] at q
  obtain ⟨rfl,rfl⟩:=q
  obtain ⟨q1,q2,q3,q4⟩:=els_all (Q:=Okk) (f:=fun _=>0) (L:=4294967295) (fun s v k hs hr=>⟨(hgo s v k hs hr).1,(hgo s v k hs hr).2,Nat.zero_le _⟩) M (sOf B a2 ae) l2 k2 (by omega) he
  exact ⟨q3,by omega⟩
theorem kindC_bd (c:Nat):-1 <= kindC c∧kindC c <= 24:=by
 unfold kindC
 repeat' split
 all_goals omega
theorem getD_drop {B:List UInt8} {a e:Nat} (h:a < e) (h2:e <= B.length):(sOf B a e).headD 0 = B.getD a 0:=by
 unfold sOf
 rw [List.getD_eq_getElem?_getD,← List.head?_drop]
 obtain ⟨m,hm⟩:∃ m,e - a = m+1:=⟨e - a - 1,by omega⟩
 rw [hm]
 cases B.drop a with
 | nil=>rfl
 | cons x t=>rfl
theorem RdTo.bare {w w':World} {r:Nat} {p:Option Addr} {n cp at_ en:Nat} {sz own:Int} {rd:Nat -> List UInt8 -> Res} {c:Nat} {s:List UInt8} {e:Ending} (h:RdTo w r p n cp at_ en sz (at_:Nat) (rd c s) e w'):RdTo w r p n cp at_ en sz own (bareR rd c s) e w':=by
 unfold bareR
 cases hr:rd c s with
 | ok x=>rw [hr] at h;exact h
 | error y =>
  rw [hr] at h
  obtain ⟨rfl,hk⟩:=h
  refine ⟨?_,hk⟩
  cases y <;> rfl
theorem array_any (c:Nat) (hc:c / 16 = 14 ∨ c / 16 = 15) (hk:kindC c = 23) (d:Int) (hwd:IntKind.i64.wrap (d+1) = d+1) (rd:Nat -> List UInt8 -> Res) (hle:∀ c s v k,rd c s = .ok (v,k) -> k <= s.length) (hd:(decide (32 < d+1) = true∧∀ c s,rd c s = .error (.pl 0 (ec 26))) ∨ (decide (32 < d+1) = false∧DatT rd (d+1))) (w:World) (r:Nat) (p:Option Addr) (n cp at_ en:Nat) (sz own:Int) (B:List UInt8) (h:RdIn w r p n cp at_ en sz B) :
  Calls prog 83 #[.pointer (some ⟨r,0,none⟩),.int .i64 (wOf c:Nat),.int .i64 d] w fun e w'=>RdTo w r p n cp at_ en sz own (withinR c (wOf c+1) (arrIn rd c) (sOf B at_ en)) e w':=by
 have hl:(sOf B at_ en).length = en - at_:=sOf_len (by rw [h.len];exact h.hen)
 have hae:=h.ha
 have hBl:=h.len
 obtain ⟨hw1,hw4⟩:=wOf_bd c
 obtain ⟨wd,hwde⟩:∃ wd,wOf c = wd:=⟨_,rfl⟩
 unfold withinR
 rw [hwde] at hw1 hw4 ⊢
 by_cases hs:en < at_+wd
 ·rw [if_pos (by omega)]
  refine array_walk wd hw4 d 0 w r p n cp at_ en sz own B h (.error .short) (fun W b h1 h2 h3 h4 h5 h8=>?_)
  exact (within_short1 wd (wd+1) _ W r p n cp at_ en sz own B h3 hs).mono (fun e w' q=>wto_err q rfl)
 rw [if_neg (by omega)]
 have htk:beVal ((sOf B at_ en).take wd) = nAt B at_ wd:=by unfold nAt;rw [sOf_take (by omega)]
 rw [htk]
 obtain ⟨N,hN⟩:∃ N,nAt B at_ wd = N:=⟨_,rfl⟩
 obtain ⟨a1,ha1⟩:∃ a1,at_+wd = a1:=⟨_,rfl⟩
 rw [hN]
 by_cases hsm:N < wd+1
 ·rw [if_pos hsm]
  refine array_walk wd hw4 d 0 w r p n cp at_ en sz own B h (.error (.pl 0 (ec 32))) (fun W b h1 h2 h3 h4 h5 h8=>?_)
  exact (within_small wd (wd+1) _ W r p n cp at_ en sz own B h3 hw1 hw4 N a1 hN ha1 (by omega) hsm).mono (fun e w' q=>wto_err q rfl)
 rw [if_neg hsm]
 by_cases hs2:en < a1+N
 ·rw [if_pos (by omega)]
  refine array_walk wd hw4 d 0 w r p n cp at_ en sz own B h (.error .short) (fun W b h1 h2 h3 h4 h5 h8=>?_)
  exact (within_short2 wd (wd+1) _ W r p n cp at_ en sz own B h3 hw1 hw4 N a1 hN ha1 (by omega) (by omega) hs2).mono (fun e w' q=>wto_err q rfl)
 rw [if_neg (by omega)]
 obtain ⟨ae,hae2⟩:∃ ae,a1+N = ae:=⟨_,rfl⟩
 obtain ⟨a2,ha2⟩:∃ a2,a1+wd = a2:=⟨_,rfl⟩
 obtain ⟨a3,ha3⟩:∃ a3,a2+1 = a3:=⟨_,rfl⟩
 have hq:((sOf B at_ en).drop wd).take N = sOf B a1 ae:=by rw [sOf_drop,ha1,sOf_cut (by omega),hae2]
 rw [hq]
 have hen:=h.hen
 obtain ⟨M,hM⟩:∃ M,nAt B a1 wd = M:=⟨_,rfl⟩
 obtain ⟨cc,hcc⟩:∃ cc,(B.getD a2 0).toNat = cc:=⟨_,rfl⟩
 have hct:beVal ((sOf B a1 ae).take wd) = M:=by rw [sOf_take (by omega)];exact hM
 have hdr:(sOf B a1 ae).drop wd = sOf B a2 ae:=by rw [sOf_drop,ha2]
 have hdr1:(sOf B a1 ae).drop (wd+1) = sOf B a3 ae:=by rw [sOf_drop];congr 1;omega
 have hhd:((sOf B a2 ae).headD 0).toNat = cc:=by rw [getD_drop (by omega) (by omega)];exact hcc
 obtain ⟨el,hel⟩:∃ el,kindC cc = el:=⟨_,rfl⟩
 have helb:=kindC_bd cc
 rw [hel] at helb
 have hie:IsI64 el:=⟨by omega,by omega⟩
 have hwf:(V.mk 23 0 ⟨#[]⟩ [] el).Wf:=wf_sp (by omega) hie
 by_cases bad:el < 0 ∨ cc = 0 ∨ cc / 16 = 4
 ·have e1:arrIn rd c N (sOf B a1 ae) = spanV 23 el (spanX (wd+wd) (wd+N) (.error (.pl 0 (ec 30)))):=by
   unfold arrIn
   simp only
   rw [hwde,hdr,hhd,hel,if_pos bad]
   simp [spanV,spanX,spanE]
  rw [e1]
  refine array_walk wd hw4 d el w r p n cp at_ en sz own B h _ (fun W b h1 h2 h3 h4 h5 h8=>?_)
  refine within_a wd (wd+1) _ _ _ W r p n cp at_ en sz own B h3 hw1 hw4 N a1 hN ha1 ae hae2 (by omega) (by omega) _ (fun W2 q hWq hkW hrW hqW=>?_)
  have hb5:=(gl h8)
  have c0:=hkW.cell h4 (show ¬ b = r by omega)
  have c1:=hkW.cell h5 (show ¬ b+1 = r by omega)
  have ob:=(hkW.block (b+3) hb5 (show ¬ b+3 = r by omega)).trans h8
  have hne:b+1 ≠ q∧b+3 ≠ q∧b+1 ≠ b+3:=⟨by omega,by omega,by omega⟩
  have fin:∀ (y:Except Er (List V × Nat)) e w',SpTo W2 q (b+3) p n cp a2 ae (at_:Nat) own 23 el y e w' -> _:=fun y e w' hsp=>wto_in hkW hrW hqW hWq (show r < b+3 by omega) hb5 (show at_+(wd+wd) = a2 by omega) (show at_+(wd+N) = ae by omega) y hsp
  by_cases n1:el < 0
  ·exact (arr_neg W2 q b (b+3) (b+1) p n cp a1 ae (at_:Nat) own B hqW wd 23 d hw1 hw4 M a2 a3 cc el hM ha2 ha3 (by omega) hcc hel c0 c1 ob hne n1).mono (fun e w' hsp=>fin (.error (.pl 0 (ec 30))) e w' hsp)
  by_cases n2:cc = 0
  ·exact (arr_zero W2 q b (b+3) (b+1) p n cp a1 ae (at_:Nat) own B hqW wd 23 d hw1 hw4 M a2 a3 cc el hM ha2 ha3 (by omega) hcc hel c0 c1 ob hne n1 n2).mono (fun e w' hsp=>fin (.error (.pl 0 (ec 30))) e w' hsp)
  ·exact (arr_lone W2 q b (b+3) (b+1) p n cp a1 ae (at_:Nat) own B hqW wd 23 d hw1 hw4 M a2 a3 cc el hM ha2 ha3 (by omega) hcc hel c0 c1 ob hne n1 n2 (by omega)).mono (fun e w' hsp=>fin (.error (.pl 0 (ec 30))) e w' hsp)
 have e1:arrIn rd c N (sOf B a1 ae) = spanV 23 el (spanX (wd+wd+1) (wd+N) (spC (bareR rd cc) M (sOf B a3 ae) (ae - a3))):=by
  unfold arrIn
  simp only
  rw [hwde,hdr,hhd,hel,if_neg bad,hct,hdr1,hk]
  unfold spC
  cases els (bareR rd cc) M (sOf B a3 ae) with
  | error y=>rfl
  | ok z =>
   obtain ⟨l,k⟩:=z
   simp only
   by_cases o3:wd+1+k < N
   ·rw [if_pos o3,if_pos (by omega)];rfl
   ·rw [if_neg o3,if_neg (by omega)];rfl
 rw [e1]
 have hble:∀ s v k,bareR rd cc s = .ok (v,k) -> k <= s.length:=fun s v k q=>by
  unfold bareR at q
  cases hr:rd cc s with
  | error y=>rw [hr] at q;cases q
  | ok x=>rw [hr] at q;cases q;exact hle _ _ _ _ hr
 refine array_walk wd hw4 d el w r p n cp at_ en sz own B h _ (fun W b h1 h2 h3 h4 h5 h8=>?_)
 refine within_a wd (wd+1) _ _ _ W r p n cp at_ en sz own B h3 hw1 hw4 N a1 hN ha1 ae hae2 (by omega) (by omega) _ (fun W2 q hWq hkW hrW hqW=>?_)
 have hb5:=(gl h8)
 have c0:=hkW.cell h4 (show ¬ b = r by omega)
 have c1:=hkW.cell h5 (show ¬ b+1 = r by omega)
 have ob:=(hkW.block (b+3) hb5 (show ¬ b+3 = r by omega)).trans h8
 have hne:b+1 ≠ q∧b+3 ≠ q∧b+1 ≠ b+3:=⟨by omega,by omega,by omega⟩
 have fin:∀ (y:Except Er (List V × Nat)) e w',SpTo W2 q (b+3) p n cp a3 ae (at_:Nat) own 23 el y e w' -> _:=fun y e w' hsp=>wto_in hkW hrW hqW hWq (show r < b+3 by omega) hb5 (show at_+(wd+wd+1) = a3 by omega) (show at_+(wd+N) = ae by omega) y hsp
 have hdc:DatC cc:=⟨by rw [hel];omega,by omega,by omega⟩
 rcases hd with ⟨hdp,hdd⟩|⟨hdp,hdd⟩
 ·exact (arr_deep W2 q b (b+3) (b+1) p n cp a1 ae (at_:Nat) own B hqW wd 23 d hw1 hw4 M a2 a3 cc el hM ha2 ha3 (by omega) hcc hel c0 c1 ob hne r hrW.src (by omega) (by have:=hrW.lt;omega) (by omega) hwf hwd (by omega) (by omega) (by omega) (bareR rd cc) (fun s=>by unfold bareR;rw [hdd];rfl) hdp).mono (fun e w' hsp=>fin _ e w' hsp)
 exact (arr_list W2 q b (b+3) (b+1) p n cp a1 ae (at_:Nat) own B hqW wd 23 d hw1 hw4 M a2 a3 cc el hM ha2 ha3 (by omega) hcc hel c0 c1 ob hne r hrW.src (by omega) (by have:=hrW.lt;omega) (by omega) hwf hwd (by omega) (by omega) (by omega) (bareR rd cc) hble hdp (fun a4 W3 h3=>(hdd cc hdc W3 q p n cp a4 ae _ (a4:Nat) B h3).mono (fun e w' hr=>hr.bare))).mono (fun e w' hsp=>fin _ e w' hsp)

theorem text_le {c:Nat} {s:List UInt8} {v:V} {k:Nat} (h:textR c s = .ok (v,k)):k <= s.length:=by
 unfold textR at h
 by_cases a:s.length < wOf c
 ·rw [if_pos a] at h;cases h
 rw [if_neg a] at h
 by_cases b:s.length < wOf c+beVal (s.take (wOf c))
 ·rw [if_pos b] at h;cases h
 rw [if_neg b] at h
 split at h
 ·cases h
 ·cases h;omega
theorem raw_le {c:Nat} {s:List UInt8} {v:V} {k:Nat} (h:rawR c s = .ok (v,k)):k <= s.length:=by
 unfold rawR at h
 by_cases a:s.length < 16
 ·rw [if_pos a] at h;cases h
 rw [if_neg a] at h
 cases h
 omega
theorem dat_le {rv:List UInt8 -> Res} {rd:Nat -> List UInt8 -> Res} {c:Nat} {s:List UInt8} {v:V} {k:Nat} (h:datR rv rd c s = .ok (v,k)):k <= s.length:=by
 unfold datR at h
 by_cases a:c / 16 = 9
 ·rw [if_pos a] at h;exact raw_le h
 rw [if_neg a] at h
 by_cases a:c / 16 = 10 ∨ c / 16 = 11
 ·rw [if_pos a] at h;exact text_le h
 rw [if_neg a] at h
 by_cases a:c / 16 = 12 ∨ c / 16 = 13
 ·rw [if_pos a] at h
  obtain ⟨m,_,h1,_,_,h2,_⟩:=within_inv h
  obtain ⟨_,_,_,_,_,rfl,_⟩:=span_inv h2
  exact h1
 rw [if_neg a] at h
 by_cases a:c / 16 = 14 ∨ c / 16 = 15
 ·rw [if_pos a] at h
  obtain ⟨m,_,h1,_,_,h2,_⟩:=within_inv h
  obtain ⟨_,_,_,_,_,_,_,_,rfl⟩:=arr_inv h2
  exact h1
 rw [if_neg a] at h
 obtain ⟨h1,rfl,_⟩:=fixed_inv h
 exact h1
theorem rdD_le:∀ (n c:Nat) (s:List UInt8) (v:V) (k:Nat),rdD n c s = .ok (v,k) -> k <= s.length
 | 0,c,s,v,k,h=>by cases h
 | n+1,c,s,v,k,h=>by rw [rdD_succ] at h;exact dat_le h
theorem rdV_le:∀ (n:Nat) (s:List UInt8) (v:V) (k:Nat),rdV n s = .ok (v,k) -> k <= s.length
 | 0,[],v,k,h=>by cases h
 | 0,x :: t,v,k,h=>by
  have h2:deepR (x :: t) = .ok (v,k):=h
  rw [deepR_cons] at h2
  split at h2 <;> cases h2
 | n+1,[],v,k,h=>by cases h
 | n+1,x :: t,v,k,h=>by
  rw [rdV_succ,valR_cons] at h
  by_cases a:kindC x.toNat < 0
  ·rw [if_pos a] at h;cases h
  rw [if_neg a] at h
  by_cases a:x.toNat = 0
  ·rw [if_pos a] at h
   unfold pairR at h
   cases h1:rdV n t with
   | error y=>rw [h1] at h;cases h
   | ok z =>
    obtain ⟨d,k1⟩:=z
    rw [h1] at h
    simp only at h
    cases h2:rdV n (t.drop k1) with
    | error y=>rw [h2] at h;cases h
    | ok z2 =>
     obtain ⟨v2,k2⟩:=z2
     rw [h2] at h
     simp only [Except.ok.injEq,Prod.mk.injEq] at h
     obtain ⟨_,rfl⟩:=h
     have q1:=rdV_le n t d k1 h1
     have q2:=rdV_le n _ v2 k2 h2
     rw [List.length_drop] at q2
     rw [List.length_cons]
     omega
  rw [if_neg a] at h
  by_cases a:x.toNat / 16 = 4
  ·rw [if_pos a] at h
   simp only [Except.ok.injEq,Prod.mk.injEq] at h
   obtain ⟨_,rfl⟩:=h
   rw [List.length_cons]
   omega
  rw [if_neg a] at h
  cases h1:datR (rdV n) (rdD n) x.toNat t with
  | error y=>rw [h1] at h;cases h
  | ok z =>
   obtain ⟨v2,k2⟩:=z
   rw [h1] at h
   simp only [Except.ok.injEq,Prod.mk.injEq] at h
   obtain ⟨_,rfl⟩:=h
   have:=dat_le h1
   rw [List.length_cons]
   omega
theorem good_okk {n:Nat} (hn:n <= 32) (s:List UInt8) (v:V) (k:Nat) (hs:s.length <= 4294967295) (h:rdV n s = .ok (v,k)):k <= s.length∧Okk v:=by
 have g:=(both_good n).2 s v k (by unfold maxLen;omega) h
 have h1:=g.le
 have h2:=g.wt
 have h3:=g.len
 have h4:=g.dep
 exact ⟨h1,g.right,by omega,by omega,by omega⟩
theorem sOf_nil {B:List UInt8} {a e:Nat} (h:¬ a < e):sOf B a e = []:=by
 unfold sOf
 rw [show e - a = 0 by omega]
 rfl
theorem sOf_cons {B:List UInt8} {a e:Nat} (h:a < e) (h2:e <= B.length):sOf B a e = B.getD a 0 :: sOf B (a+1) e:=by
 have h3:a < B.length:=by omega
 unfold sOf
 rw [List.drop_eq_getElem_cons h3,show e - a = (e - (a+1))+1 by omega,List.take_succ_cons,List.getD_eq_getElem?_getD,List.getElem?_eq_getElem h3]
 rfl
theorem rdata_any (n0:Nat) (hn0:n0 <= 31) (d:Int) (hd:d = 32 - (n0:Int)) (hV:ValC (rdV n0) (d+1)) (hD:1 <= n0 -> DatT (rdD n0) (d+1)):DatT (rdD (n0+1)) d:=by
 intro c hc w r p n cp at_ en sz own B h
 rw [rdD_succ]
 have hwd:IntKind.i64.wrap (d+1) = d+1:=IntWalk.i64_in _ (by omega)
 have hl:(sOf B at_ en).length = en - at_:=sOf_len (by rw [h.len];exact h.hen)
 have hae:=h.ha
 have hde:(decide (32 < d+1) = true∧∀ c s,rdD n0 c s = .error (.pl 0 (ec 26))) ∨ (decide (32 < d+1) = false∧DatT (rdD n0) (d+1)):=by
  cases n0 with
  | zero=>exact .inl ⟨by simp;omega,fun c s=>rfl⟩
  | succ m=>exact .inr ⟨by simp;omega,hD (by omega)⟩
 unfold datR
 by_cases h8:c / 16 <= 8
 ·have hm:=datC_mem hc
  rw [if_neg (by omega),if_neg (by omega),if_neg (by omega),if_neg (by omega)]
  exact data_fixed c own d _ w r p n cp at_ en sz own B h (fun W hW=>fixed_any c (by omega) h8 hc.1 W r p n cp at_ en sz own B hW) (by omega)
 have hm:c = 148 ∨ c = 152 ∨ c = 160 ∨ c = 176 ∨ c = 161 ∨ c = 177 ∨ c = 163 ∨ c = 179 ∨ c = 192 ∨ c = 208 ∨ c = 193 ∨ c = 209 ∨ c = 224 ∨ c = 240:=by have:=datC_mem hc;omega
 rcases hm with rfl|rfl|rfl|rfl|rfl|rfl|rfl|rfl|rfl|rfl|rfl|rfl|rfl|rfl
 ·rw [if_pos (by decide)]
  unfold rawR
  by_cases hs:en < at_+16
  ·rw [if_pos (by omega)]
   exact (raw_94_short own d w r p n cp at_ en sz own B h hs).mono (fun e w' q=>q)
  ·rw [if_neg (by omega),sOf_take (by omega)]
   refine (raw_94 own d w r p n cp at_ en sz own B h (by omega)).mono ?_
   rintro e w' ⟨rfl,hmv⟩
   exact RdTo.of_text (K:=14) ⟨by decide,by decide⟩ (by show ((B.drop at_).take 16).toArray.size <= maxLen;simp [maxLen];omega) hmv
 ·rw [if_pos (by decide)]
  unfold rawR
  by_cases hs:en < at_+16
  ·rw [if_pos (by omega)]
   exact (raw_98_short own d w r p n cp at_ en sz own B h hs).mono (fun e w' q=>q)
  ·rw [if_neg (by omega),sOf_take (by omega)]
   refine (raw_98 own d w r p n cp at_ en sz own B h (by omega)).mono ?_
   rintro e w' ⟨rfl,hmv⟩
   exact RdTo.of_text (K:=17) ⟨by decide,by decide⟩ (by show ((B.drop at_).take 16).toArray.size <= maxLen;simp [maxLen];omega) hmv
 ·rw [if_neg (by decide),if_pos (by decide)]
  exact data_ta0 own d _ w r p n cp at_ en sz own B h (fun W hW=>text_any 160 (by decide) (by decide) W r p n cp at_ en sz own B hW)
 ·rw [if_neg (by decide),if_pos (by decide)]
  exact data_tb0 own d _ w r p n cp at_ en sz own B h (fun W hW=>text_any 176 (by decide) (by decide) W r p n cp at_ en sz own B hW)
 ·rw [if_neg (by decide),if_pos (by decide)]
  exact data_ta1 own d _ w r p n cp at_ en sz own B h (fun W hW=>text_any 161 (by decide) (by decide) W r p n cp at_ en sz own B hW)
 ·rw [if_neg (by decide),if_pos (by decide)]
  exact data_tb1 own d _ w r p n cp at_ en sz own B h (fun W hW=>text_any 177 (by decide) (by decide) W r p n cp at_ en sz own B hW)
 ·rw [if_neg (by decide),if_pos (by decide)]
  exact data_ta3 own d _ w r p n cp at_ en sz own B h (fun W hW=>text_any 163 (by decide) (by decide) W r p n cp at_ en sz own B hW)
 ·rw [if_neg (by decide),if_pos (by decide)]
  exact data_tb3 own d _ w r p n cp at_ en sz own B h (fun W hW=>text_any 179 (by decide) (by decide) W r p n cp at_ en sz own B hW)
 ·rw [if_neg (by decide),if_neg (by decide),if_pos (by decide)]
  exact data_sc0 own d _ w r p n cp at_ en sz own B h (fun W hW=>span_any 192 (by decide) (by decide) d hwd (rdV n0) (rdV_le n0) (good_okk (by omega)) hV W r p n cp at_ en sz own B hW)
 ·rw [if_neg (by decide),if_neg (by decide),if_pos (by decide)]
  exact data_sd0 own d _ w r p n cp at_ en sz own B h (fun W hW=>span_any 208 (by decide) (by decide) d hwd (rdV n0) (rdV_le n0) (good_okk (by omega)) hV W r p n cp at_ en sz own B hW)
 ·rw [if_neg (by decide),if_neg (by decide),if_pos (by decide)]
  exact data_sc1 own d _ w r p n cp at_ en sz own B h (fun W hW=>span_any 193 (by decide) (by decide) d hwd (rdV n0) (rdV_le n0) (good_okk (by omega)) hV W r p n cp at_ en sz own B hW)
 ·rw [if_neg (by decide),if_neg (by decide),if_pos (by decide)]
  exact data_sd1 own d _ w r p n cp at_ en sz own B h (fun W hW=>span_any 209 (by decide) (by decide) d hwd (rdV n0) (rdV_le n0) (good_okk (by omega)) hV W r p n cp at_ en sz own B hW)
 ·rw [if_neg (by decide),if_neg (by decide),if_neg (by decide),if_pos (by decide)]
  exact data_ae0 own d _ w r p n cp at_ en sz own B h (fun W hW=>array_any 224 (by decide) (by decide) d hwd (rdD n0) (rdD_le n0) hde W r p n cp at_ en sz own B hW)
 rw [if_neg (by decide),if_neg (by decide),if_neg (by decide),if_pos (by decide)]
 exact data_af0 own d _ w r p n cp at_ en sz own B h (fun W hW=>array_any 240 (by decide) (by decide) d hwd (rdD n0) (rdD_le n0) hde W r p n cp at_ en sz own B hW)
theorem value_zero:ValC (rdV 0) 33:=by
 intro w r p n cp at_ en sz own B h
 have hen:=h.hen
 have hBl:=h.len
 by_cases hat:at_ < en
 ·rw [sOf_cons hat (by omega)]
  rw [show rdV 0 = deepR from rfl,deepR_cons]
  by_cases hk:kindC (B.getD at_ 0).toNat < 0
  ·rw [if_pos hk]
   exact value_code _ _ 33 rfl w r p n cp at_ en sz own B h hat rfl (decide_eq_true hk)
  ·rw [if_neg hk]
   exact value_deep _ _ 33 rfl w r p n cp at_ en sz own B h hat rfl (decide_eq_false hk) (by decide)
 rw [sOf_nil hat]
 exact value_short 33 w r p n cp at_ en sz own B h hat
theorem value_succ (n0:Nat) (hn0:n0 <= 31) (d:Int) (hd:d = 32 - (n0:Int)) (hV:ValC (rdV n0) (d+1)) (hD:DatT (rdD (n0+1)) d):ValC (rdV (n0+1)) d:=by
 intro w r p n cp at_ en sz own B h
 have hen:=h.hen
 have hBl:=h.len
 have hd2:decide (32 < d) = false:=by simp;omega
 by_cases hat:at_ < en
 ·rw [sOf_cons hat (by omega),rdV_succ,valR_cons]
  obtain ⟨c,hcd⟩:∃ c,(B.getD at_ 0).toNat = c:=⟨_,rfl⟩
  rw [hcd]
  by_cases hk:kindC c < 0
  ·rw [if_pos hk]
   exact value_code c _ d rfl w r p n cp at_ en sz own B h hat hcd (by simp [hk])
  rw [if_neg hk]
  by_cases hc0:c = 0
  ·rw [if_pos hc0]
   subst hc0
   exact value_00 d w r p n cp at_ en sz own B h hat hcd hd2 (IntWalk.i64_in _ (by omega)) (rdV n0) (rdV_le n0) (fun a2 o2 W hW=>hV W r p n cp a2 en sz o2 B hW)
  rw [if_neg hc0]
  by_cases hc4:c / 16 = 4
  ·rw [if_pos hc4]
   rcases lone_mem (by omega) hc4 with rfl|rfl|rfl|rfl|rfl|rfl
   ·refine (value_40 _ rfl d w r p n cp at_ en sz own B h hat hcd hd2).mono ?_
    rintro e w' ⟨rfl,hmv⟩
    exact RdTo.of_ok (K:=0) (N:=0) (k:=1) ⟨by decide,by decide⟩ ⟨by decide,by decide⟩ hmv
   ·refine (value_41 _ rfl d w r p n cp at_ en sz own B h hat hcd hd2).mono ?_
    rintro e w' ⟨rfl,hmv⟩
    exact RdTo.of_ok (K:=1) (N:=1) (k:=1) ⟨by decide,by decide⟩ ⟨by decide,by decide⟩ hmv
   ·refine (value_42 _ rfl d w r p n cp at_ en sz own B h hat hcd hd2).mono ?_
    rintro e w' ⟨rfl,hmv⟩
    exact RdTo.of_ok (K:=1) (N:=0) (k:=1) ⟨by decide,by decide⟩ ⟨by decide,by decide⟩ hmv
   ·refine (value_43 _ rfl d w r p n cp at_ en sz own B h hat hcd hd2).mono ?_
    rintro e w' ⟨rfl,hmv⟩
    exact RdTo.of_ok (K:=4) (N:=0) (k:=1) ⟨by decide,by decide⟩ ⟨by decide,by decide⟩ hmv
   ·refine (value_44 _ rfl d w r p n cp at_ en sz own B h hat hcd hd2).mono ?_
    rintro e w' ⟨rfl,hmv⟩
    exact RdTo.of_ok (K:=5) (N:=0) (k:=1) ⟨by decide,by decide⟩ ⟨by decide,by decide⟩ hmv
   ·refine (value_45 _ rfl d w r p n cp at_ en sz own B h hat hcd hd2).mono ?_
    rintro e w' ⟨rfl,hmv⟩
    exact RdTo.of_ok (K:=21) (N:=0) (k:=1) ⟨by decide,by decide⟩ ⟨by decide,by decide⟩ hmv
  rw [if_neg hc4]
  have hx:=value_data c _ d rfl w r p n cp at_ en sz own B h hat hcd (by simp;omega) hd2 ⟨hc0,hc4⟩ (rdD (n0+1) c (sOf B (at_+1) en)) (fun W hW=>hD c ⟨by omega,hc0,hc4⟩ W r p n cp (at_+1) en sz (at_:Nat) B hW)
  rw [rdD_succ] at hx
  exact hx
 rw [sOf_nil hat]
 exact value_short d w r p n cp at_ en sz own B h hat
theorem both_levels:∀ n0:Nat,n0 <= 32 -> ValC (rdV n0) (33 - (n0:Int))∧(1 <= n0 -> DatT (rdD n0) (33 - (n0:Int)))
 | 0,_=>⟨value_zero,fun h=>absurd h (by omega)⟩
 | n+1,hn=>by
  obtain ⟨h1,h2⟩:=both_levels n (by omega)
  have e:(33:Int) - ((n+1:Nat):Int) = 32 - (n:Int):=by omega
  have e2:(33:Int) - (n:Int) = (32 - (n:Int))+1:=by omega
  rw [e2] at h1 h2
  rw [e]
  have h3:=rdata_any n (by omega) _ rfl h1 h2
  exact ⟨value_succ n (by omega) _ rfl h1 h3,fun _=>h3⟩
theorem value_any:ValC (rdV 32) 1:=by
 have:=(both_levels 32 (by omega)).1
 exact this

attribute [local go_sem] Oper.semAt_some

theorem wp_hide {P:Program} {Q:Exit -> Act -> World -> Prop} {c:Code} {a:Act} {w:World} (h:∀ Q':Exit -> Act -> World -> Prop,Hid (∀ a w,Q .normal a w -> Q' .normal a w) -> Hid (∀ c (a:Act) w,Q' (.panic c) a w -> False) -> c.wp P Q' a w):c.wp P Q a w :=
 wp_mono (h (fun x a w=>match x with|.normal=>Q .normal a w|_=>False) (zH (fun _ _ h=>h)) (zH (fun _ _ _ h=>h))) (fun e a w hh=>by cases e <;> first|exact hh|exact hh.elim)
theorem catch_idle (a b c:Value) (w:World) :
  CallsD prog 37 #[a,b,c] .returning w fun e u' w'=>e = .returned (.tuple #[])∧u' = .returning∧w' = w:=by
 refine callsD_of_wpS func37 rfl fun c₀ cs hu=>?_
 apply wpS_seq
 apply wpS_region
 simp [wpOpsS,go_sem,recoverD,hu,ntmps37,Exit.thenS]
 apply wpS_seq
 apply wpS_region
 simp [wpOpsS,go_sem,Exit.thenS]
 refine wpS_cond (t:=false) (by simp [Act.eval,Array.replicate]) ?_
 simp only [Bool.false_eq_true,if_false]
 refine wpS_of_wp (wp_skip ?_)
 cases c₀
 simp_all [bodyPostS,results,results37]
structure Took (w w':World) (x y z:Nat) (a c:Int):Prop where
 keep:KeepF (fun g=>g = x ∨ g = y ∨ g = z) w w'
 rx:w'.heap[x]? = some (.cells zR 25 (0,0))
 ry:w'.cell? ⟨y,0,none⟩ = some (.int .i64 a)
 rz:w'.cell? ⟨z,0,none⟩ = some (.int .i64 c)
theorem catch_fault (x y z:Nat) (a c:Int) (rw0:Array Value) (y0 z0:Int) (hne:x ≠ y∧x ≠ z∧y ≠ z) (w:World) (hx:w.heap[x]? = some (.cells rw0 25 (0,0))) (hrs:rw0.size = 5)
  (hy:w.heap[y]? = some (.cells #[.int .i64 y0] 3 (0,0))) (hz:w.heap[z]? = some (.cells #[.int .i64 z0] 29 (0,0))) :
  CallsD prog 37 #[.pointer (some ⟨x,0,none⟩),.pointer (some ⟨y,0,none⟩),.pointer (some ⟨z,0,none⟩)] (.panicking [{ v:=.iface 68 (.agg #[.int .i64 a,.int .i64 c]),recovered:=false }]) w fun e u' w' =>
   e = .returned (.tuple #[])∧u' = .panicking [{ v:=.iface 68 (.agg #[.int .i64 a,.int .i64 c]),recovered:=true }]∧Took w w' x y z a c:=by
 refine callsD_of_wpS func37 rfl fun c₀ cs hu=>?_
 apply wpS_seq
 apply wpS_region
 simp [wpOpsS,go_sem,recoverD,hu,ntmps37,Exit.thenS]
 apply wpS_seq
 apply wpS_region
 simp [wpOpsS,go_sem,Exit.thenS]
 refine wpS_cond (t:=true) (by simp [Act.eval,Array.replicate]) ?_
 simp only [if_true]
 refine wpS_of_wp ?_
 refine wp_hide (fun Q9 HQ9 HP9=>?_)
 have hrep:Array.replicate 19 undef = #[undef,undef,undef,undef,undef,undef,undef,undef,undef,undef,undef,undef,undef,undef,undef,undef,undef,undef,undef]:=by kernel_rfl
 simp only [hrep,List.setIfInBounds_toArray,List.set_cons_zero,List.set_cons_succ,List.append_toArray,List.cons_append,List.nil_append]
 have HX:=zH (And.intro hx (And.intro hrs (And.intro hy (And.intro hz hne))))
 clear hx hrs hy hz hne hu hrep
 have hta:∀ w:World,(Instr.typeAssert (.iface 68 (.agg #[.int .i64 a,.int .i64 c])) 20 68 true).run prog w = .ok (.tuple #[.agg #[.int .i64 a,.int .i64 c],.bool true]) w:=fun w=>by kernel_rfl
 go_upto_region 5 with (refine wpList_store_rowTo rfl 68 (.tmp 4) (.tmp 12) rfl rfl w.heap.size #[.int .i64 a,.int .i64 c] rfl rfl 68 #[.int .i64 0,.int .i64 0] (zN _ _) (by as_aux_lemma=>kernel_rfl) (by as_aux_lemma=>kernel_rfl) (by simp [Value.oneCell']) ?_)
 have hb1:Below w.heap.size w ((w.alloc (.cells #[.int .i64 0,.int .i64 0] 68)).setRow w.heap.size #[.int .i64 a,.int .i64 c]):=below_setRow ((Below.refl _ _).alloc (Nat.le_refl _) _) (Nat.le_refl _) _
 have of1:=setRow_heap (w.alloc (.cells #[.int .i64 0,.int .i64 0] 68)) w.heap.size _ #[.int .i64 a,.int .i64 c] _ _ (zN w _)
 change Code.wp _ _ _ _ ((w.alloc (.cells #[.int .i64 0,.int .i64 0] 68)).setRow w.heap.size #[.int .i64 a,.int .i64 c])
 generalize ((w.alloc (.cells #[.int .i64 0,.int .i64 0] 68)).setRow w.heap.size #[.int .i64 a,.int .i64 c]) = w1 at *
 obtain ⟨f,hf⟩:∃ f,w.heap.size = f:=⟨_,rfl⟩
 rw [hf] at of1 ⊢
 have x1:=(hb1.block x (gl HX.out.1)).trans HX.out.1
 have y1:=(hb1.block y (gl HX.out.2.2.1)).trans HX.out.2.2.1
 have z1:=(hb1.block z (gl HX.out.2.2.2.1)).trans HX.out.2.2.2.1
 have lx:=(gl HX.out.1)
 have ly:=(gl HX.out.2.2.1)
 have lz:=(gl HX.out.2.2.2.1)
 have H1:=zH (And.intro hb1 (And.intro of1 (And.intro x1 (And.intro y1 z1))))
 have HF:=zH (show f ≠ x∧f ≠ y∧f ≠ z from ⟨by omega,by omega,by omega⟩)
 clear hb1 of1 x1 y1 z1 lx ly lz hf hta
 refine wp_region_heldN (fun V=>V.cell? ⟨f,0,none⟩ = some (.int .i64 a)∧V.cell? ⟨f,1,none⟩ = some (.int .i64 c)) 8 rfl (by kernel_rfl) ?_
 have hS:w1.drew.cell? ⟨f,0,none⟩ = some (.int .i64 a)∧w1.drew.cell? ⟨f,1,none⟩ = some (.int .i64 c):=⟨(cell_of_row w1 _ 0 _ _ _ H1.out.2.1).trans rfl,(cell_of_row w1 _ 1 _ _ _ H1.out.2.1).trans rfl⟩
 refine tkD (i:=0) (v:=.agg zR) (some 17) rfl rfl (by kernel_rfl) (fun c a w h=>(HP9.out _ _ _ h).elim) (Or.inl ⟨by rfl,by rintro V h0;go_simp⟩) hS ?_
 try simp only [Act.put,sA,sB,sC]
 refine tkD (i:=1) (v:=.pointer (some ⟨f,0,none⟩)) (some 18) rfl rfl (by kernel_rfl) (fun c a w h=>(HP9.out _ _ _ h).elim) (Or.inl ⟨by rfl,by rintro V h0;go_simp⟩) hS ?_
 try simp only [Act.put,sA,sB,sC]
 refine tkD (i:=2) (v:=.int .i64 a) (some 19) rfl rfl (by kernel_rfl) (fun c a w h=>(HP9.out _ _ _ h).elim) (Or.inl ⟨by rfl,by rintro V ⟨h0,h1⟩;go_simp⟩) hS ?_
 try simp only [Act.put,sA,sB,sC]
 refine tkD (i:=3) (v:=.pointer (some ⟨f,1,none⟩)) (some 20) rfl rfl (by kernel_rfl) (fun c a w h=>(HP9.out _ _ _ h).elim) (Or.inl ⟨by rfl,by rintro V h0;go_simp⟩) hS ?_
 try simp only [Act.put,sA,sB,sC]
 refine tkD (i:=4) (v:=.int .i64 c) (some 21) rfl rfl (by kernel_rfl) (fun c a w h=>(HP9.out _ _ _ h).elim) (Or.inl ⟨by rfl,by rintro V ⟨h0,h1⟩;go_simp⟩) hS ?_
 try simp only [Act.put,sA,sB,sC]
 have k2:KeepF (fun g=>g = x) w1.drew (w1.drew.setRow x zR):=⟨rfl,rfl,rfl,by simp,fun j hj hne=>setRow_other w1.drew x j _ hne⟩
 have rx2:=setRow_heap w1.drew x _ zR _ _ H1.out.2.2.1
 have hS2:(w1.drew.setRow x zR).cell? ⟨f,0,none⟩ = some (.int .i64 a)∧(w1.drew.setRow x zR).cell? ⟨f,1,none⟩ = some (.int .i64 c):=⟨k2.cell hS.1 HF.out.1,k2.cell hS.2 HF.out.1⟩
 refine oneH (i:=5) (by kernel_rfl) ?_
 refine stepD (i:=5) rfl (by rfl) (fun K5 h5=>?_)
 refine wp_store_rowN 25 (.tmp 0) (.tmp 17) rfl rfl x zR rfl rfl 25 rw0 H1.out.2.2.1 (by as_aux_lemma=>kernel_rfl) (by rw [HX.out.2.1];rfl) (by simp [Value.oneCell']) ?_
 refine h5.out _ _ hS2 ?_
 clear h5
 try simp only [Act.put,sA,sB,sC]
 generalize (w1.drew.setRow x zR) = w2 at *
 have ry2:=(k2.block y (gl H1.out.2.2.2.1) (fun e=>HX.out.2.2.2.2.1 e.symm)).trans H1.out.2.2.2.1
 have rz2:=(k2.block z (gl H1.out.2.2.2.2) (fun e=>HX.out.2.2.2.2.2.1 e.symm)).trans H1.out.2.2.2.2
 have cy:w2.cell? ⟨y,0,none⟩ = some (.int .i64 y0):=(cell_of_row _ _ 0 _ _ _ ry2).trans rfl
 have fy:w2.frozen? ⟨y,0,none⟩ = false:=by simp [World.frozen?,ry2]
 have k3:KeepF (fun g=>g = y) w2 (w2.setCell ⟨y,0,none⟩ (.int .i64 a)):=⟨rfl,rfl,rfl,by simp,fun j hj hne=>set_farV hne⟩
 have ry3:=heap_setCell_same w2 y 0 _ _ (.int .i64 a) ry2
 have hS3:(w2.setCell ⟨y,0,none⟩ (.int .i64 a)).cell? ⟨f,0,none⟩ = some (.int .i64 a)∧(w2.setCell ⟨y,0,none⟩ (.int .i64 a)).cell? ⟨f,1,none⟩ = some (.int .i64 c):=⟨k3.cell hS2.1 HF.out.2.1,k3.cell hS2.2 HF.out.2.1⟩
 refine oneH (i:=6) (by kernel_rfl) ?_
 refine stepD (i:=6) rfl (by rfl) (fun K5 h5=>?_)
 go_simp
 change K5 _ (w2.setCell ⟨y,0,none⟩ (.int .i64 a))
 refine h5.out _ _ hS3 ?_
 clear h5
 try simp only [Act.put,sA,sB,sC]
 generalize (w2.setCell ⟨y,0,none⟩ (.int .i64 a)) = w3 at *
 have rz3:=(k3.block z (gl rz2) (fun e=>HX.out.2.2.2.2.2.2 e.symm)).trans rz2
 have cz:w3.cell? ⟨z,0,none⟩ = some (.int .i64 z0):=(cell_of_row _ _ 0 _ _ _ rz3).trans rfl
 have fz:w3.frozen? ⟨z,0,none⟩ = false:=by simp [World.frozen?,rz3]
 have k4:KeepF (fun g=>g = z) w3 (w3.setCell ⟨z,0,none⟩ (.int .i64 c)):=⟨rfl,rfl,rfl,by simp,fun j hj hne=>set_farV hne⟩
 have rz4:=heap_setCell_same w3 z 0 _ _ (.int .i64 c) rz3
 have hS4:(w3.setCell ⟨z,0,none⟩ (.int .i64 c)).cell? ⟨f,0,none⟩ = some (.int .i64 a)∧(w3.setCell ⟨z,0,none⟩ (.int .i64 c)).cell? ⟨f,1,none⟩ = some (.int .i64 c):=⟨k4.cell hS3.1 HF.out.2.2,k4.cell hS3.2 HF.out.2.2⟩
 refine oneH (i:=7) (by kernel_rfl) ?_
 refine stepD (i:=7) rfl (by rfl) (fun K5 h5=>?_)
 go_simp
 change K5 _ (w3.setCell ⟨z,0,none⟩ (.int .i64 c))
 refine h5.out _ _ hS4 ?_
 clear h5
 try simp only [Act.put,sA,sB,sC]
 generalize (w3.setCell ⟨z,0,none⟩ (.int .i64 c)) = w4 at *
 refine wpAnyH_done (by kernel_rfl) ?_ _
 have HT:=zH (show Took w w4 x y z a c from ⟨(KeepF.of_below H1.out.1).trans ((KeepF.of_below (bdrew (Below.refl _ _))).trans ((k2.wide (fun j h=>.inl h)).trans ((k3.wide (fun j h=>.inr (.inl h))).trans (k4.wide (fun j h=>.inr (.inr h)))))),(k4.block x (by have:=(gl rx2);have:=k3.size;omega) HX.out.2.2.2.2.2.1).trans ((k3.block x (gl rx2) HX.out.2.2.2.2.1).trans rx2),k4.cell ((cell_of_row _ _ 0 _ _ _ ry3).trans rfl) HX.out.2.2.2.2.2.2,(cell_of_row _ _ 0 _ _ _ rz4).trans rfl⟩)
 clear k2 k3 k4 rx2 ry2 ry3 rz2 rz3 rz4 cy cz fy fz hS hS2 hS3 hS4
 refine HQ9.out _ _ ?_
 cases c₀
 simp_all [bodyPostS,results,results37]
 exact HT.out
end Go.Proofs.YtnnnfhobbnjmfaaGreatDoor
