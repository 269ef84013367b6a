/-
  Lemmas on the codec. Conditions: as each says.
-/
import Derived.Test.YtnnnfhobbnjmfaaGreatDoorWn07
namespace Go.Proofs.YtnnnfhobbnjmfaaGreatDoor
open Go.RowKit
set_option linter.all false

theorem ite_lt {p:Prop} [Decidable p] {a b n:Nat} (ha:a < n) (hb:b < n):(if p then a else b) < n:=by split <;> assumption
theorem ite_le {p:Prop} [Decidable p] {a b n:Nat} (ha:a ≤ n) (hb:b ≤ n):(if p then a else b) ≤ n:=by split <;> assumption
theorem codeK_lt (k:Int) (s:Bool):codeK k s < 256:=by
 unfold codeK
 repeat' apply ite_lt
 all_goals omega
theorem ofNat_toNat {c:Nat} (h:c < 256):(UInt8.ofNat c).toNat = c:=by simp;omega
theorem dep_in {v x:V} (hx:x ∈ v.list):x.dep+1 ≤ v.dep:=by
 have key:∀ (l:List V) (n:Int),x ∈ l → x.dep ≤ deps l n:=by
  intro l
  induction l with
  | nil=>intro n h;cases h
  | cons a r ih =>
   intro n h
   rw [deps]
   rcases List.mem_cons.1 h with rfl|h
   ·have mono:∀ (l:List V) (n:Int),n ≤ deps l n:=by
     intro l
     induction l with
     | nil=>intro n;rw [deps];exact Int.le_refl _
     | cons b s ih2=>intro n;rw [deps];have:=ih2 (max n b.dep);omega
    have:=mono r (max n x.dep);omega
   ·exact ih _ h
 have:=key v.list 0 hx
 rw [v.dep_eq];omega
structure Fields (v:V):Prop where
 k0:0 ≤ v.kind
 k1:v.kind ≤ 24
 num:hasN v.kind = false → v.num = 0
 text:hasT v.kind = false → v.text = ⟨#[]⟩
 list:hasP v.kind = false → v.list = []
 elem:v.kind ≠ 23 → v.elem = 0
 numOk:numOk v.kind v.num = true
 textOk:textOk v.kind v.text = true
 map:v.kind = 22 → mapOk v.list = true
 arr:v.kind = 23 → arrOk v = true
 pair:v.kind = 24 → v.list.length = 2
theorem fields_of {v:V} (h:aloneC v 1 = 0):Fields v:=by
 unfold aloneC at h
 by_cases a1:v.kind < 0
 ·rw [if_pos a1] at h;omega
 rw [if_neg a1] at h
 by_cases a2:24 < v.kind
 ·rw [if_pos a2] at h;omega
 rw [if_neg a2,if_neg (by omega)] at h
 by_cases a3:extraV v = true
 ·rw [if_pos a3] at h;omega
 rw [if_neg a3] at h
 by_cases a4:numOk v.kind v.num = false
 ·rw [if_pos a4] at h;omega
 rw [if_neg a4] at h
 by_cases a5:textOk v.kind v.text = false
 ·rw [if_pos a5] at h;omega
 rw [if_neg a5] at h
 simp only [extraV,Bool.or_eq_true,Bool.and_eq_true,Bool.not_eq_true',decide_eq_true_eq,decide_eq_false_iff_not,not_or,not_and,Decidable.not_not,Nat.not_lt] at a3
 obtain ⟨⟨⟨b1,b2⟩,b3⟩,b4⟩:=a3
 refine ⟨by omega,by omega,fun q=>b1 q,fun q=>b2 q,fun q=>List.length_eq_zero_iff.1 (by have:=b3 q;omega),fun q=>b4 q,by simpa using a4,by simpa using a5,fun q=>?_,fun q=>?_,fun q=>?_⟩
 ·rw [if_pos q] at h
  by_cases c:mapOk v.list = false
  ·rw [if_pos c] at h;omega
  ·simpa using c
 ·rw [if_neg (by omega),if_pos q] at h
  by_cases c:arrOk v = false
  ·rw [if_pos c] at h;omega
  ·simpa using c
 ·rw [if_neg (by omega),if_neg (by omega),if_pos q] at h
  by_cases c:v.list.length = 2
  ·exact c
  ·rw [if_neg c] at h;omega
theorem of_fields {v:V} (f:Fields v):aloneC v 1 = 0:=by
 unfold aloneC
 rw [if_neg (by have:=f.k0;omega),if_neg (by have:=f.k1;omega),if_neg (by omega),if_neg ?_,if_neg (by rw [f.numOk];simp),if_neg (by rw [f.textOk];simp)]
 ·by_cases e:v.kind = 22
  ·rw [if_pos e,if_neg (by rw [f.map e];simp)]
  ·rw [if_neg e]
   by_cases e:v.kind = 23
   ·rw [if_pos e,if_neg (by rw [f.arr e];simp)]
   ·rw [if_neg e]
    by_cases e:v.kind = 24
    ·rw [if_pos e,if_pos (f.pair e)]
    ·rw [if_neg e]
 ·simp only [extraV,Bool.or_eq_true,Bool.and_eq_true,Bool.not_eq_true',decide_eq_true_eq,decide_eq_false_iff_not,not_or,not_and,Decidable.not_not,Nat.not_lt]
  exact ⟨⟨⟨f.num,f.text⟩,fun q=>by rw [f.list q];exact Nat.le_refl _⟩,f.elem⟩
def AllP (P:V → Prop) (v:V) (d:Int):Prop:=∀ p ∈ v.pre d,P p.2
theorem allP_iff {P:V → Prop} (v:V) (d:Int):AllP P v d ↔ P v∧∀ x ∈ v.list,AllP P x (d+1):=by
 unfold AllP
 rw [V.pre_eq]
 constructor
 ·intro h
  exact ⟨h (d,v) (List.mem_cons_self ..),fun x hx p hp=>h p (List.mem_cons_of_mem _ (mem_pres.2 ⟨x,hx,hp⟩))⟩
 ·rintro ⟨h1,h2⟩ p hp
  rcases List.mem_cons.1 hp with rfl|hp
  ·exact h1
  ·obtain ⟨x,hx,hp⟩:=mem_pres.1 hp
   exact h2 x hx p hp
theorem allP_any {P:V → Prop}:∀ (v:V) (d e:Int),AllP P v d ↔ AllP P v e:=by
 refine V.ind (fun v ih d e=>?_)
 rw [allP_iff,allP_iff]
 exact ⟨fun h=>⟨h.1,fun x hx=>(ih x hx _ _).1 (h.2 x hx)⟩,fun h=>⟨h.1,fun x hx=>(ih x hx _ _).1 (h.2 x hx)⟩⟩
def Right (v:V):Prop:=AllP (fun x=>aloneC x 1 = 0∧x.Wf) v 1
theorem Right.fields {v:V} (h:Right v):Fields v:=fields_of ((allP_iff v 1).1 h).1.1
theorem Right.wf {v:V} (h:Right v):v.Wf:=((allP_iff v 1).1 h).1.2
theorem Right.part {v x:V} (h:Right v) (hx:x ∈ v.list):Right x:=(allP_any x 2 1).1 (((allP_iff v 1).1 h).2 x hx)
theorem right_of {v:V} (f:Fields v) (hw:v.Wf) (h:∀ x ∈ v.list,Right x):Right v:=(allP_iff v 1).2 ⟨⟨of_fields f,hw⟩,fun x hx=>(allP_any x 1 2).1 (h x hx)⟩
theorem Right.ok {v:V} (h:Right v):AllOk v 1:=fun p hp=>(h p hp).1

/-! ### how long it is -/
theorem widC_le (c:Nat):widC c ≤ 16:=by
 unfold widC
 repeat' apply ite_le
 all_goals omega
theorem wOf_le (c:Nat):wOf c ≤ 4∧1 ≤ wOf c:=by unfold wOf;split <;> omega
theorem datB_len (c:Nat) (v:V) (b:List UInt8):(datB c v b).length ≤ 16+v.text.size+b.length:=by
 have h1:=widC_le c
 have h2:=wOf_le c
 unfold datB
 split
 ·rw [V.tb_len];omega
 ·split
  ·rw [List.length_append,putL_length,V.tb_len];omega
  ·split
   ·rw [List.length_append,List.length_append,putL_length,putL_length];omega
   ·rw [putL_length];omega
theorem lens_le (f:V → List UInt8) (l:List V) (h:∀ x ∈ l,(f x).length ≤ 81 * x.wt):(l.flatMap f).length ≤ 81 * wts l:=by
 induction l with
 | nil=>simp [wts]
 | cons a r ih =>
  have h1:=h a (List.mem_cons_self ..)
  have h2:=ih (fun x hx=>h x (List.mem_cons_of_mem _ hx))
  rw [List.flatMap_cons,List.length_append,wts]
  omega
theorem inn_len:∀ v:V,(inn v).length ≤ 81 * wts v.list+1:=by
 refine V.ind (fun v ih=>?_)
 have hd:∀ c,∀ x ∈ v.list,(datV c x).length ≤ 81 * x.wt:=fun c x hx=>by
  have h1:=ih x hx
  have h2:=datB_len c x (inn x)
  have h3:=x.wt_eq
  unfold datV
  omega
 have hp:∀ x ∈ v.list,(putV x).length ≤ 81 * x.wt:=fun x hx=>by
  have h1:=ih x hx
  have h2:=datB_len (codeK x.kind (smV x)) x (inn x)
  have h3:=x.wt_eq
  rw [putV_eq]
  split
  ·simp;omega
  ·split
   ·rw [List.length_cons];omega
   ·rw [List.length_cons];unfold datV;omega
 rw [inn_eq]
 split
 ·have:=lens_le (datV (uniC v)) v.list (hd _)
  rw [List.length_cons]
  unfold datVs;omega
 ·have:=lens_le putV v.list hp
  unfold putVs;omega
theorem datV_len (c:Nat) (v:V):(datV c v).length ≤ 81 * v.wt:=by
 have h1:=inn_len v
 have h2:=datB_len c v (inn v)
 have h3:=v.wt_eq
 unfold datV;omega
theorem putV_len (v:V):1 ≤ (putV v).length∧(putV v).length ≤ 81 * v.wt:=by
 have h1:=inn_len v
 have h2:=datB_len (codeK v.kind (smV v)) v (inn v)
 have h3:=v.wt_eq
 rw [putV_eq]
 split
 ·simp;omega
 ·split
  ·rw [List.length_cons];omega
  ·rw [List.length_cons];unfold datV;omega
theorem text_wt (v:V):v.text.size < 64 * v.wt:=by have:=v.wt_eq;omega

/-! ### there and back -/
theorem take_put {n w:Nat} {t:List UInt8}:(putL n w ++ t).take w = putL n w:=by rw [List.take_left' (putL_length n w)]
theorem drop_put {n w:Nat} {t:List UInt8}:(putL n w ++ t).drop w = t:=by rw [List.drop_left' (putL_length n w)]
theorem els_ok {r:List UInt8 → Res} {f:V → List UInt8}:∀ (l:List V) (t:List UInt8),(∀ x ∈ l,∀ t,r (f x ++ t) = .ok (x,(f x).length)) → els r l.length (l.flatMap f ++ t) = .ok (l,(l.flatMap f).length)
 | [],_,_=>rfl
 | a :: l,t,h=>by
  rw [List.length_cons,els,List.flatMap_cons,List.append_assoc,h a (List.mem_cons_self ..)]
  simp only [List.drop_left]
  rw [els_ok l t (fun x hx=>h x (List.mem_cons_of_mem _ hx))]
  simp
theorem fixed_rt {c w:Nat} {v:V} {t:List UInt8} (hw:widC c = w) (hc:c / 16 ≠ 9∧¬ (c / 16 = 10 ∨ c / 16 = 11)∧¬ 12 ≤ c / 16) (hv:v = .mk (kindC c) v.num ⟨#[]⟩ [] 0) (hn:sgnW (kindC c) w (v.num.toNat % 256 ^ w) = v.num) (h56:c = 0x56 → v.num.toNat % 256 ^ w ≤ 1) (h73:c = 0x73 → isCh (v.num.toNat % 256 ^ w) = true) :
  fixedR c (datV c v ++ t) = .ok (v,(datV c v).length):=by
 have e:datV c v = putL v.num.toNat w:=by unfold datV datB;rw [if_neg hc.1,if_neg hc.2.1,if_neg hc.2.2,hw]
 rw [e]
 unfold fixedR
 rw [hw,take_put,beVal_put,putL_length,if_neg (by rw [List.length_append,putL_length];omega),if_neg (fun q=>by have:=h56 q.1;omega),if_neg (fun q=>by rw [h73 q.1] at q;exact absurd q.2 (by simp)),hn]
 rw [hv]
 rfl
theorem raw_rt {c:Nat} {v:V} {t:List UInt8} (hc:c / 16 = 9) (hs:v.text.size = 16) (hv:v = .mk (kindC c) 0 v.text [] 0):rawR c (datV c v ++ t) = .ok (v,(datV c v).length):=by
 have e:datV c v = v.tb:=by unfold datV datB;rw [if_pos hc]
 have hl:v.tb.length = 16:=hs
 rw [e]
 unfold rawR
 rw [if_neg (by rw [List.length_append];omega),List.take_left' hl,hl]
 have:txB v.tb = v.text:=by unfold txB V.tb;simp
 rw [this]
 exact congrArg Except.ok (Prod.ext hv.symm rfl)
theorem text_rt {c:Nat} {v:V} {t:List UInt8} (hc:c / 16 = 10 ∨ c / 16 = 11) (hs:v.text.size < 256 ^ wOf c) (hb:badT (kindC c) v.text < 0) (hv:v = .mk (kindC c) 0 v.text [] 0):textR c (datV c v ++ t) = .ok (v,(datV c v).length):=by
 have e:datV c v = putL v.text.size (wOf c) ++ v.tb:=by unfold datV datB;rw [if_neg (by omega),if_pos hc]
 rw [e,List.append_assoc]
 unfold textR
 have hl:v.tb.length = v.text.size:=rfl
 have:txB v.tb = v.text:=by unfold txB V.tb;simp
 rw [take_put,beVal_put,Nat.mod_eq_of_lt hs,drop_put,List.take_left' hl,this,List.length_append,List.length_append,List.length_append,putL_length,hl,if_neg (by omega),if_neg (by omega),if_neg (by omega)]
 exact congrArg Except.ok (Prod.ext hv.symm rfl)
theorem span_form {c:Nat} {v:V} (hc:12 ≤ c / 16):datV c v = putL (wOf c+(inn v).length) (wOf c) ++ (putL v.list.length (wOf c) ++ inn v):=by
 unfold datV datB;rw [if_neg (by omega),if_neg (by omega),if_pos hc]
theorem within_rt {c least:Nat} {v:V} {rd:Nat → List UInt8 → Res} {t:List UInt8} (hc:12 ≤ c / 16) (hs:wOf c+(inn v).length < 256 ^ wOf c) (hl:least ≤ wOf c+(inn v).length) :
  withinR c least rd (datV c v ++ t) = rd (wOf c+(inn v).length) (putL v.list.length (wOf c) ++ inn v):=by
 rw [span_form hc,List.append_assoc]
 unfold withinR
 rw [take_put,beVal_put,Nat.mod_eq_of_lt hs,drop_put,List.take_left' (by rw [List.length_append,putL_length])]
 simp only [List.length_append,putL_length]
 rw [if_neg (by omega),if_neg (by omega),if_neg (by omega)]
theorem span_rt {c:Nat} {v:V} {rv:List UInt8 → Res} (hc:kindC c ≠ 23) (hk:v.kind = kindC c) (hn:v.list.length < 256 ^ wOf c) (hr:∀ x ∈ v.list,∀ t,rv (putV x ++ t) = .ok (x,(putV x).length)) (hm:kindC c = 22 → mapOk v.list = true) (hv:v = .mk (kindC c) 0 ⟨#[]⟩ v.list 0) :
  spanIn rv c (wOf c+(inn v).length) (putL v.list.length (wOf c) ++ inn v) = .ok (v,wOf c+(wOf c+(inn v).length)):=by
 have e:inn v = putVs v.list:=by rw [inn_eq,if_neg (by rw [hk];exact hc)]
 have hm2:kindC c = 22 → v.list.length % 2 = 0∧v.list.length ≤ 2048∧(evens v.list).Nodup:=fun q=>by have:=hm q;unfold mapOk at this;simpa using this
 unfold spanIn
 rw [take_put,beVal_put,Nat.mod_eq_of_lt hn,drop_put,e]
 have h1:=els_ok (r:=rv) (f:=putV) v.list [] hr
 rw [List.append_nil] at h1
 rw [show putVs v.list = v.list.flatMap putV from rfl,h1]
 rw [if_neg (fun q=>by have:=(hm2 q.1).1;omega),if_neg (fun q=>by have:=(hm2 q.1).2.1;omega)]
 simp only
 rw [if_neg (by omega),if_neg (fun q=>q.2 (hm2 q.1).2.2)]
 exact congrArg Except.ok (Prod.ext hv.symm rfl)
theorem arr_rt {c:Nat} {v:V} {rd:Nat → List UInt8 → Res} (hc:kindC c = 23) (hk:v.kind = 23) (hn:v.list.length < 256 ^ wOf c) (hu:DatC (uniC v)) (hr:∀ x ∈ v.list,∀ t,rd (uniC v) (datV (uniC v) x ++ t) = .ok (x,(datV (uniC v) x).length)) (hk2:kindC (uniC v) = v.elem) (hv:v = .mk 23 0 ⟨#[]⟩ v.list v.elem) :
  arrIn rd c (wOf c+(inn v).length) (putL v.list.length (wOf c) ++ inn v) = .ok (v,wOf c+(wOf c+(inn v).length)):=by
 have e:inn v = UInt8.ofNat (uniC v) :: datVs (uniC v) v.list:=by rw [inn_eq,if_pos hk]
 have ht:(UInt8.ofNat (uniC v)).toNat = uniC v:=ofNat_toNat (codeK_lt _ _)
 unfold arrIn
 rw [take_put,beVal_put,Nat.mod_eq_of_lt hn]
 have hd1:(putL v.list.length (wOf c) ++ inn v).drop (wOf c+1) = datVs (uniC v) v.list:=by rw [← List.drop_drop,drop_put,e];rfl
 rw [hd1,drop_put,e]
 simp only [List.headD_cons,ht]
 rw [if_neg (by obtain ⟨q1,q2,q3⟩:=hu;omega)]
 have h1:=els_ok (r:=bareR rd (uniC v)) (f:=datV (uniC v)) v.list [] (fun x hx t=>by unfold bareR;rw [hr x hx t])
 rw [List.append_nil] at h1
 rw [show datVs (uniC v) v.list = v.list.flatMap (datV (uniC v)) from rfl,h1]
 simp only [List.length_cons]
 rw [if_neg (by omega),hk2,hc]
 exact congrArg Except.ok (Prod.ext hv.symm (by simp only))

theorem sgn_un {k:Int} {w:Nat} {n:Int} (hk:¬ (k = 6 ∨ k = 7 ∨ k = 8 ∨ k = 9) ∨ w = 8) (h0:0 ≤ n) (h1:n.toNat < 256 ^ w):sgnW k w (n.toNat % 256 ^ w) = n:=by
 unfold sgnW
 have e:n.toNat % 256 ^ w = n.toNat:=Nat.mod_eq_of_lt h1
 rw [if_neg (by omega),e]
 omega
theorem sgn_1 {k n:Int} (hk:k = 6 ∨ k = 7 ∨ k = 8 ∨ k = 9) (hu:IsU64 n) (h:-128 ≤ twoC n∧twoC n < 128):sgnW k 1 (n.toNat % 256 ^ 1) = n:=by
 obtain ⟨h0,h1⟩:=hu
 unfold twoC at h
 unfold sgnW
 by_cases e:n < 9223372036854775808
 ·rw [if_pos e] at h
  rw [if_neg (by omega)];omega
 ·rw [if_neg e] at h
  rw [if_pos ⟨hk,by omega,by omega⟩];omega
theorem sgn_2 {k n:Int} (hk:k = 6 ∨ k = 7 ∨ k = 8 ∨ k = 9) (hu:IsU64 n) (h:-32768 ≤ twoC n∧twoC n < 32768):sgnW k 2 (n.toNat % 256 ^ 2) = n:=by
 obtain ⟨h0,h1⟩:=hu
 unfold twoC at h
 unfold sgnW
 by_cases e:n < 9223372036854775808
 ·rw [if_pos e] at h
  rw [if_neg (by omega)];omega
 ·rw [if_neg e] at h
  rw [if_pos ⟨hk,by omega,by omega⟩];omega
theorem sgn_4 {k n:Int} (hk:k = 6 ∨ k = 7 ∨ k = 8 ∨ k = 9) (hu:IsU64 n) (h:-2147483648 ≤ twoC n∧twoC n < 2147483648):sgnW k 4 (n.toNat % 256 ^ 4) = n:=by
 obtain ⟨h0,h1⟩:=hu
 unfold twoC at h
 unfold sgnW
 by_cases e:n < 9223372036854775808
 ·rw [if_pos e] at h
  rw [if_neg (by omega)];omega
 ·rw [if_neg e] at h
  rw [if_pos ⟨hk,by omega,by omega⟩];omega
theorem codeK_kind (k:Int) (s:Bool) (h1:1 ≤ k) (h2:k ≤ 23):kindC (codeK k s) = k∧DatC (codeK k s):=by
 have hk:k = 1 ∨ k = 2 ∨ k = 3 ∨ k = 4 ∨ k = 5 ∨ k = 6 ∨ k = 7 ∨ k = 8 ∨ k = 9 ∨ k = 10 ∨ k = 11 ∨ k = 12 ∨ k = 13 ∨ k = 14 ∨ k = 15 ∨ k = 16 ∨ k = 17 ∨ k = 18 ∨ k = 19 ∨ k = 20 ∨ k = 21 ∨ k = 22 ∨ k = 23:=by omega
 rcases hk with rfl|rfl|rfl|rfl|rfl|rfl|rfl|rfl|rfl|rfl|rfl|rfl|rfl|rfl|rfl|rfl|rfl|rfl|rfl|rfl|rfl|rfl|rfl <;> cases s <;> decide
theorem smV_text {v:V} (hk:v.kind = 18 ∨ v.kind = 19 ∨ v.kind = 20) (h:smV v = true):v.text.size ≤ 255:=by
 unfold smV smallV narrowV at h
 rw [if_neg (by unfold IsSp;omega),if_neg (by omega),if_neg (by omega),if_pos hk] at h
 simpa using h
theorem smV_span {v:V} (hk:v.kind = 21 ∨ v.kind = 22 ∨ v.kind = 23) (h:smV v = true):v.list.length ≤ 255∧1+(inn v).length ≤ 255:=by
 unfold smV smallV at h
 rw [if_pos (show IsSp v.kind from hk)] at h
 simpa [spansB] using h
theorem smV_un {v:V} (hk:v.kind = 4 ∨ v.kind = 5) (h:smV v = true):v.num ≤ 255:=by
 unfold smV smallV narrowV at h
 rw [if_neg (by unfold IsSp;omega),if_pos hk] at h
 simpa using h
theorem smV_sg {v:V} (hk:v.kind = 8 ∨ v.kind = 9) (h:smV v = true):-128 ≤ twoC v.num∧twoC v.num ≤ 127:=by
 unfold smV smallV narrowV at h
 rw [if_neg (by unfold IsSp;omega),if_neg (by omega),if_pos hk] at h
 simpa using h

theorem dat_56 {v:V} {rv:List UInt8 → Res} {rd:Nat → List UInt8 → Res} (hr:Right v) (e:v.kind = 1) (t:List UInt8):datR rv rd 86 (datV 86 v ++ t) = .ok (v,(datV 86 v).length):=by
 have f:=hr.fields
 have hu:=hr.wf.n
 unfold datR
 rw [if_neg (by decide),if_neg (by decide),if_neg (by decide),if_neg (by decide)]
 exact fixed_rt (w:=1) (by decide) (by decide) (V.ext e rfl (f.text (by rw [e];decide)) (f.list (by rw [e];decide)) (f.elem (by omega))) (sgn_un (by decide) hu.1 (by have h:=f.numOk;rw [e] at h;simp [numOk] at h;omega)) (fun _=>by have h:=f.numOk;rw [e] at h;simp [numOk] at h;have:=hu.1;omega) (fun q=>absurd q (by decide))
theorem dat_50 {v:V} {rv:List UInt8 → Res} {rd:Nat → List UInt8 → Res} (hr:Right v) (e:v.kind = 2) (t:List UInt8):datR rv rd 80 (datV 80 v ++ t) = .ok (v,(datV 80 v).length):=by
 have f:=hr.fields
 have hu:=hr.wf.n
 unfold datR
 rw [if_neg (by decide),if_neg (by decide),if_neg (by decide),if_neg (by decide)]
 exact fixed_rt (w:=1) (by decide) (by decide) (V.ext e rfl (f.text (by rw [e];decide)) (f.list (by rw [e];decide)) (f.elem (by omega))) (sgn_un (by decide) hu.1 (by have h:=f.numOk;rw [e] at h;simp [numOk] at h;omega)) (fun q=>absurd q (by decide)) (fun q=>absurd q (by decide))
theorem dat_60 {v:V} {rv:List UInt8 → Res} {rd:Nat → List UInt8 → Res} (hr:Right v) (e:v.kind = 3) (t:List UInt8):datR rv rd 96 (datV 96 v ++ t) = .ok (v,(datV 96 v).length):=by
 have f:=hr.fields
 have hu:=hr.wf.n
 unfold datR
 rw [if_neg (by decide),if_neg (by decide),if_neg (by decide),if_neg (by decide)]
 exact fixed_rt (w:=2) (by decide) (by decide) (V.ext e rfl (f.text (by rw [e];decide)) (f.list (by rw [e];decide)) (f.elem (by omega))) (sgn_un (by decide) hu.1 (by have h:=f.numOk;rw [e] at h;simp [numOk] at h;omega)) (fun q=>absurd q (by decide)) (fun q=>absurd q (by decide))
theorem dat_51 {v:V} {rv:List UInt8 → Res} {rd:Nat → List UInt8 → Res} (hr:Right v) (e:v.kind = 6) (t:List UInt8):datR rv rd 81 (datV 81 v ++ t) = .ok (v,(datV 81 v).length):=by
 have f:=hr.fields
 have hu:=hr.wf.n
 unfold datR
 rw [if_neg (by decide),if_neg (by decide),if_neg (by decide),if_neg (by decide)]
 exact fixed_rt (w:=1) (by decide) (by decide) (V.ext e rfl (f.text (by rw [e];decide)) (f.list (by rw [e];decide)) (f.elem (by omega))) (sgn_1 (by decide) hu (by have h:=f.numOk;rw [e] at h;simpa [numOk,within2] using h)) (fun q=>absurd q (by decide)) (fun q=>absurd q (by decide))
theorem dat_61 {v:V} {rv:List UInt8 → Res} {rd:Nat → List UInt8 → Res} (hr:Right v) (e:v.kind = 7) (t:List UInt8):datR rv rd 97 (datV 97 v ++ t) = .ok (v,(datV 97 v).length):=by
 have f:=hr.fields
 have hu:=hr.wf.n
 unfold datR
 rw [if_neg (by decide),if_neg (by decide),if_neg (by decide),if_neg (by decide)]
 exact fixed_rt (w:=2) (by decide) (by decide) (V.ext e rfl (f.text (by rw [e];decide)) (f.list (by rw [e];decide)) (f.elem (by omega))) (sgn_2 (by decide) hu (by have h:=f.numOk;rw [e] at h;simpa [numOk,within2] using h)) (fun q=>absurd q (by decide)) (fun q=>absurd q (by decide))
theorem dat_72 {v:V} {rv:List UInt8 → Res} {rd:Nat → List UInt8 → Res} (hr:Right v) (e:v.kind = 10) (t:List UInt8):datR rv rd 114 (datV 114 v ++ t) = .ok (v,(datV 114 v).length):=by
 have f:=hr.fields
 have hu:=hr.wf.n
 unfold datR
 rw [if_neg (by decide),if_neg (by decide),if_neg (by decide),if_neg (by decide)]
 exact fixed_rt (w:=4) (by decide) (by decide) (V.ext e rfl (f.text (by rw [e];decide)) (f.list (by rw [e];decide)) (f.elem (by omega))) (sgn_un (by decide) hu.1 (by have h:=f.numOk;rw [e] at h;simp [numOk] at h;omega)) (fun q=>absurd q (by decide)) (fun q=>absurd q (by decide))
theorem dat_82 {v:V} {rv:List UInt8 → Res} {rd:Nat → List UInt8 → Res} (hr:Right v) (e:v.kind = 11) (t:List UInt8):datR rv rd 130 (datV 130 v ++ t) = .ok (v,(datV 130 v).length):=by
 have f:=hr.fields
 have hu:=hr.wf.n
 unfold datR
 rw [if_neg (by decide),if_neg (by decide),if_neg (by decide),if_neg (by decide)]
 exact fixed_rt (w:=8) (by decide) (by decide) (V.ext e rfl (f.text (by rw [e];decide)) (f.list (by rw [e];decide)) (f.elem (by omega))) (sgn_un (by decide) hu.1 (by have h:=hu.2;omega)) (fun q=>absurd q (by decide)) (fun q=>absurd q (by decide))
theorem dat_74 {v:V} {rv:List UInt8 → Res} {rd:Nat → List UInt8 → Res} (hr:Right v) (e:v.kind = 12) (t:List UInt8):datR rv rd 116 (datV 116 v ++ t) = .ok (v,(datV 116 v).length):=by
 have f:=hr.fields
 have hu:=hr.wf.n
 unfold datR
 rw [if_neg (by decide),if_neg (by decide),if_neg (by decide),if_neg (by decide)]
 exact fixed_rt (w:=4) (by decide) (by decide) (V.ext e rfl (f.text (by rw [e];decide)) (f.list (by rw [e];decide)) (f.elem (by omega))) (sgn_un (by decide) hu.1 (by have h:=f.numOk;rw [e] at h;simp [numOk] at h;omega)) (fun q=>absurd q (by decide)) (fun q=>absurd q (by decide))
theorem dat_84 {v:V} {rv:List UInt8 → Res} {rd:Nat → List UInt8 → Res} (hr:Right v) (e:v.kind = 13) (t:List UInt8):datR rv rd 132 (datV 132 v ++ t) = .ok (v,(datV 132 v).length):=by
 have f:=hr.fields
 have hu:=hr.wf.n
 unfold datR
 rw [if_neg (by decide),if_neg (by decide),if_neg (by decide),if_neg (by decide)]
 exact fixed_rt (w:=8) (by decide) (by decide) (V.ext e rfl (f.text (by rw [e];decide)) (f.list (by rw [e];decide)) (f.elem (by omega))) (sgn_un (by decide) hu.1 (by have h:=hu.2;omega)) (fun q=>absurd q (by decide)) (fun q=>absurd q (by decide))
theorem dat_73 {v:V} {rv:List UInt8 → Res} {rd:Nat → List UInt8 → Res} (hr:Right v) (e:v.kind = 15) (t:List UInt8):datR rv rd 115 (datV 115 v ++ t) = .ok (v,(datV 115 v).length):=by
 have f:=hr.fields
 have hu:=hr.wf.n
 unfold datR
 rw [if_neg (by decide),if_neg (by decide),if_neg (by decide),if_neg (by decide)]
 exact fixed_rt (w:=4) (by decide) (by decide) (V.ext e rfl (f.text (by rw [e];decide)) (f.list (by rw [e];decide)) (f.elem (by omega))) (sgn_un (by decide) hu.1 (by have h:=f.numOk;rw [e] at h;simp [numOk] at h;omega)) (fun q=>absurd q (by decide)) (fun _=>by have h:=f.numOk;rw [e] at h;simp [numOk] at h;have:=hu.1;unfold isCh;rw [decide_eq_true_eq];omega)
theorem dat_83 {v:V} {rv:List UInt8 → Res} {rd:Nat → List UInt8 → Res} (hr:Right v) (e:v.kind = 16) (t:List UInt8):datR rv rd 131 (datV 131 v ++ t) = .ok (v,(datV 131 v).length):=by
 have f:=hr.fields
 have hu:=hr.wf.n
 unfold datR
 rw [if_neg (by decide),if_neg (by decide),if_neg (by decide),if_neg (by decide)]
 exact fixed_rt (w:=8) (by decide) (by decide) (V.ext e rfl (f.text (by rw [e];decide)) (f.list (by rw [e];decide)) (f.elem (by omega))) (sgn_un (by decide) hu.1 (by have h:=hu.2;omega)) (fun q=>absurd q (by decide)) (fun q=>absurd q (by decide))
theorem dat_52 {v:V} {rv:List UInt8 → Res} {rd:Nat → List UInt8 → Res} (hr:Right v) (e:v.kind = 4) (hs:smV v = true) (t:List UInt8):datR rv rd 82 (datV 82 v ++ t) = .ok (v,(datV 82 v).length):=by
 have f:=hr.fields
 have hu:=hr.wf.n
 unfold datR
 rw [if_neg (by decide),if_neg (by decide),if_neg (by decide),if_neg (by decide)]
 exact fixed_rt (w:=1) (by decide) (by decide) (V.ext e rfl (f.text (by rw [e];decide)) (f.list (by rw [e];decide)) (f.elem (by omega))) (sgn_un (by decide) hu.1 (by have h:=smV_un (by rw [e];decide) hs;omega)) (fun q=>absurd q (by decide)) (fun q=>absurd q (by decide))
theorem dat_70 {v:V} {rv:List UInt8 → Res} {rd:Nat → List UInt8 → Res} (hr:Right v) (e:v.kind = 4) (t:List UInt8):datR rv rd 112 (datV 112 v ++ t) = .ok (v,(datV 112 v).length):=by
 have f:=hr.fields
 have hu:=hr.wf.n
 unfold datR
 rw [if_neg (by decide),if_neg (by decide),if_neg (by decide),if_neg (by decide)]
 exact fixed_rt (w:=4) (by decide) (by decide) (V.ext e rfl (f.text (by rw [e];decide)) (f.list (by rw [e];decide)) (f.elem (by omega))) (sgn_un (by decide) hu.1 (by have h:=f.numOk;rw [e] at h;simp [numOk] at h;omega)) (fun q=>absurd q (by decide)) (fun q=>absurd q (by decide))
theorem dat_53 {v:V} {rv:List UInt8 → Res} {rd:Nat → List UInt8 → Res} (hr:Right v) (e:v.kind = 5) (hs:smV v = true) (t:List UInt8):datR rv rd 83 (datV 83 v ++ t) = .ok (v,(datV 83 v).length):=by
 have f:=hr.fields
 have hu:=hr.wf.n
 unfold datR
 rw [if_neg (by decide),if_neg (by decide),if_neg (by decide),if_neg (by decide)]
 exact fixed_rt (w:=1) (by decide) (by decide) (V.ext e rfl (f.text (by rw [e];decide)) (f.list (by rw [e];decide)) (f.elem (by omega))) (sgn_un (by decide) hu.1 (by have h:=smV_un (by rw [e];decide) hs;omega)) (fun q=>absurd q (by decide)) (fun q=>absurd q (by decide))
theorem dat_80 {v:V} {rv:List UInt8 → Res} {rd:Nat → List UInt8 → Res} (hr:Right v) (e:v.kind = 5) (t:List UInt8):datR rv rd 128 (datV 128 v ++ t) = .ok (v,(datV 128 v).length):=by
 have f:=hr.fields
 have hu:=hr.wf.n
 unfold datR
 rw [if_neg (by decide),if_neg (by decide),if_neg (by decide),if_neg (by decide)]
 exact fixed_rt (w:=8) (by decide) (by decide) (V.ext e rfl (f.text (by rw [e];decide)) (f.list (by rw [e];decide)) (f.elem (by omega))) (sgn_un (by decide) hu.1 (by have h:=hu.2;omega)) (fun q=>absurd q (by decide)) (fun q=>absurd q (by decide))
theorem dat_54 {v:V} {rv:List UInt8 → Res} {rd:Nat → List UInt8 → Res} (hr:Right v) (e:v.kind = 8) (hs:smV v = true) (t:List UInt8):datR rv rd 84 (datV 84 v ++ t) = .ok (v,(datV 84 v).length):=by
 have f:=hr.fields
 have hu:=hr.wf.n
 unfold datR
 rw [if_neg (by decide),if_neg (by decide),if_neg (by decide),if_neg (by decide)]
 exact fixed_rt (w:=1) (by decide) (by decide) (V.ext e rfl (f.text (by rw [e];decide)) (f.list (by rw [e];decide)) (f.elem (by omega))) (sgn_1 (by decide) hu (by have h:=smV_sg (by rw [e];decide) hs;omega)) (fun q=>absurd q (by decide)) (fun q=>absurd q (by decide))
theorem dat_71 {v:V} {rv:List UInt8 → Res} {rd:Nat → List UInt8 → Res} (hr:Right v) (e:v.kind = 8) (t:List UInt8):datR rv rd 113 (datV 113 v ++ t) = .ok (v,(datV 113 v).length):=by
 have f:=hr.fields
 have hu:=hr.wf.n
 unfold datR
 rw [if_neg (by decide),if_neg (by decide),if_neg (by decide),if_neg (by decide)]
 exact fixed_rt (w:=4) (by decide) (by decide) (V.ext e rfl (f.text (by rw [e];decide)) (f.list (by rw [e];decide)) (f.elem (by omega))) (sgn_4 (by decide) hu (by have h:=f.numOk;rw [e] at h;simpa [numOk,within2] using h)) (fun q=>absurd q (by decide)) (fun q=>absurd q (by decide))
theorem dat_55 {v:V} {rv:List UInt8 → Res} {rd:Nat → List UInt8 → Res} (hr:Right v) (e:v.kind = 9) (hs:smV v = true) (t:List UInt8):datR rv rd 85 (datV 85 v ++ t) = .ok (v,(datV 85 v).length):=by
 have f:=hr.fields
 have hu:=hr.wf.n
 unfold datR
 rw [if_neg (by decide),if_neg (by decide),if_neg (by decide),if_neg (by decide)]
 exact fixed_rt (w:=1) (by decide) (by decide) (V.ext e rfl (f.text (by rw [e];decide)) (f.list (by rw [e];decide)) (f.elem (by omega))) (sgn_1 (by decide) hu (by have h:=smV_sg (by rw [e];decide) hs;omega)) (fun q=>absurd q (by decide)) (fun q=>absurd q (by decide))
theorem dat_81 {v:V} {rv:List UInt8 → Res} {rd:Nat → List UInt8 → Res} (hr:Right v) (e:v.kind = 9) (t:List UInt8):datR rv rd 129 (datV 129 v ++ t) = .ok (v,(datV 129 v).length):=by
 have f:=hr.fields
 have hu:=hr.wf.n
 unfold datR
 rw [if_neg (by decide),if_neg (by decide),if_neg (by decide),if_neg (by decide)]
 exact fixed_rt (w:=8) (by decide) (by decide) (V.ext e rfl (f.text (by rw [e];decide)) (f.list (by rw [e];decide)) (f.elem (by omega))) (sgn_un (by decide) hu.1 (by have h:=hu.2;omega)) (fun q=>absurd q (by decide)) (fun q=>absurd q (by decide))
theorem dat_94 {v:V} {rv:List UInt8 → Res} {rd:Nat → List UInt8 → Res} (hr:Right v) (e:v.kind = 14) (t:List UInt8):datR rv rd 148 (datV 148 v ++ t) = .ok (v,(datV 148 v).length):=by
 have f:=hr.fields
 unfold datR
 rw [if_pos (by decide)]
 exact raw_rt (by decide) (by have h:=f.textOk;rw [e] at h;simpa [textOk] using h) (V.ext e (f.num (by rw [e];decide)) rfl (f.list (by rw [e];decide)) (f.elem (by omega)))
theorem dat_98 {v:V} {rv:List UInt8 → Res} {rd:Nat → List UInt8 → Res} (hr:Right v) (e:v.kind = 17) (t:List UInt8):datR rv rd 152 (datV 152 v ++ t) = .ok (v,(datV 152 v).length):=by
 have f:=hr.fields
 unfold datR
 rw [if_pos (by decide)]
 exact raw_rt (by decide) (by have h:=f.textOk;rw [e] at h;simpa [textOk] using h) (V.ext e (f.num (by rw [e];decide)) rfl (f.list (by rw [e];decide)) (f.elem (by omega)))
theorem dat_a0 {v:V} {rv:List UInt8 → Res} {rd:Nat → List UInt8 → Res} (hr:Right v) (e:v.kind = 18) (hs:smV v = true) (t:List UInt8):datR rv rd 160 (datV 160 v ++ t) = .ok (v,(datV 160 v).length):=by
 have f:=hr.fields
 unfold datR
 rw [if_neg (by decide),if_pos (by decide)]
 exact text_rt (by decide) (by have h:=smV_text (by rw [e];decide) hs;show _ < 256 ^ 1;omega) (by show (-1:Int) < 0;omega) (V.ext e (f.num (by rw [e];decide)) rfl (f.list (by rw [e];decide)) (f.elem (by omega)))
theorem dat_a1 {v:V} {rv:List UInt8 → Res} {rd:Nat → List UInt8 → Res} (hr:Right v) (e:v.kind = 19) (hs:smV v = true) (t:List UInt8):datR rv rd 161 (datV 161 v ++ t) = .ok (v,(datV 161 v).length):=by
 have f:=hr.fields
 unfold datR
 rw [if_neg (by decide),if_pos (by decide)]
 exact text_rt (by decide) (by have h:=smV_text (by rw [e];decide) hs;show _ < 256 ^ 1;omega) (by have h:=f.textOk;rw [e] at h;simp [textOk] at h;exact h) (V.ext e (f.num (by rw [e];decide)) rfl (f.list (by rw [e];decide)) (f.elem (by omega)))
theorem dat_a3 {v:V} {rv:List UInt8 → Res} {rd:Nat → List UInt8 → Res} (hr:Right v) (e:v.kind = 20) (hs:smV v = true) (t:List UInt8):datR rv rd 163 (datV 163 v ++ t) = .ok (v,(datV 163 v).length):=by
 have f:=hr.fields
 unfold datR
 rw [if_neg (by decide),if_pos (by decide)]
 exact text_rt (by decide) (by have h:=smV_text (by rw [e];decide) hs;show _ < 256 ^ 1;omega) (by have h:=f.textOk;rw [e] at h;simp [textOk] at h;exact h) (V.ext e (f.num (by rw [e];decide)) rfl (f.list (by rw [e];decide)) (f.elem (by omega)))
theorem inn_wt (v:V):(inn v).length < 81 * v.wt:=by have h1:=inn_len v;have h2:=v.wt_eq;omega
theorem list_wt (v:V):v.list.length < v.wt:=v.len_lt
theorem dat_c0 {v:V} {rv:List UInt8 → Res} {rd:Nat → List UInt8 → Res} (hr:Right v) (e:v.kind = 21) (hs:smV v = true) (hrv:∀ x ∈ v.list,∀ t,rv (putV x ++ t) = .ok (x,(putV x).length)) (t:List UInt8):datR rv rd 192 (datV 192 v ++ t) = .ok (v,(datV 192 v).length):=by
 have f:=hr.fields
 unfold datR
 rw [if_neg (by decide),if_neg (by decide),if_pos (by decide),within_rt (c:=192) (by decide) (by have h:=smV_span (by rw [e];decide) hs;show 1+_ < 256 ^ 1;omega) (by omega),span_rt (c:=192) (by decide) (by rw [e];decide) (by have h:=smV_span (by rw [e];decide) hs;show _ < 256 ^ 1;omega) hrv (fun q=>absurd q (by decide)) (V.ext e (f.num (by rw [e];decide)) (f.text (by rw [e];decide)) rfl (f.elem (by omega)))]
 rw [span_form (by decide)]
 simp only [List.length_append,putL_length]
theorem dat_c1 {v:V} {rv:List UInt8 → Res} {rd:Nat → List UInt8 → Res} (hr:Right v) (e:v.kind = 22) (hs:smV v = true) (hrv:∀ x ∈ v.list,∀ t,rv (putV x ++ t) = .ok (x,(putV x).length)) (t:List UInt8):datR rv rd 193 (datV 193 v ++ t) = .ok (v,(datV 193 v).length):=by
 have f:=hr.fields
 unfold datR
 rw [if_neg (by decide),if_neg (by decide),if_pos (by decide),within_rt (c:=193) (by decide) (by have h:=smV_span (by rw [e];decide) hs;show 1+_ < 256 ^ 1;omega) (by omega),span_rt (c:=193) (by decide) (by rw [e];decide) (by have h:=smV_span (by rw [e];decide) hs;show _ < 256 ^ 1;omega) hrv (fun _=>f.map e) (V.ext e (f.num (by rw [e];decide)) (f.text (by rw [e];decide)) rfl (f.elem (by omega)))]
 rw [span_form (by decide)]
 simp only [List.length_append,putL_length]
theorem dat_e0 {v:V} {rv:List UInt8 → Res} {rd:Nat → List UInt8 → Res} (hr:Right v) (e:v.kind = 23) (hs:smV v = true) (hrd:∀ x ∈ v.list,∀ t,rd (uniC v) (datV (uniC v) x ++ t) = .ok (x,(datV (uniC v) x).length)) (t:List UInt8):datR rv rd 224 (datV 224 v ++ t) = .ok (v,(datV 224 v).length):=by
 have f:=hr.fields
 have ha:=f.arr e
 simp only [arrOk,decide_eq_true_eq] at ha
 have hc:=codeK_kind v.elem (v.list.all smV) (by omega) (by omega)
 have hl:1 ≤ (inn v).length:=by rw [inn_eq,if_pos e,List.length_cons];omega
 unfold datR
 rw [if_neg (by decide),if_neg (by decide),if_neg (by decide),if_pos (by decide),within_rt (c:=224) (by decide) (by have h:=smV_span (by rw [e];decide) hs;show 1+_ < 256 ^ 1;omega) (by omega),arr_rt (c:=224) (by decide) e (by have h:=smV_span (by rw [e];decide) hs;show _ < 256 ^ 1;omega) hc.2 hrd hc.1 (V.ext e (f.num (by rw [e];decide)) (f.text (by rw [e];decide)) rfl rfl)]
 rw [span_form (by decide)]
 simp only [List.length_append,putL_length]
theorem lone_form {v:V} {c:Nat} (hr:Right v) (h:loneC v = some c):c < 256∧¬ kindC c < 0∧c ≠ 0∧c / 16 = 4∧v = .mk (kindC c) (if c = 0x41 then 1 else 0) ⟨#[]⟩ [] 0:=by
 have f:=hr.fields
 have hu:=hr.wf.n.1
 unfold loneC at h
 by_cases a:v.kind = 0
 ·rw [if_pos a,Option.some.injEq] at h
  subst h
  exact ⟨by decide,by decide,by decide,by decide,V.ext a (f.num (by rw [a];decide)) (f.text (by rw [a];decide)) (f.list (by rw [a];decide)) (f.elem (by omega))⟩
 rw [if_neg a] at h
 by_cases a:v.kind = 1∧v.num = 1
 ·rw [if_pos a,Option.some.injEq] at h
  subst h
  obtain ⟨a,b⟩:=a
  exact ⟨by decide,by decide,by decide,by decide,V.ext a b (f.text (by rw [a];decide)) (f.list (by rw [a];decide)) (f.elem (by omega))⟩
 rw [if_neg a] at h
 have a1:=a
 by_cases a:v.kind = 1
 ·rw [if_pos a,Option.some.injEq] at h
  subst h
  have hn:=f.numOk
  rw [a] at hn
  simp [numOk] at hn
  exact ⟨by decide,by decide,by decide,by decide,V.ext a (show v.num = 0 by omega) (f.text (by rw [a];decide)) (f.list (by rw [a];decide)) (f.elem (by omega))⟩
 rw [if_neg a] at h
 by_cases a:v.kind = 4∧v.num = 0
 ·rw [if_pos a,Option.some.injEq] at h
  subst h
  obtain ⟨a,b⟩:=a
  exact ⟨by decide,by decide,by decide,by decide,V.ext a b (f.text (by rw [a];decide)) (f.list (by rw [a];decide)) (f.elem (by omega))⟩
 rw [if_neg a] at h
 by_cases a:v.kind = 5∧v.num = 0
 ·rw [if_pos a,Option.some.injEq] at h
  subst h
  obtain ⟨a,b⟩:=a
  exact ⟨by decide,by decide,by decide,by decide,V.ext a b (f.text (by rw [a];decide)) (f.list (by rw [a];decide)) (f.elem (by omega))⟩
 rw [if_neg a] at h
 by_cases a:v.kind = 21∧v.list = []
 ·rw [if_pos a,Option.some.injEq] at h
  subst h
  obtain ⟨a,b⟩:=a
  exact ⟨by decide,by decide,by decide,by decide,V.ext a (f.num (by rw [a];decide)) (f.text (by rw [a];decide)) b (f.elem (by omega))⟩
 rw [if_neg a] at h
 cases h
theorem lone_none {v:V} (h:loneC v = none):v.kind ≠ 0:=by
 intro a
 unfold loneC at h
 rw [if_pos a] at h
 cases h
end Go.Proofs.YtnnnfhobbnjmfaaGreatDoor
