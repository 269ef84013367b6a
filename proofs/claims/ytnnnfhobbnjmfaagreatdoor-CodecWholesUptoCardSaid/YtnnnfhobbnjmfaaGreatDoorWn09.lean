/-
  Lemmas on the codec. Conditions: as each says.
-/
import Derived.Test.YtnnnfhobbnjmfaaGreatDoorWn08
namespace Go.Proofs.YtnnnfhobbnjmfaaGreatDoor
open Go.RowKit
set_option linter.all false

theorem datC_mem {c:Nat} (h:DatC c):c = 86 ∨ c = 80 ∨ c = 96 ∨ c = 81 ∨ c = 97 ∨ c = 114 ∨ c = 130 ∨ c = 116 ∨ c = 132 ∨ c = 115 ∨ c = 131 ∨ c = 82 ∨ c = 112 ∨ c = 83 ∨ c = 128 ∨ c = 84 ∨ c = 113 ∨ c = 85 ∨ c = 129 ∨ c = 148 ∨ c = 152 ∨ c = 160 ∨ c = 176 ∨ c = 161 ∨ c = 177 ∨ c = 163 ∨ c = 179 ∨ c = 192 ∨ c = 208 ∨ c = 193 ∨ c = 209 ∨ c = 224 ∨ c = 240:=by
 obtain ⟨h1,h2,h3⟩:=h
 refine Decidable.byContradiction (fun hn=>?_)
 simp only [not_or] at hn
 unfold kindC at h1
 rw [if_neg (by omega),if_neg (by omega),if_neg (by omega),if_neg (by omega),if_neg (by omega),if_neg (by omega),if_neg (by omega),if_neg (by omega),if_neg (by omega),if_neg (by omega),if_neg (by omega),if_neg (by omega),if_neg (by omega),if_neg (by omega),if_neg (by omega),if_neg (by omega),if_neg (by omega),if_neg (by omega),if_neg (by omega),if_neg (by omega),if_neg (by omega),if_neg (by omega),if_neg (by omega),if_neg (by omega),if_neg (by omega)] at h1
 omega
theorem datC_of {P:Nat → Prop} {c:Nat} (h:DatC c) (h86:P 86) (h80:P 80) (h96:P 96) (h81:P 81) (h97:P 97) (h114:P 114) (h130:P 130) (h116:P 116) (h132:P 132) (h115:P 115) (h131:P 131) (h82:P 82) (h112:P 112) (h83:P 83) (h128:P 128) (h84:P 84) (h113:P 113) (h85:P 85) (h129:P 129) (h148:P 148) (h152:P 152) (h160:P 160) (h176:P 176) (h161:P 161) (h177:P 177) (h163:P 163) (h179:P 179) (h192:P 192) (h208:P 208) (h193:P 193) (h209:P 209) (h224:P 224) (h240:P 240):P c:=by
 rcases datC_mem h with rfl|rfl|rfl|rfl|rfl|rfl|rfl|rfl|rfl|rfl|rfl|rfl|rfl|rfl|rfl|rfl|rfl|rfl|rfl|rfl|rfl|rfl|rfl|rfl|rfl|rfl|rfl|rfl|rfl|rfl|rfl|rfl|rfl <;> assumption
theorem datC_kind {c:Nat} (h:DatC c):1 ≤ kindC c∧kindC c ≤ 23∧codeK (kindC c) (smC c) = c:=by
 refine datC_of (P:=fun c=>1 ≤ kindC c∧kindC c ≤ 23∧codeK (kindC c) (smC c) = c) h (by decide) (by decide) (by decide) (by decide) (by decide) (by decide) (by decide) (by decide) (by decide) (by decide) (by decide) (by decide) (by decide) (by decide) (by decide) (by decide) (by decide) (by decide) (by decide) (by decide) (by decide) (by decide) (by decide) (by decide) (by decide) (by decide) (by decide) (by decide) (by decide) (by decide) (by decide) (by decide) (by decide)
theorem dat_mono (k:Int) (h1:1 ≤ k) (h2:k ≤ 23) (b:Bool) (v:V):(datV (codeK k b) v).length ≤ (datV (codeK k false) v).length:=by
 cases b
 ·exact Nat.le_refl _
 ·have hk:k = 1 ∨ k = 2 ∨ k = 3 ∨ k = 4 ∨ k = 5 ∨ k = 6 ∨ k = 7 ∨ k = 8 ∨ k = 9 ∨ k = 10 ∨ k = 11 ∨ k = 12 ∨ k = 13 ∨ k = 14 ∨ k = 15 ∨ k = 16 ∨ k = 17 ∨ k = 18 ∨ k = 19 ∨ k = 20 ∨ k = 21 ∨ k = 22 ∨ k = 23:=by omega
  rcases hk with rfl|rfl|rfl|rfl|rfl|rfl|rfl|rfl|rfl|rfl|rfl|rfl|rfl|rfl|rfl|rfl|rfl|rfl|rfl|rfl|rfl|rfl|rfl
  all_goals (simp [codeK,datV,datB,widC,wOf,putL_length] <;> omega)

theorem u64_0:IsU64 0:=by constructor <;> decide
theorem i64_0:IsI64 0:=by constructor <;> decide
structure GoodD (n:Nat) (c:Nat) (s:List UInt8) (v:V) (k:Nat):Prop where
 le:k ≤ s.length
 pos:1 ≤ k
 dep:v.dep ≤ n
 kind:v.kind = kindC c
 wt:v.wt ≤ k
 sm:smC c = true → smV v = true
 len:(datV c v).length ≤ k
 right:Right v
structure GoodV (n:Nat) (s:List UInt8) (v:V) (k:Nat):Prop where
 le:k ≤ s.length
 pos:1 ≤ k
 dep:v.dep ≤ n
 wt:v.wt ≤ k
 len:(putV v).length ≤ k
 right:Right v
theorem els_all {r:List UInt8 → Res} {Q:V → Prop} {f:V → Nat} {L:Nat} (h:∀ s v k,s.length ≤ L → r s = .ok (v,k) → k ≤ s.length∧Q v∧f v ≤ k) :
  ∀ (n:Nat) (s:List UInt8) (l:List V) (k:Nat),s.length ≤ L → els r n s = .ok (l,k) → k ≤ s.length∧l.length = n∧(∀ x ∈ l,Q x)∧(l.map f).sum ≤ k
 | 0,s,l,k,hs,e=>by
  simp only [els,Except.ok.injEq,Prod.mk.injEq] at e
  obtain ⟨rfl,rfl⟩:=e
  simp
 | n+1,s,l,k,hs,e=>by
  rw [els] at e
  cases hr:r s with
  | error x=>rw [hr] at e;cases e
  | ok p =>
   obtain ⟨v,k1⟩:=p
   rw [hr] at e
   simp only at e
   cases hr2:els r n (s.drop k1) with
   | error x=>rw [hr2] at e;cases e
   | ok p =>
    obtain ⟨l2,k2⟩:=p
    rw [hr2] at e
    simp only [Except.ok.injEq,Prod.mk.injEq] at e
    obtain ⟨rfl,rfl⟩:=e
    obtain ⟨a1,a2,a3⟩:=h s v k1 hs hr
    obtain ⟨b1,b2,b3,b4⟩:=els_all h n (s.drop k1) l2 k2 (by simp;omega) hr2
    simp only [List.length_drop] at b1
    refine ⟨by omega,by simp [b2],fun x hx=>?_,by simp;omega⟩
    rcases List.mem_cons.1 hx with rfl|hx
    ·exact a2
    ·exact b3 x hx
theorem wts_sum (l:List V):wts l = (l.map V.wt).sum:=by
 induction l with
 | nil=>rfl
 | cons a r ih=>simp [wts,ih]
theorem len_sum (f:V → List UInt8) (l:List V):(l.flatMap f).length = (l.map fun x=>(f x).length).sum:=by
 induction l with
 | nil=>rfl
 | cons a r ih=>simp [List.flatMap_cons]

/-! ### numbers -/
theorem numOk_1 (n:Int):numOk 1 n = decide (n < 2):=by simp [numOk]
theorem numOk_2 (n:Int):numOk 2 n = decide (n < 256):=by simp [numOk]
theorem numOk_3 (n:Int):numOk 3 n = decide (n < 65536):=by simp [numOk]
theorem numOk_4 (n:Int):numOk 4 n = decide (n < 4294967296):=by simp [numOk]
theorem numOk_10 (n:Int):numOk 10 n = decide (n < 4294967296):=by simp [numOk]
theorem numOk_12 (n:Int):numOk 12 n = decide (n < 4294967296):=by simp [numOk]
theorem numOk_6 (n:Int):numOk 6 n = within2 128 n:=by simp [numOk]
theorem numOk_7 (n:Int):numOk 7 n = within2 32768 n:=by simp [numOk]
theorem numOk_8 (n:Int):numOk 8 n = within2 2147483648 n:=by simp [numOk]
theorem numOk_15 (n:Int):numOk 15 n = decide (n < 55296 ∨ (57343 < n∧n ≤ 1114111)):=by simp [numOk]
theorem numOk_5 (n:Int):numOk 5 n = true:=by simp [numOk]
theorem numOk_9 (n:Int):numOk 9 n = true:=by simp [numOk]
theorem numOk_11 (n:Int):numOk 11 n = true:=by simp [numOk]
theorem numOk_13 (n:Int):numOk 13 n = true:=by simp [numOk]
theorem numOk_16 (n:Int):numOk 16 n = true:=by simp [numOk]
theorem narrow_4 (n:Int) (t:ByteArray) (l:List V) (e:Int):narrowV (.mk 4 n t l e) = decide (n ≤ 255):=if_pos (Or.inl rfl)
theorem narrow_5 (n:Int) (t:ByteArray) (l:List V) (e:Int):narrowV (.mk 5 n t l e) = decide (n ≤ 255):=if_pos (Or.inr rfl)
theorem narrow_8 (n:Int) (t:ByteArray) (l:List V) (e:Int):narrowV (.mk 8 n t l e) = decide (-128 ≤ twoC n∧twoC n ≤ 127):=(if_neg (by show ¬ ((8:Int) = 4 ∨ (8:Int) = 5);decide)).trans (if_pos (Or.inl rfl))

theorem narrow_9 (n:Int) (t:ByteArray) (l:List V) (e:Int):narrowV (.mk 9 n t l e) = decide (-128 ≤ twoC n∧twoC n ≤ 127):=(if_neg (by show ¬ ((9:Int) = 4 ∨ (9:Int) = 5);decide)).trans (if_pos (Or.inr rfl))

theorem fixed_inv {c:Nat} {s:List UInt8} {v:V} {k:Nat} (h:fixedR c s = .ok (v,k)):widC c ≤ s.length∧k = widC c∧∃ n,n < 256 ^ widC c∧v = .mk (kindC c) (sgnW (kindC c) (widC c) n) ⟨#[]⟩ [] 0∧(c = 0x56 → n ≤ 1)∧(c = 0x73 → isCh n = true):=by
 unfold fixedR at h
 by_cases a:s.length < widC c
 ·rw [if_pos a] at h;cases h
 rw [if_neg a] at h
 have hb:beVal (s.take (widC c)) < 256 ^ widC c:=by
  have:=beVal_lt (s.take (widC c))
  rwa [List.length_take,Nat.min_eq_left (by omega)] at this
 by_cases b:c = 0x56∧1 < beVal (s.take (widC c))
 ·rw [if_pos b] at h;cases h
 rw [if_neg b] at h
 by_cases d:c = 0x73∧isCh (beVal (s.take (widC c))) = false
 ·rw [if_pos d] at h;cases h
 rw [if_neg d] at h
 simp only [Except.ok.injEq,Prod.mk.injEq] at h
 obtain ⟨rfl,rfl⟩:=h
 refine ⟨by omega,rfl,_,hb,rfl,fun q=>?_,fun q=>?_⟩
 ·refine Decidable.byContradiction (fun z=>b ⟨q,by omega⟩)
 ·cases hz:isCh (beVal (s.take (widC c))) with
  | true=>rfl
  | false=>exact absurd ⟨q,hz⟩ d
theorem dep_leaf (k n:Int) (t:ByteArray) (e:Int):(V.mk k n t [] e).dep = 1:=by rw [V.dep_eq];rfl
theorem wt_leaf (k n:Int) (t:ByteArray) (e:Int):(V.mk k n t [] e).wt = 1+t.size / 64:=by rw [V.wt_eq];rfl
theorem fixed_good {m c w:Nat} {s:List UInt8} {v:V} {k:Nat} (hc:c / 16 ≠ 9∧¬ (c / 16 = 10 ∨ c / 16 = 11)∧¬ 12 ≤ c / 16) (hw:widC c = w) (hk:0 ≤ kindC c∧kindC c ≤ 16∧kindC c ≠ 14∧kindC c ≠ 0)
  (hn:∀ n,n < 256 ^ w → (c = 0x56 → n ≤ 1) → (c = 0x73 → isCh n = true) → numOk (kindC c) (sgnW (kindC c) w n) = true∧IsU64 (sgnW (kindC c) w n)∧(smC c = true → narrowV (.mk (kindC c) (sgnW (kindC c) w n) ⟨#[]⟩ [] 0) = true)) (h:fixedR c s = .ok (v,k)) (hw1:1 ≤ w):GoodD (m+1) c s v k:=by
 obtain ⟨h1,h2,n,h3,h4,h5,h6⟩:=fixed_inv h
 rw [hw] at h1 h2 h3 h4
 obtain ⟨q1,q2,q3⟩:=hn n h3 h5 h6
 subst h4
 have ht:textOk (kindC c) ⟨#[]⟩ = true:=by
  unfold textOk
  rw [if_neg (by omega),if_neg (by omega),if_neg (by omega)]
 refine ⟨by omega,by omega,by rw [dep_leaf];omega,rfl,?_,fun q=>?_,?_,?_⟩
 ·rw [wt_leaf,h2];show 1+0 / 64 ≤ w;omega
 ·unfold smV smallV
  rw [if_neg (by show ¬ IsSp (kindC c);unfold IsSp;omega)]
  exact q3 q
 ·unfold datV datB
  rw [if_neg hc.1,if_neg hc.2.1,if_neg hc.2.2,putL_length,hw,h2]
  exact Nat.le_refl _
 ·refine right_of ⟨hk.1,by show kindC c ≤ 24;omega,fun q=>?_,fun _=>rfl,fun _=>rfl,fun _=>rfl,q1,ht,fun q=>?_,fun q=>?_,fun q=>?_⟩ ⟨⟨?_,?_⟩,q2,Nat.zero_le _,⟨by show (-9223372036854775808:Int) ≤ 0;decide,by show (0:Int) ≤ 9223372036854775807;decide⟩⟩ (fun x hx=>by cases hx)
  ·have:hasN (kindC c) = true:=by unfold hasN;rw [decide_eq_true_eq];omega
   rw [show (V.mk (kindC c) (sgnW (kindC c) w n) ⟨#[]⟩ [] 0).kind = kindC c from rfl,this] at q
   cases q
  ·have:kindC c = 22:=q
   omega
  ·have:kindC c = 23:=q
   omega
  ·have:kindC c = 24:=q
   omega
  ·show _ ≤ kindC c;omega
  ·show kindC c ≤ _;omega
theorem good_56 {m:Nat} {s:List UInt8} {v:V} {k:Nat} (h:fixedR 86 s = .ok (v,k)):GoodD (m+1) 86 s v k:=by
 refine fixed_good (w:=1) (by decide) (by decide) (by decide) (fun n h1 h2 h3=>?_) h (by omega)
 rw [show kindC 86 = 1 from rfl]
 have hb:sgnW 1 1 n = n:=by unfold sgnW;rw [if_neg (by omega)]
 rw [hb]
 refine ⟨?_,⟨by omega,by omega⟩,fun q=>?_⟩
 ·rw [numOk_1,decide_eq_true_eq];have:=h2 rfl;omega
 ·exact absurd q (by decide)
theorem good_50 {m:Nat} {s:List UInt8} {v:V} {k:Nat} (h:fixedR 80 s = .ok (v,k)):GoodD (m+1) 80 s v k:=by
 refine fixed_good (w:=1) (by decide) (by decide) (by decide) (fun n h1 h2 h3=>?_) h (by omega)
 rw [show kindC 80 = 2 from rfl]
 have hb:sgnW 2 1 n = n:=by unfold sgnW;rw [if_neg (by omega)]
 rw [hb]
 refine ⟨?_,⟨by omega,by omega⟩,fun q=>?_⟩
 ·rw [numOk_2,decide_eq_true_eq];omega
 ·exact absurd q (by decide)
theorem good_60 {m:Nat} {s:List UInt8} {v:V} {k:Nat} (h:fixedR 96 s = .ok (v,k)):GoodD (m+1) 96 s v k:=by
 refine fixed_good (w:=2) (by decide) (by decide) (by decide) (fun n h1 h2 h3=>?_) h (by omega)
 rw [show kindC 96 = 3 from rfl]
 have hb:sgnW 3 2 n = n:=by unfold sgnW;rw [if_neg (by omega)]
 rw [hb]
 refine ⟨?_,⟨by omega,by omega⟩,fun q=>?_⟩
 ·rw [numOk_3,decide_eq_true_eq];omega
 ·exact absurd q (by decide)
theorem good_51 {m:Nat} {s:List UInt8} {v:V} {k:Nat} (h:fixedR 81 s = .ok (v,k)):GoodD (m+1) 81 s v k:=by
 refine fixed_good (w:=1) (by decide) (by decide) (by decide) (fun n h1 h2 h3=>?_) h (by omega)
 rw [show kindC 81 = 6 from rfl]
 have hb:sgnW 6 1 n = if 256 ^ 1 / 2 ≤ n then (n:Int)+18446744073709551616 - (256 ^ 1:Nat) else n:=by
  unfold sgnW
  by_cases a:256 ^ 1 / 2 ≤ n
  ·rw [if_pos ⟨by decide,by decide,a⟩,if_pos a]
  ·rw [if_neg (fun q=>a q.2.2),if_neg a]
 rw [hb]
 by_cases a:256 ^ 1 / 2 ≤ n
 ·rw [if_pos a]
  refine ⟨?_,⟨by omega,by omega⟩,fun q=>?_⟩
  ·rw [numOk_6];unfold within2 twoC;rw [if_neg (by omega),decide_eq_true_eq];omega
  ·exact absurd q (by decide)
 ·rw [if_neg a]
  refine ⟨?_,⟨by omega,by omega⟩,fun q=>?_⟩
  ·rw [numOk_6];unfold within2 twoC;rw [if_pos (by omega),decide_eq_true_eq];omega
  ·exact absurd q (by decide)
theorem good_61 {m:Nat} {s:List UInt8} {v:V} {k:Nat} (h:fixedR 97 s = .ok (v,k)):GoodD (m+1) 97 s v k:=by
 refine fixed_good (w:=2) (by decide) (by decide) (by decide) (fun n h1 h2 h3=>?_) h (by omega)
 rw [show kindC 97 = 7 from rfl]
 have hb:sgnW 7 2 n = if 256 ^ 2 / 2 ≤ n then (n:Int)+18446744073709551616 - (256 ^ 2:Nat) else n:=by
  unfold sgnW
  by_cases a:256 ^ 2 / 2 ≤ n
  ·rw [if_pos ⟨by decide,by decide,a⟩,if_pos a]
  ·rw [if_neg (fun q=>a q.2.2),if_neg a]
 rw [hb]
 by_cases a:256 ^ 2 / 2 ≤ n
 ·rw [if_pos a]
  refine ⟨?_,⟨by omega,by omega⟩,fun q=>?_⟩
  ·rw [numOk_7];unfold within2 twoC;rw [if_neg (by omega),decide_eq_true_eq];omega
  ·exact absurd q (by decide)
 ·rw [if_neg a]
  refine ⟨?_,⟨by omega,by omega⟩,fun q=>?_⟩
  ·rw [numOk_7];unfold within2 twoC;rw [if_pos (by omega),decide_eq_true_eq];omega
  ·exact absurd q (by decide)
theorem good_72 {m:Nat} {s:List UInt8} {v:V} {k:Nat} (h:fixedR 114 s = .ok (v,k)):GoodD (m+1) 114 s v k:=by
 refine fixed_good (w:=4) (by decide) (by decide) (by decide) (fun n h1 h2 h3=>?_) h (by omega)
 rw [show kindC 114 = 10 from rfl]
 have hb:sgnW 10 4 n = n:=by unfold sgnW;rw [if_neg (by omega)]
 rw [hb]
 refine ⟨?_,⟨by omega,by omega⟩,fun q=>?_⟩
 ·rw [numOk_10,decide_eq_true_eq];omega
 ·exact absurd q (by decide)
theorem good_82 {m:Nat} {s:List UInt8} {v:V} {k:Nat} (h:fixedR 130 s = .ok (v,k)):GoodD (m+1) 130 s v k:=by
 refine fixed_good (w:=8) (by decide) (by decide) (by decide) (fun n h1 h2 h3=>?_) h (by omega)
 rw [show kindC 130 = 11 from rfl]
 have hb:sgnW 11 8 n = n:=by unfold sgnW;rw [if_neg (by omega)]
 rw [hb]
 refine ⟨?_,⟨by omega,by omega⟩,fun q=>?_⟩
 ·exact numOk_11 _
 ·exact absurd q (by decide)
theorem good_74 {m:Nat} {s:List UInt8} {v:V} {k:Nat} (h:fixedR 116 s = .ok (v,k)):GoodD (m+1) 116 s v k:=by
 refine fixed_good (w:=4) (by decide) (by decide) (by decide) (fun n h1 h2 h3=>?_) h (by omega)
 rw [show kindC 116 = 12 from rfl]
 have hb:sgnW 12 4 n = n:=by unfold sgnW;rw [if_neg (by omega)]
 rw [hb]
 refine ⟨?_,⟨by omega,by omega⟩,fun q=>?_⟩
 ·rw [numOk_12,decide_eq_true_eq];omega
 ·exact absurd q (by decide)
theorem good_84 {m:Nat} {s:List UInt8} {v:V} {k:Nat} (h:fixedR 132 s = .ok (v,k)):GoodD (m+1) 132 s v k:=by
 refine fixed_good (w:=8) (by decide) (by decide) (by decide) (fun n h1 h2 h3=>?_) h (by omega)
 rw [show kindC 132 = 13 from rfl]
 have hb:sgnW 13 8 n = n:=by unfold sgnW;rw [if_neg (by omega)]
 rw [hb]
 refine ⟨?_,⟨by omega,by omega⟩,fun q=>?_⟩
 ·exact numOk_13 _
 ·exact absurd q (by decide)
theorem good_73 {m:Nat} {s:List UInt8} {v:V} {k:Nat} (h:fixedR 115 s = .ok (v,k)):GoodD (m+1) 115 s v k:=by
 refine fixed_good (w:=4) (by decide) (by decide) (by decide) (fun n h1 h2 h3=>?_) h (by omega)
 rw [show kindC 115 = 15 from rfl]
 have hb:sgnW 15 4 n = n:=by unfold sgnW;rw [if_neg (by omega)]
 rw [hb]
 refine ⟨?_,⟨by omega,by omega⟩,fun q=>?_⟩
 ·have:=h3 rfl;unfold isCh at this;rw [decide_eq_true_eq] at this;rw [numOk_15,decide_eq_true_eq];omega
 ·exact absurd q (by decide)
theorem good_83 {m:Nat} {s:List UInt8} {v:V} {k:Nat} (h:fixedR 131 s = .ok (v,k)):GoodD (m+1) 131 s v k:=by
 refine fixed_good (w:=8) (by decide) (by decide) (by decide) (fun n h1 h2 h3=>?_) h (by omega)
 rw [show kindC 131 = 16 from rfl]
 have hb:sgnW 16 8 n = n:=by unfold sgnW;rw [if_neg (by omega)]
 rw [hb]
 refine ⟨?_,⟨by omega,by omega⟩,fun q=>?_⟩
 ·exact numOk_16 _
 ·exact absurd q (by decide)
theorem good_52 {m:Nat} {s:List UInt8} {v:V} {k:Nat} (h:fixedR 82 s = .ok (v,k)):GoodD (m+1) 82 s v k:=by
 refine fixed_good (w:=1) (by decide) (by decide) (by decide) (fun n h1 h2 h3=>?_) h (by omega)
 rw [show kindC 82 = 4 from rfl]
 have hb:sgnW 4 1 n = n:=by unfold sgnW;rw [if_neg (by omega)]
 rw [hb]
 refine ⟨?_,⟨by omega,by omega⟩,fun q=>?_⟩
 ·rw [numOk_4,decide_eq_true_eq];omega
 ·rw [narrow_4,decide_eq_true_eq];omega
theorem good_70 {m:Nat} {s:List UInt8} {v:V} {k:Nat} (h:fixedR 112 s = .ok (v,k)):GoodD (m+1) 112 s v k:=by
 refine fixed_good (w:=4) (by decide) (by decide) (by decide) (fun n h1 h2 h3=>?_) h (by omega)
 rw [show kindC 112 = 4 from rfl]
 have hb:sgnW 4 4 n = n:=by unfold sgnW;rw [if_neg (by omega)]
 rw [hb]
 refine ⟨?_,⟨by omega,by omega⟩,fun q=>?_⟩
 ·rw [numOk_4,decide_eq_true_eq];omega
 ·exact absurd q (by decide)
theorem good_53 {m:Nat} {s:List UInt8} {v:V} {k:Nat} (h:fixedR 83 s = .ok (v,k)):GoodD (m+1) 83 s v k:=by
 refine fixed_good (w:=1) (by decide) (by decide) (by decide) (fun n h1 h2 h3=>?_) h (by omega)
 rw [show kindC 83 = 5 from rfl]
 have hb:sgnW 5 1 n = n:=by unfold sgnW;rw [if_neg (by omega)]
 rw [hb]
 refine ⟨?_,⟨by omega,by omega⟩,fun q=>?_⟩
 ·exact numOk_5 _
 ·rw [narrow_5,decide_eq_true_eq];omega
theorem good_80 {m:Nat} {s:List UInt8} {v:V} {k:Nat} (h:fixedR 128 s = .ok (v,k)):GoodD (m+1) 128 s v k:=by
 refine fixed_good (w:=8) (by decide) (by decide) (by decide) (fun n h1 h2 h3=>?_) h (by omega)
 rw [show kindC 128 = 5 from rfl]
 have hb:sgnW 5 8 n = n:=by unfold sgnW;rw [if_neg (by omega)]
 rw [hb]
 refine ⟨?_,⟨by omega,by omega⟩,fun q=>?_⟩
 ·exact numOk_5 _
 ·exact absurd q (by decide)
theorem good_54 {m:Nat} {s:List UInt8} {v:V} {k:Nat} (h:fixedR 84 s = .ok (v,k)):GoodD (m+1) 84 s v k:=by
 refine fixed_good (w:=1) (by decide) (by decide) (by decide) (fun n h1 h2 h3=>?_) h (by omega)
 rw [show kindC 84 = 8 from rfl]
 have hb:sgnW 8 1 n = if 256 ^ 1 / 2 ≤ n then (n:Int)+18446744073709551616 - (256 ^ 1:Nat) else n:=by
  unfold sgnW
  by_cases a:256 ^ 1 / 2 ≤ n
  ·rw [if_pos ⟨by decide,by decide,a⟩,if_pos a]
  ·rw [if_neg (fun q=>a q.2.2),if_neg a]
 rw [hb]
 by_cases a:256 ^ 1 / 2 ≤ n
 ·rw [if_pos a]
  refine ⟨?_,⟨by omega,by omega⟩,fun q=>?_⟩
  ·rw [numOk_8];unfold within2 twoC;rw [if_neg (by omega),decide_eq_true_eq];omega
  ·rw [narrow_8,decide_eq_true_eq];unfold twoC;rw [if_neg (by omega)];omega
 ·rw [if_neg a]
  refine ⟨?_,⟨by omega,by omega⟩,fun q=>?_⟩
  ·rw [numOk_8];unfold within2 twoC;rw [if_pos (by omega),decide_eq_true_eq];omega
  ·rw [narrow_8,decide_eq_true_eq];unfold twoC;rw [if_pos (by omega)];omega
theorem good_71 {m:Nat} {s:List UInt8} {v:V} {k:Nat} (h:fixedR 113 s = .ok (v,k)):GoodD (m+1) 113 s v k:=by
 refine fixed_good (w:=4) (by decide) (by decide) (by decide) (fun n h1 h2 h3=>?_) h (by omega)
 rw [show kindC 113 = 8 from rfl]
 have hb:sgnW 8 4 n = if 256 ^ 4 / 2 ≤ n then (n:Int)+18446744073709551616 - (256 ^ 4:Nat) else n:=by
  unfold sgnW
  by_cases a:256 ^ 4 / 2 ≤ n
  ·rw [if_pos ⟨by decide,by decide,a⟩,if_pos a]
  ·rw [if_neg (fun q=>a q.2.2),if_neg a]
 rw [hb]
 by_cases a:256 ^ 4 / 2 ≤ n
 ·rw [if_pos a]
  refine ⟨?_,⟨by omega,by omega⟩,fun q=>?_⟩
  ·rw [numOk_8];unfold within2 twoC;rw [if_neg (by omega),decide_eq_true_eq];omega
  ·exact absurd q (by decide)
 ·rw [if_neg a]
  refine ⟨?_,⟨by omega,by omega⟩,fun q=>?_⟩
  ·rw [numOk_8];unfold within2 twoC;rw [if_pos (by omega),decide_eq_true_eq];omega
  ·exact absurd q (by decide)
theorem good_55 {m:Nat} {s:List UInt8} {v:V} {k:Nat} (h:fixedR 85 s = .ok (v,k)):GoodD (m+1) 85 s v k:=by
 refine fixed_good (w:=1) (by decide) (by decide) (by decide) (fun n h1 h2 h3=>?_) h (by omega)
 rw [show kindC 85 = 9 from rfl]
 have hb:sgnW 9 1 n = if 256 ^ 1 / 2 ≤ n then (n:Int)+18446744073709551616 - (256 ^ 1:Nat) else n:=by
  unfold sgnW
  by_cases a:256 ^ 1 / 2 ≤ n
  ·rw [if_pos ⟨by decide,by decide,a⟩,if_pos a]
  ·rw [if_neg (fun q=>a q.2.2),if_neg a]
 rw [hb]
 by_cases a:256 ^ 1 / 2 ≤ n
 ·rw [if_pos a]
  refine ⟨?_,⟨by omega,by omega⟩,fun q=>?_⟩
  ·exact numOk_9 _
  ·rw [narrow_9,decide_eq_true_eq];unfold twoC;rw [if_neg (by omega)];omega
 ·rw [if_neg a]
  refine ⟨?_,⟨by omega,by omega⟩,fun q=>?_⟩
  ·exact numOk_9 _
  ·rw [narrow_9,decide_eq_true_eq];unfold twoC;rw [if_pos (by omega)];omega
theorem good_81 {m:Nat} {s:List UInt8} {v:V} {k:Nat} (h:fixedR 129 s = .ok (v,k)):GoodD (m+1) 129 s v k:=by
 refine fixed_good (w:=8) (by decide) (by decide) (by decide) (fun n h1 h2 h3=>?_) h (by omega)
 rw [show kindC 129 = 9 from rfl]
 have hb:sgnW 9 8 n = n:=by unfold sgnW;rw [if_neg (by omega)]
 rw [hb]
 refine ⟨?_,⟨by omega,by omega⟩,fun q=>?_⟩
 ·exact numOk_9 _
 ·exact absurd q (by decide)
/-! ### texts -/
theorem txB_size (s:List UInt8):(txB s).size = s.length:=rfl
theorem raw_good {m c:Nat} {s:List UInt8} {v:V} {k:Nat} (hs:s.length ≤ maxLen) (hc:c / 16 = 9) (hk:kindC c = 14 ∨ kindC c = 17) (hsm:smC c = false) (h:rawR c s = .ok (v,k)):GoodD (m+1) c s v k:=by
 unfold rawR at h
 by_cases a:s.length < 16
 ·rw [if_pos a] at h;cases h
 rw [if_neg a] at h
 simp only [Except.ok.injEq,Prod.mk.injEq] at h
 obtain ⟨rfl,rfl⟩:=h
 have hz:(txB (s.take 16)).size = 16:=by rw [txB_size,List.length_take];omega
 refine ⟨by omega,by omega,by rw [dep_leaf];omega,rfl,by rw [wt_leaf,hz];omega,fun q=>(by rw [hsm] at q;cases q),?_,?_⟩
 ·unfold datV datB
  rw [if_pos hc,V.tb_len]
  show (txB (s.take 16)).size ≤ 16
  omega
 ·refine right_of ⟨by show 0 ≤ kindC c;omega,by show kindC c ≤ 24;omega,fun _=>rfl,fun q=>?_,fun _=>rfl,fun _=>rfl,?_,?_,fun q=>?_,fun q=>?_,fun q=>?_⟩ ⟨⟨?_,?_⟩,u64_0,?_,i64_0⟩ (fun x hx=>by cases hx)
  ·have:hasT (kindC c) = true:=by unfold hasT;rw [decide_eq_true_eq];omega
   have q':hasT (kindC c) = false:=q
   rw [this] at q'
   cases q'
  ·show numOk (kindC c) 0 = true
   rcases hk with e|e <;> (rw [e];rfl)
  ·show textOk (kindC c) _ = true
   unfold textOk
   rw [if_pos (by omega),decide_eq_true_eq]
   exact hz
  ·have:kindC c = 22:=q
   omega
  ·have:kindC c = 23:=q
   omega
  ·have:kindC c = 24:=q
   omega
  ·show _ ≤ kindC c;omega
  ·show kindC c ≤ _;omega
  ·show (txB (s.take 16)).size ≤ maxLen
   unfold maxLen;omega
theorem text_good {m c:Nat} {s:List UInt8} {v:V} {k:Nat} (hs:s.length ≤ maxLen) (hc:c / 16 = 10 ∨ c / 16 = 11) (hk:kindC c = 18 ∨ kindC c = 19 ∨ kindC c = 20) (hsm:smC c = true → wOf c = 1) (h:textR c s = .ok (v,k)):GoodD (m+1) c s v k:=by
 have hw:=wOf_le c
 unfold textR at h
 by_cases a:s.length < wOf c
 ·rw [if_pos a] at h;cases h
 rw [if_neg a] at h
 by_cases b:s.length < wOf c+beVal (s.take (wOf c))
 ·rw [if_pos b] at h;cases h
 rw [if_neg b] at h
 have hb:beVal (s.take (wOf c)) < 256 ^ wOf c:=by
  have:=beVal_lt (s.take (wOf c))
  rwa [List.length_take,Nat.min_eq_left (by omega)] at this
 obtain ⟨n,hn⟩:∃ n,beVal (s.take (wOf c)) = n:=⟨_,rfl⟩
 rw [hn] at h b hb
 have hz:(txB ((s.drop (wOf c)).take n)).size = n:=by rw [txB_size,List.length_take,List.length_drop];omega
 obtain ⟨t,ht⟩:∃ t,txB ((s.drop (wOf c)).take n) = t:=⟨_,rfl⟩
 rw [ht] at h hz
 by_cases d:0 ≤ badT (kindC c) t
 ·rw [if_pos d] at h;cases h
 rw [if_neg d] at h
 simp only [Except.ok.injEq,Prod.mk.injEq] at h
 obtain ⟨rfl,rfl⟩:=h
 refine ⟨by omega,by omega,by rw [dep_leaf];omega,rfl,by rw [wt_leaf,hz];omega,fun q=>?_,?_,?_⟩
 ·have h1:=hsm q
  rw [h1] at hb
  unfold smV smallV
  rw [if_neg (by show ¬ IsSp (kindC c);unfold IsSp;omega)]
  unfold narrowV
  rw [if_neg (by show ¬ (kindC c = 4 ∨ kindC c = 5);omega),if_neg (by show ¬ (kindC c = 8 ∨ kindC c = 9);omega)]
  refine (if_pos (show (V.mk (kindC c) 0 t [] 0).kind = 18 ∨ (V.mk (kindC c) 0 t [] 0).kind = 19 ∨ (V.mk (kindC c) 0 t [] 0).kind = 20 from hk)).trans ?_
  rw [decide_eq_true_eq]
  show t.size ≤ 255
  omega
 ·unfold datV datB
  rw [if_neg (by omega),if_pos hc,List.length_append,putL_length,V.tb_len]
  show wOf c+t.size ≤ wOf c+n
  omega
 ·refine right_of ⟨by show 0 ≤ kindC c;omega,by show kindC c ≤ 24;omega,fun _=>rfl,fun q=>?_,fun _=>rfl,fun _=>rfl,?_,?_,fun q=>?_,fun q=>?_,fun q=>?_⟩ ⟨⟨?_,?_⟩,u64_0,?_,i64_0⟩ (fun x hx=>by cases hx)
  ·have:hasT (kindC c) = true:=by unfold hasT;rw [decide_eq_true_eq];omega
   have q':hasT (kindC c) = false:=q
   rw [this] at q'
   cases q'
  ·show numOk (kindC c) 0 = true
   rcases hk with e|e|e <;> (rw [e];rfl)
  ·show textOk (kindC c) t = true
   unfold textOk
   unfold badT at d
   rw [if_neg (by omega)]
   by_cases e:kindC c = 19
   ·rw [if_pos e] at d ⊢
    rw [decide_eq_true_eq];omega
   ·rw [if_neg e] at d ⊢
    by_cases e:kindC c = 20
    ·rw [if_pos e] at d ⊢
     rw [decide_eq_true_eq];omega
    ·rw [if_neg e]
  ·have:kindC c = 22:=q
   omega
  ·have:kindC c = 23:=q
   omega
  ·have:kindC c = 24:=q
   omega
  ·show _ ≤ kindC c;omega
  ·show kindC c ≤ _;omega
  ·show t.size ≤ maxLen
   omega
/-! ### spans -/
theorem within_inv {c least:Nat} {rd:Nat → List UInt8 → Res} {s:List UInt8} {x:V × Nat} (h:withinR c least rd s = .ok x):∃ m,m = beVal (s.take (wOf c))∧wOf c+m ≤ s.length∧least ≤ m∧m < 256 ^ wOf c∧rd m ((s.drop (wOf c)).take m) = .ok x∧((s.drop (wOf c)).take m).length = m:=by
 unfold withinR at h
 by_cases a:s.length < wOf c
 ·rw [if_pos a] at h;cases h
 rw [if_neg a] at h
 have hb:beVal (s.take (wOf c)) < 256 ^ wOf c:=by
  have:=beVal_lt (s.take (wOf c))
  rwa [List.length_take,Nat.min_eq_left (by omega)] at this
 by_cases b:beVal (s.take (wOf c)) < least
 ·rw [if_pos b] at h;cases h
 rw [if_neg b] at h
 by_cases d:s.length < wOf c+beVal (s.take (wOf c))
 ·rw [if_pos d] at h;cases h
 rw [if_neg d] at h
 exact ⟨_,rfl,by omega,by omega,hb,h,by rw [List.length_take,List.length_drop];omega⟩
theorem span_inv {rv:List UInt8 → Res} {c n:Nat} {q:List UInt8} {v:V} {k:Nat} (h:spanIn rv c n q = .ok (v,k)):∃ l j,els rv (beVal (q.take (wOf c))) (q.drop (wOf c)) = .ok (l,j)∧n ≤ wOf c+j∧v = .mk (kindC c) 0 ⟨#[]⟩ l 0∧k = wOf c+n∧(kindC c = 22 → beVal (q.take (wOf c)) % 2 = 0∧beVal (q.take (wOf c)) / 2 ≤ 1024∧(evens l).Nodup):=by
 unfold spanIn at h
 by_cases a:kindC c = 22∧beVal (q.take (wOf c)) % 2 ≠ 0
 ·rw [if_pos a] at h;cases h
 rw [if_neg a] at h
 by_cases b:kindC c = 22∧1024 < beVal (q.take (wOf c)) / 2
 ·rw [if_pos b] at h;cases h
 rw [if_neg b] at h
 cases he:els rv (beVal (q.take (wOf c))) (q.drop (wOf c)) with
 | error x=>rw [he] at h;cases h
 | ok p =>
  obtain ⟨l,j⟩:=p
  rw [he] at h
  simp only at h
  by_cases d:wOf c+j < n
  ·rw [if_pos d] at h;cases h
  rw [if_neg d] at h
  by_cases e:kindC c = 22∧¬ (evens l).Nodup
  ·rw [if_pos e] at h;cases h
  rw [if_neg e] at h
  simp only [Except.ok.injEq,Prod.mk.injEq] at h
  obtain ⟨rfl,rfl⟩:=h
  exact ⟨l,j,rfl,by omega,rfl,rfl,fun z=>⟨Decidable.byContradiction (fun y=>a ⟨z,y⟩),Decidable.byContradiction (fun y=>b ⟨z,by omega⟩),Classical.byContradiction (fun y=>e ⟨z,y⟩)⟩⟩
theorem arr_inv {rd:Nat → List UInt8 → Res} {c n:Nat} {q:List UInt8} {v:V} {k:Nat} (h:arrIn rd c n q = .ok (v,k)):∃ l j c',c' = ((q.drop (wOf c)).headD 0).toNat∧DatC c'∧els (bareR rd c') (beVal (q.take (wOf c))) (q.drop (wOf c+1)) = .ok (l,j)∧n ≤ wOf c+1+j∧v = .mk (kindC c) 0 ⟨#[]⟩ l (kindC c')∧k = wOf c+n:=by
 unfold arrIn at h
 simp only at h
 by_cases a:kindC ((q.drop (wOf c)).headD 0).toNat < 0 ∨ ((q.drop (wOf c)).headD 0).toNat = 0 ∨ ((q.drop (wOf c)).headD 0).toNat / 16 = 4
 ·rw [if_pos a] at h;cases h
 rw [if_neg a] at h
 cases he:els (bareR rd ((q.drop (wOf c)).headD 0).toNat) (beVal (q.take (wOf c))) (q.drop (wOf c+1)) with
 | error x=>rw [he] at h;cases h
 | ok p =>
  obtain ⟨l,j⟩:=p
  rw [he] at h
  simp only at h
  by_cases d:wOf c+1+j < n
  ·rw [if_pos d] at h;cases h
  rw [if_neg d] at h
  simp only [Except.ok.injEq,Prod.mk.injEq] at h
  obtain ⟨rfl,rfl⟩:=h
  exact ⟨l,j,_,rfl,⟨by omega,by omega,by omega⟩,he,by omega,rfl,rfl⟩
theorem dep_node {n:Nat} {k m:Int} {t:ByteArray} {l:List V} {e:Int} (h:∀ x ∈ l,x.dep ≤ n):(V.mk k m t l e).dep ≤ (n+1:Nat):=by
 rw [V.dep_eq]
 have:=deps_max l n h (by omega)
 show deps l 0+1 ≤ _
 omega
theorem wt_node (k m:Int) (l:List V) (e:Int):(V.mk k m ⟨#[]⟩ l e).wt = 1+wts l:=by rw [V.wt_eq];show 1+0 / 64+wts l = _;omega
theorem span_good {m c:Nat} {s:List UInt8} {v:V} {k:Nat} {rv:List UInt8 → Res} (hs:s.length ≤ maxLen) (hc:c / 16 = 12 ∨ c / 16 = 13) (hk:kindC c = 21 ∨ kindC c = 22) (hsm:smC c = true → wOf c = 1) (hr:∀ s v k,s.length ≤ maxLen → rv s = .ok (v,k) → GoodV m s v k) (h:withinR c (wOf c) (spanIn rv c) s = .ok (v,k)):GoodD (m+1) c s v k:=by
 have hw:=wOf_le c
 obtain ⟨n,hn,h1,h2,h3,h4,h5⟩:=within_inv h
 obtain ⟨q,hq⟩:∃ q,(s.drop (wOf c)).take n = q:=⟨_,rfl⟩
 rw [hq] at h4 h5
 obtain ⟨l,j,e1,e2,rfl,rfl,e3⟩:=span_inv h4
 have hd:(q.drop (wOf c)).length = n - wOf c:=by rw [List.length_drop];omega
 have hcb:beVal (q.take (wOf c)) < 256 ^ wOf c:=by
  have:=beVal_lt (q.take (wOf c))
  rwa [List.length_take,Nat.min_eq_left (by omega)] at this
 obtain ⟨a1,a2,a3,a4⟩:=els_all (Q:=fun x=>Right x∧x.dep ≤ m) (f:=V.wt) (L:=maxLen) (fun s v k hs e=>⟨(hr s v k hs e).le,⟨(hr s v k hs e).right,(hr s v k hs e).dep⟩,(hr s v k hs e).wt⟩) _ _ _ _ (by omega) e1
 obtain ⟨_,_,_,b4⟩:=els_all (Q:=fun x=>True) (f:=fun x=>(putV x).length) (L:=maxLen) (fun s v k hs e=>⟨(hr s v k hs e).le,trivial,(hr s v k hs e).len⟩) _ _ _ _ (by omega) e1
 have hi:(inn (.mk (kindC c) 0 ⟨#[]⟩ l 0)).length ≤ j:=by
  rw [inn_eq,if_neg (by show ¬ kindC c = 23;omega)]
  show (l.flatMap putV).length ≤ j
  rw [len_sum];exact b4
 rw [← wts_sum] at a4
 refine ⟨by omega,by omega,dep_node (fun x hx=>(a3 x hx).2),rfl,by rw [wt_node];omega,fun z=>?_,?_,?_⟩
 ·have hw1:=hsm z
  rw [hw1] at h3 hcb
  unfold smV smallV
  rw [if_pos (by show IsSp (kindC c);unfold IsSp;omega),spansB,decide_eq_true_eq]
  refine ⟨?_,by omega⟩
  show l.length ≤ 255
  rw [hw1] at a2
  omega
 ·rw [span_form (by omega),List.length_append,List.length_append,putL_length,putL_length]
  omega
 ·refine right_of ⟨by show 0 ≤ kindC c;omega,by show kindC c ≤ 24;omega,fun _=>rfl,fun _=>rfl,fun z=>?_,fun _=>rfl,?_,?_,fun z=>?_,fun z=>?_,fun z=>?_⟩ ⟨⟨?_,?_⟩,u64_0,Nat.zero_le _,i64_0⟩ (fun x hx=>(a3 x hx).1)
  ·have:hasP (kindC c) = true:=by unfold hasP;rw [decide_eq_true_eq];omega
   have z':hasP (kindC c) = false:=z
   rw [this] at z'
   cases z'
  ·show numOk (kindC c) 0 = true
   rcases hk with e|e <;> (rw [e];rfl)
  ·show textOk (kindC c) ⟨#[]⟩ = true
   rcases hk with e|e <;> (rw [e];rfl)
  ·obtain ⟨y1,y2,y3⟩:=e3 z
   show mapOk l = true
   unfold mapOk
   rw [decide_eq_true_eq,a2]
   exact ⟨y1,by omega,y3⟩
  ·have:kindC c = 23:=z
   omega
  ·have:kindC c = 24:=z
   omega
  ·show _ ≤ kindC c;omega
  ·show kindC c ≤ _;omega
theorem arr_good {m c:Nat} {s:List UInt8} {v:V} {k:Nat} {rd:Nat → List UInt8 → Res} (hs:s.length ≤ maxLen) (hc:c / 16 = 14 ∨ c / 16 = 15) (hk:kindC c = 23) (hsm:smC c = true → wOf c = 1) (hr:∀ c s v k,DatC c → s.length ≤ maxLen → rd c s = .ok (v,k) → GoodD m c s v k) (h:withinR c (wOf c+1) (arrIn rd c) s = .ok (v,k)):GoodD (m+1) c s v k:=by
 have hw:=wOf_le c
 obtain ⟨n,hn,h1,h2,h3,h4,h5⟩:=within_inv h
 obtain ⟨q,hq⟩:∃ q,(s.drop (wOf c)).take n = q:=⟨_,rfl⟩
 rw [hq] at h4 h5
 obtain ⟨l,j,c',hc',hdc,e1,e2,rfl,rfl⟩:=arr_inv h4
 obtain ⟨k1,k2,k3⟩:=datC_kind hdc
 have hd:(q.drop (wOf c+1)).length = n - (wOf c+1):=by rw [List.length_drop];omega
 have hcb:beVal (q.take (wOf c)) < 256 ^ wOf c:=by
  have:=beVal_lt (q.take (wOf c))
  rwa [List.length_take,Nat.min_eq_left (by omega)] at this
 have hr':∀ s v k,s.length ≤ maxLen → bareR rd c' s = .ok (v,k) → GoodD m c' s v k:=fun s v k hs e=>by
  unfold bareR at e
  cases hz:rd c' s with
  | error x=>rw [hz] at e;cases e
  | ok p =>
   rw [hz] at e
   simp only [Except.ok.injEq] at e
   subst e
   exact hr c' s v k hdc hs hz
 obtain ⟨a1,a2,a3,a4⟩:=els_all (Q:=fun x=>Right x∧x.dep ≤ m∧x.kind = kindC c'∧(smC c' = true → smV x = true)) (f:=V.wt) (L:=maxLen) (fun s v k hs e=>⟨(hr' s v k hs e).le,⟨(hr' s v k hs e).right,(hr' s v k hs e).dep,(hr' s v k hs e).kind,(hr' s v k hs e).sm⟩,(hr' s v k hs e).wt⟩) _ _ _ _ (by omega) e1
 obtain ⟨_,_,_,b4⟩:=els_all (Q:=fun x=>True) (f:=fun x=>(datV c' x).length) (L:=maxLen) (fun s v k hs e=>⟨(hr' s v k hs e).le,trivial,(hr' s v k hs e).len⟩) _ _ _ _ (by omega) e1
 have hu:uniC (.mk (kindC c) 0 ⟨#[]⟩ l (kindC c')) = codeK (kindC c') (l.all smV):=rfl
 have hle:∀ x,(datV (codeK (kindC c') (l.all smV)) x).length ≤ (datV c' x).length ∨ ¬ x ∈ l:=by
  intro x
  cases hsc:smC c' with
  | true =>
   by_cases hx:x ∈ l
   ·have hall:l.all smV = true:=List.all_eq_true.2 (fun y hy=>(a3 y hy).2.2.2 hsc)
    rw [hall]
    rw [hsc] at k3
    rw [k3]
    exact .inl (Nat.le_refl _)
   ·exact .inr hx
  | false =>
   rw [hsc] at k3
   have:=dat_mono (kindC c') k1 k2 (l.all smV) x
   rw [k3] at this
   exact .inl this
 have hsum:∀ l':List V,(∀ x ∈ l',x ∈ l) → (l'.map fun x=>(datV (codeK (kindC c') (l.all smV)) x).length).sum ≤ (l'.map fun x=>(datV c' x).length).sum:=by
  intro l'
  induction l' with
  | nil=>intro _;simp
  | cons a r ih =>
   intro hm
   have h1:=ih (fun x hx=>hm x (List.mem_cons_of_mem _ hx))
   rcases hle a with h2|h2
   ·simp only [List.map_cons,List.sum_cons];omega
   ·exact absurd (hm a (List.mem_cons_self ..)) h2
 have hi:(inn (.mk (kindC c) 0 ⟨#[]⟩ l (kindC c'))).length ≤ 1+j:=by
  rw [inn_eq,if_pos (by exact hk),List.length_cons,hu]
  show (l.flatMap (datV (codeK (kindC c') (l.all smV)))).length+1 ≤ 1+j
  rw [len_sum]
  have:=hsum l (fun x hx=>hx)
  omega
 rw [← wts_sum] at a4
 refine ⟨by omega,by omega,dep_node (fun x hx=>(a3 x hx).2.1),rfl,by rw [wt_node];omega,fun z=>?_,?_,?_⟩
 ·have hw1:=hsm z
  rw [hw1] at h3 hcb
  unfold smV smallV
  rw [if_pos (by show IsSp (kindC c);unfold IsSp;omega),spansB,decide_eq_true_eq]
  refine ⟨?_,by omega⟩
  show l.length ≤ 255
  rw [hw1] at a2
  omega
 ·rw [span_form (by omega),List.length_append,List.length_append,putL_length,putL_length]
  omega
 ·refine right_of ⟨by show 0 ≤ kindC c;omega,by show kindC c ≤ 24;omega,fun _=>rfl,fun _=>rfl,fun z=>?_,fun z=>absurd hk z,?_,?_,fun z=>?_,fun z=>?_,fun z=>?_⟩ ⟨⟨?_,?_⟩,u64_0,Nat.zero_le _,⟨?_,?_⟩⟩ (fun x hx=>(a3 x hx).1)
  ·have:hasP (kindC c) = true:=by unfold hasP;rw [decide_eq_true_eq];omega
   have z':hasP (kindC c) = false:=z
   rw [this] at z'
   cases z'
  ·show numOk (kindC c) 0 = true
   rw [hk];rfl
  ·show textOk (kindC c) ⟨#[]⟩ = true
   rw [hk];rfl
  ·have:kindC c = 22:=z
   omega
  ·unfold arrOk
   rw [decide_eq_true_eq]
   exact ⟨by show 0 < kindC c';omega,by show kindC c' < 24;omega,fun x hx=>(a3 x hx).2.2.1⟩
  ·have:kindC c = 24:=z
   omega
  ·show _ ≤ kindC c;omega
  ·show kindC c ≤ _;omega
  ·show _ ≤ kindC c';omega
  ·show kindC c' ≤ _;omega

/-! ### the readers -/
def DatGood (n:Nat):Prop:=∀ c s v k,DatC c → s.length ≤ maxLen → rdD n c s = .ok (v,k) → GoodD n c s v k
def ValGood (n:Nat):Prop:=∀ s v k,s.length ≤ maxLen → rdV n s = .ok (v,k) → GoodV n s v k
theorem datGood_succ {n:Nat} (hD:DatGood n) (hV:ValGood n):DatGood (n+1):=by
 intro c s v k hc hs h
 rw [rdD_succ] at h
 unfold datR at h
 have hm:=datC_mem hc
 by_cases a:c / 16 = 9
 ·rw [if_pos a] at h
  have hm:c = 148 ∨ c = 152:=by omega
  rcases hm with rfl|rfl <;> exact raw_good hs (by decide) (by decide) (by decide) h
 rw [if_neg a] at h
 by_cases b:c / 16 = 10 ∨ c / 16 = 11
 ·rw [if_pos b] at h
  have hm:c = 160 ∨ c = 176 ∨ c = 161 ∨ c = 177 ∨ c = 163 ∨ c = 179:=by omega
  rcases hm with rfl|rfl|rfl|rfl|rfl|rfl <;> exact text_good hs (by decide) (by decide) (by decide) h
 rw [if_neg b] at h
 by_cases d:c / 16 = 12 ∨ c / 16 = 13
 ·rw [if_pos d] at h
  have hm:c = 192 ∨ c = 208 ∨ c = 193 ∨ c = 209:=by omega
  rcases hm with rfl|rfl|rfl|rfl <;> exact span_good hs (by decide) (by decide) (by decide) hV h
 rw [if_neg d] at h
 by_cases e:c / 16 = 14 ∨ c / 16 = 15
 ·rw [if_pos e] at h
  have hm:c = 224 ∨ c = 240:=by omega
  rcases hm with rfl|rfl <;> exact arr_good hs (by decide) (by decide) (by decide) hD h
 rw [if_neg e] at h
 have hm:c = 86 ∨ c = 80 ∨ c = 96 ∨ c = 81 ∨ c = 97 ∨ c = 114 ∨ c = 130 ∨ c = 116 ∨ c = 132 ∨ c = 115 ∨ c = 131 ∨ c = 82 ∨ c = 112 ∨ c = 83 ∨ c = 128 ∨ c = 84 ∨ c = 113 ∨ c = 85 ∨ c = 129:=by omega
 rcases hm with rfl|rfl|rfl|rfl|rfl|rfl|rfl|rfl|rfl|rfl|rfl|rfl|rfl|rfl|rfl|rfl|rfl|rfl|rfl
 ·exact good_56 h
 ·exact good_50 h
 ·exact good_60 h
 ·exact good_51 h
 ·exact good_61 h
 ·exact good_72 h
 ·exact good_82 h
 ·exact good_74 h
 ·exact good_84 h
 ·exact good_73 h
 ·exact good_83 h
 ·exact good_52 h
 ·exact good_70 h
 ·exact good_53 h
 ·exact good_80 h
 ·exact good_54 h
 ·exact good_71 h
 ·exact good_55 h
 ·exact good_81 h
theorem lone_mem {c:Nat} (h:0 ≤ kindC c) (h2:c / 16 = 4):c = 0x40 ∨ c = 0x41 ∨ c = 0x42 ∨ c = 0x43 ∨ c = 0x44 ∨ c = 0x45:=by
 refine Decidable.byContradiction (fun hn=>?_)
 simp only [not_or] at hn
 unfold kindC at h
 rw [if_neg (by omega),if_neg (by omega),if_neg (by omega),if_neg (by omega),if_neg (by omega),if_neg (by omega),if_neg (by omega),if_neg (by omega),if_neg (by omega),if_neg (by omega),if_neg (by omega),if_neg (by omega),if_neg (by omega),if_neg (by omega),if_neg (by omega),if_neg (by omega),if_neg (by omega),if_neg (by omega),if_neg (by omega),if_neg (by omega),if_neg (by omega),if_neg (by omega),if_neg (by omega),if_neg (by omega),if_neg (by omega)] at h
 omega
theorem lone_good {n:Nat} {c:Nat} (h:0 ≤ kindC c) (h2:c / 16 = 4) {s:List UInt8} (hs:1 ≤ s.length):GoodV (n+1) s (.mk (kindC c) (if c = 0x41 then 1 else 0) ⟨#[]⟩ [] 0) 1:=by
 have hf:∀ (k m:Int) (c':Nat),loneC (.mk k m ⟨#[]⟩ [] 0) = some c' → 0 ≤ k → k ≤ 24 → (hasN k = false → m = 0) → numOk k m = true → textOk k ⟨#[]⟩ = true → k ≠ 22 → k ≠ 23 → k ≠ 24 → IsU64 m → GoodV (n+1) s (.mk k m ⟨#[]⟩ [] 0) 1:=by
  intro k m c' h1 k0 k1 hn ho ht n1 n2 n3 hu
  refine ⟨hs,Nat.le_refl _,by rw [dep_leaf];omega,by rw [wt_leaf];exact Nat.le_refl _,by rw [putV_eq,h1];exact Nat.le_refl _,right_of ⟨k0,k1,hn,fun _=>rfl,fun _=>rfl,fun _=>rfl,ho,ht,fun z=>absurd z n1,fun z=>absurd z n2,fun z=>absurd z n3⟩ ⟨⟨?_,?_⟩,hu,Nat.zero_le _,i64_0⟩ (fun x hx=>by cases hx)⟩
  ·show _ ≤ k;omega
  ·show k ≤ _;omega
 rcases lone_mem h h2 with rfl|rfl|rfl|rfl|rfl|rfl
 ·exact hf 0 0 64 rfl (by decide) (by decide) (by decide) (by decide) rfl (by decide) (by decide) (by decide) (by constructor <;> decide)
 ·exact hf 1 1 65 rfl (by decide) (by decide) (by decide) (by decide) rfl (by decide) (by decide) (by decide) (by constructor <;> decide)
 ·exact hf 1 0 66 rfl (by decide) (by decide) (by decide) (by decide) rfl (by decide) (by decide) (by decide) (by constructor <;> decide)
 ·exact hf 4 0 67 rfl (by decide) (by decide) (by decide) (by decide) rfl (by decide) (by decide) (by decide) (by constructor <;> decide)
 ·exact hf 5 0 68 rfl (by decide) (by decide) (by decide) (by decide) rfl (by decide) (by decide) (by decide) (by constructor <;> decide)
 ·exact hf 21 0 69 rfl (by decide) (by decide) (by decide) (by decide) rfl (by decide) (by decide) (by decide) (by constructor <;> decide)
theorem valGood_succ {n:Nat} (hD:DatGood (n+1)) (hV:ValGood n):ValGood (n+1):=by
 intro s v k hs h
 rw [rdV_succ] at h
 cases s with
 | nil=>cases h
 | cons x t =>
  simp only [List.length_cons] at hs
  rw [valR_cons] at h
  by_cases a:kindC x.toNat < 0
  ·rw [if_pos a] at h;cases h
  rw [if_neg a] at h
  by_cases b:x.toNat = 0
  ·rw [if_pos b] at h
   unfold pairR at h
   cases h1:rdV n t with
   | error e=>rw [h1] at h;cases h
   | ok p =>
    obtain ⟨d,k1⟩:=p
    rw [h1] at h
    simp only at h
    cases h2:rdV n (t.drop k1) with
    | error e=>rw [h2] at h;cases h
    | ok p =>
     obtain ⟨w,k2⟩:=p
     rw [h2] at h
     simp only [Except.ok.injEq,Prod.mk.injEq] at h
     obtain ⟨rfl,rfl⟩:=h
     have g1:=hV t d k1 (by omega) h1
     have g2:=hV (t.drop k1) w k2 (by rw [List.length_drop];omega) h2
     have q1:=g1.le
     have q2:=g2.le
     rw [List.length_drop] at q2
     have hl:∀ x ∈ [d,w],x = d ∨ x = w:=fun x hx=>by simpa using hx
     refine ⟨by simp only [List.length_cons];omega,by omega,dep_node (fun x hx=>?_),?_,?_,right_of ⟨by show (0:Int) ≤ 24;decide,Int.le_refl _,fun _=>rfl,fun _=>rfl,fun z=>absurd z (by show ¬ hasP 24 = false;decide),fun _=>rfl,rfl,rfl,fun z=>absurd z (by show ¬ (24:Int) = 22;decide),fun z=>absurd z (by show ¬ (24:Int) = 23;decide),fun _=>rfl⟩ ⟨⟨by show (-9223372036854775808:Int) ≤ 24;decide,by show (24:Int) ≤ 9223372036854775807;decide⟩,u64_0,Nat.zero_le _,i64_0⟩ (fun x hx=>?_)⟩
     ·rcases hl x hx with rfl|rfl
      ·exact g1.dep
      ·exact g2.dep
     ·rw [wt_node,wts,wts,wts]
      have:=g1.wt
      have:=g2.wt
      omega
     ·have e:inn (.mk 24 0 ⟨#[]⟩ [d,w] 0) = putV d ++ putV w:=by rw [inn_eq,if_neg (by show ¬ (24:Int) = 23;decide)];simp [putVs,V.list]
      rw [putV_eq]
      simp only [show loneC (V.mk 24 0 ⟨#[]⟩ [d,w] 0) = none from rfl]
      rw [if_pos (by rfl),e,List.length_cons,List.length_append]
      have:=g1.len
      have:=g2.len
      omega
     ·rcases hl x hx with rfl|rfl
      ·exact g1.right
      ·exact g2.right
  rw [if_neg b] at h
  by_cases d:x.toNat / 16 = 4
  ·rw [if_pos d] at h
   simp only [Except.ok.injEq,Prod.mk.injEq] at h
   obtain ⟨rfl,rfl⟩:=h
   exact lone_good (by omega) d (by simp)
  rw [if_neg d] at h
  have hdc:DatC x.toNat:=⟨by omega,b,d⟩
  cases h1:datR (rdV n) (rdD n) x.toNat t with
  | error e=>rw [h1] at h;cases h
  | ok p =>
   obtain ⟨w,k1⟩:=p
   rw [h1] at h
   simp only [Except.ok.injEq,Prod.mk.injEq] at h
   obtain ⟨rfl,rfl⟩:=h
   have g:=hD x.toNat t w k1 hdc (by omega) h1
   have gl:=g.le
   have gw:=g.wt
   refine ⟨by simp only [List.length_cons];omega,by omega,g.dep,by omega,?_,g.right⟩
   obtain ⟨c1,c2,c3⟩:=datC_kind hdc
   rw [putV_eq]
   cases hl:loneC w with
   | some c=>simp
   | none =>
    simp only
    rw [if_neg (by rw [g.kind];omega),List.length_cons,g.kind]
    have hg:=g.len
    cases hsm:smC x.toNat with
    | true =>
     rw [hsm] at c3
     rw [g.sm hsm,c3]
     omega
    | false =>
     rw [hsm] at c3
     have:=dat_mono (kindC x.toNat) c1 c2 (smV w) w
     rw [c3] at this
     omega
theorem valGood_zero:ValGood 0:=by
 intro s v k hs h
 cases s with
 | nil=>cases h
 | cons x t =>
  have h':deepR (x :: t) = .ok (v,k):=h
  rw [deepR_cons] at h'
  by_cases a:kindC x.toNat < 0
  ·rw [if_pos a] at h';cases h'
  ·rw [if_neg a] at h';cases h'
theorem both_good:∀ n:Nat,DatGood n∧ValGood n
 | 0=>⟨(fun c s v k _ _ h=>by cases h),valGood_zero⟩
 | n+1=>by
  obtain ⟨h1,h2⟩:=both_good n
  have h3:=datGood_succ h1 h2
  exact ⟨h3,valGood_succ h3 h2⟩
theorem read_good {s:List UInt8} {v:V} {k:Nat} (hs:s.length ≤ maxLen) (h:rdV 32 s = .ok (v,k)):GoodV 32 s v k:=(both_good 32).2 s v k hs h

/-! ### the bytes of a value alone -/
/-! ### apart -/

theorem right_iff {v:V} (hw:AllP V.Wf v 1):firstBad (v.pre 1) = 0 ↔ Right v∧v.dep ≤ 32:=by
 rw [check_law v 1 (by omega)]
 constructor
 ·rintro ⟨h1,h2⟩
  exact ⟨fun p hp=>⟨h1 p hp,hw p hp⟩,by omega⟩
 ·rintro ⟨h1,h2⟩
  exact ⟨h1.ok,by omega⟩
theorem vin_wf {w:World}:∀ (v:V) (s:Value),VIn w v s → AllP V.Wf v 1:=by
 refine V.ind (fun v ih s h=>?_)
 refine (allP_iff v 1).2 ⟨h.wf,fun x hx=>(allP_any x 1 2).1 ?_⟩
 obtain ⟨i,hi,rfl⟩:=List.getElem_of_mem hx
 obtain ⟨p,c,hs,h1,h2,h3⟩:=h.slice
 obtain ⟨b,o,rfl⟩:=h3 (by omega)
 obtain ⟨t,_,ht⟩:=h.part hs hi
 exact ih _ hx t ht
noncomputable def ansS (len:Int) (at_:Int):Res → V × Int × Int
 | .error .short=>(zeroV,len,10)
 | .error (.own e)=>(zeroV,at_,e.1)
 | .error (.pl r e)=>(zeroV,at_+r,e.1)
 | .ok (v,k)=>if 1048576 < k then (zeroV,at_,2) else (v,at_+k,0)
theorem decS_in {b:List UInt8} {n:Nat} (h:n ≤ b.length):decS b n = ansS b.length n (rdV 32 (b.drop n)):=by
 unfold decS
 rw [if_neg (by omega),show ((n:Nat):Int).toNat = n by omega]
 cases rdV 32 (b.drop n) with
 | error e=>cases e <;> rfl
 | ok p=>rfl
theorem decS_out {b:List UInt8} {at_:Int} (h:at_ < 0 ∨ (b.length:Int) < at_):decS b at_ = (zeroV,0,1):=by
 unfold decS
 rw [if_pos h]
theorem decS_good {b:List UInt8} {at_:Int} (hb:b.length ≤ maxLen) (h:(decS b at_).2.2 = 0):∃ n k:Nat,at_ = n∧n+k ≤ b.length∧1 ≤ k∧k ≤ 1048576∧(decS b at_).2.1 = (n:Int)+k∧rdV 32 (b.drop n) = .ok ((decS b at_).1,k)∧GoodV 32 (b.drop n) (decS b at_).1 k:=by
 by_cases a:at_ < 0 ∨ (b.length:Int) < at_
 ·rw [decS_out a] at h;simp at h
 ·obtain ⟨n,rfl⟩:∃ n:Nat,at_ = n:=⟨at_.toNat,by omega⟩
  have hn:n ≤ b.length:=by omega
  rw [decS_in hn] at h ⊢
  cases hr:rdV 32 (b.drop n) with
  | error e =>
   rw [hr] at h
   cases e with
   | short=>simp [ansS] at h
   | own e=>exact absurd h e.2
   | pl r e=>exact absurd h e.2
  | ok p =>
   obtain ⟨v,k⟩:=p
   rw [hr] at h
   unfold ansS at h
   simp only at h
   by_cases c:1048576 < k
   ·rw [if_pos c] at h;simp at h
   have hl:(b.drop n).length = b.length - n:=List.length_drop
   have g:=read_good (by omega) hr
   have gl:=g.le
   refine ⟨n,k,rfl,by omega,g.pos,by omega,?_,?_,?_⟩
   ·simp only [ansS,if_neg c]
   ·simp only [ansS,if_neg c];exact hr
   ·simp only [ansS,if_neg c];exact g
section
variable {v:V} (hv:Right v) (hd:v.dep ≤ 32) (hw:v.wt ≤ 2000000) (hl:(putV v).length ≤ 1048576)
include hv hd hw hl
end
end Go.Proofs.YtnnnfhobbnjmfaaGreatDoor
