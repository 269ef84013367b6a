/-
  Lemmas on the codec. Conditions: as each says.
-/
import Derived.Test.YtnnnfhobbnjmfaaGreatDoorWn09
import Derived.Test.YtnnnfhobbnjmfaaGreatDoorWn10
import Derived.Test.YtnnnfhobbnjmfaaGreatDoorWn07
import Derived.Test.YtnnnfhobbnjmfaaGreatDoorWn04
namespace Go.Proofs.YtnnnfhobbnjmfaaGreatDoor
open Go.RowKit Go.Proofs.Tryz
set_option linter.all false
set_option maxHeartbeats 40000000
set_option maxRecDepth 20000

def fitN (v:V) (wd:Nat):Bool:=if sgnK v.kind then decide (sgnX wd (v.num.toNat % 256 ^ wd) = v.num) else decide (((v.num.toNat % 256 ^ wd:Nat):Int) = v.num)
def fitR (c:Nat) (v:V) (m:Nat):Bool :=
 if c = 0 ∨ c = 64 ∨ c / 16 = 9 then true else if c = 65 then decide (v.num = 1) else if c = 66 ∨ c = 67 ∨ c = 68 then decide (v.num = 0) else if c = 69 then decide (v.list = [])
 else if c / 16 = 10 ∨ c / 16 = 11 then decide (wOf c = 4 ∨ v.text.size ≤ 255) else if 12 ≤ c / 16 then decide (wOf c = 4 ∨ (v.list.length ≤ 255∧wOf c+m ≤ 255)) else fitN v (widC c)
def datX (c:Nat) (v:V) (b:List UInt8):List UInt8:=if c = 0 then b else if c / 16 = 4 then [] else datB c v b
def stepR (ok:Bool) (c:Nat) (d:List UInt8) (best:Int × List UInt8):Int × List UInt8:=if ok = true∧(best.1 < 0 ∨ d.length < best.2.length) then ((c:Int),d) else best
def bestR (v:V) (b:List UInt8) (cs:List Nat):Int × List UInt8:=cs.foldl (fun best c=>stepR (fitR c v b.length) c (datX c v b) best) (-1,[])
def allD (c:Nat) (l:List V):List UInt8:=l.flatMap (fun x=>datX c x (inn x))
def allF (c:Nat) (l:List V):Bool:=l.all (fun x=>fitR c x (inn x).length)
def uniR (l:List V) (cs:List Nat):Int × List UInt8:=cs.foldl (fun best c=>if widR c = 0 then best else stepR (allF c l) c (allD c l) best) (-1,[])

theorem num_toNat {v:V} (hw:v.Wf):(v.num.toNat:Int) = v.num:=by have h:=hw.n.1;omega
theorem fit_uns {v:V} (hw:v.Wf) {wd:Nat} (hs:sgnK v.kind = false) (h:v.num < (256 ^ wd:Nat)):fitN v wd = true:=by
 have e:=num_toNat hw
 unfold fitN
 rw [if_neg (by rw [hs];decide)]
 have:v.num.toNat % 256 ^ wd = v.num.toNat:=Nat.mod_eq_of_lt (by omega)
 rw [this]
 simpa using e
theorem fit_uns1 {v:V} (hw:v.Wf) (hs:sgnK v.kind = false):fitN v 1 = decide (v.num ≤ 255):=by
 have e:=num_toNat hw
 have h0:=hw.n.1
 unfold fitN
 rw [if_neg (by rw [hs];decide)]
 refine decide_eq_decide.2 ?_
 rw [show (256:Nat) ^ 1 = 256 from rfl]
 omega
theorem fit_sgn1 {v:V} (hw:v.Wf) (hs:sgnK v.kind = true):fitN v 1 = decide (-128 ≤ twoC v.num∧twoC v.num ≤ 127):=by
 have e:=num_toNat hw
 have h0:=hw.n.1
 have h1:=hw.n.2
 unfold fitN sgnX twoC
 rw [if_pos hs]
 refine decide_eq_decide.2 ?_
 simp only [show (256:Nat) ^ 1 = 256 from rfl]
 generalize v.num.toNat = m at e
 split <;> split <;> omega
theorem fit_sgn2 {v:V} (hw:v.Wf) (hs:sgnK v.kind = true) (h:within2 32768 v.num = true):fitN v 2 = true:=by
 have e:=num_toNat hw
 have h0:=hw.n.1
 have h1:=hw.n.2
 unfold within2 twoC at h
 simp only [decide_eq_true_eq] at h
 unfold fitN sgnX
 rw [if_pos hs]
 simp only [show (256:Nat) ^ 2 = 65536 from rfl,decide_eq_true_eq]
 generalize v.num.toNat = m at e
 split at h <;> split <;> omega
theorem fit_sgn4 {v:V} (hw:v.Wf) (hs:sgnK v.kind = true) (h:within2 2147483648 v.num = true):fitN v 4 = true:=by
 have e:=num_toNat hw
 have h0:=hw.n.1
 have h1:=hw.n.2
 unfold within2 twoC at h
 simp only [decide_eq_true_eq] at h
 unfold fitN sgnX
 rw [if_pos hs]
 simp only [show (256:Nat) ^ 4 = 4294967296 from rfl,decide_eq_true_eq]
 generalize v.num.toNat = m at e
 split at h <;> split <;> omega
theorem fit_sgn8 {v:V} (hw:v.Wf) (hs:sgnK v.kind = true):fitN v 8 = true:=by
 have e:=num_toNat hw
 have h0:=hw.n.1
 have h1:=hw.n.2
 unfold fitN sgnX
 rw [if_pos hs,if_neg (by omega)]
 simp only [show (256:Nat) ^ 8 = 18446744073709551616 from rfl,decide_eq_true_eq]
 omega
theorem fitR_num {c m:Nat} {v:V} (h1:5 ≤ c / 16) (h2:c / 16 ≤ 8):fitR c v m = fitN v (widC c):=by
 unfold fitR
 rw [if_neg (by omega),if_neg (by omega),if_neg (by omega),if_neg (by omega),if_neg (by omega),if_neg (by omega)]
theorem fitR_16 {c m:Nat} {v:V} (h1:c / 16 = 9):fitR c v m = true:=by unfold fitR;rw [if_pos (by omega)]
theorem fitR_text {c m:Nat} {v:V} (h1:c / 16 = 10 ∨ c / 16 = 11):fitR c v m = decide (wOf c = 4 ∨ v.text.size ≤ 255):=by
 unfold fitR
 rw [if_neg (by omega),if_neg (by omega),if_neg (by omega),if_neg (by omega),if_pos h1]
theorem fitR_span {c m:Nat} {v:V} (h1:12 ≤ c / 16):fitR c v m = decide (wOf c = 4 ∨ (v.list.length ≤ 255∧wOf c+m ≤ 255)):=by
 unfold fitR
 rw [if_neg (by omega),if_neg (by omega),if_neg (by omega),if_neg (by omega),if_neg (by omega),if_pos h1]
theorem datX_dat {c:Nat} (h:5 ≤ c / 16) (v:V) (b:List UInt8):datX c v b = datB c v b:=by
 unfold datX
 rw [if_neg (by omega),if_neg (by omega)]
theorem ite_hi {p:Prop} [Decidable p] {a b n:Nat} (ha:n ≤ a / 16) (hb:n ≤ b / 16):n ≤ (if p then a else b) / 16:=by split <;> assumption
theorem datB_len0 (c:Nat) (v:V) (b:List UInt8) (h:¬ c / 16 = 9) (h2:¬ (c / 16 = 10 ∨ c / 16 = 11)) (h3:¬ 12 ≤ c / 16):datB c v b = putL v.num.toNat (widC c):=by
 unfold datB;rw [if_neg h,if_neg h2,if_neg h3]
theorem codeK_hi (k:Int) (s:Bool):5 ≤ codeK k s / 16:=by
 unfold codeK
 repeat' apply ite_hi
 all_goals decide
theorem k_cases {k:Int} (h0:1 ≤ k) (h1:k ≤ 23):k = 1 ∨ k = 2 ∨ k = 3 ∨ k = 4 ∨ k = 5 ∨ k = 6 ∨ k = 7 ∨ k = 8 ∨ k = 9 ∨ k = 10 ∨ k = 11 ∨ k = 12 ∨ k = 13 ∨ k = 14 ∨ k = 15 ∨ k = 16 ∨ k = 17 ∨ k = 18 ∨ k = 19 ∨ k = 20 ∨ k = 21 ∨ k = 22 ∨ k = 23:=by omega
theorem nok {v:V} (f:Fields v) {k:Int} (hk:v.kind = k):numOk k v.num = true:=hk ▸ f.numOk
theorem fit_great {v:V} (f:Fields v) (hw:v.Wf) (h0:1 ≤ v.kind) (h1:v.kind ≤ 23) (m:Nat):fitR (codeK v.kind false) v m = true:=by
 have n0:=hw.n.1
 have n1:=hw.n.2
 rcases k_cases h0 h1 with hk|hk|hk|hk|hk|hk|hk|hk|hk|hk|hk|hk|hk|hk|hk|hk|hk|hk|hk|hk|hk|hk|hk
 all_goals
  have hn:=nok f hk
  have hs:sgnK v.kind = sgnK _:=congrArg sgnK hk
  rw [hk]
 ·exact (fitR_num (by decide) (by decide)).trans (fit_uns hw (hs.trans (by decide)) (by simp [numOk] at hn;show v.num < 256;omega))
 ·exact (fitR_num (by decide) (by decide)).trans (fit_uns hw (hs.trans (by decide)) (by simp [numOk] at hn;show v.num < 256;omega))
 ·exact (fitR_num (by decide) (by decide)).trans (fit_uns hw (hs.trans (by decide)) (by simp [numOk] at hn;show v.num < 65536;omega))
 ·exact (fitR_num (by decide) (by decide)).trans (fit_uns hw (hs.trans (by decide)) (by simp [numOk] at hn;show v.num < 4294967296;omega))
 ·exact (fitR_num (by decide) (by decide)).trans (fit_uns hw (hs.trans (by decide)) (by show v.num < 18446744073709551616;omega))
 ·exact (fitR_num (by decide) (by decide)).trans ((fit_sgn1 hw (hs.trans (by decide))).trans (by simp [numOk,within2] at hn;simp;omega))
 ·exact (fitR_num (by decide) (by decide)).trans (fit_sgn2 hw (hs.trans (by decide)) (by simpa [numOk] using hn))
 ·exact (fitR_num (by decide) (by decide)).trans (fit_sgn4 hw (hs.trans (by decide)) (by simpa [numOk] using hn))
 ·exact (fitR_num (by decide) (by decide)).trans (fit_sgn8 hw (hs.trans (by decide)))
 ·exact (fitR_num (by decide) (by decide)).trans (fit_uns hw (hs.trans (by decide)) (by simp [numOk] at hn;show v.num < 4294967296;omega))
 ·exact (fitR_num (by decide) (by decide)).trans (fit_uns hw (hs.trans (by decide)) (by show v.num < 18446744073709551616;omega))
 ·exact (fitR_num (by decide) (by decide)).trans (fit_uns hw (hs.trans (by decide)) (by simp [numOk] at hn;show v.num < 4294967296;omega))
 ·exact (fitR_num (by decide) (by decide)).trans (fit_uns hw (hs.trans (by decide)) (by show v.num < 18446744073709551616;omega))
 ·exact fitR_16 (by decide)
 ·exact (fitR_num (by decide) (by decide)).trans (fit_uns hw (hs.trans (by decide)) (by simp [numOk] at hn;show v.num < 4294967296;omega))
 ·exact (fitR_num (by decide) (by decide)).trans (fit_sgn8 hw (hs.trans (by decide)))
 ·exact fitR_16 (by decide)
 ·exact (fitR_text (by decide)).trans (by simp [codeK,wOf])
 ·exact (fitR_text (by decide)).trans (by simp [codeK,wOf])
 ·exact (fitR_text (by decide)).trans (by simp [codeK,wOf])
 ·exact (fitR_span (by decide)).trans (by simp [codeK,wOf])
 ·exact (fitR_span (by decide)).trans (by simp [codeK,wOf])
 ·exact (fitR_span (by decide)).trans (by simp [codeK,wOf])
theorem fit_small {v:V} (hw:v.Wf) (h0:1 ≤ v.kind) (h1:v.kind ≤ 23) (h2:codeK v.kind true ≠ codeK v.kind false) (b:List UInt8):fitR (codeK v.kind true) v b.length = smallV v b:=by
 rcases k_cases h0 h1 with hk|hk|hk|hk|hk|hk|hk|hk|hk|hk|hk|hk|hk|hk|hk|hk|hk|hk|hk|hk|hk|hk|hk
 all_goals
  have hs:sgnK v.kind = sgnK _:=congrArg sgnK hk
  rw [hk] at h2
  have hm:smallV v b = if IsSp v.kind then spansB v.list.length b.length else narrowV v:=rfl
  unfold narrowV at hm
  rw [hm,hk]
 all_goals first
  | exact absurd rfl h2
  | exact (fitR_num (by decide) (by decide)).trans (fit_uns1 hw (hs.trans (by decide)))
  | exact (fitR_num (by decide) (by decide)).trans (fit_sgn1 hw (hs.trans (by decide)))
  | exact (fitR_text (by decide)).trans (by simp [codeK,wOf,IsSp])
  | exact (fitR_span (by decide)).trans (by simp [codeK,wOf,IsSp,spansB])
theorem dat_short (v:V) (b:List UInt8) (h0:1 ≤ v.kind) (h1:v.kind ≤ 23):(datB (codeK v.kind true) v b).length ≤ (datB (codeK v.kind false) v b).length:=by
 rcases k_cases h0 h1 with hk|hk|hk|hk|hk|hk|hk|hk|hk|hk|hk|hk|hk|hk|hk|hk|hk|hk|hk|hk|hk|hk|hk
 all_goals
  rw [hk]
  simp [codeK,datB,wOf,widC,putL_length]
 all_goals omega
def codesW (k:Int):List Nat:=if codeK k true = codeK k false then [codeK k false] else [codeK k true,codeK k false]
theorem codes_tail {k:Int} (h0:1 ≤ k) (h1:k ≤ 23):∃ a:List Nat,codesL k.toNat = a ++ codesW k∧∀ c ∈ a,c / 16 = 4∧0 ≤ kindC c:=by
 rcases k_cases h0 h1 with rfl|rfl|rfl|rfl|rfl|rfl|rfl|rfl|rfl|rfl|rfl|rfl|rfl|rfl|rfl|rfl|rfl|rfl|rfl|rfl|rfl|rfl|rfl
 ·exact ⟨[65,66],rfl,by decide⟩
 ·exact ⟨[],rfl,by decide⟩
 ·exact ⟨[],rfl,by decide⟩
 ·exact ⟨[67],rfl,by decide⟩
 ·exact ⟨[68],rfl,by decide⟩
 all_goals first
  | exact ⟨[],rfl,by decide⟩
  | exact ⟨[69],rfl,by decide⟩
theorem fold_two (f1:Bool) (c1 c2:Nat) (d1 d2:List UInt8) (h:d1.length ≤ d2.length):stepR true c2 d2 (stepR f1 c1 d1 (-1,[])) = if f1 then ((c1:Int),d1) else ((c2:Int),d2):=by
 cases f1
 ·simp [stepR]
 simp [stepR];omega
theorem fold_W {k:Int} (h0:1 ≤ k) (h1:k ≤ 23) (sm:Bool) (f:Nat → Bool) (d:Nat → List UInt8) (hg:f (codeK k false) = true) (hs:codeK k true ≠ codeK k false → f (codeK k true) = sm) (hd:(d (codeK k true)).length ≤ (d (codeK k false)).length) :
  (codesW k).foldl (fun best c=>stepR (f c) c (d c) best) (-1,[]) = ((codeK k sm:Int),d (codeK k sm)):=by
 unfold codesW
 by_cases e:codeK k true = codeK k false
 ·rw [if_pos e]
  have:codeK k sm = codeK k false:=by
   cases sm
   ·rfl
   ·exact e
  rw [this]
  simp [stepR,hg]
 ·rw [if_neg e]
  show stepR (f (codeK k false)) _ _ (stepR (f (codeK k true)) _ _ (-1,[])) = _
  rw [hg,hs e,fold_two _ _ _ _ _ hd]
  cases sm <;> rfl
theorem best_W {v:V} (f:Fields v) (hw:v.Wf) (h0:1 ≤ v.kind) (h1:v.kind ≤ 23) (b:List UInt8) :
  (codesW v.kind).foldl (fun best c=>stepR (fitR c v b.length) c (datX c v b) best) (-1,[]) = ((codeK v.kind (smallV v b):Int),datB (codeK v.kind (smallV v b)) v b):=by
 rw [fold_W h0 h1 (smallV v b) (fun c=>fitR c v b.length) (fun c=>datX c v b) (fit_great f hw h0 h1 _) (fun h2=>fit_small hw h0 h1 h2 b) (by rw [datX_dat (codeK_hi _ _),datX_dat (codeK_hi _ _)];exact dat_short v b h0 h1)]
 rw [datX_dat (codeK_hi _ _)]
theorem fold_none {f:Nat → Bool} {d:Nat → List UInt8} {c:Nat}:∀ l:List Nat,l.foldl (fun best c=>stepR (f c) c (d c) best) ((c:Int),[]) = ((c:Int),[])
 | []=>rfl
 | x :: l=>by
  rw [List.foldl_cons,show stepR (f x) x (d x) ((c:Int),[]) = ((c:Int),[]) by simp [stepR];omega]
  exact fold_none l
theorem head_of {v:V} {b:List UInt8} (h1:loneC v = none) (h2:v.kind ≠ 24):headB v b = UInt8.ofNat (codeK v.kind (smallV v b)) :: datB (codeK v.kind (smallV v b)) v b:=by unfold headB;rw [h1];simp [h2]
theorem best_head {v:V} (f:Fields v) (hw:v.Wf) (b:List UInt8):∃ c:Nat,c < 256∧∃ d,bestR v b (codesL v.kind.toNat) = ((c:Int),d)∧headB v b = UInt8.ofNat c :: d:=by
 by_cases e0:v.kind = 0
 ·refine ⟨64,by decide,[],?_,?_⟩
  ·rw [e0];rfl
  ·unfold headB loneC;rw [if_pos e0]
 by_cases e24:v.kind = 24
 ·refine ⟨0,by decide,b,?_,?_⟩
  ·rw [e24];rfl
  ·unfold headB loneC;simp [e24]
 have h0:1 ≤ v.kind:=by have:=f.k0;omega
 have h1:v.kind ≤ 23:=by have:=f.k1;omega
 have hW:=best_W f hw h0 h1 b
 have lone:∀ (c:Nat) (a r:List Nat),codesL v.kind.toNat = a ++ c :: r → (∀ x ∈ a,fitR x v b.length = false) → fitR c v b.length = true → c / 16 = 4 → c < 256 → loneC v = some c → ∃ c:Nat,c < 256∧∃ d,bestR v b (codesL v.kind.toNat) = ((c:Int),d)∧headB v b = UInt8.ofNat c :: d:=by
  intro c a r hc ha hf h4 hlt hl
  refine ⟨c,hlt,[],?_,?_⟩
  ·unfold bestR
   rw [hc,List.foldl_append,List.foldl_cons]
   have hpre:∀ a:List Nat,(∀ x ∈ a,fitR x v b.length = false) → a.foldl (fun best c=>stepR (fitR c v b.length) c (datX c v b) best) (-1,[]) = (-1,[]):=by
    intro a
    induction a with
    | nil=>intro _;rfl
    | cons y l ih=>intro h;rw [List.foldl_cons,h y (List.mem_cons_self ..),show stepR false y (datX y v b) (-1,[]) = (-1,[]) by simp [stepR]];exact ih (fun x hx=>h x (List.mem_cons_of_mem _ hx))
   rw [hpre a ha,hf,show stepR true c (datX c v b) (-1,[]) = ((c:Int),[]) by unfold datX;rw [if_neg (by omega),if_pos h4];simp [stepR]]
   exact fold_none r
  ·unfold headB;rw [hl]
 have rest:loneC v = none → (∀ c,c ∈ codesL v.kind.toNat → c / 16 = 4 → fitR c v b.length = false) → ∃ c:Nat,c < 256∧∃ d,bestR v b (codesL v.kind.toNat) = ((c:Int),d)∧headB v b = UInt8.ofNat c :: d:=by
  intro hl hn
  refine ⟨codeK v.kind (smallV v b),codeK_lt _ _,datB (codeK v.kind (smallV v b)) v b,?_,head_of hl e24⟩
  obtain ⟨a,ha,hb⟩:=codes_tail h0 h1
  unfold bestR
  have hpre:∀ a:List Nat,(∀ x ∈ a,fitR x v b.length = false) → a.foldl (fun best c=>stepR (fitR c v b.length) c (datX c v b) best) (-1,[]) = (-1,[]):=by
   intro a
   induction a with
   | nil=>intro _;rfl
   | cons y l ih=>intro h;rw [List.foldl_cons,h y (List.mem_cons_self ..),show stepR false y (datX y v b) (-1,[]) = (-1,[]) by simp [stepR]];exact ih (fun x hx=>h x (List.mem_cons_of_mem _ hx))
  rw [ha,List.foldl_append,hpre a (fun x hx=>hn x (by rw [ha];exact List.mem_append_left _ hx) (hb x hx).1)]
  exact hW
 have hno:=f.numOk
 by_cases e1:v.kind = 1
 ·rw [e1] at hno
  have n0:=hw.n.1
  simp only [numOk,if_true,decide_eq_true_eq] at hno
  by_cases a:v.num = 1
  ·exact lone 65 [] [66,86] (by rw [e1];rfl) (by simp) (by simp [fitR,a]) rfl (by decide) (by simp [loneC,e1,a])
  ·exact lone 66 [65] [86] (by rw [e1];rfl) (by simp [fitR,a]) (by simp [fitR];omega) rfl (by decide) (by simp [loneC,e1,a])
 by_cases e4:v.kind = 4
 ·by_cases a:v.num = 0
  ·exact lone 67 [] [82,112] (by rw [e4];rfl) (by simp) (by simp [fitR,a]) rfl (by decide) (by simp [loneC,e4,a])
  ·refine rest (by simp [loneC,e4,a]) ?_
   rw [e4]
   intro c hc h4
   simp only [show codesL (4:Int).toNat = [67,82,112] from rfl,List.mem_cons,List.not_mem_nil,or_false] at hc
   rcases hc with rfl|rfl|rfl <;> first|omega|simp [fitR,a]
 by_cases e5:v.kind = 5
 ·by_cases a:v.num = 0
  ·exact lone 68 [] [83,128] (by rw [e5];rfl) (by simp) (by simp [fitR,a]) rfl (by decide) (by simp [loneC,e5,a])
  ·refine rest (by simp [loneC,e5,a]) ?_
   rw [e5]
   intro c hc h4
   simp only [show codesL (5:Int).toNat = [68,83,128] from rfl,List.mem_cons,List.not_mem_nil,or_false] at hc
   rcases hc with rfl|rfl|rfl <;> first|omega|simp [fitR,a]
 by_cases e21:v.kind = 21
 ·by_cases a:v.list = []
  ·exact lone 69 [] [192,208] (by rw [e21];rfl) (by simp) (by simp [fitR,a]) rfl (by decide) (by simp [loneC,e21,a])
  ·refine rest (by simp [loneC,e21,a]) ?_
   rw [e21]
   intro c hc h4
   simp only [show codesL (21:Int).toNat = [69,192,208] from rfl,List.mem_cons,List.not_mem_nil,or_false] at hc
   rcases hc with rfl|rfl|rfl <;> first|omega|simp [fitR,a]
 refine rest ?_ ?_
 ·unfold loneC
  rw [if_neg e0,if_neg (by omega),if_neg e1,if_neg (by omega),if_neg (by omega),if_neg (by rintro ⟨q,_⟩;exact e21 q)]
 ·intro c hc h4
  exfalso
  rcases k_cases h0 h1 with hk|hk|hk|hk|hk|hk|hk|hk|hk|hk|hk|hk|hk|hk|hk|hk|hk|hk|hk|hk|hk|hk|hk
  all_goals first
   | omega
   | (rw [hk] at hc
      revert c
      decide)
theorem allD_len {c1 c2:Nat}:∀ l:List V,(∀ x ∈ l,(datX c1 x (inn x)).length ≤ (datX c2 x (inn x)).length) → (allD c1 l).length ≤ (allD c2 l).length
 | [],_=>Nat.le_refl _
 | x :: l,h=>by
  have h1:=h x (List.mem_cons_self ..)
  have h2:=allD_len l (fun y hy=>h y (List.mem_cons_of_mem _ hy))
  unfold allD at h2 ⊢
  rw [List.flatMap_cons,List.flatMap_cons,List.length_append,List.length_append]
  omega
theorem allD_eq {c:Nat} (h:5 ≤ c / 16) (l:List V):allD c l = datVs c l:=by
 unfold allD datVs datV
 congr 1
 funext x
 exact datX_dat h _ _
theorem uni_head {v:V} (hr:Right v) (hk:v.kind = 23):uniR v.list (codesL v.elem.toNat) = ((uniC v:Int),datVs (uniC v) v.list)∧uniC v < 256:=by
 refine ⟨?_,codeK_lt _ _⟩
 have ha:=hr.fields.arr hk
 simp only [arrOk,decide_eq_true_eq] at ha
 have h0:1 ≤ v.elem:=by omega
 have h1:v.elem ≤ 23:=by omega
 have hal:=ha.2.2
 obtain ⟨a,hc,hb⟩:=codes_tail h0 h1
 unfold uniR
 rw [hc,List.foldl_append]
 have hpre:∀ a:List Nat,(∀ c ∈ a,c / 16 = 4∧0 ≤ kindC c) → a.foldl (fun best c=>if widR c = 0 then best else stepR (allF c v.list) c (allD c v.list) best) (-1,[]) = (-1,[]):=by
  intro a
  induction a with
  | nil=>intro _;rfl
  | cons y l ih=>intro h;rw [List.foldl_cons,if_pos (by unfold widR;rw [if_pos (h y (List.mem_cons_self ..)).1])];exact ih (fun x hx=>h x (List.mem_cons_of_mem _ hx))
 rw [hpre a hb]
 have hskip:∀ (l:List Nat) (s:Int × List UInt8),(∀ c ∈ l,widR c ≠ 0) → l.foldl (fun best c=>if widR c = 0 then best else stepR (allF c v.list) c (allD c v.list) best) s = l.foldl (fun best c=>stepR (allF c v.list) c (allD c v.list) best) s:=by
  intro l
  induction l with
  | nil=>intro s _;rfl
  | cons y l ih=>intro s h;rw [List.foldl_cons,List.foldl_cons,if_neg (h y (List.mem_cons_self ..))];exact ih _ (fun x hx=>h x (List.mem_cons_of_mem _ hx))
 have hw:∀ s,widR (codeK v.elem s) ≠ 0:=by
  intro s
  rcases k_cases h0 h1 with hk|hk|hk|hk|hk|hk|hk|hk|hk|hk|hk|hk|hk|hk|hk|hk|hk|hk|hk|hk|hk|hk|hk
  all_goals (rw [hk];cases s <;> decide)
 rw [hskip _ _ (by unfold codesW;intro c hc;split at hc <;> simp at hc <;> first|(subst hc;exact hw _)|(rcases hc with rfl|rfl <;> exact hw _))]
 have hx:∀ x ∈ v.list,x.kind = v.elem∧Fields x∧x.Wf:=fun x hx=>⟨hal x hx,(hr.part hx).fields,(hr.part hx).wf⟩
 have hd:=allD_len (c1:=codeK v.elem true) (c2:=codeK v.elem false) v.list (fun x q=>by
  obtain ⟨e,_,_⟩:=hx x q
  rw [datX_dat (codeK_hi _ _),datX_dat (codeK_hi _ _),← e]
  exact dat_short x (inn x) (by omega) (by omega))
 have hg:allF (codeK v.elem false) v.list = true:=by
  unfold allF
  rw [List.all_eq_true]
  intro x q
  obtain ⟨e,f,w⟩:=hx x q
  rw [← e]
  exact fit_great f w (by omega) (by omega) _
 have hs:codeK v.elem true ≠ codeK v.elem false → allF (codeK v.elem true) v.list = v.list.all smV:=by
  intro hne
  unfold allF
  have:∀ l:List V,(∀ x ∈ l,x ∈ v.list) → (l.all fun x=>fitR (codeK v.elem true) x (inn x).length) = l.all smV:=by
   intro l
   induction l with
   | nil=>intro _;rfl
   | cons y l ih =>
    intro h
    obtain ⟨e,f,w⟩:=hx y (h y (List.mem_cons_self ..))
    rw [List.all_cons,List.all_cons,ih (fun x q=>h x (List.mem_cons_of_mem _ q))]
    congr 1
    rw [← e] at hne ⊢
    exact fit_small w (by omega) (by omega) hne (inn y)
  exact this _ (fun _ h=>h)
 have hf:=fold_W h0 h1 (v.list.all smV) (fun c=>allF c v.list) (fun c=>allD c v.list) hg hs hd
 refine hf.trans ?_
 show ((uniC v:Int),allD (uniC v) v.list) = _
 rw [allD_eq (c:=uniC v) (codeK_hi _ _)]

attribute [local go_sem] Oper.semAt_some

theorem narrow_any (v:V) (w:World) (s:Value) (h:VIn w v s) :
  Calls prog 55 #[.agg #[.int .i64 v.kind,.int .u64 v.num,.string v.text,s,.int .i64 v.elem]] w fun e w'=>e = .returned (.bool (narrowV v))∧Below w.heap.size w w':=by
 have e:=wrap_twoC h.wf.n
 have HE:=zH e
 obtain ⟨n0,n1⟩:=h.wf.n
 clear h e
 go_enter func55,ntmps55
 go_upto_region 1 with fail
 obtain ⟨w0,x,hw,hx,HB0,HX,HOX,x0,x1,x2,-,-⟩:=bxV w v s
 rw [hw,hx]
 clear hw hx
 go_wp2_with fail
 all_goals
  go_ret
  refine ⟨ret_boolV ?_,HB0.out⟩
  unfold narrowV
  have e:=HE.out
  simp_all
  try omega
theorem lone_any (v:V) (w:World) (s:Value) (h:VIn w v s) :
  Calls prog 50 #[.agg #[.int .i64 v.kind,.int .u64 v.num,.string v.text,s,.int .i64 v.elem]] w fun e w'=>e = .returned (.tuple #[.int .u8 ((loneC v).getD 0:Nat),.bool (loneC v).isSome])∧Below w.heap.size w w':=by
 obtain ⟨p,c,hs,h1,h2,h3⟩:=h.slice
 obtain ⟨N,hN⟩:∃ N,v.list.length = N:=⟨_,rfl⟩
 rw [hN] at hs h1 h3
 subst hs
 have hl:v.list = [] ↔ N = 0:=by rw [← hN];exact List.length_eq_zero_iff.symm
 obtain ⟨D,hD⟩:∃ D,loneC v = D:=⟨_,rfl⟩
 rw [hD]
 unfold loneC at hD
 simp only [hl] at hD
 have HD:=zH hD
 clear h h1 h2 h3 hN hl hD
 go_enter func50,ntmps50
 go_upto_region 1 with fail
 obtain ⟨w0,x,hw,hx,HB0,HX,HOX,x0,x1,x2,x3,-⟩:=bxV w v (.slice p N c)
 rw [hw,hx]
 clear hw hx
 by_cases e0:v.kind = 0
 ·have hD:=HD.out
  rw [if_pos e0] at hD
  subst hD
  go_wp2_with fail
  go_ret2
  exact ⟨rfl,HB0.out⟩
 by_cases e1:v.kind = 1
 ·by_cases n1:v.num = 1
  ·have hD:=HD.out
   rw [if_neg e0,if_pos ⟨e1,n1⟩] at hD
   subst hD
   go_wp2_with fail
   go_ret2
   exact ⟨rfl,HB0.out⟩
  ·have hD:=HD.out
   rw [if_neg e0,if_neg (fun q=>n1 q.2),if_pos e1] at hD
   subst hD
   have n1':(v.num == 1) = false:=by simp [n1]
   go_wp2_with fail
   go_ret2
   exact ⟨rfl,HB0.out⟩
 by_cases e4:v.kind = 4
 ·by_cases n0:v.num = 0
  ·have hD:=HD.out
   rw [if_neg e0,if_neg (fun q=>e1 q.1),if_neg e1,if_pos ⟨e4,n0⟩] at hD
   subst hD
   go_wp2_with fail
   go_ret2
   exact ⟨rfl,HB0.out⟩
  ·have hD:=HD.out
   rw [if_neg e0,if_neg (fun q=>e1 q.1),if_neg e1,if_neg (fun q=>n0 q.2),if_neg (by omega),if_neg (by omega)] at hD
   subst hD
   have n0':(v.num == 0) = false:=by simp [n0]
   go_wp2_with fail
   go_ret2
   exact ⟨rfl,HB0.out⟩
 by_cases e5:v.kind = 5
 ·by_cases n0:v.num = 0
  ·have hD:=HD.out
   rw [if_neg e0,if_neg (fun q=>e1 q.1),if_neg e1,if_neg (fun q=>e4 q.1),if_pos ⟨e5,n0⟩] at hD
   subst hD
   go_wp2_with fail
   go_ret2
   exact ⟨rfl,HB0.out⟩
  ·have hD:=HD.out
   rw [if_neg e0,if_neg (fun q=>e1 q.1),if_neg e1,if_neg (fun q=>e4 q.1),if_neg (fun q=>n0 q.2),if_neg (by omega)] at hD
   subst hD
   have n0':(v.num == 0) = false:=by simp [n0]
   go_wp2_with fail
   go_ret2
   exact ⟨rfl,HB0.out⟩
 by_cases e21:v.kind = 21
 ·by_cases hN:N = 0
  ·have hD:=HD.out
   rw [if_neg e0,if_neg (fun q=>e1 q.1),if_neg e1,if_neg (fun q=>e4 q.1),if_neg (fun q=>e5 q.1),if_pos ⟨e21,hN⟩] at hD
   subst hD
   subst hN
   go_wp2_with fail
   go_ret2
   exact ⟨rfl,HB0.out⟩
  ·have hD:=HD.out
   rw [if_neg e0,if_neg (fun q=>e1 q.1),if_neg e1,if_neg (fun q=>e4 q.1),if_neg (fun q=>e5 q.1),if_neg (fun q=>hN q.2)] at hD
   subst hD
   have hN':((N:Int) == 0) = false:=by simp [hN]
   go_wp2_with fail
   go_ret2
   exact ⟨rfl,HB0.out⟩
 have hD:=HD.out
 rw [if_neg e0,if_neg (fun q=>e1 q.1),if_neg e1,if_neg (fun q=>e4 q.1),if_neg (fun q=>e5 q.1),if_neg (fun q=>e21 q.1)] at hD
 subst hD
 go_wp2_with fail
 go_ret2
 exact ⟨rfl,HB0.out⟩
def OneK (k:Int):Prop:=k = 1 ∨ k = 2 ∨ k = 3 ∨ k = 6 ∨ k = 7 ∨ k = 10 ∨ k = 11 ∨ k = 12 ∨ k = 13 ∨ k = 15 ∨ k = 16
theorem plain_one (k:Int) (w:World) (h:OneK k) :
  Calls prog 76 #[.int .i64 k] w fun e w'=>(∃ m:Int,e = .returned (.tuple #[.int .u8 (codeK k true:Nat),.int .i64 m])∧0 < m)∧w = w':=by
 unfold OneK at h
 rcases h with rfl|rfl|rfl|rfl|rfl|rfl|rfl|rfl|rfl|rfl|rfl
 ·have e:codeK 1 true = 86:=rfl
  rw [e]
  clear e
  go_enter func76,ntmps76
  go_wp2_with fail
  go_ret2
  exact ⟨⟨1,rfl,by omega⟩,rfl⟩
 ·have e:codeK 2 true = 80:=rfl
  rw [e]
  clear e
  go_enter func76,ntmps76
  go_wp2_with fail
  go_ret2
  exact ⟨⟨1,rfl,by omega⟩,rfl⟩
 ·have e:codeK 3 true = 96:=rfl
  rw [e]
  clear e
  go_enter func76,ntmps76
  go_wp2_with fail
  go_ret2
  exact ⟨⟨2,rfl,by omega⟩,rfl⟩
 ·have e:codeK 6 true = 81:=rfl
  rw [e]
  clear e
  go_enter func76,ntmps76
  go_wp2_with fail
  go_ret2
  exact ⟨⟨1,rfl,by omega⟩,rfl⟩
 ·have e:codeK 7 true = 97:=rfl
  rw [e]
  clear e
  go_enter func76,ntmps76
  go_wp2_with fail
  go_ret2
  exact ⟨⟨2,rfl,by omega⟩,rfl⟩
 ·have e:codeK 10 true = 114:=rfl
  rw [e]
  clear e
  go_enter func76,ntmps76
  go_wp2_with fail
  go_ret2
  exact ⟨⟨4,rfl,by omega⟩,rfl⟩
 ·have e:codeK 11 true = 130:=rfl
  rw [e]
  clear e
  go_enter func76,ntmps76
  go_wp2_with fail
  go_ret2
  exact ⟨⟨8,rfl,by omega⟩,rfl⟩
 ·have e:codeK 12 true = 116:=rfl
  rw [e]
  clear e
  go_enter func76,ntmps76
  go_wp2_with fail
  go_ret2
  exact ⟨⟨4,rfl,by omega⟩,rfl⟩
 ·have e:codeK 13 true = 132:=rfl
  rw [e]
  clear e
  go_enter func76,ntmps76
  go_wp2_with fail
  go_ret2
  exact ⟨⟨8,rfl,by omega⟩,rfl⟩
 ·have e:codeK 15 true = 115:=rfl
  rw [e]
  clear e
  go_enter func76,ntmps76
  go_wp2_with fail
  go_ret2
  exact ⟨⟨4,rfl,by omega⟩,rfl⟩
 have e:codeK 16 true = 131:=rfl
 rw [e]
 clear e
 go_enter func76,ntmps76
 go_wp2_with fail
 go_ret2
 exact ⟨⟨8,rfl,by omega⟩,rfl⟩
theorem plain_none (k:Int) (w:World) (h:¬ OneK k) :
  Calls prog 76 #[.int .i64 k] w fun e w'=>e = .returned (.tuple #[.int .u8 0,.int .i64 0])∧w = w':=by
 unfold OneK at h
 simp only [not_or] at h
 obtain ⟨h1,h2,h3,h6,h7,h10,h11,h12,h13,h15,h16⟩:=h
 go_enter func76,ntmps76
 go_wp2_with fail
 go_ret2
 exact ⟨rfl,rfl⟩
theorem pick_any (a b:Int) (q:Nat) (u:Bool) (w:World) (h:w.cell? ⟨q,0,none⟩ = some (.bool u)) :
  Calls prog 77 #[.int .u8 a,.int .u8 b,.pointer (some ⟨q,0,none⟩)] w fun e w'=>e = .returned (.int .u8 (if u then a else b))∧w = w':=by
 cases u
 all_goals
  go_enter func77,ntmps77
  go_wp2_with fail
  go_ret
  exact ⟨rfl,rfl⟩
theorem code_any (k:Int) (u:Bool) (w:World) :
  Calls prog 52 #[.int .i64 k,.bool u] w fun e w'=>e = .returned (.int .u8 (codeK k u:Nat))∧Below w.heap.size w w':=by
 have hmf:∀ (fn:Fn) (first cap:Array Value) (w:World),(Instr.makeFunc fn first cap).run prog w = .ok (.func fn first cap) w:=fun _ _ _ _=>rfl
 obtain ⟨D,hD⟩:∃ D,codeK k u = D:=⟨_,rfl⟩
 rw [hD]
 have HD:=zH hD
 clear hD
 go_enter func52,ntmps52
 go_upto_region 1 with fail
 have hb0:Below w.heap.size w (w.alloc (.cells #[.bool u] 4)):=((Below.refl _ _).alloc (Nat.le_refl _) _)
 have ox:=zN w (.cells #[.bool u] 4)
 generalize (w.alloc (.cells #[.bool u] 4)) = w0 at *
 obtain ⟨x,hx⟩:∃ x,w.heap.size = x:=⟨_,rfl⟩
 rw [hx] at ox ⊢
 have HB0:=zH hb0
 have hp:=fun a b=>pick_any a b x u w0 ((cell_of_row _ _ 0 _ _ _ ox).trans rfl)
 have HP:=zH hp
 clear hb0 ox hx hp
 by_cases h:OneK k
 ·have hc:=plain_one k w0 h
  have e:codeK k true = codeK k u:=by unfold OneK at h;rcases h with rfl|rfl|rfl|rfl|rfl|rfl|rfl|rfl|rfl|rfl|rfl <;> rfl
  rw [e,HD.out] at hc
  have HC:=zH hc
  clear h hc e
  go_wp2_with fail
  refine HC.out.mono ?_
  rintro e w1 ⟨⟨m,rfl,hm⟩,rfl⟩
  go_wp2_with fail
  go_ret
  exact ⟨rfl,HB0.out⟩
 have hc:=plain_none k w0 h
 have HC:=zH hc
 have HO:=zH h
 clear h hc
 go_wp2_with fail
 refine HC.out.mono ?_
 rintro e w1 ⟨rfl,rfl⟩
 by_cases e4:k = 4
 ·have hD:=HD.out
  rw [e4] at hD
  clear HD HO
  have hD2:(D:Int) = if u = true then (82:Int) else (112:Int):=by rw [← hD];cases u <;> rfl
  have HD2:=zH hD2
  clear hD hD2
  go_wp2_with fail
  refine (HP.out 82 112).mono ?_
  rintro e w1 ⟨rfl,rfl⟩
  rw [← HD2.out]
  clear HD2
  go_wp2_with fail
  go_ret
  exact ⟨rfl,HB0.out⟩
 by_cases e5:k = 5
 ·have hD:=HD.out
  rw [e5] at hD
  clear HD HO
  have hD2:(D:Int) = if u = true then (83:Int) else (128:Int):=by rw [← hD];cases u <;> rfl
  have HD2:=zH hD2
  clear hD hD2
  go_wp2_with fail
  refine (HP.out 83 128).mono ?_
  rintro e w1 ⟨rfl,rfl⟩
  rw [← HD2.out]
  clear HD2
  go_wp2_with fail
  go_ret
  exact ⟨rfl,HB0.out⟩
 by_cases e8:k = 8
 ·have hD:=HD.out
  rw [e8] at hD
  clear HD HO
  have hD2:(D:Int) = if u = true then (84:Int) else (113:Int):=by rw [← hD];cases u <;> rfl
  have HD2:=zH hD2
  clear hD hD2
  go_wp2_with fail
  refine (HP.out 84 113).mono ?_
  rintro e w1 ⟨rfl,rfl⟩
  rw [← HD2.out]
  clear HD2
  go_wp2_with fail
  go_ret
  exact ⟨rfl,HB0.out⟩
 by_cases e9:k = 9
 ·have hD:=HD.out
  rw [e9] at hD
  clear HD HO
  have hD2:(D:Int) = if u = true then (85:Int) else (129:Int):=by rw [← hD];cases u <;> rfl
  have HD2:=zH hD2
  clear hD hD2
  go_wp2_with fail
  refine (HP.out 85 129).mono ?_
  rintro e w1 ⟨rfl,rfl⟩
  rw [← HD2.out]
  clear HD2
  go_wp2_with fail
  go_ret
  exact ⟨rfl,HB0.out⟩
 by_cases e14:k = 14
 ·have hD:=HD.out
  rw [e14] at hD
  clear HD HO
  have hD2:(D:Int) = 148:=by rw [← hD];rfl
  have HD2:=zH hD2
  clear hD hD2
  go_wp2_with fail
  rw [HD2.out]
  go_ret
  exact ⟨rfl,HB0.out⟩
 by_cases e17:k = 17
 ·have hD:=HD.out
  rw [e17] at hD
  clear HD HO
  have hD2:(D:Int) = 152:=by rw [← hD];rfl
  have HD2:=zH hD2
  clear hD hD2
  go_wp2_with fail
  rw [HD2.out]
  go_ret
  exact ⟨rfl,HB0.out⟩
 by_cases e18:k = 18
 ·have hD:=HD.out
  rw [e18] at hD
  clear HD HO
  have hD2:(D:Int) = if u = true then (160:Int) else (176:Int):=by rw [← hD];cases u <;> rfl
  have HD2:=zH hD2
  clear hD hD2
  go_wp2_with fail
  refine (HP.out 160 176).mono ?_
  rintro e w1 ⟨rfl,rfl⟩
  rw [← HD2.out]
  clear HD2
  go_wp2_with fail
  go_ret
  exact ⟨rfl,HB0.out⟩
 by_cases e19:k = 19
 ·have hD:=HD.out
  rw [e19] at hD
  clear HD HO
  have hD2:(D:Int) = if u = true then (161:Int) else (177:Int):=by rw [← hD];cases u <;> rfl
  have HD2:=zH hD2
  clear hD hD2
  go_wp2_with fail
  refine (HP.out 161 177).mono ?_
  rintro e w1 ⟨rfl,rfl⟩
  rw [← HD2.out]
  clear HD2
  go_wp2_with fail
  go_ret
  exact ⟨rfl,HB0.out⟩
 by_cases e20:k = 20
 ·have hD:=HD.out
  rw [e20] at hD
  clear HD HO
  have hD2:(D:Int) = if u = true then (163:Int) else (179:Int):=by rw [← hD];cases u <;> rfl
  have HD2:=zH hD2
  clear hD hD2
  go_wp2_with fail
  refine (HP.out 163 179).mono ?_
  rintro e w1 ⟨rfl,rfl⟩
  rw [← HD2.out]
  clear HD2
  go_wp2_with fail
  go_ret
  exact ⟨rfl,HB0.out⟩
 by_cases e21:k = 21
 ·have hD:=HD.out
  rw [e21] at hD
  clear HD HO
  have hD2:(D:Int) = if u = true then (192:Int) else (208:Int):=by rw [← hD];cases u <;> rfl
  have HD2:=zH hD2
  clear hD hD2
  go_wp2_with fail
  refine (HP.out 192 208).mono ?_
  rintro e w1 ⟨rfl,rfl⟩
  rw [← HD2.out]
  clear HD2
  go_wp2_with fail
  go_ret
  exact ⟨rfl,HB0.out⟩
 by_cases e22:k = 22
 ·have hD:=HD.out
  rw [e22] at hD
  clear HD HO
  have hD2:(D:Int) = if u = true then (193:Int) else (209:Int):=by rw [← hD];cases u <;> rfl
  have HD2:=zH hD2
  clear hD hD2
  go_wp2_with fail
  refine (HP.out 193 209).mono ?_
  rintro e w1 ⟨rfl,rfl⟩
  rw [← HD2.out]
  clear HD2
  go_wp2_with fail
  go_ret
  exact ⟨rfl,HB0.out⟩
 have hD2:(D:Int) = if u = true then (224:Int) else (240:Int):=by
  rw [← HD.out]
  have hn:=HO.out
  unfold OneK at hn
  simp only [not_or] at hn
  obtain ⟨h1,h2,h3,h6,h7,h10,h11,h12,h13,h15,h16⟩:=hn
  unfold codeK
  rw [if_neg h1,if_neg h2,if_neg h3,if_neg h6,if_neg h7,if_neg h10,if_neg h11,if_neg h12,if_neg h13,if_neg h15,if_neg h16,if_neg e4,if_neg e5,if_neg e8,if_neg e9,if_neg e14,if_neg e17,if_neg e18,if_neg e19,if_neg e20,if_neg e21,if_neg e22]
  cases u <;> rfl
 have HD2:=zH hD2
 clear hD2 HD HO
 go_wp2_with fail
 refine (HP.out 224 240).mono ?_
 rintro e w1 ⟨rfl,rfl⟩
 rw [← HD2.out]
 clear HD2
 go_wp2_with fail
 go_ret
 exact ⟨rfl,HB0.out⟩
theorem width_any (c:Nat) (w:World) (hc:c < 256) :
  Calls prog 79 #[.int .u8 (c:Int)] w fun e w'=>e = .returned (.int .i64 (widC c:Nat))∧w = w':=by
 obtain ⟨D,hD⟩:∃ D,widC c = D:=⟨_,rfl⟩
 rw [hD]
 unfold widC at hD
 go_enter func79,ntmps79
 have HD:=zH hD
 clear hD
 by_cases e5:(c:Int) / 16 = 5
 ·have hD:=HD.out
  rw [if_pos (by omega)] at hD
  subst hD
  clear HD
  go_wp2_with fail
  go_ret
  exact ⟨rfl,rfl⟩
 by_cases e6:(c:Int) / 16 = 6
 ·have hD:=HD.out
  rw [if_neg (by omega),if_pos (by omega)] at hD
  subst hD
  clear HD
  go_wp2_with fail
  go_ret
  exact ⟨rfl,rfl⟩
 by_cases e7:(c:Int) / 16 = 7
 ·have hD:=HD.out
  rw [if_neg (by omega),if_neg (by omega),if_pos (by omega)] at hD
  subst hD
  clear HD
  go_wp2_with fail
  go_ret
  exact ⟨rfl,rfl⟩
 by_cases e8:(c:Int) / 16 = 8
 ·have hD:=HD.out
  rw [if_neg (by omega),if_neg (by omega),if_neg (by omega),if_pos (by omega)] at hD
  subst hD
  clear HD
  go_wp2_with fail
  go_ret
  exact ⟨rfl,rfl⟩
 have hD:=HD.out
 rw [if_neg (by omega),if_neg (by omega),if_neg (by omega),if_neg (by omega)] at hD
 subst hD
 clear HD
 go_wp2_with fail
 go_ret
 exact ⟨rfl,rfl⟩
theorem spans_any (v:V) (w:World) (s:Value) (h:VIn w v s) (q:Option Addr) (m cc:Nat) (hm:(m:Int) <= 1000000000000) :
  Calls prog 53 #[.agg #[.int .i64 v.kind,.int .u64 v.num,.string v.text,s,.int .i64 v.elem],.slice q m cc] w fun e w'=>e = .returned (.bool (spansB v.list.length m))∧Below w.heap.size w w':=by
 obtain ⟨p,c,hs,h1,h2,h3⟩:=h.slice
 obtain ⟨N,hN⟩:∃ N,v.list.length = N:=⟨_,rfl⟩
 rw [hN] at hs h1 h3 ⊢
 subst hs
 clear h h1 h2 h3 hN
 have hD:(decide ((N:Int) <= 255) && decide (1+(m:Int) <= 255)) = spansB N m:=by
  unfold spansB
  rw [Bool.eq_iff_iff]
  simp only [Bool.and_eq_true,decide_eq_true_eq]
  omega
 have HD:=zH hD
 clear hD
 go_enter func53,ntmps53
 go_upto_region 1 with fail
 obtain ⟨w0,x,hw,hx,HB0,HX,HOX,-,-,-,x3,-⟩:=bxV w v (.slice p N c)
 rw [hw,hx]
 clear hw hx
 by_cases h1:(N:Int) <= 255
 ·go_wp2_with fail
  go_ret
  refine ⟨ret_boolV ?_,HB0.out⟩
  rw [← HD.out]
  simp [h1]
 have h1':decide ((N:Int) <= 255) = false:=by simp;omega
 go_wp2_with fail
 go_ret
 refine ⟨ret_boolV ?_,HB0.out⟩
 rw [← HD.out]
 simp [h1']
end Go.Proofs.YtnnnfhobbnjmfaaGreatDoor
