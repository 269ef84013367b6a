/-
  Lemmas on the codec. Conditions: as each says.
-/
import Derived.Test.YtnnnfhobbnjmfaaGreatDoorEn07
import Derived.Test.YtnnnfhobbnjmfaaGreatDoorEn08
import Derived.Test.YtnnnfhobbnjmfaaGreatDoorEn01
namespace Go.Proofs.YtnnnfhobbnjmfaaGreatDoor
open Go.RowKit
set_option linter.all false

theorem firstBad_zero (L : List (Int × V)) : firstBad L = 0 ↔ ∀ p ∈ L, aloneC p.2 p.1 = 0 := by
  induction L with
  | nil => simp [firstBad]
  | cons a r ih =>
    obtain ⟨d, x⟩ := a
    rw [firstBad]
    by_cases h : aloneC x d = 0
    · rw [if_pos h, ih]
      constructor
      · intro q p hp
        rcases List.mem_cons.1 hp with rfl | hp
        · exact h
        · exact q p hp
      · intro q p hp
        exact q p (List.mem_cons_of_mem _ hp)
    · rw [if_neg h]
      constructor
      · intro q; exact (h q).elim
      · intro q; exact (h (q _ (List.mem_cons_self ..))).elim
theorem aloneC_iff (x : V) (d : Int) (hd : 1 ≤ d) : aloneC x d = 0 ↔ aloneC x 1 = 0 ∧ d ≤ 32 := by
  by_cases h0 : x.kind < 0
  · simp [aloneC, h0]
  · by_cases h1 : 24 < x.kind
    · simp [aloneC, h0, h1]
    · by_cases h2 : 32 < d
      · simp only [aloneC, if_neg h0, if_neg h1, if_pos h2]
        constructor
        · intro q; omega
        · intro q; omega
      · simp only [aloneC, if_neg h0, if_neg h1, if_neg h2, if_neg (show ¬ (32 : Int) < 1 by omega)]
        exact ⟨fun q => ⟨q, by omega⟩, fun q => q.1⟩
def AllOk (v : V) (d : Int) : Prop := ∀ p ∈ v.pre d, aloneC p.2 1 = 0
theorem mem_pres {l : List V} {d : Int} {p : Int × V} : p ∈ pres l d ↔ ∃ x ∈ l, p ∈ x.pre d := by
  induction l with
  | nil => simp [pres]
  | cons a r ih => simp [pres, ih]
theorem pre_depth : ∀ (v : V) (d : Int) (p : Int × V), p ∈ v.pre d → d ≤ p.1 ∧ p.1 ≤ d - 1 + v.dep := by
  refine V.ind (fun v ih d p hp => ?_)
  have hb := (dep_bd v).1
  rw [V.pre_eq] at hp
  rcases List.mem_cons.1 hp with rfl | hp
  · exact ⟨Int.le_refl _, by simp only; omega⟩
  · obtain ⟨x, hx, hp⟩ := mem_pres.1 hp
    have h1 := ih x hx _ _ hp
    have h2 : x.dep + 1 ≤ v.dep := by
      have key : ∀ (l : List V) (n : Int), 0 ≤ n → x ∈ l → x.dep ≤ deps l n := by
        intro l
        induction l with
        | nil => intro n _ h; cases h
        | cons a r ih2 =>
          intro n hn h
          rw [deps, deps_mono r _ (by have := (dep_bd a).1; omega)]
          rcases List.mem_cons.1 h with rfl | h
          · omega
          · have := ih2 0 (Int.le_refl _) h; omega
      have := key v.list 0 (Int.le_refl _) hx
      rw [v.dep_eq]
      omega
    omega
theorem allOk_iff (v : V) (d : Int) : AllOk v d ↔ aloneC v 1 = 0 ∧ ∀ x ∈ v.list, AllOk x (d + 1) := by
  unfold AllOk
  rw [V.pre_eq]
  constructor
  · intro h
    exact ⟨h (d, v) (List.mem_cons_self ..), fun x hx p hp => h p (List.mem_cons_of_mem _ (mem_pres.2 ⟨x, hx, hp⟩))⟩
  · rintro ⟨h1, h2⟩ p hp
    rcases List.mem_cons.1 hp with rfl | hp
    · exact h1
    · obtain ⟨x, hx, hp⟩ := mem_pres.1 hp
      exact h2 x hx p hp
theorem allOk_any : ∀ (v : V) (d e : Int), AllOk v d ↔ AllOk v e := by
  refine V.ind (fun v ih d e => ?_)
  rw [allOk_iff, allOk_iff]
  exact ⟨fun h => ⟨h.1, fun x hx => (ih x hx _ _).1 (h.2 x hx)⟩, fun h => ⟨h.1, fun x hx => (ih x hx _ _).1 (h.2 x hx)⟩⟩
theorem deps_max (l : List V) (n : Int) (h : ∀ x ∈ l, x.dep ≤ n) (hn : 0 ≤ n) : deps l 0 ≤ n := by
  induction l with
  | nil => rw [deps]; exact hn
  | cons a r ih =>
    rw [deps, deps_mono r _ (by have := (dep_bd a).1; omega)]
    have h1 := h a (List.mem_cons_self ..)
    have h2 := ih (fun x hx => h x (List.mem_cons_of_mem _ hx))
    omega
theorem pre_deepest : ∀ (v : V) (d n : Int), (∀ p ∈ v.pre d, p.1 ≤ n) → d - 1 + v.dep ≤ n := by
  refine V.ind (fun v ih d n h => ?_)
  rw [V.pre_eq] at h
  have h0 := h (d, v) (List.mem_cons_self ..)
  have h1 := deps_max v.list (n - d) (fun x hx => by
    have := ih x hx (d + 1) n (fun p hp => h p (List.mem_cons_of_mem _ (mem_pres.2 ⟨x, hx, hp⟩)))
    omega) (by simp only at h0; omega)
  rw [v.dep_eq]
  omega
theorem check_law (v : V) (d : Int) (hd : 1 ≤ d) : firstBad (v.pre d) = 0 ↔ AllOk v 1 ∧ d - 1 + v.dep ≤ 32 := by
  rw [firstBad_zero]
  constructor
  · intro h
    refine ⟨(allOk_any v 1 d).2 (fun p hp => ((aloneC_iff p.2 p.1 (by have := (pre_depth v d p hp).1; omega)).1 (h p hp)).1), pre_deepest v d 32 (fun p hp => ((aloneC_iff p.2 p.1 (by have := (pre_depth v d p hp).1; omega)).1 (h p hp)).2)⟩
  · rintro ⟨h1, h2⟩ p hp
    have h3 := pre_depth v d p hp
    exact (aloneC_iff p.2 p.1 (by omega)).2 ⟨(allOk_any v 1 d).1 h1 p hp, by omega⟩

/-! ### the constructors -/
def kindC (c : Nat) : Int :=
  if c = 0 then 24 else if c = 0x40 then 0 else if c = 0x41 ∨ c = 0x42 ∨ c = 0x56 then 1 else if c = 0x43 ∨ c = 0x52 ∨ c = 0x70 then 4 else if c = 0x44 ∨ c = 0x53 ∨ c = 0x80 then 5 else if c = 0x45 ∨ c = 0xc0 ∨ c = 0xd0 then 21
  else if c = 0x50 then 2 else if c = 0x60 then 3 else if c = 0x51 then 6 else if c = 0x61 then 7 else if c = 0x54 ∨ c = 0x71 then 8 else if c = 0x55 ∨ c = 0x81 then 9
  else if c = 0x72 then 10 else if c = 0x82 then 11 else if c = 0x73 then 15 else if c = 0x74 then 12 else if c = 0x83 then 16 else if c = 0x84 then 13 else if c = 0x94 then 14 else if c = 0x98 then 17
  else if c = 0xa0 ∨ c = 0xb0 then 18 else if c = 0xa1 ∨ c = 0xb1 then 19 else if c = 0xa3 ∨ c = 0xb3 then 20 else if c = 0xc1 ∨ c = 0xd1 then 22 else if c = 0xe0 ∨ c = 0xf0 then 23 else -1
def widC (c : Nat) : Nat := if c / 16 = 5 then 1 else if c / 16 = 6 then 2 else if c / 16 = 7 then 4 else if c / 16 = 8 then 8 else 16
def wOf (c : Nat) : Nat := if c / 16 % 2 = 0 then 1 else 4
def codeK (k : Int) (small : Bool) : Nat :=
  if k = 1 then 0x56 else if k = 2 then 0x50 else if k = 3 then 0x60 else if k = 6 then 0x51 else if k = 7 then 0x61 else if k = 10 then 0x72 else if k = 11 then 0x82 else if k = 12 then 0x74 else if k = 13 then 0x84 else if k = 15 then 0x73 else if k = 16 then 0x83
  else if k = 4 then (if small then 0x52 else 0x70) else if k = 5 then (if small then 0x53 else 0x80) else if k = 8 then (if small then 0x54 else 0x71) else if k = 9 then (if small then 0x55 else 0x81) else if k = 14 then 0x94 else if k = 17 then 0x98
  else if k = 18 then (if small then 0xa0 else 0xb0) else if k = 19 then (if small then 0xa1 else 0xb1) else if k = 20 then (if small then 0xa3 else 0xb3) else if k = 21 then (if small then 0xc0 else 0xd0) else if k = 22 then (if small then 0xc1 else 0xd1) else (if small then 0xe0 else 0xf0)
def smC (c : Nat) : Bool := decide (c = 0x52 ∨ c = 0x53 ∨ c = 0x54 ∨ c = 0x55 ∨ c = 0xa0 ∨ c = 0xa1 ∨ c = 0xa3 ∨ c = 0xc0 ∨ c = 0xc1 ∨ c = 0xe0)
def DatC (c : Nat) : Prop := 0 ≤ kindC c ∧ c ≠ 0 ∧ c / 16 ≠ 4
instance (c : Nat) : Decidable (DatC c) := by unfold DatC; infer_instance

/-! ### writing -/
def V.tb (v : V) : List UInt8 := v.text.data.toList
theorem V.tb_len (v : V) : v.tb.length = v.text.size := rfl
def narrowV (v : V) : Bool :=
  if v.kind = 4 ∨ v.kind = 5 then decide (v.num ≤ 255) else if v.kind = 8 ∨ v.kind = 9 then decide (-128 ≤ twoC v.num ∧ twoC v.num ≤ 127) else if v.kind = 18 ∨ v.kind = 19 ∨ v.kind = 20 then decide (v.text.size ≤ 255) else true
def loneC (v : V) : Option Nat :=
  if v.kind = 0 then some 0x40 else if v.kind = 1 ∧ v.num = 1 then some 0x41 else if v.kind = 1 then some 0x42 else if v.kind = 4 ∧ v.num = 0 then some 0x43 else if v.kind = 5 ∧ v.num = 0 then some 0x44 else if v.kind = 21 ∧ v.list = [] then some 0x45 else none
def datB (c : Nat) (v : V) (b : List UInt8) : List UInt8 :=
  if c / 16 = 9 then v.tb else if c / 16 = 10 ∨ c / 16 = 11 then putL v.text.size (wOf c) ++ v.tb
  else if 12 ≤ c / 16 then putL (wOf c + b.length) (wOf c) ++ (putL v.list.length (wOf c) ++ b) else putL v.num.toNat (widC c)
def spansB (n m : Nat) : Bool := decide (n ≤ 255 ∧ 1 + m ≤ 255)
def IsSp (k : Int) : Prop := k = 21 ∨ k = 22 ∨ k = 23
instance (k : Int) : Decidable (IsSp k) := by unfold IsSp; infer_instance
def smallV (v : V) (b : List UInt8) : Bool := if IsSp v.kind then spansB v.list.length b.length else narrowV v
def headB (v : V) (b : List UInt8) : List UInt8 :=
  match loneC v with
  | some c => [UInt8.ofNat c]
  | none => if v.kind = 24 then 0 :: b else UInt8.ofNat (codeK v.kind (smallV v b)) :: datB (codeK v.kind (smallV v b)) v b
def zipAll : List V → List (List UInt8) → Bool
  | v :: l, b :: bs => smallV v b && zipAll l bs
  | _, _ => true
def zipDat (c : Nat) : List V → List (List UInt8) → List UInt8
  | v :: l, b :: bs => datB c v b ++ zipDat c l bs
  | _, _ => []
def zipHead : List V → List (List UInt8) → List UInt8
  | v :: l, b :: bs => headB v b ++ zipHead l bs
  | _, _ => []
mutual
def inn : V → List UInt8
  | .mk k _ _ l e => if k = 23 then UInt8.ofNat (codeK e (zipAll l (inns l))) :: zipDat (codeK e (zipAll l (inns l))) l (inns l) else zipHead l (inns l)
def inns : List V → List (List UInt8)
  | [] => []
  | v :: r => inn v :: inns r
end
def putV (v : V) : List UInt8 := headB v (inn v)
def putVs (l : List V) : List UInt8 := l.flatMap putV
def datV (c : Nat) (v : V) : List UInt8 := datB c v (inn v)
def datVs (c : Nat) (l : List V) : List UInt8 := l.flatMap (datV c)
def smV (v : V) : Bool := smallV v (inn v)
theorem zipHead_eq (l : List V) : zipHead l (inns l) = putVs l := by
  induction l with
  | nil => rfl
  | cons a r ih => rw [inns, zipHead, ih]; rfl
theorem zipDat_eq (c : Nat) (l : List V) : zipDat c l (inns l) = datVs c l := by
  induction l with
  | nil => rfl
  | cons a r ih => rw [inns, zipDat, ih]; rfl
theorem zipAll_eq (l : List V) : zipAll l (inns l) = l.all smV := by
  induction l with
  | nil => rfl
  | cons a r ih => rw [inns, zipAll, ih]; rfl
def uniC (v : V) : Nat := codeK v.elem (v.list.all smV)
theorem inn_eq (v : V) : inn v = if v.kind = 23 then UInt8.ofNat (uniC v) :: datVs (uniC v) v.list else putVs v.list := by
  cases v with
  | mk k n t l e => rw [inn, zipHead_eq, zipAll_eq, zipDat_eq]; rfl
theorem putV_eq (v : V) : putV v = match loneC v with
  | some c => [UInt8.ofNat c]
  | none => if v.kind = 24 then 0 :: inn v else UInt8.ofNat (codeK v.kind (smV v)) :: datV (codeK v.kind (smV v)) v := rfl

/-! ### reading -/
def EC : Type := { n : Int // n ≠ 0 }
def ec (n : Int) (h : n ≠ 0 := by decide) : EC := ⟨n, h⟩
inductive Er where
  | short
  | own (e : EC)
  | pl (r : Nat) (e : EC)
def shiftE (k : Nat) : Er → Er
  | .short => .short
  | .own e => .own e
  | .pl r e => .pl (r + k) e
def spanE (k : Nat) : Er → Er
  | .short => .pl 0 (ec 32)
  | .own e => .own e
  | .pl r e => .pl (r + k) e
def headE : Er → Er
  | .short => .short
  | .own e => .pl 0 e
  | .pl r e => .pl (r + 1) e
def bareE : Er → Er
  | .short => .short
  | .own e => .pl 0 e
  | .pl r e => .pl r e
abbrev Res := Except Er (V × Nat)
def els (r : List UInt8 → Res) : Nat → List UInt8 → Except Er (List V × Nat)
  | 0, _ => .ok ([], 0)
  | n + 1, s => match r s with
    | .error e => .error e
    | .ok (v, k) => match els r n (s.drop k) with
      | .error e => .error (shiftE k e)
      | .ok (l, k2) => .ok (v :: l, k + k2)
def txB (s : List UInt8) : ByteArray := ⟨s.toArray⟩
def sgnW (k : Int) (w n : Nat) : Int := if (k = 6 ∨ k = 7 ∨ k = 8 ∨ k = 9) ∧ w < 8 ∧ 256 ^ w / 2 ≤ n then (n : Int) + 18446744073709551616 - (256 ^ w : Nat) else n
def isCh (n : Nat) : Bool := decide (n ≤ 1114111 ∧ (n < 55296 ∨ 57343 < n))
def fixedR (c : Nat) (s : List UInt8) : Res :=
  if s.length < widC c then .error .short else
  if c = 0x56 ∧ 1 < beVal (s.take (widC c)) then .error (.pl 0 (ec 31)) else
  if c = 0x73 ∧ isCh (beVal (s.take (widC c))) = false then .error (.pl 0 (ec 31)) else
  .ok (.mk (kindC c) (sgnW (kindC c) (widC c) (beVal (s.take (widC c)))) ⟨#[]⟩ [] 0, widC c)
def rawR (c : Nat) (s : List UInt8) : Res := if s.length < 16 then .error .short else .ok (.mk (kindC c) 0 (txB (s.take 16)) [] 0, 16)
def badT (k : Int) (t : ByteArray) : Int := if k = 19 then utf8S t else if k = 20 then asciiS t else -1
def textR (c : Nat) (s : List UInt8) : Res :=
  if s.length < wOf c then .error .short else
  if s.length < wOf c + beVal (s.take (wOf c)) then .error .short else
  if 0 ≤ badT (kindC c) (txB ((s.drop (wOf c)).take (beVal (s.take (wOf c))))) then .error (.pl (wOf c + (badT (kindC c) (txB ((s.drop (wOf c)).take (beVal (s.take (wOf c)))))).toNat) (ec 33)) else
  .ok (.mk (kindC c) 0 (txB ((s.drop (wOf c)).take (beVal (s.take (wOf c))))) [] 0, wOf c + beVal (s.take (wOf c)))
noncomputable def spanIn (rv : List UInt8 → Res) (c n : Nat) (q : List UInt8) : Res :=
  if kindC c = 22 ∧ beVal (q.take (wOf c)) % 2 ≠ 0 then .error (.own (ec 34)) else
  if kindC c = 22 ∧ 1024 < beVal (q.take (wOf c)) / 2 then .error (.own (ec 2)) else
  match els rv (beVal (q.take (wOf c))) (q.drop (wOf c)) with
  | .error e => .error (spanE (wOf c + wOf c) e)
  | .ok (l, k) => if wOf c + k < n then .error (.pl 0 (ec 32)) else if kindC c = 22 ∧ ¬ (evens l).Nodup then .error (.own (ec 34)) else .ok (.mk (kindC c) 0 ⟨#[]⟩ l 0, wOf c + n)
def bareR (rd : Nat → List UInt8 → Res) (c : Nat) (s : List UInt8) : Res := match rd c s with
  | .error e => .error (bareE e)
  | .ok x => .ok x
def arrIn (rd : Nat → List UInt8 → Res) (c n : Nat) (q : List UInt8) : Res :=
  let c' := ((q.drop (wOf c)).headD 0).toNat
  if kindC c' < 0 ∨ c' = 0 ∨ c' / 16 = 4 then .error (.pl (wOf c + wOf c) (ec 30)) else
  match els (bareR rd c') (beVal (q.take (wOf c))) (q.drop (wOf c + 1)) with
  | .error e => .error (spanE (wOf c + wOf c + 1) e)
  | .ok (l, k) => if wOf c + 1 + k < n then .error (.pl 0 (ec 32)) else .ok (.mk (kindC c) 0 ⟨#[]⟩ l (kindC c'), wOf c + n)
def withinR (c least : Nat) (rd : Nat → List UInt8 → Res) (s : List UInt8) : Res :=
  if s.length < wOf c then .error .short else
  if beVal (s.take (wOf c)) < least then .error (.pl 0 (ec 32)) else
  if s.length < wOf c + beVal (s.take (wOf c)) then .error .short else
  rd (beVal (s.take (wOf c))) ((s.drop (wOf c)).take (beVal (s.take (wOf c))))
noncomputable def datR (rv : List UInt8 → Res) (rd : Nat → List UInt8 → Res) (c : Nat) (s : List UInt8) : Res :=
  if c / 16 = 9 then rawR c s else if c / 16 = 10 ∨ c / 16 = 11 then textR c s else if c / 16 = 12 ∨ c / 16 = 13 then withinR c (wOf c) (spanIn rv c) s
  else if c / 16 = 14 ∨ c / 16 = 15 then withinR c (wOf c + 1) (arrIn rd c) s else fixedR c s
def pairR (rv : List UInt8 → Res) (t : List UInt8) : Res :=
  match rv t with
  | .error e => .error (shiftE 1 e)
  | .ok (d, k) => match rv (t.drop k) with
    | .error e => .error (shiftE (1 + k) e)
    | .ok (v, k2) => .ok (.mk 24 0 ⟨#[]⟩ [d, v] 0, 1 + k + k2)
noncomputable def valR (rv : List UInt8 → Res) (rd : Nat → List UInt8 → Res) : List UInt8 → Res
  | [] => .error .short
  | x :: t =>
    if kindC x.toNat < 0 then .error (.pl 0 (ec 30)) else if x.toNat = 0 then pairR rv t
    else if x.toNat / 16 = 4 then .ok (.mk (kindC x.toNat) (if x.toNat = 0x41 then 1 else 0) ⟨#[]⟩ [] 0, 1)
    else match datR rv rd x.toNat t with
      | .error e => .error (headE e)
      | .ok (v, k) => .ok (v, 1 + k)
theorem valR_cons (rv : List UInt8 → Res) (rd : Nat → List UInt8 → Res) (x : UInt8) (t : List UInt8) : valR rv rd (x :: t) = if kindC x.toNat < 0 then .error (.pl 0 (ec 30)) else if x.toNat = 0 then pairR rv t
    else if x.toNat / 16 = 4 then .ok (.mk (kindC x.toNat) (if x.toNat = 0x41 then 1 else 0) ⟨#[]⟩ [] 0, 1)
    else match datR rv rd x.toNat t with
      | .error e => .error (headE e)
      | .ok (v, k) => .ok (v, 1 + k) := rfl
def deepR : List UInt8 → Res
  | [] => .error .short
  | x :: t => if kindC x.toNat < 0 then .error (.pl 0 (ec 30)) else .error (.pl 0 (ec 26))
theorem deepR_cons (x : UInt8) (t : List UInt8) : deepR (x :: t) = if kindC x.toNat < 0 then .error (.pl 0 (ec 30)) else .error (.pl 0 (ec 26)) := rfl
noncomputable def lev : Nat → (List UInt8 → Res) × (Nat → List UInt8 → Res)
  | 0 => (deepR, fun _ _ => .error (.pl 0 (ec 26)))
  | n + 1 => (valR (lev n).1 (lev n).2, datR (lev n).1 (lev n).2)
noncomputable def rdV (n : Nat) : List UInt8 → Res := (lev n).1
noncomputable def rdD (n : Nat) : Nat → List UInt8 → Res := (lev n).2
theorem rdV_succ (n : Nat) : rdV (n + 1) = valR (rdV n) (rdD n) := rfl
theorem rdD_succ (n : Nat) : rdD (n + 1) = datR (rdV n) (rdD n) := rfl
def zeroV : V := .mk 0 0 ⟨#[]⟩ [] 0
noncomputable def decS (b : List UInt8) (at_ : Int) : V × Int × Int :=
  if at_ < 0 ∨ (b.length : Int) < at_ then (zeroV, 0, 1) else
  match rdV 32 (b.drop at_.toNat) with
  | .error .short => (zeroV, b.length, 10)
  | .error (.own e) => (zeroV, at_, e.1)
  | .error (.pl r e) => (zeroV, at_ + r, e.1)
  | .ok (v, k) => if 1048576 < k then (zeroV, at_, 2) else (v, at_ + k, 0)
noncomputable def wholeS (b : List UInt8) : V × Int × Int :=
  if (decS b 0).2.2 ≠ 0 then (zeroV, (decS b 0).2.1, (decS b 0).2.2) else if (decS b 0).2.1 < b.length then (zeroV, (decS b 0).2.1, 35) else ((decS b 0).1, 0, 0)
noncomputable def encS (v : V) : List UInt8 × Int :=
  if firstBad (v.pre 1) ≠ 0 then ([], firstBad (v.pre 1)) else if 1048576 < (putV v).length then ([], 2) else (putV v, 0)
noncomputable def shortestS (b : List UInt8) : Bool :=
  if (wholeS b).2.2 ≠ 0 then false else decide ((encS (wholeS b).1).2 = 0 ∧ (encS (wholeS b).1).1 = b)

theorem ite_lt {p : Prop} [Decidable p] {a b n : Nat} (ha : a < n) (hb : b < n) : (if p then a else b) < n := by split <;> assumption
theorem ite_le {p : Prop} [Decidable p] {a b n : Nat} (ha : a ≤ n) (hb : b ≤ n) : (if p then a else b) ≤ n := by split <;> assumption
theorem codeK_lt (k : Int) (s : Bool) : codeK k s < 256 := by
  unfold codeK
  repeat' apply ite_lt
  all_goals omega
theorem ofNat_toNat {c : Nat} (h : c < 256) : (UInt8.ofNat c).toNat = c := by simp; omega
structure Fields (v : V) : Prop where
  k0 : 0 ≤ v.kind
  k1 : v.kind ≤ 24
  num : hasN v.kind = false → v.num = 0
  text : hasT v.kind = false → v.text = ⟨#[]⟩
  list : hasP v.kind = false → v.list = []
  elem : v.kind ≠ 23 → v.elem = 0
  numOk : numOk v.kind v.num = true
  textOk : textOk v.kind v.text = true
  map : v.kind = 22 → mapOk v.list = true
  arr : v.kind = 23 → arrOk v = true
  pair : v.kind = 24 → v.list.length = 2
theorem fields_of {v : V} (h : aloneC v 1 = 0) : Fields v := by
  unfold aloneC at h
  by_cases a1 : v.kind < 0
  · rw [if_pos a1] at h; omega
  rw [if_neg a1] at h
  by_cases a2 : 24 < v.kind
  · rw [if_pos a2] at h; omega
  rw [if_neg a2, if_neg (by omega)] at h
  by_cases a3 : extraV v = true
  · rw [if_pos a3] at h; omega
  rw [if_neg a3] at h
  by_cases a4 : numOk v.kind v.num = false
  · rw [if_pos a4] at h; omega
  rw [if_neg a4] at h
  by_cases a5 : textOk v.kind v.text = false
  · rw [if_pos a5] at h; omega
  rw [if_neg a5] at h
  simp only [extraV, Bool.or_eq_true, Bool.and_eq_true, Bool.not_eq_true', decide_eq_true_eq, decide_eq_false_iff_not, not_or, not_and, Decidable.not_not, Nat.not_lt] at a3
  obtain ⟨⟨⟨b1, b2⟩, b3⟩, b4⟩ := a3
  refine ⟨by omega, by omega, fun q => b1 q, fun q => b2 q, fun q => List.length_eq_zero_iff.1 (by have := b3 q; omega), fun q => b4 q, by simpa using a4, by simpa using a5, fun q => ?_, fun q => ?_, fun q => ?_⟩
  · rw [if_pos q] at h
    by_cases c : mapOk v.list = false
    · rw [if_pos c] at h; omega
    · simpa using c
  · rw [if_neg (by omega), if_pos q] at h
    by_cases c : arrOk v = false
    · rw [if_pos c] at h; omega
    · simpa using c
  · rw [if_neg (by omega), if_neg (by omega), if_pos q] at h
    by_cases c : v.list.length = 2
    · exact c
    · rw [if_neg c] at h; omega
theorem of_fields {v : V} (f : Fields v) : aloneC v 1 = 0 := by
  unfold aloneC
  rw [if_neg (by have := f.k0; omega), if_neg (by have := f.k1; omega), if_neg (by omega), if_neg ?_, if_neg (by rw [f.numOk]; simp), if_neg (by rw [f.textOk]; simp)]
  · by_cases e : v.kind = 22
    · rw [if_pos e, if_neg (by rw [f.map e]; simp)]
    · rw [if_neg e]
      by_cases e : v.kind = 23
      · rw [if_pos e, if_neg (by rw [f.arr e]; simp)]
      · rw [if_neg e]
        by_cases e : v.kind = 24
        · rw [if_pos e, if_pos (f.pair e)]
        · rw [if_neg e]
  · simp only [extraV, Bool.or_eq_true, Bool.and_eq_true, Bool.not_eq_true', decide_eq_true_eq, decide_eq_false_iff_not, not_or, not_and, Decidable.not_not, Nat.not_lt]
    exact ⟨⟨⟨f.num, f.text⟩, fun q => by rw [f.list q]; exact Nat.le_refl _⟩, f.elem⟩
def AllP (P : V → Prop) (v : V) (d : Int) : Prop := ∀ p ∈ v.pre d, P p.2
theorem allP_iff {P : V → Prop} (v : V) (d : Int) : AllP P v d ↔ P v ∧ ∀ x ∈ v.list, AllP P x (d + 1) := by
  unfold AllP
  rw [V.pre_eq]
  constructor
  · intro h
    exact ⟨h (d, v) (List.mem_cons_self ..), fun x hx p hp => h p (List.mem_cons_of_mem _ (mem_pres.2 ⟨x, hx, hp⟩))⟩
  · rintro ⟨h1, h2⟩ p hp
    rcases List.mem_cons.1 hp with rfl | hp
    · exact h1
    · obtain ⟨x, hx, hp⟩ := mem_pres.1 hp
      exact h2 x hx p hp
theorem allP_any {P : V → Prop} : ∀ (v : V) (d e : Int), AllP P v d ↔ AllP P v e := by
  refine V.ind (fun v ih d e => ?_)
  rw [allP_iff, allP_iff]
  exact ⟨fun h => ⟨h.1, fun x hx => (ih x hx _ _).1 (h.2 x hx)⟩, fun h => ⟨h.1, fun x hx => (ih x hx _ _).1 (h.2 x hx)⟩⟩
def Right (v : V) : Prop := AllP (fun x => aloneC x 1 = 0 ∧ x.Wf) v 1
theorem Right.fields {v : V} (h : Right v) : Fields v := fields_of ((allP_iff v 1).1 h).1.1
theorem Right.wf {v : V} (h : Right v) : v.Wf := ((allP_iff v 1).1 h).1.2
theorem Right.part {v x : V} (h : Right v) (hx : x ∈ v.list) : Right x := (allP_any x 2 1).1 (((allP_iff v 1).1 h).2 x hx)
theorem right_of {v : V} (f : Fields v) (hw : v.Wf) (h : ∀ x ∈ v.list, Right x) : Right v := (allP_iff v 1).2 ⟨⟨of_fields f, hw⟩, fun x hx => (allP_any x 1 2).1 (h x hx)⟩
theorem Right.ok {v : V} (h : Right v) : AllOk v 1 := fun p hp => (h p hp).1

/-! ### how long it is -/
theorem widC_le (c : Nat) : widC c ≤ 16 := by
  unfold widC
  repeat' apply ite_le
  all_goals omega
theorem wOf_le (c : Nat) : wOf c ≤ 4 ∧ 1 ≤ wOf c := by unfold wOf; split <;> omega
theorem datB_len (c : Nat) (v : V) (b : List UInt8) : (datB c v b).length ≤ 16 + v.text.size + b.length := by
  have h1 := widC_le c
  have h2 := wOf_le c
  unfold datB
  split
  · rw [V.tb_len]; omega
  · split
    · rw [List.length_append, putL_length, V.tb_len]; omega
    · split
      · rw [List.length_append, List.length_append, putL_length, putL_length]; omega
      · rw [putL_length]; omega
theorem lens_le (f : V → List UInt8) (l : List V) (h : ∀ x ∈ l, (f x).length ≤ 81 * x.wt) : (l.flatMap f).length ≤ 81 * wts l := by
  induction l with
  | nil => simp [wts]
  | cons a r ih =>
    have h1 := h a (List.mem_cons_self ..)
    have h2 := ih (fun x hx => h x (List.mem_cons_of_mem _ hx))
    rw [List.flatMap_cons, List.length_append, wts]
    omega
theorem inn_len : ∀ v : V, (inn v).length ≤ 81 * wts v.list + 1 := by
  refine V.ind (fun v ih => ?_)
  have hd : ∀ c, ∀ x ∈ v.list, (datV c x).length ≤ 81 * x.wt := fun c x hx => by
    have h1 := ih x hx
    have h2 := datB_len c x (inn x)
    have h3 := x.wt_eq
    unfold datV
    omega
  have hp : ∀ x ∈ v.list, (putV x).length ≤ 81 * x.wt := fun x hx => by
    have h1 := ih x hx
    have h2 := datB_len (codeK x.kind (smV x)) x (inn x)
    have h3 := x.wt_eq
    rw [putV_eq]
    split
    · simp; omega
    · split
      · rw [List.length_cons]; omega
      · rw [List.length_cons]; unfold datV; omega
  rw [inn_eq]
  split
  · have := lens_le (datV (uniC v)) v.list (hd _)
    rw [List.length_cons]
    unfold datVs; omega
  · have := lens_le putV v.list hp
    unfold putVs; omega
theorem datV_len (c : Nat) (v : V) : (datV c v).length ≤ 81 * v.wt := by
  have h1 := inn_len v
  have h2 := datB_len c v (inn v)
  have h3 := v.wt_eq
  unfold datV; omega
theorem putV_len (v : V) : 1 ≤ (putV v).length ∧ (putV v).length ≤ 81 * v.wt := by
  have h1 := inn_len v
  have h2 := datB_len (codeK v.kind (smV v)) v (inn v)
  have h3 := v.wt_eq
  rw [putV_eq]
  split
  · simp; omega
  · split
    · rw [List.length_cons]; omega
    · rw [List.length_cons]; unfold datV; omega
theorem text_wt (v : V) : v.text.size < 64 * v.wt := by have := v.wt_eq; omega

/-! ### there and back -/
theorem span_form {c : Nat} {v : V} (hc : 12 ≤ c / 16) : datV c v = putL (wOf c + (inn v).length) (wOf c) ++ (putL v.list.length (wOf c) ++ inn v) := by
  unfold datV datB; rw [if_neg (by omega), if_neg (by omega), if_pos hc]

theorem codeK_kind (k : Int) (s : Bool) (h1 : 1 ≤ k) (h2 : k ≤ 23) : kindC (codeK k s) = k ∧ DatC (codeK k s) := by
  have hk : k = 1 ∨ k = 2 ∨ k = 3 ∨ k = 4 ∨ k = 5 ∨ k = 6 ∨ k = 7 ∨ k = 8 ∨ k = 9 ∨ k = 10 ∨ k = 11 ∨ k = 12 ∨ k = 13 ∨ k = 14 ∨ k = 15 ∨ k = 16 ∨ k = 17 ∨ k = 18 ∨ k = 19 ∨ k = 20 ∨ k = 21 ∨ k = 22 ∨ k = 23 := by omega
  rcases hk with rfl | rfl | rfl | rfl | rfl | rfl | rfl | rfl | rfl | rfl | rfl | rfl | rfl | rfl | rfl | rfl | rfl | rfl | rfl | rfl | rfl | rfl | rfl <;> cases s <;> decide
theorem inn_wt (v : V) : (inn v).length < 81 * v.wt := by have h1 := inn_len v; have h2 := v.wt_eq; omega
theorem list_wt (v : V) : v.list.length < v.wt := v.len_lt
theorem lone_form {v : V} {c : Nat} (hr : Right v) (h : loneC v = some c) : c < 256 ∧ ¬ kindC c < 0 ∧ c ≠ 0 ∧ c / 16 = 4 ∧ v = .mk (kindC c) (if c = 0x41 then 1 else 0) ⟨#[]⟩ [] 0 := by
  have f := hr.fields
  have hu := hr.wf.n.1
  unfold loneC at h
  by_cases a : v.kind = 0
  · rw [if_pos a, Option.some.injEq] at h
    subst h
    exact ⟨by decide, by decide, by decide, by decide, V.ext a (f.num (by rw [a]; decide)) (f.text (by rw [a]; decide)) (f.list (by rw [a]; decide)) (f.elem (by omega))⟩
  rw [if_neg a] at h
  by_cases a : v.kind = 1 ∧ v.num = 1
  · rw [if_pos a, Option.some.injEq] at h
    subst h
    obtain ⟨a, b⟩ := a
    exact ⟨by decide, by decide, by decide, by decide, V.ext a b (f.text (by rw [a]; decide)) (f.list (by rw [a]; decide)) (f.elem (by omega))⟩
  rw [if_neg a] at h
  have a1 := a
  by_cases a : v.kind = 1
  · rw [if_pos a, Option.some.injEq] at h
    subst h
    have hn := f.numOk
    rw [a] at hn
    simp [numOk] at hn
    exact ⟨by decide, by decide, by decide, by decide, V.ext a (show v.num = 0 by omega) (f.text (by rw [a]; decide)) (f.list (by rw [a]; decide)) (f.elem (by omega))⟩
  rw [if_neg a] at h
  by_cases a : v.kind = 4 ∧ v.num = 0
  · rw [if_pos a, Option.some.injEq] at h
    subst h
    obtain ⟨a, b⟩ := a
    exact ⟨by decide, by decide, by decide, by decide, V.ext a b (f.text (by rw [a]; decide)) (f.list (by rw [a]; decide)) (f.elem (by omega))⟩
  rw [if_neg a] at h
  by_cases a : v.kind = 5 ∧ v.num = 0
  · rw [if_pos a, Option.some.injEq] at h
    subst h
    obtain ⟨a, b⟩ := a
    exact ⟨by decide, by decide, by decide, by decide, V.ext a b (f.text (by rw [a]; decide)) (f.list (by rw [a]; decide)) (f.elem (by omega))⟩
  rw [if_neg a] at h
  by_cases a : v.kind = 21 ∧ v.list = []
  · rw [if_pos a, Option.some.injEq] at h
    subst h
    obtain ⟨a, b⟩ := a
    exact ⟨by decide, by decide, by decide, by decide, V.ext a (f.num (by rw [a]; decide)) (f.text (by rw [a]; decide)) b (f.elem (by omega))⟩
  rw [if_neg a] at h
  cases h
theorem lone_none {v : V} (h : loneC v = none) : v.kind ≠ 0 := by
  intro a
  unfold loneC at h
  rw [if_pos a] at h
  cases h
end Go.Proofs.YtnnnfhobbnjmfaaGreatDoor
