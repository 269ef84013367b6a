/-
  What was written is read as it was. Plain lemmas. No conditions but that the value is right and no greater than a million.
  Contracts of octet.Put and octet.Get: what each returns for every argument, in every world. Conditions: a slice of bytes lies in memory.
  A block of bytes of the call's own, known whole: reading, writing, copying. They speak of no program. No conditions.
  Appending onto rows of the call's own, with what is known of the row's block: the same, or a new one. They speak of no program. No conditions.
-/
import Derived.Test.YtjipennigjlklaaDoorMg16
import Derived.Test.YtjipennigjlklaaDoorMg01
import Derived.Test.YtjipennigjlklaaDoorRows
import Derived.Laws.CopyOwn
import Derived.Deep.Draws
namespace Go.Proofs.YtjipennigjlklaaDoor
open Go.RowKit
set_option linter.unusedVariables false

theorem ite_lt {p : Prop} [Decidable p] {a b n : Nat} (ha : a < n) (hb : b < n) : (if p then a else b) < n := by split <;> assumption
theorem ite_le {p : Prop} [Decidable p] {a b n : Nat} (ha : a ≤ n) (hb : b ≤ n) : (if p then a else b) ≤ n := by split <;> assumption
theorem codeK_lt (k : Int) (s : Bool) : codeK k s < 256 := by
  unfold codeK
  repeat' apply ite_lt
  all_goals omega
theorem ofNat_toNat {c : Nat} (h : c < 256) : (UInt8.ofNat c).toNat = c := by simp; omega
theorem dep_in {v x : V} (hx : x ∈ v.list) : x.dep + 1 ≤ v.dep := by
  have key : ∀ (l : List V) (n : Int), x ∈ l → x.dep ≤ deps l n := by
    intro l
    induction l with
    | nil => intro n h; cases h
    | cons a r ih =>
      intro n h
      rw [deps]
      rcases List.mem_cons.1 h with rfl | h
      · have mono : ∀ (l : List V) (n : Int), n ≤ deps l n := by
          intro l
          induction l with
          | nil => intro n; rw [deps]; exact Int.le_refl _
          | cons b s ih2 => intro n; rw [deps]; have := ih2 (max n b.dep); omega
        have := mono r (max n x.dep); omega
      · exact ih _ h
  have := key v.list 0 hx
  rw [v.dep_eq]; omega
structure Fields (v : V) : Prop where
  k0 : 0 ≤ v.kind
  k1 : v.kind ≤ 24
  num : hasN v.kind = false → v.num = 0
  text : hasT v.kind = false → v.text = ⟨#[]⟩
  list : hasP v.kind = false → v.list = []
  elem : v.kind ≠ 23 → v.elem = 0
  numOk : numOk v.kind v.num = true
  textOk : textOk v.kind v.text = true
  map : v.kind = 22 → mapOk v.list = true
  arr : v.kind = 23 → arrOk v = true
  pair : v.kind = 24 → v.list.length = 2
theorem fields_of {v : V} (h : aloneC v 1 = 0) : Fields v := by
  unfold aloneC at h
  by_cases a1 : v.kind < 0
  · rw [if_pos a1] at h; omega
  rw [if_neg a1] at h
  by_cases a2 : 24 < v.kind
  · rw [if_pos a2] at h; omega
  rw [if_neg a2, if_neg (by omega)] at h
  by_cases a3 : extraV v = true
  · rw [if_pos a3] at h; omega
  rw [if_neg a3] at h
  by_cases a4 : numOk v.kind v.num = false
  · rw [if_pos a4] at h; omega
  rw [if_neg a4] at h
  by_cases a5 : textOk v.kind v.text = false
  · rw [if_pos a5] at h; omega
  rw [if_neg a5] at h
  simp only [extraV, Bool.or_eq_true, Bool.and_eq_true, Bool.not_eq_true', decide_eq_true_eq, decide_eq_false_iff_not, not_or, not_and, Decidable.not_not, Nat.not_lt] at a3
  obtain ⟨⟨⟨b1, b2⟩, b3⟩, b4⟩ := a3
  refine ⟨by omega, by omega, fun q => b1 q, fun q => b2 q, fun q => List.length_eq_zero_iff.1 (by have := b3 q; omega), fun q => b4 q, by simpa using a4, by simpa using a5, fun q => ?_, fun q => ?_, fun q => ?_⟩
  · rw [if_pos q] at h
    by_cases c : mapOk v.list = false
    · rw [if_pos c] at h; omega
    · simpa using c
  · rw [if_neg (by omega), if_pos q] at h
    by_cases c : arrOk v = false
    · rw [if_pos c] at h; omega
    · simpa using c
  · rw [if_neg (by omega), if_neg (by omega), if_pos q] at h
    by_cases c : v.list.length = 2
    · exact c
    · rw [if_neg c] at h; omega
theorem of_fields {v : V} (f : Fields v) : aloneC v 1 = 0 := by
  unfold aloneC
  rw [if_neg (by have := f.k0; omega), if_neg (by have := f.k1; omega), if_neg (by omega), if_neg ?_, if_neg (by rw [f.numOk]; simp), if_neg (by rw [f.textOk]; simp)]
  · by_cases e : v.kind = 22
    · rw [if_pos e, if_neg (by rw [f.map e]; simp)]
    · rw [if_neg e]
      by_cases e : v.kind = 23
      · rw [if_pos e, if_neg (by rw [f.arr e]; simp)]
      · rw [if_neg e]
        by_cases e : v.kind = 24
        · rw [if_pos e, if_pos (f.pair e)]
        · rw [if_neg e]
  · simp only [extraV, Bool.or_eq_true, Bool.and_eq_true, Bool.not_eq_true', decide_eq_true_eq, decide_eq_false_iff_not, not_or, not_and, Decidable.not_not, Nat.not_lt]
    exact ⟨⟨⟨f.num, f.text⟩, fun q => by rw [f.list q]; exact Nat.le_refl _⟩, f.elem⟩
def AllP (P : V → Prop) (v : V) (d : Int) : Prop := ∀ p ∈ v.pre d, P p.2
theorem allP_iff {P : V → Prop} (v : V) (d : Int) : AllP P v d ↔ P v ∧ ∀ x ∈ v.list, AllP P x (d + 1) := by
  unfold AllP
  rw [V.pre_eq]
  constructor
  · intro h
    exact ⟨h (d, v) (List.mem_cons_self ..), fun x hx p hp => h p (List.mem_cons_of_mem _ (mem_pres.2 ⟨x, hx, hp⟩))⟩
  · rintro ⟨h1, h2⟩ p hp
    rcases List.mem_cons.1 hp with rfl | hp
    · exact h1
    · obtain ⟨x, hx, hp⟩ := mem_pres.1 hp
      exact h2 x hx p hp
theorem allP_any {P : V → Prop} : ∀ (v : V) (d e : Int), AllP P v d ↔ AllP P v e := by
  refine V.ind (fun v ih d e => ?_)
  rw [allP_iff, allP_iff]
  exact ⟨fun h => ⟨h.1, fun x hx => (ih x hx _ _).1 (h.2 x hx)⟩, fun h => ⟨h.1, fun x hx => (ih x hx _ _).1 (h.2 x hx)⟩⟩
def Right (v : V) : Prop := AllP (fun x => aloneC x 1 = 0 ∧ x.Wf) v 1
theorem Right.fields {v : V} (h : Right v) : Fields v := fields_of ((allP_iff v 1).1 h).1.1
theorem Right.wf {v : V} (h : Right v) : v.Wf := ((allP_iff v 1).1 h).1.2
theorem Right.part {v x : V} (h : Right v) (hx : x ∈ v.list) : Right x := (allP_any x 2 1).1 (((allP_iff v 1).1 h).2 x hx)
theorem right_of {v : V} (f : Fields v) (hw : v.Wf) (h : ∀ x ∈ v.list, Right x) : Right v := (allP_iff v 1).2 ⟨⟨of_fields f, hw⟩, fun x hx => (allP_any x 1 2).1 (h x hx)⟩
theorem Right.ok {v : V} (h : Right v) : AllOk v 1 := fun p hp => (h p hp).1

/-! ### how long it is -/
theorem widC_le (c : Nat) : widC c ≤ 16 := by
  unfold widC
  repeat' apply ite_le
  all_goals omega
theorem wOf_le (c : Nat) : wOf c ≤ 4 ∧ 1 ≤ wOf c := by unfold wOf; split <;> omega
theorem datB_len (c : Nat) (v : V) (b : List UInt8) : (datB c v b).length ≤ 16 + v.text.size + b.length := by
  have h1 := widC_le c
  have h2 := wOf_le c
  unfold datB
  split
  · rw [V.tb_len]; omega
  · split
    · rw [List.length_append, putL_length, V.tb_len]; omega
    · split
      · rw [List.length_append, List.length_append, putL_length, putL_length]; omega
      · rw [putL_length]; omega
theorem lens_le (f : V → List UInt8) (l : List V) (h : ∀ x ∈ l, (f x).length ≤ 81 * x.wt) : (l.flatMap f).length ≤ 81 * wts l := by
  induction l with
  | nil => simp [wts]
  | cons a r ih =>
    have h1 := h a (List.mem_cons_self ..)
    have h2 := ih (fun x hx => h x (List.mem_cons_of_mem _ hx))
    rw [List.flatMap_cons, List.length_append, wts]
    omega
theorem inn_len : ∀ v : V, (inn v).length ≤ 81 * wts v.list + 1 := by
  refine V.ind (fun v ih => ?_)
  have hd : ∀ c, ∀ x ∈ v.list, (datV c x).length ≤ 81 * x.wt := fun c x hx => by
    have h1 := ih x hx
    have h2 := datB_len c x (inn x)
    have h3 := x.wt_eq
    unfold datV
    omega
  have hp : ∀ x ∈ v.list, (putV x).length ≤ 81 * x.wt := fun x hx => by
    have h1 := ih x hx
    have h2 := datB_len (codeK x.kind (smV x)) x (inn x)
    have h3 := x.wt_eq
    rw [putV_eq]
    split
    · simp; omega
    · split
      · rw [List.length_cons]; omega
      · rw [List.length_cons]; unfold datV; omega
  rw [inn_eq]
  split
  · have := lens_le (datV (uniC v)) v.list (hd _)
    rw [List.length_cons]
    unfold datVs; omega
  · have := lens_le putV v.list hp
    unfold putVs; omega
theorem datV_len (c : Nat) (v : V) : (datV c v).length ≤ 81 * v.wt := by
  have h1 := inn_len v
  have h2 := datB_len c v (inn v)
  have h3 := v.wt_eq
  unfold datV; omega
theorem putV_len (v : V) : 1 ≤ (putV v).length ∧ (putV v).length ≤ 81 * v.wt := by
  have h1 := inn_len v
  have h2 := datB_len (codeK v.kind (smV v)) v (inn v)
  have h3 := v.wt_eq
  rw [putV_eq]
  split
  · simp; omega
  · split
    · rw [List.length_cons]; omega
    · rw [List.length_cons]; unfold datV; omega
theorem text_wt (v : V) : v.text.size < 64 * v.wt := by have := v.wt_eq; omega

/-! ### there and back -/
theorem take_put {n w : Nat} {t : List UInt8} : (putL n w ++ t).take w = putL n w := by rw [List.take_left' (putL_length n w)]
theorem drop_put {n w : Nat} {t : List UInt8} : (putL n w ++ t).drop w = t := by rw [List.drop_left' (putL_length n w)]
theorem els_ok {r : List UInt8 → Res} {f : V → List UInt8} : ∀ (l : List V) (t : List UInt8), (∀ x ∈ l, ∀ t, r (f x ++ t) = .ok (x, (f x).length)) → els r l.length (l.flatMap f ++ t) = .ok (l, (l.flatMap f).length)
  | [], _, _ => rfl
  | a :: l, t, h => by
    rw [List.length_cons, els, List.flatMap_cons, List.append_assoc, h a (List.mem_cons_self ..)]
    simp only [List.drop_left]
    rw [els_ok l t (fun x hx => h x (List.mem_cons_of_mem _ hx))]
    simp
theorem fixed_rt {c w : Nat} {v : V} {t : List UInt8} (hw : widC c = w) (hc : c / 16 ≠ 9 ∧ ¬ (c / 16 = 10 ∨ c / 16 = 11) ∧ ¬ 12 ≤ c / 16) (hv : v = .mk (kindC c) v.num ⟨#[]⟩ [] 0) (hn : sgnW (kindC c) w (v.num.toNat % 256 ^ w) = v.num) (h56 : c = 0x56 → v.num.toNat % 256 ^ w ≤ 1) (h73 : c = 0x73 → isCh (v.num.toNat % 256 ^ w) = true) :
    fixedR c (datV c v ++ t) = .ok (v, (datV c v).length) := by
  have e : datV c v = putL v.num.toNat w := by unfold datV datB; rw [if_neg hc.1, if_neg hc.2.1, if_neg hc.2.2, hw]
  rw [e]
  unfold fixedR
  rw [hw, take_put, beVal_put, putL_length, if_neg (by rw [List.length_append, putL_length]; omega), if_neg (fun q => by have := h56 q.1; omega), if_neg (fun q => by rw [h73 q.1] at q; exact absurd q.2 (by simp)), hn]
  rw [hv]
  rfl
theorem raw_rt {c : Nat} {v : V} {t : List UInt8} (hc : c / 16 = 9) (hs : v.text.size = 16) (hv : v = .mk (kindC c) 0 v.text [] 0) : rawR c (datV c v ++ t) = .ok (v, (datV c v).length) := by
  have e : datV c v = v.tb := by unfold datV datB; rw [if_pos hc]
  have hl : v.tb.length = 16 := hs
  rw [e]
  unfold rawR
  rw [if_neg (by rw [List.length_append]; omega), List.take_left' hl, hl]
  have : txB v.tb = v.text := by unfold txB V.tb; simp
  rw [this]
  exact congrArg Except.ok (Prod.ext hv.symm rfl)
theorem text_rt {c : Nat} {v : V} {t : List UInt8} (hc : c / 16 = 10 ∨ c / 16 = 11) (hs : v.text.size < 256 ^ wOf c) (hb : badT (kindC c) v.text < 0) (hv : v = .mk (kindC c) 0 v.text [] 0) : textR c (datV c v ++ t) = .ok (v, (datV c v).length) := by
  have e : datV c v = putL v.text.size (wOf c) ++ v.tb := by unfold datV datB; rw [if_neg (by omega), if_pos hc]
  rw [e, List.append_assoc]
  unfold textR
  have hl : v.tb.length = v.text.size := rfl
  have : txB v.tb = v.text := by unfold txB V.tb; simp
  rw [take_put, beVal_put, Nat.mod_eq_of_lt hs, drop_put, List.take_left' hl, this, List.length_append, List.length_append, List.length_append, putL_length, hl, if_neg (by omega), if_neg (by omega), if_neg (by omega)]
  exact congrArg Except.ok (Prod.ext hv.symm rfl)
theorem span_form {c : Nat} {v : V} (hc : 12 ≤ c / 16) : datV c v = putL (wOf c + (inn v).length) (wOf c) ++ (putL v.list.length (wOf c) ++ inn v) := by
  unfold datV datB; rw [if_neg (by omega), if_neg (by omega), if_pos hc]
theorem within_rt {c least : Nat} {v : V} {rd : Nat → List UInt8 → Res} {t : List UInt8} (hc : 12 ≤ c / 16) (hs : wOf c + (inn v).length < 256 ^ wOf c) (hl : least ≤ wOf c + (inn v).length) :
    withinR c least rd (datV c v ++ t) = rd (wOf c + (inn v).length) (putL v.list.length (wOf c) ++ inn v) := by
  rw [span_form hc, List.append_assoc]
  unfold withinR
  rw [take_put, beVal_put, Nat.mod_eq_of_lt hs, drop_put, List.take_left' (by rw [List.length_append, putL_length])]
  simp only [List.length_append, putL_length]
  rw [if_neg (by omega), if_neg (by omega), if_neg (by omega)]
theorem span_rt {c : Nat} {v : V} {rv : List UInt8 → Res} (hc : kindC c ≠ 23) (hk : v.kind = kindC c) (hn : v.list.length < 256 ^ wOf c) (hr : ∀ x ∈ v.list, ∀ t, rv (putV x ++ t) = .ok (x, (putV x).length)) (hm : kindC c = 22 → mapOk v.list = true) (hv : v = .mk (kindC c) 0 ⟨#[]⟩ v.list 0) :
    spanIn rv c (wOf c + (inn v).length) (putL v.list.length (wOf c) ++ inn v) = .ok (v, wOf c + (wOf c + (inn v).length)) := by
  have e : inn v = putVs v.list := by rw [inn_eq, if_neg (by rw [hk]; exact hc)]
  have hm2 : kindC c = 22 → v.list.length % 2 = 0 ∧ v.list.length ≤ 2048 ∧ (evens v.list).Nodup := fun q => by have := hm q; unfold mapOk at this; simpa using this
  unfold spanIn
  rw [take_put, beVal_put, Nat.mod_eq_of_lt hn, drop_put, e]
  have h1 := els_ok (r := rv) (f := putV) v.list [] hr
  rw [List.append_nil] at h1
  rw [show putVs v.list = v.list.flatMap putV from rfl, h1]
  rw [if_neg (fun q => by have := (hm2 q.1).1; omega), if_neg (fun q => by have := (hm2 q.1).2.1; omega)]
  simp only
  rw [if_neg (by omega), if_neg (fun q => q.2 (hm2 q.1).2.2)]
  exact congrArg Except.ok (Prod.ext hv.symm rfl)
theorem arr_rt {c : Nat} {v : V} {rd : Nat → List UInt8 → Res} (hc : kindC c = 23) (hk : v.kind = 23) (hn : v.list.length < 256 ^ wOf c) (hu : DatC (uniC v)) (hr : ∀ x ∈ v.list, ∀ t, rd (uniC v) (datV (uniC v) x ++ t) = .ok (x, (datV (uniC v) x).length)) (hk2 : kindC (uniC v) = v.elem) (hv : v = .mk 23 0 ⟨#[]⟩ v.list v.elem) :
    arrIn rd c (wOf c + (inn v).length) (putL v.list.length (wOf c) ++ inn v) = .ok (v, wOf c + (wOf c + (inn v).length)) := by
  have e : inn v = UInt8.ofNat (uniC v) :: datVs (uniC v) v.list := by rw [inn_eq, if_pos hk]
  have ht : (UInt8.ofNat (uniC v)).toNat = uniC v := ofNat_toNat (codeK_lt _ _)
  unfold arrIn
  rw [take_put, beVal_put, Nat.mod_eq_of_lt hn]
  have hd1 : (putL v.list.length (wOf c) ++ inn v).drop (wOf c + 1) = datVs (uniC v) v.list := by rw [← List.drop_drop, drop_put, e]; rfl
  rw [hd1, drop_put, e]
  simp only [List.headD_cons, ht]
  rw [if_neg (by obtain ⟨q1, q2, q3⟩ := hu; omega)]
  have h1 := els_ok (r := bareR rd (uniC v)) (f := datV (uniC v)) v.list [] (fun x hx t => by unfold bareR; rw [hr x hx t])
  rw [List.append_nil] at h1
  rw [show datVs (uniC v) v.list = v.list.flatMap (datV (uniC v)) from rfl, h1]
  simp only [List.length_cons]
  rw [if_neg (by omega), hk2, hc]
  exact congrArg Except.ok (Prod.ext hv.symm (by simp only))

theorem info_u8 : (Tryd.prog.info? 5).map (fun i => (i.zero, i.size, i.bytes)) = some (some (.int .u8 0), 1, 1) := by kernel_rfl

theorem put_ok (n wd : Nat) (w : World) (h1 : 1 ≤ wd) (h8 : wd ≤ 8) (hn : n < 18446744073709551616) :
    Calls Tryd.prog 45 #[.int .u64 n, .int .i64 wd] w fun e w' =>
      e = .returned (.slice (some ⟨w.heap.size, 0, none⟩) wd wd) ∧ Below w.heap.size w w' ∧ w'.rowIs w.heap.size 5 wd (fun i => .int .u8 (byteAt n wd i)) := by
  have hmk := run_make_row' (P := Tryd.prog) 28 5 (.int .u8 0) 1 Tryd.underlying28 info_u8 rfl .i64 .i64 wd (by omega) (by omega)
  go_enter Tryd.func45, Tryd.ntmps45
  go_wp2
  clear hmk
  have hrow := World.rowIs_made w (.int .u8 0) wd 5
  have hb : Below w.heap.size w (w.alloc (.cells (madeCells #[.int .u8 0] wd) 5)) := (Below.refl _ _).alloc (Nat.le_refl _) _
  generalize (w.alloc (.cells (madeCells #[.int .u8 0] wd) 5)) = w1 at *
  go_loopw [0, 6] (fun m i wr => ∃ k : Nat, k ≤ wd ∧ i = .int .i64 ((k : Int) - 1) ∧ m = .int .u64 (n / 256 ^ (wd - k) : Nat) ∧ Below w.heap.size w wr ∧ wr.rowIs w.heap.size 5 wd (fun j => .int .u8 (if k ≤ j then byteAt n wd j else 0))) (fun _ i _ => (intOf i + 1).toNat)
  case atStart => exact ⟨wd, by omega, rfl, by simp, hb, hrow.congr fun i hi => by rw [if_neg (by omega)]⟩
  case round =>
    obtain ⟨k, hk, rfl, rfl, hB, hR⟩ := hrel
    cases k with
    | zero =>
      go_wp2
      go_ret
      exact ⟨rfl, hB, hR.congr fun i hi => by rw [if_pos (Nat.zero_le _)]⟩
    | succ k =>
      have hc := hR.cell (i := k) (by omega)
      have hf := hR.frozen k
      have hle : n / 256 ^ (wd - (k+1)) < 18446744073709551616 := Nat.lt_of_le_of_lt (Nat.div_le_self _ _) hn
      obtain ⟨m, hm⟩ : ∃ m, n / 256 ^ (wd - (k+1)) = m := ⟨_, rfl⟩
      have Hm := Lib.hid hm
      rw [hm]
      rw [hm] at hle
      clear hm
      go_wp2
      go_roundw
      case rel =>
        have hm := Hm.out
        have hd : m / 256 = n / 256 ^ (wd - k) := by
          rw [← hm, Nat.div_div_eq_div_mul, ← Nat.pow_succ]
          congr 2; omega
        have hby : byteAt n wd k = m % 256 := by
          rw [← hm]; unfold byteAt; congr 3; omega
        refine ⟨k, by omega, rfl, by rw [← hd]; rfl, hB.setCell (Nat.le_refl _) _, (hR.set k _).congr fun j hj => ?_⟩
        by_cases e : j = k
        · subst e
          rw [if_pos rfl, if_pos (Nat.le_refl _), hby]; rfl
        · rw [if_neg e]
          by_cases h2 : k + 1 ≤ j
          · rw [if_pos h2, if_pos (by omega)]
          · rw [if_neg h2, if_neg (by omega)]
      case measure => simp [intOf]

theorem put_bytes (n wd : Nat) (w : World) (h1 : 1 ≤ wd) (h8 : wd ≤ 8) (hn : n < 18446744073709551616) :
    Calls Tryd.prog 45 #[.int .u64 n, .int .i64 wd] w fun e w' =>
      e = .returned (.slice (some ⟨w.heap.size, 0, none⟩) wd wd) ∧ Below w.heap.size w w' ∧ BytesIn w' (some ⟨w.heap.size, 0, none⟩) wd wd (putL n wd) :=
  (put_ok n wd w h1 h8 hn).mono fun e w' ⟨he, hb, hr⟩ => ⟨he, hb, rowIs_bytes (putL n wd) hr (putL_length n wd) (by unfold maxLen; omega) fun i hi => by rw [putL_getD n wd i hi]⟩

theorem get_ok (w : World) (a : Option Addr) (n c : Nat) (l : List UInt8) (h : BytesIn w a n c l) (at_ wd : Nat) (h1 : 1 ≤ wd) (h8 : wd ≤ 8) (hat : at_ + wd ≤ n) :
    Calls Tryd.prog 75 #[.slice a n c, .int .i64 at_, .int .i64 wd] w fun e w' =>
      e = .returned (.tuple #[.int .u64 (beVal ((l.drop at_).take wd)), .int .i64 0]) ∧ w = w' := by
  obtain ⟨hl, hnc, hcm, hat_⟩ := h
  obtain ⟨b, o, rfl, hb, hcell⟩ := hat_ (by omega)
  unfold maxLen at hcm
  have HL := Lib.hid hl
  clear hl
  go_enter Tryd.func75, Tryd.ntmps75
  go_wp2
  go_loop [8, 42] (fun m i => ∃ k : Nat, k ≤ wd ∧ i = .int .i64 k ∧ m = .int .u64 (beVal ((l.drop at_).take k))) (fun _ i => wd - (intOf i).toNat)
  case atStart => exact ⟨0, by omega, rfl, rfl⟩
  case round =>
    obtain ⟨k, hk, rfl, rfl⟩ := hrel
    by_cases hlt : k < wd
    · have hc := hcell (at_ + k) (by omega)
      rw [← Nat.add_assoc] at hc
      have hs := beVal_snoc ((l.drop at_).take k) (l.getD (at_ + k) 0)
      rw [← drop_take_succ l at_ k (by rw [HL.out]; omega)] at hs
      have hm : 256 * beVal ((l.drop at_).take k) + 255 < 18446744073709551616 := by
        have h0 := beVal_lt ((l.drop at_).take k)
        have h2 : 256 ^ ((l.drop at_).take k).length ≤ 256 ^ 7 := Nat.pow_le_pow_right (by omega) (by rw [List.length_take]; omega)
        omega
      have hx := (l.getD (at_ + k) 0).toNat_lt
      obtain ⟨y, hy⟩ : ∃ y, (l.getD (at_ + k) 0).toNat = y := ⟨_, rfl⟩
      obtain ⟨m, hm'⟩ : ∃ m, beVal ((l.drop at_).take k) = m := ⟨_, rfl⟩
      rw [hy] at hc hx hs
      rw [hm'] at hm hs ⊢
      have HS := Lib.hid hs
      clear hs hy hm' hcell
      go_wp2
      go_round
      case rel => exact ⟨k + 1, by omega, by go_num, by rw [HS.out, shl8_or m y hm hx]⟩
      case measure => simp [intOf]; omega
    · obtain rfl : wd = k := by omega
      go_wp2
      go_ret2
      exact ⟨rfl, rfl⟩


structure Blk (w : World) (b T : Nat) (l : List UInt8) : Prop where
  blk : w.heap[b]? = some (.cells (l.map byteV).toArray T (0, 0))

theorem Blk.lt {w : World} {b T : Nat} {l : List UInt8} (h : Blk w b T l) : b < w.heap.size := (Array.getElem?_eq_some_iff.1 h.blk).1
theorem Blk.of_block {w w' : World} {b T : Nat} {l : List UInt8} (h : Blk w b T l) (e : w'.heap[b]? = w.heap[b]?) : Blk w' b T l := ⟨e.trans h.blk⟩
theorem Blk.below {w w' : World} {b T : Nat} {l : List UInt8} (h : Blk w b T l) (hb : Below w.heap.size w w') : Blk w' b T l := h.of_block (hb.block b h.lt)
theorem Blk.drewN {w : World} {b T : Nat} {l : List UInt8} (h : Blk w b T l) (m : Nat) : Blk (w.drewN m) b T l := ⟨h.blk⟩
theorem Blk.cell {w : World} {b T : Nat} {l : List UInt8} (h : Blk w b T l) (i : Nat) (hi : i < l.length) : w.cell? ⟨b, i, none⟩ = some (.int .u8 (l.getD i 0).toNat) := by
  simp only [World.cell?, h.blk, Option.isSome_none, Bool.false_eq_true, if_false]
  simp [byteV, List.getD_eq_getElem?_getD, hi]
theorem Blk.frozen {w : World} {b T : Nat} {l : List UInt8} (h : Blk w b T l) (i : Nat) : w.frozen? ⟨b, i, none⟩ = false := by
  simp [World.frozen?, h.blk]
theorem Blk.set {w : World} {b T : Nat} {l : List UInt8} (h : Blk w b T l) (i : Nat) (x : UInt8) : Blk (w.setCell ⟨b, i, none⟩ (.int .u8 (x.toNat : Int))) b T (l.set i x) := by
  refine ⟨?_⟩
  simp only [World.setCell, Array.getElem?_modify, h.blk, if_true, Option.map_some, Option.isSome_none, Bool.false_eq_true, if_false]
  congr 2
  simp [byteV]
theorem Blk.bytes {w : World} {b T : Nat} {l : List UInt8} (h : Blk w b T l) (off n c : Nat) (hn : off + n ≤ l.length) (hc : n ≤ c) (hm : c ≤ maxLen) :
    BytesIn w (some ⟨b, off, none⟩) n c ((l.drop off).take n) := by
  refine ⟨by rw [List.length_take, List.length_drop]; omega, hc, hm, fun _ => ⟨b, off, rfl, h.lt, fun i hi => ?_⟩⟩
  rw [h.cell (off + i) (by omega)]
  simp only [List.getD_eq_getElem?_getD, List.getElem?_take, if_pos hi, List.getElem?_drop]
theorem Blk.all {w : World} {b T : Nat} {l : List UInt8} (h : Blk w b T l) (n c : Nat) (hn : n = l.length) (hc : n ≤ c) (hm : c ≤ maxLen) : BytesIn w (some ⟨b, 0, none⟩) n c l := by
  have := h.bytes 0 n c (by omega) hc hm
  rwa [List.drop_zero, List.take_of_length_le (by omega)] at this
theorem Blk.made (w : World) (n T : Nat) : Blk (w.alloc (.cells (madeCells #[.int .u8 0] n) T)) w.heap.size T (List.replicate n 0) := by
  obtain ⟨c, h1, h2, h3⟩ := World.rowIs_made w (.int .u8 0) n T
  refine ⟨h1.trans ?_⟩
  congr 2
  apply Array.ext
  · simp [h2]
  · intro i hi1 hi2
    have := h3 i (by omega)
    rw [Array.getElem?_eq_getElem hi1] at this
    simp only [Option.some.injEq] at this
    rw [this]
    simp [byteV]
theorem Blk.of_cells {w : World} {b T : Nat} {l : List UInt8} {c : Array Value} (h : w.heap[b]? = some (.cells c T (0, 0))) (e : c = (l.map byteV).toArray) : Blk w b T l := ⟨by rw [h, e]⟩


def SameOrNew (w : World) (v v' : Value) : Prop := v'.ownBlock = v.ownBlock ∨ ∃ g, v'.ownBlock = some g ∧ w.heap.size ≤ g

end Go.Proofs.YtjipennigjlklaaDoor
