/-
  The reference's Range: a range, one by one, the least gap of those that are left. Conditions: its session lies in memory; its numbers are words, each once.
-/
import Derived.Test.YtbkimebmoafbnaaRfI
namespace Go.Proofs.Ytbkimebmoafbnaa
open Go.RowKit Go.Maps
set_option linter.unusedVariables false

/-! ### the plain law -/
def RgI (l : List Pnd) (first behind : Int) (F : List Pnd) : Prop := F.Perm (l.filter fun p => decide (0 ≤ gapS first p.id ∧ gapS first p.id ≤ behind)) ∧ F.Pairwise fun p q => gapS first p.id < gapS first q.id

theorem RgI.start (l : List Pnd) (first : Int) : RgI l first (-1) [] := by
  refine ⟨?_, List.Pairwise.nil⟩
  rw [List.filter_eq_nil_iff.2 (fun p _ => by simp; omega)]

theorem filter_or_perm {α : Type} (P Q R : α → Bool) : ∀ (l : List α), (∀ x ∈ l, R x = (P x || Q x)) → (∀ x ∈ l, ¬ (P x = true ∧ Q x = true)) → (l.filter R).Perm (l.filter P ++ l.filter Q) := by
  intro l
  induction l with
  | nil => intro _ _; exact List.Perm.refl _
  | cons a t ih =>
    intro h1 h2
    have ih' := ih (fun x hx => h1 x (List.mem_cons_of_mem _ hx)) (fun x hx => h2 x (List.mem_cons_of_mem _ hx))
    have ha := h1 a (List.mem_cons_self ..)
    have hb := h2 a (List.mem_cons_self ..)
    cases hp : P a
    · cases hq : Q a
      · rw [List.filter_cons_of_neg (by rw [ha, hp, hq]; simp), List.filter_cons_of_neg (by rw [hp]; simp), List.filter_cons_of_neg (by rw [hq]; simp)]
        exact ih'
      · rw [List.filter_cons_of_pos (by rw [ha, hp, hq]; simp), List.filter_cons_of_neg (by rw [hp]; simp), List.filter_cons_of_pos (by rw [hq])]
        exact (ih'.cons a).trans List.perm_middle.symm
    · cases hq : Q a
      · rw [List.filter_cons_of_pos (by rw [ha, hp, hq]; simp), List.filter_cons_of_pos (by rw [hp]), List.filter_cons_of_neg (by rw [hq]; simp)]
        exact ih'.cons a
      · exact absurd ⟨hp, hq⟩ hb

theorem nodup_one {α : Type} {l : List α} {x : α} (hn : l.Nodup) (hx : x ∈ l) (h : ∀ y ∈ l, y = x) : l = [x] := by
  cases l with
  | nil => cases hx
  | cons a t =>
    obtain rfl := h a (List.mem_cons_self ..)
    cases t with
    | nil => rfl
    | cons b t =>
      obtain rfl := h b (List.mem_cons_of_mem _ (List.mem_cons_self ..))
      simp at hn

theorem nodup_of_ids {l : List Pnd} (h : (l.map Pnd.id).Nodup) : l.Nodup := by
  rw [List.nodup_iff_pairwise_ne] at *
  exact (List.pairwise_map.1 h).imp (fun h e => h (by rw [e]))
theorem eq_of_id {l : List Pnd} (h : (l.map Pnd.id).Nodup) {p q : Pnd} (hp : p ∈ l) (hq : q ∈ l) (e : p.id = q.id) : p = q := by
  obtain ⟨i, hi, rfl⟩ := List.mem_iff_getElem.1 hp
  obtain ⟨j, hj, rfl⟩ := List.mem_iff_getElem.1 hq
  have : i = j := (List.getElem_inj (h₀ := by simpa using hi) (h₁ := by simpa using hj) h).1 (by simpa using e)
  subst this
  rfl

theorem RgI.step {l F : List Pnd} {first behind : Int} (h : RgI l first behind F) (hb : -1 ≤ behind) (hnd : (l.map Pnd.id).Nodup) (hw : ∀ p ∈ l, Word p.id) {x : Pnd} (hx : x ∈ l) (hg : behind < gapS first x.id)
    (hmin : ∀ p ∈ l, behind < gapS first p.id → gapS first x.id ≤ gapS first p.id) : RgI l first (gapS first x.id) (F ++ [x]) := by
  have h1 : l.filter (fun p => decide (behind < gapS first p.id ∧ gapS first p.id ≤ gapS first x.id)) = [x] := by
    refine nodup_one ((nodup_of_ids hnd).filter _) (List.mem_filter.2 ⟨hx, by simp; omega⟩) (fun y hy => ?_)
    obtain ⟨hy1, hy2⟩ := List.mem_filter.1 hy
    simp only [decide_eq_true_eq] at hy2
    have := hmin y hy1 hy2.1
    exact eq_of_id hnd hy1 hx (gap_inj (f := first) (hw y hy1) (hw x hx) (by omega))
  refine ⟨?_, List.pairwise_append.2 ⟨h.2, List.pairwise_singleton _ _, fun p hp q hq => ?_⟩⟩
  · refine List.Perm.trans ?_ (filter_or_perm (fun p => decide (0 ≤ gapS first p.id ∧ gapS first p.id ≤ behind)) (fun p => decide (behind < gapS first p.id ∧ gapS first p.id ≤ gapS first x.id)) _ l (fun p _ => ?_) (fun p _ => ?_)).symm
    · rw [h1]
      exact h.1.append_right _
    · rw [Bool.eq_iff_iff]; simp; omega
    · simp; omega
  · obtain rfl : q = x := by simpa using hq
    have := (List.mem_filter.1 (h.1.subset hp)).2
    simp only [decide_eq_true_eq] at this
    omega

theorem RgI.none {l F : List Pnd} {first behind d : Int} (h : RgI l first behind F) (hb : -1 ≤ behind) (hd : behind ≤ d) (hno : ∀ p ∈ l, ¬ (behind < gapS first p.id ∧ gapS first p.id ≤ d)) : FromL l first d F := by
  refine ⟨?_, h.2⟩
  have : (l.filter fun p => !outR first d p.id) = l.filter fun p => decide (0 ≤ gapS first p.id ∧ gapS first p.id ≤ behind) := by
    refine List.filter_congr (fun p hp => ?_)
    have := hno p hp
    unfold outR
    rw [Bool.eq_iff_iff]; simp; omega
  rw [this]
  exact h.1
theorem RgI.len {l F : List Pnd} {first behind : Int} (h : RgI l first behind F) : F.length ≤ l.length := by
  rw [h.1.length_eq]; exact List.length_filter_le _ _
theorem RgI.full {l F : List Pnd} {first behind d : Int} (h : RgI l first behind F) (hb : -1 ≤ behind) (hd : behind ≤ d) (hl : l.length ≤ F.length) : FromL l first d F := by
  refine h.none hb hd (fun p hp q => ?_)
  have h1 : (l.filter fun p => decide (0 ≤ gapS first p.id ∧ gapS first p.id ≤ behind)).length = l.length := by
    have := h.len
    rw [← h.1.length_eq]; omega
  have h2 := List.length_filter_eq_length_iff.1 h1 p hp
  simp only [decide_eq_true_eq] at h2
  omega

/-- what the search has found behind k of them -/
def Best (l : List Pnd) (first behind d : Int) (k : Nat) (best least : Int) : Prop :=
  (best = -1 ∧ least = d + 1 ∧ ∀ i (hi : i < l.length), i < k → ¬ (behind < gapS first l[i].id ∧ gapS first l[i].id ≤ d)) ∨
  (∃ b : Nat, best = b ∧ b < k ∧ ∃ hb : b < l.length, gapS first l[b].id = least ∧ behind < least ∧ least ≤ d ∧ ∀ i (hi : i < l.length), i < k → behind < gapS first l[i].id → least ≤ gapS first l[i].id)

theorem Best.start (l : List Pnd) (first behind d : Int) : Best l first behind d 0 (-1) (d + 1) := .inl ⟨rfl, rfl, fun i _ h => by omega⟩
theorem Best.take {l : List Pnd} {first behind d : Int} {k : Nat} {best least : Int} (h : Best l first behind d k best least) (hk : k < l.length) (h1 : behind < gapS first l[k].id) (h2 : gapS first l[k].id < least) : Best l first behind d (k + 1) k (gapS first l[k].id) := by
  rcases h with ⟨rfl, rfl, h3⟩ | ⟨b, rfl, h3, h4, h5, h6, h7, h8⟩
  · refine .inr ⟨k, rfl, by omega, hk, rfl, h1, by omega, fun i hi hik hg => ?_⟩
    by_cases e : i = k
    · subst e; omega
    · have := h3 i hi (by omega); omega
  · refine .inr ⟨k, rfl, by omega, hk, rfl, h1, by omega, fun i hi hik hg => ?_⟩
    by_cases e : i = k
    · subst e; omega
    · have := h8 i hi (by omega) hg; omega
theorem Best.pass {l : List Pnd} {first behind d : Int} {k : Nat} {best least : Int} (h : Best l first behind d k best least) (hk : k < l.length) (h1 : ¬ (behind < gapS first l[k].id ∧ gapS first l[k].id < least)) : Best l first behind d (k + 1) best least := by
  rcases h with ⟨rfl, rfl, h3⟩ | ⟨b, rfl, h3, h4, h5, h6, h7, h8⟩
  · refine .inl ⟨rfl, rfl, fun i hi hik => ?_⟩
    by_cases e : i = k
    · subst e; omega
    · exact h3 i hi (by omega)
  · refine .inr ⟨b, rfl, by omega, h4, h5, h6, h7, fun i hi hik hg => ?_⟩
    by_cases e : i = k
    · subst e; omega
    · exact h8 i hi (by omega) hg
theorem Best.bd {l : List Pnd} {first behind d : Int} {k : Nat} {best least : Int} (h : Best l first behind d k best least) (hd : 0 ≤ d ∧ d < 2147483648) (hb : -1 ≤ behind ∧ behind ≤ d) (hk : k ≤ 1073741824) : -1 ≤ best ∧ best < 1073741824 ∧ 0 ≤ least ∧ least ≤ d + 1 := by
  rcases h with ⟨rfl, rfl, _⟩ | ⟨b, rfl, h3, h4, h5, h6, h7, h8⟩
  · omega
  · omega

/-- what Range leaves behind -/
def RgPost (Z : List Pnd → Prop) (w : World) (e : Ending) (w' : World) : Prop := ∃ v out, e = .returned v ∧ Z out ∧ w'.ownsRow w.heap.size 59 3 v out.length (pndRow out) ∧ Below w.heap.size w w'
def lenOf : Value → Nat
  | .slice _ n _ => n
  | _ => 0


set_option maxRecDepth 20000 in
set_option maxHeartbeats 4000000 in
theorem rrange_any (w : World) (r B : Nat) (s : SS) (hs : List Int) (rs : List (Int × Int)) (vh vr vs va : Value) (sending : Bool) (first last : Int) (h : RIn w r B s hs rs vh vr vs va) (hw : ∀ p ∈ s.way sending, Word p.id) (hnd : ((s.way sending).map Pnd.id).Nodup) (hl : (s.way sending).length ≤ 1073741824) (hf : IsI64 first) (hla : IsI64 last) :
    Calls Try.prog 46 #[.pointer (some ⟨r, 0, none⟩), .bool sending, .int .i64 first, .int .i64 last] w fun e w' => ∃ v out, e = .returned v ∧ RangeL (s.way sending) first last out ∧ w'.ownsRow w.heap.size 59 3 v out.length (pndRow out) ∧ Below w.heap.size w w' := by
  have hw1 := rword_any first w
  have hw2 := rword_any last w
  have hgp := refGap_any first last w hf hla
  have hgb := gapS_bd first last
  have hwy := rway_any w r B s hs rs vh vr vs va sending h
  have HF := Lib.hid hf
  obtain ⟨d, hd⟩ : ∃ d, gapS first last = d := ⟨_, rfl⟩
  rw [hd] at hgp hgb
  obtain ⟨L, hL⟩ : ∃ L, s.way sending = L := ⟨_, rfl⟩
  rw [hL] at hwy hw hnd hl ⊢
  obtain ⟨N, hN⟩ : ∃ N, L.length = N := ⟨_, rfl⟩
  rw [hN] at hwy hl
  have HL := Lib.hid (And.intro hw (And.intro hnd hN))
  obtain ⟨Z, hZ⟩ : ∃ Z : List Pnd → Prop, (∀ out, Z out → RangeL L first last out) ∧ (Word first ∧ Word last ∧ 0 ≤ d → ∀ out, FromL L first d out → Z out) ∧ (¬ (Word first ∧ Word last ∧ 0 ≤ d) → Z []) := by
    refine ⟨RangeL L first last, fun _ h => h, fun hh out ho => ?_, fun hh => ?_⟩
    · rw [RangeL, if_pos (by rw [hd]; exact hh), hd]; exact ho
    · rw [RangeL, if_neg (by rw [hd]; exact hh)]
  have HZ := Lib.hid hZ
  refine Calls.mono (R := RgPost Z w) ?_ (fun e w' ⟨v, out, h1, h2, h3⟩ => ⟨v, out, h1, HZ.out.1 out h2, h3⟩)
  clear h hL hN hw hnd hf hla hd hZ
  by_cases hg : Word first ∧ Word last ∧ 0 ≤ d
  · have hZ2 := HZ.out.2.1 hg
    have HZ2 := Lib.hid hZ2
    rw [decide_eq_true hg.1] at hw1
    rw [decide_eq_true hg.2.1] at hw2
    have hd0 := hg.2.2
    clear hZ2 hg HZ
    go_enter Try.func46, Try.ntmps46
    go_wp2_with fail
    refine hw1.mono ?_
    clear hw1
    rintro e w1 ⟨rfl, rfl⟩
    go_wp2_with fail
    refine hw2.mono ?_
    clear hw2
    rintro e w1 ⟨rfl, rfl⟩
    go_wp2_with fail
    refine hgp.mono ?_
    clear hgp
    rintro e w1 ⟨rfl, rfl⟩
    go_wp2_with fail
    refine hwy.mono ?_
    clear hwy
    rintro e w ⟨p, c, rfl, hrd, _, rfl⟩
    obtain ⟨i1, i2, i3⟩ := hrd.info HL.out.2.2
    have HC := Lib.hid hrd
    clear hrd
    go_wp2_with fail
    go_loopw [9, 14] (fun v9 v14 wr => ∃ (F : List Pnd) (behind : Int) (p9 : Option Addr) (c9 : Nat), -1 ≤ behind ∧ behind ≤ d ∧ v9 = .slice p9 F.length c9 ∧ v14 = .int .i64 behind ∧ RgI L first behind F ∧ Below w.heap.size w wr ∧ wr.ownsRow w.heap.size 59 3 (.slice p9 F.length c9) F.length (pndRow F)) (fun v9 _ _ => N - lenOf v9)
    case atStart => exact ⟨[], -1, none, 0, by omega, by omega, rfl, rfl, RgI.start _ _, Below.refl _ _, World.ownsRow_nil _ _ _ _⟩
    case round =>
      obtain ⟨F, behind, p9, c9, hb1, hb2, rfl, rfl, hRg, hb, hrow⟩ := hrel
      have hFl := hRg.len
      rw [HL.out.2.2] at hFl
      obtain ⟨FL, hFL⟩ : ∃ FL, F.length = FL := ⟨_, rfl⟩
      rw [hFL] at hrow hFl ⊢
      have HRg := Lib.hid (And.intro hRg (And.intro hrow (And.intro hb hFL)))
      have hbz := hb.size
      clear hRg hrow hb hFL
      by_cases hlt : (FL : Int) < N
      · go_wp2_with fail
        go_loopw [15, 16, 17] (fun v15 v16 v17 wq => ∃ (k : Nat) (best least : Int), k ≤ N ∧ v17 = .int .i64 k ∧ v15 = .int .i64 best ∧ v16 = .int .i64 least ∧ Best L first behind d k best least ∧ wq = wr) (fun _ _ v17 _ => N - (intOf v17).toNat)
        case atStart => exact ⟨0, -1, d + 1, Nat.zero_le _, rfl, rfl, rfl, Best.start _ _ _ _, rfl⟩
        case round =>
          obtain ⟨k, best, least, hk, rfl, rfl, rfl, hB, rfl⟩ := hrel
          have hBb := hB.bd ⟨hd0, hgb.2⟩ ⟨hb1, hb2⟩ (by omega)
          have HB := Lib.hid hB
          clear hB
          by_cases hkN : (k : Int) < N
          · have hk' : k < N := by omega
            obtain ⟨g, rfl⟩ := i3 (by omega)
            have hkL : k < L.length := by rw [HL.out.2.2]; exact hk'
            obtain ⟨c0, _, _⟩ := (HC.out.below HRg.out.2.2.1).cell g rfl k hkL
            have hgk := refGap_any first L[k].id wr HF.out (HL.out.1 _ (List.getElem_mem hkL)).i64
            have hgb2 := gapS_bd first L[k].id
            obtain ⟨y, hy⟩ : ∃ y, gapS first L[k].id = y := ⟨_, rfl⟩
            rw [hy] at hgk hgb2
            have HY := Lib.hid hy
            generalize L[k].id = z at c0 hgk
            clear hy
            by_cases hyb : behind < y
            · by_cases hyl : y < least
              · have HE := Lib.hid (show Best L first behind d (k + 1) k y from HY.out ▸ HB.out.take hkL (by rw [HY.out]; exact hyb) (by rw [HY.out]; exact hyl))
                go_wp2_with fail
                refine hgk.mono ?_
                clear hgk
                rintro e w2 ⟨rfl, rfl⟩
                go_wp2_with fail
                go_roundw
                case rel => exact ⟨k + 1, k, y, by omega, by go_num, rfl, rfl, HE.out, by first | rfl | trivial⟩
                case measure => simp [intOf]; omega
              · have HE := Lib.hid (HB.out.pass hkL (by rw [HY.out]; omega))
                go_wp2_with fail
                refine hgk.mono ?_
                clear hgk
                rintro e w2 ⟨rfl, rfl⟩
                go_wp2_with fail
                go_roundw
                case rel => exact ⟨k + 1, best, least, by omega, by go_num, rfl, rfl, HE.out, by first | rfl | trivial⟩
                case measure => simp [intOf]; omega
            · have HE := Lib.hid (HB.out.pass hkL (by rw [HY.out]; omega))
              go_wp2_with fail
              refine hgk.mono ?_
              clear hgk
              rintro e w2 ⟨rfl, rfl⟩
              go_wp2_with fail
              go_roundw
              case rel => exact ⟨k + 1, best, least, by omega, by go_num, rfl, rfl, HE.out, by first | rfl | trivial⟩
              case measure => simp [intOf]; omega
          · have hkN2 : k = N := by omega
            by_cases hbn : best < 0
            · have HE := Lib.hid (show FromL L first d F from by
                rcases HB.out with ⟨rfl, _, h3⟩ | ⟨b, rfl, _⟩
                · refine HRg.out.1.none hb1 hb2 (fun p hp => ?_)
                  obtain ⟨i, hi, rfl⟩ := List.mem_iff_getElem.1 hp
                  exact h3 i hi (by rw [hkN2, ← HL.out.2.2]; exact hi)
                · omega)
              go_wp2_with fail
              go_ret
              exact ⟨_, F, rfl, HZ2.out _ HE.out, by rw [HRg.out.2.2.2]; exact HRg.out.2.1, HRg.out.2.2.1⟩
            · obtain ⟨b, rfl⟩ : ∃ b : Nat, best = b := ⟨best.toNat, by omega⟩
              obtain ⟨hbl, hbg, hbh, hbd, hbm⟩ : ∃ hb : b < L.length, gapS first L[b].id = least ∧ behind < least ∧ least ≤ d ∧ ∀ i (hi : i < L.length), i < k → behind < gapS first L[i].id → least ≤ gapS first L[i].id := by
                rcases HB.out with ⟨h3, _⟩ | ⟨b', h3, h4, h5⟩
                · omega
                · obtain rfl : b = b' := by omega
                  exact h5
              have hstep := HRg.out.1.step hb1 HL.out.2.1 HL.out.1 (List.getElem_mem hbl) (by rw [hbg]; exact hbh) (fun p hp hg => by
                obtain ⟨i, hi, rfl⟩ := List.mem_iff_getElem.1 hp
                rw [hbg]
                exact hbm i hi (by rw [hkN2, ← HL.out.2.2]; exact hi) hg)
              rw [hbg] at hstep
              have hbN : b < N := by rw [← HL.out.2.2]; exact hbl
              obtain ⟨g, rfl⟩ := i3 (by omega)
              obtain ⟨c0, c1, c2⟩ := (HC.out.below HRg.out.2.2.1).cell g rfl b hbl
              obtain ⟨i0, hi, hz0, hz1, hz2⟩ := info_parts info_pend
              generalize L[b] = q at c0 c1 c2 hstep
              obtain ⟨pid, ph, ptag⟩ := q
              simp only at c0 c1 c2 hstep
              have HS := Lib.hid hstep
              have hbl2 : (b : Int) < N := by omega
              clear hstep hbm hbg hbl
              go_wp2_with (first
                | (at_builtin; refine wpList_append_own _ rfl (.tmp 73) (.tmp 78) 56 rfl w.heap.size 59 i0 _ 3 32 Try.underlying56 hi hz0 hz1 hz2 rfl (by decide) _ _ _ rfl (HRg.out.2.1.alloc _) ⟨wr.heap.size, 0, none⟩ 1 1 [.int .i64 pid, .int .i64 ph, .string ptag] rfl rfl (fun j u hj => cell_of_newrow hj) (by simp [Value.oneCell']) (by unfold maxLen; omega) (by omega) (by simp; omega) ?_; intro v' w9 hown9 hgrow9 hnil9; obtain ⟨p', c', hv'⟩ := row_slice hown9; subst hv'))
              go_roundw
              case rel => exact ⟨F ++ [⟨pid, ph, ptag⟩], least, p', c', by omega, by omega, by rw [List.length_append, HRg.out.2.2.2]; rfl, rfl, HS.out, ((HRg.out.2.2.1.alloc hbz _).grown hgrow9 (by have := hbz; simp; omega) (fun j e => (HRg.out.2.1.lt j e).1)), by rw [List.length_append, HRg.out.2.2.2, pndRow_snoc]; exact hown9⟩
              case measure => simp [lenOf]; omega
      · have HE := Lib.hid (HRg.out.1.full hb1 hb2 (by rw [HL.out.2.2, HRg.out.2.2.2]; omega))
        go_wp2_with fail
        go_ret
        exact ⟨_, F, rfl, HZ2.out _ HE.out, by rw [HRg.out.2.2.2]; exact HRg.out.2.1, HRg.out.2.2.1⟩
  · have hZ3 := HZ.out.2.2 hg
    have HZ3 := Lib.hid hZ3
    clear hZ3 HZ hwy
    by_cases h1 : Word first
    · rw [decide_eq_true h1] at hw1
      by_cases h2 : Word last
      · rw [decide_eq_true h2] at hw2
        have hdn : d < 0 := by
          refine Classical.byContradiction fun q => hg ⟨h1, h2, by omega⟩
        clear h1 h2 hg
        go_enter Try.func46, Try.ntmps46
        go_wp2_with fail
        refine hw1.mono ?_
        clear hw1
        rintro e w1 ⟨rfl, rfl⟩
        go_wp2_with fail
        refine hw2.mono ?_
        clear hw2
        rintro e w1 ⟨rfl, rfl⟩
        go_wp2_with fail
        refine hgp.mono ?_
        clear hgp
        rintro e w1 ⟨rfl, rfl⟩
        go_wp2_with fail
        go_ret
        exact ⟨_, [], rfl, HZ3.out, World.ownsRow_nil _ _ _ _, Below.refl _ _⟩
      · rw [decide_eq_false h2] at hw2
        clear h1 h2 hg
        go_enter Try.func46, Try.ntmps46
        go_wp2_with fail
        refine hw1.mono ?_
        clear hw1
        rintro e w1 ⟨rfl, rfl⟩
        go_wp2_with fail
        refine hw2.mono ?_
        clear hw2
        rintro e w1 ⟨rfl, rfl⟩
        go_wp2_with fail
        refine hgp.mono ?_
        clear hgp
        rintro e w1 ⟨rfl, rfl⟩
        by_cases hdn : d < 0
        all_goals
          go_wp2_with fail
          go_ret
          exact ⟨_, [], rfl, HZ3.out, World.ownsRow_nil _ _ _ _, Below.refl _ _⟩
    · rw [decide_eq_false h1] at hw1
      clear h1 hg
      go_enter Try.func46, Try.ntmps46
      go_wp2_with fail
      refine hw1.mono ?_
      clear hw1
      rintro e w1 ⟨rfl, rfl⟩
      go_wp2_with fail
      refine hw2.mono ?_
      clear hw2
      rintro e w1 ⟨rfl, rfl⟩
      go_wp2_with fail
      refine hgp.mono ?_
      clear hgp
      rintro e w1 ⟨rfl, rfl⟩
      by_cases hdn : d < 0
      all_goals
        go_wp2_with fail
        go_ret
        exact ⟨_, [], rfl, HZ3.out, World.ownsRow_nil _ _ _ _, Below.refl _ _⟩
end Go.Proofs.Ytbkimebmoafbnaa
