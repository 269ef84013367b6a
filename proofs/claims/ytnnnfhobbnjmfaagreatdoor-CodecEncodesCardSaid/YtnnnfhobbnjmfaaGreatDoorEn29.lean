/-
  Lemmas on the codec. Conditions: as each says.
-/
import Derived.Test.YtnnnfhobbnjmfaaGreatDoorEn06
import Derived.Test.YtnnnfhobbnjmfaaGreatDoorEn07
import Derived.Test.YtnnnfhobbnjmfaaGreatDoorEn22
import Derived.Test.YtnnnfhobbnjmfaaGreatDoorEn23
import Derived.Test.YtnnnfhobbnjmfaaGreatDoorEn28
namespace Go.Proofs.YtnnnfhobbnjmfaaGreatDoor
open Go.RowKit
set_option linter.all false

attribute [local go_sem] Oper.semAt_some

theorem VO.keepF {w w' : World} {v : V} {s : Value} {B : Nat} {F G : Nat → Prop} (h : VO w B v s F) (hk : KeepF G w w') (hd : ∀ b, F b → ¬ G b) : VO w' B v s F := h.keep (fun b q => hk.block b (h.lt b q).2 (hd b q))
theorem keepF_setCell (w : World) (x j : Nat) (v : Value) : KeepF (fun g => g = x) w (w.setCell ⟨x, j, none⟩ v) :=
  ⟨rfl, rfl, rfl, by simp, fun k _ hk => set_farV hk⟩
theorem vin_row {w : World} {g T : Nat} {l : List V} {ss : Nat → Value} (hh : w.heap[g]? = some (.cells (vrow l ss).toArray T (0, 0))) (hin : ∀ i (hi : i < l.length), VIn w l[i] (ss i)) (hl : l.length ≤ maxLen) : VIn w (.mk 0 0 ⟨#[]⟩ l 0) (.slice (some ⟨g, 0, none⟩) l.length l.length) := by
  refine .mk (V.mk 0 0 ⟨#[]⟩ l 0) (some ⟨g, 0, none⟩) l.length ss ⟨⟨by show (-9223372036854775808 : Int) ≤ 0; omega, by show (0 : Int) ≤ 9223372036854775807; omega⟩, ⟨by show (0 : Int) ≤ 0; omega, by show (0 : Int) ≤ 18446744073709551615; omega⟩, Nat.zero_le _, ⟨by show (-9223372036854775808 : Int) ≤ 0; omega, by show (0 : Int) ≤ 9223372036854775807; omega⟩⟩ (Nat.le_refl _) hl (fun _ => ⟨g, 0, rfl⟩) ?_ hin
  intro b o e i hi j u hu
  have hi2 : i < l.length := hi
  simp only [Option.some.injEq, Addr.mk.injEq] at e
  obtain ⟨rfl, rfl, _⟩ := e
  rw [cell_of_row _ _ _ _ _ _ hh, List.getElem?_toArray, Nat.zero_add, vrow_get l ss i j hi2 (List.getElem?_eq_some_iff.1 hu).1]
  exact hu

theorem own_keepF {w w' : World} {B T : Nat} {u : Value} {l : List UInt8} {F : Nat → Prop} (h : OwnBytes w B T u l) (hk : KeepF F w w') (hd : ∀ b, u.ownBlock = some b → ¬ F b) : OwnBytes w' B T u l :=
  ⟨ownsRow_keep h.row (fun j hj => hk.block j (h.row.lt j hj).2 (hd j hj))⟩
theorem xor1_wt (v : V) : wts (v.list.map V.turned) = wts v.list := by
  have key : ∀ (v : V), v.turned.wt = v.wt := by
    refine V.ind (fun v ih => ?_)
    have hl : ∀ (l : List V), (∀ x ∈ l, x.turned.wt = x.wt) → wts (l.map V.turned) = wts l := by
      intro l
      induction l with
      | nil => intro _; rfl
      | cons a r ihl =>
        intro h
        rw [List.map_cons, wts, wts, h a (List.mem_cons_self ..), ihl (fun x hx => h x (List.mem_cons_of_mem _ hx))]
    rw [V.wt_eq, V.wt_eq, turned_list, hl v.list ih, V.turned_eq]
    rfl
  have hl : ∀ (l : List V), wts (l.map V.turned) = wts l := by
    intro l
    induction l with
    | nil => rfl
    | cons a r ihl => rw [List.map_cons, wts, wts, key a, ihl]
  exact hl v.list
theorem enc_as (v : V) (w : World) (s : Value) (hv : VIn w v s) (hT : Tabs w) (hwt : v.wt ≤ 2000000) {l : List UInt8} {ec : Int} {m : Nat} (hA : encS v = (l, ec)) (hm : l.length = m) :
    Calls Tryz.prog 10 #[.agg #[.int .i64 v.kind, .int .u64 v.num, .string v.text, s, .int .i64 v.elem]] w fun e w' => ∃ p c, e = .returned (.tuple #[.slice p m c, .int .i64 ec]) ∧ OwnBytes w' w.heap.size 5 (.slice p m c) l ∧ Below w.heap.size w w' := by
  refine (encode_any v w s hv hT hwt).mono (fun e w' h => ?_)
  obtain ⟨u, he, ho, hb⟩ := h
  rw [hA] at he ho
  obtain ⟨p, c, hu, _⟩ := ho.bytes
  subst hu
  simp only [hm] at he ho
  exact ⟨p, c, he, ho, hb⟩
theorem renc_as (v : V) (w : World) (s : Value) (hv : VIn w v s) (hT : Tabs w) (hwt : v.wt ≤ 2000000) {l : List UInt8} {ec : Int} {m : Nat} (hA : encS v = (l, ec)) (hm : l.length = m) :
    Calls Tryz.prog 8 #[.agg #[.int .i64 v.kind, .int .u64 v.num, .string v.text, s, .int .i64 v.elem]] w fun e w' => ∃ p c, e = .returned (.tuple #[.slice p m c, .int .i64 ec]) ∧ OwnBytes w' w.heap.size 5 (.slice p m c) l ∧ Below w.heap.size w w' := by
  refine (rencode_any v w s hv hT hwt).mono (fun e w' h => ?_)
  obtain ⟨u, he, ho, hb⟩ := h
  rw [hA] at he ho
  obtain ⟨p, c, hu, _⟩ := ho.bytes
  subst hu
  simp only [hm] at he ho
  exact ⟨p, c, he, ho, hb⟩
theorem len_as (v : V) (w : World) (s : Value) (hv : VIn w v s) (hT : Tabs w) (hwt : v.wt ≤ 2000000) {l : List UInt8} {ec : Int} {m : Nat} (hA : encS v = (l, ec)) (hm : l.length = m) :
    Calls Tryz.prog 11 #[.agg #[.int .i64 v.kind, .int .u64 v.num, .string v.text, s, .int .i64 v.elem]] w fun e w' => e = .returned (.tuple #[.int .i64 (m : Nat), .int .i64 ec]) ∧ Below w.heap.size w w' := by
  refine (length_any v w s hv hT hwt).mono (fun e w' h => ?_)
  rw [hA] at h
  simp only [hm] at h
  exact h
theorem putlen_le {v : V} {l : List UInt8} {ec : Int} (h : encS v = (l, ec)) : l.length ≤ 1048576 := by
  unfold encS at h
  split at h
  · cases h; simp
  split at h
  · cases h; simp
  · cases h; omega
theorem took_below {W w w' : World} {bp : Nat} {vl : Value} {vs : List Value} (hb : Below bp W w) (hk : BookIs w bp bp vl vs) (hs : w.heap.size ≤ w'.heap.size) (h : ∀ k, k < w.heap.size → k ≠ bp → some k ≠ vl.ownBlock → w'.heap[k]? = w.heap[k]?) (h1 : w'.os = w.os) (h2 : w'.tape = w.tape) (h3 : w'.output = w.output) (hW : bp ≤ W.heap.size) : Below bp W w' :=
  hb.trans ⟨h1, h2, h3, hs, fun k hk2 => h k (by have := hb.size; omega) (by omega) (fun e => by have := (hk.row.lt k e.symm).1; omega)⟩
theorem distinct4 {a b c d : Value} {l0 h0 l1 h1 l2 h2 l3 h3 : Nat} (ha : ∀ g, a.ownBlock = some g → l0 ≤ g ∧ g < h0) (hb : ∀ g, b.ownBlock = some g → l1 ≤ g ∧ g < h1) (hc : ∀ g, c.ownBlock = some g → l2 ≤ g ∧ g < h2) (hd : ∀ g, d.ownBlock = some g → l3 ≤ g ∧ g < h3) (e1 : h0 ≤ l1) (e2 : h1 ≤ l2) (e3 : h2 ≤ l3) (f1 : l1 ≤ h1) (f2 : l2 ≤ h2) : Distinct [a, b, c, d] := by
  have sy : ∀ {x y : Value} {p q r s : Nat}, (∀ g, x.ownBlock = some g → p ≤ g ∧ g < q) → (∀ g, y.ownBlock = some g → r ≤ g ∧ g < s) → (q ≤ r ∨ s ≤ p) → x.ownBlock = none ∨ x.ownBlock ≠ y.ownBlock := by
    intro x y p q r s hx hy hr
    cases e : x.ownBlock with
    | none => exact .inl rfl
    | some g => exact .inr (fun k => by have k1 := hx g e; have k2 := hy g k.symm; omega)
  intro i j hi hj hij
  simp only [List.length_cons, List.length_nil] at hi hj
  match i, j, hi, hj, hij with
  | 0, 1, _, _, _ => exact sy ha hb (by omega)
  | 0, 2, _, _, _ => exact sy ha hc (by omega)
  | 0, 3, _, _, _ => exact sy ha hd (by omega)
  | 1, 0, _, _, _ => exact sy hb ha (by omega)
  | 1, 2, _, _, _ => exact sy hb hc (by omega)
  | 1, 3, _, _, _ => exact sy hb hd (by omega)
  | 2, 0, _, _, _ => exact sy hc ha (by omega)
  | 2, 1, _, _, _ => exact sy hc hb (by omega)
  | 2, 3, _, _, _ => exact sy hc hd (by omega)
  | 3, 0, _, _, _ => exact sy hd ha (by omega)
  | 3, 1, _, _, _ => exact sy hd hb (by omega)
  | 3, 2, _, _, _ => exact sy hd hc (by omega)
  | 0, 0, _, _, h => exact absurd rfl h
  | 1, 1, _, _, h => exact absurd rfl h
  | 2, 2, _, _, h => exact absurd rfl h
  | 3, 3, _, _, h => exact absurd rfl h
  | (i + 4), _, hi, _, _ => exact absurd hi (by omega)
  | _, (j + 4), _, hj, _ => exact absurd hj (by omega)
theorem only_keepF {W w w' : World} {vs : List Value} {n : Nat} (hb : Below n W w) (hn : W.heap.size ≤ n) (ho : OnlyRows vs w w') : KeepF (fun g => ∃ v ∈ vs, v.ownBlock = some g) W w' :=
  ⟨ho.os.trans hb.os, ho.tape.trans hb.tape, ho.output.trans hb.output, Nat.le_trans hb.size ho.size, fun j hj hF => (ho.block j (Nat.lt_of_lt_of_le hj hb.size) (fun v hv e => hF ⟨v, hv, e⟩)).trans (hb.block j (by omega))⟩
set_option maxRecDepth 20000 in
set_option maxHeartbeats 4000000 in
theorem encodes_walk (w : World) (hT : Tabs w) (a : V) (s : Value) (b : V) (t : Value) (ha : VIn w a s) (hb : VIn w b t) :
    Calls Tryz.prog 3 #[.agg #[.int .i64 a.kind, .int .u64 a.num, .string a.text, s, .int .i64 a.elem], .agg #[.int .i64 b.kind, .int .u64 b.num, .string b.text, t, .int .i64 b.elem]] w fun e w' => e = .returned (.bool true) ∧ Below w.heap.size w w' := by
  obtain ⟨pa, ca, hsa, hja⟩ := ha.slice
  clear hja
  obtain ⟨na, hna⟩ : ∃ n, a.list.length = n := ⟨_, rfl⟩
  rw [hna] at hsa
  subst hsa
  obtain ⟨pb, cb, hsb, hjb⟩ := hb.slice
  clear hjb
  obtain ⟨nb, hnb⟩ : ∃ n, b.list.length = n := ⟨_, rfl⟩
  rw [hnb] at hsb
  subst hsb
  have HV := Lib.hid (And.intro ha hb)
  have HT := Lib.hid hT
  clear ha hb hT
  have HNA := Lib.hid hna
  have HNB := Lib.hid hnb
  clear hna hnb
  go_enter Tryz.func3, Tryz.ntmps3
  go_upto_region 1 with fail
  have hb0 : Below w.heap.size w ((w.alloc (.cells #[.int .i64 a.kind, .int .u64 a.num, .string a.text, .slice pa na ca, .int .i64 a.elem] 25)).alloc (.cells #[.int .i64 b.kind, .int .u64 b.num, .string b.text, .slice pb nb cb, .int .i64 b.elem] 25)) := ((Below.refl _ _).alloc (Nat.le_refl _) _).alloc (by simp) _
  have o0 : ((w.alloc (.cells #[.int .i64 a.kind, .int .u64 a.num, .string a.text, .slice pa na ca, .int .i64 a.elem] 25)).alloc (.cells #[.int .i64 b.kind, .int .u64 b.num, .string b.text, .slice pb nb cb, .int .i64 b.elem] 25)).heap[w.heap.size]? = some (.cells #[.int .i64 a.kind, .int .u64 a.num, .string a.text, .slice pa na ca, .int .i64 a.elem] 25 (0, 0)) := (_root_.Go.heap_alloc_old _ _ (by simp; try omega)).trans (_root_.Go.heap_alloc_new w _)
  have o1 : ((w.alloc (.cells #[.int .i64 a.kind, .int .u64 a.num, .string a.text, .slice pa na ca, .int .i64 a.elem] 25)).alloc (.cells #[.int .i64 b.kind, .int .u64 b.num, .string b.text, .slice pb nb cb, .int .i64 b.elem] 25)).heap[w.heap.size + 1]? = some (.cells #[.int .i64 b.kind, .int .u64 b.num, .string b.text, .slice pb nb cb, .int .i64 b.elem] 25 (0, 0)) := (by have := _root_.Go.heap_alloc_new (w.alloc (.cells #[.int .i64 a.kind, .int .u64 a.num, .string a.text, .slice pa na ca, .int .i64 a.elem] 25)) (.cells #[.int .i64 b.kind, .int .u64 b.num, .string b.text, .slice pb nb cb, .int .i64 b.elem] 25); rwa [World.size_alloc] at this)
  generalize ((w.alloc (.cells #[.int .i64 a.kind, .int .u64 a.num, .string a.text, .slice pa na ca, .int .i64 a.elem] 25)).alloc (.cells #[.int .i64 b.kind, .int .u64 b.num, .string b.text, .slice pb nb cb, .int .i64 b.elem] 25)) = w0 at *
  obtain ⟨x0, hx0⟩ : ∃ x, w.heap.size = x := ⟨_, rfl⟩
  obtain ⟨x1, hx1⟩ : ∃ x, x0 + 1 = x := ⟨_, rfl⟩
  rw [hx0] at o0
  rw [hx0, hx1] at o1
  rw [hx0, hx1]
  have HX_x0 := Lib.hid hx0
  have HX_x1 := Lib.hid hx1
  have HZw := Lib.hid hb0.size
  have hlt0 := (Array.getElem?_eq_some_iff.1 o0).1
  have HLT0 := Lib.hid hlt0
  clear hlt0
  have hlt1 := (Array.getElem?_eq_some_iff.1 o1).1
  have HLT1 := Lib.hid hlt1
  clear hlt1
  have HM1 : Hid ((Below w.heap.size w w0) ∧ (w0.heap[x0]? = some (.cells #[.int .i64 a.kind, .int .u64 a.num, .string a.text, .slice pa na ca, .int .i64 a.elem] 25 (0, 0))) ∧ (w0.heap[x1]? = some (.cells #[.int .i64 b.kind, .int .u64 b.num, .string b.text, .slice pb nb cb, .int .i64 b.elem] 25 (0, 0)))) := Lib.hid ((And.intro hb0 (And.intro o0 o1)))
  clear hb0 o0 hx0 o1 hx1
  have hc := awake_fx w0 (HT.out.below HM1.out.1)
  have HC1 := Lib.hid hc
  clear hc
  go_wp2_with fail
  refine HC1.out.mono ?_
  rintro e W1 ⟨rfl, hb⟩
  have hz1 : w0.heap.size ≤ W1.heap.size := hb.size
  have HZ1 := Lib.hid hz1
  clear hz1
  have HM2 : Hid ((Below w.heap.size w W1) ∧ (W1.heap[x0]? = some (.cells #[.int .i64 a.kind, .int .u64 a.num, .string a.text, .slice pa na ca, .int .i64 a.elem] 25 (0, 0))) ∧ (W1.heap[x1]? = some (.cells #[.int .i64 b.kind, .int .u64 b.num, .string b.text, .slice pb nb cb, .int .i64 b.elem] 25 (0, 0)))) := Lib.hid ((And.intro (HM1.out.1.trans (hb.mono HM1.out.1.size)) (And.intro ((hb.block _ (Array.getElem?_eq_some_iff.1 HM1.out.2.1).1).trans HM1.out.2.1) ((hb.block _ (Array.getElem?_eq_some_iff.1 HM1.out.2.2).1).trans HM1.out.2.2))))
  clear HM1
  clear hb
  have q := HM2.out.2.1
  have x0_0 : W1.cell? ⟨x0, 0, none⟩ = some (.int .i64 a.kind) := (cell_of_row _ _ 0 _ _ _ q).trans rfl
  have x0_1 : W1.cell? ⟨x0, 1, none⟩ = some (.int .u64 a.num) := (cell_of_row _ _ 1 _ _ _ q).trans rfl
  have x0_2 : W1.cell? ⟨x0, 2, none⟩ = some (.string a.text) := (cell_of_row _ _ 2 _ _ _ q).trans rfl
  have x0_3 : W1.cell? ⟨x0, 3, none⟩ = some (.slice pa na ca) := (cell_of_row _ _ 3 _ _ _ q).trans rfl
  have x0_4 : W1.cell? ⟨x0, 4, none⟩ = some (.int .i64 a.elem) := (cell_of_row _ _ 4 _ _ _ q).trans rfl
  clear q
  have q := HM2.out.2.2
  have x1_0 : W1.cell? ⟨x1, 0, none⟩ = some (.int .i64 b.kind) := (cell_of_row _ _ 0 _ _ _ q).trans rfl
  have x1_1 : W1.cell? ⟨x1, 1, none⟩ = some (.int .u64 b.num) := (cell_of_row _ _ 1 _ _ _ q).trans rfl
  have x1_2 : W1.cell? ⟨x1, 2, none⟩ = some (.string b.text) := (cell_of_row _ _ 2 _ _ _ q).trans rfl
  have x1_3 : W1.cell? ⟨x1, 3, none⟩ = some (.slice pb nb cb) := (cell_of_row _ _ 3 _ _ _ q).trans rfl
  have x1_4 : W1.cell? ⟨x1, 4, none⟩ = some (.int .i64 b.elem) := (cell_of_row _ _ 4 _ _ _ q).trans rfl
  clear q
  have hbr : Below W1.heap.size W1 (W1.alloc (.cells #[.int .i64 a.kind, .int .u64 a.num, .string a.text, .slice pa na ca, .int .i64 a.elem, .int .i64 b.kind, .int .u64 b.num, .string b.text, .slice pb nb cb, .int .i64 b.elem] 25)) := (Below.refl _ _).alloc (Nat.le_refl _) _
  have hrow : (W1.alloc (.cells #[.int .i64 a.kind, .int .u64 a.num, .string a.text, .slice pa na ca, .int .i64 a.elem, .int .i64 b.kind, .int .u64 b.num, .string b.text, .slice pb nb cb, .int .i64 b.elem] 25)).heap[W1.heap.size]? = some (.cells (vrow [a, b] (fun i => match i with | 0 => .slice pa na ca | _ => .slice pb nb cb)).toArray 25 (0, 0)) := _root_.Go.heap_alloc_new W1 _
  have hbl := HM2.out.1.trans (hbr.mono HM2.out.1.size)
  have hgr := greatAll_any (.mk 0 0 ⟨#[]⟩ [a, b] 0) _ _ (vin_row hrow (fun i hi => by
    match i, hi with
    | 0, _ => exact (HV.out.1).blw hbl
    | 1, _ => exact (HV.out.2).blw hbl) (by show 2 ≤ maxLen; unfold maxLen; omega))
  have HG : Hid (Calls Tryz.prog 7 #[.slice (some ⟨W1.heap.size, 0, none⟩) 2 2] (W1.alloc (.cells #[.int .i64 a.kind, .int .u64 a.num, .string a.text, .slice pa na ca, .int .i64 a.elem, .int .i64 b.kind, .int .u64 b.num, .string b.text, .slice pb nb cb, .int .i64 b.elem] 25)) _) := Lib.hid hgr
  have HBR := Lib.hid hbr
  clear hbr hrow hgr hbl
  go_wp2_with fail
  refine HG.out.mono ?_
  clear x0_0 x0_1 x0_2 x0_3 x0_4 x1_0 x1_1 x1_2 x1_3 x1_4
  obtain ⟨G, hG⟩ : ∃ G, decide (100000 < wts (V.mk 0 0 ⟨#[]⟩ [a, b] 0).list) = G := ⟨_, rfl⟩
  rw [hG]
  have HGD := Lib.hid hG
  rintro e W2 ⟨rfl, hb2⟩
  have hb : Below W1.heap.size W1 W2 := HBR.out.trans (hb2.mono HBR.out.size)
  clear hb2 hG
  have hz2 : W1.heap.size ≤ W2.heap.size := hb.size
  have HZ2 := Lib.hid hz2
  clear hz2
  have HM3 : Hid ((Below w.heap.size w W2) ∧ (W2.heap[x0]? = some (.cells #[.int .i64 a.kind, .int .u64 a.num, .string a.text, .slice pa na ca, .int .i64 a.elem] 25 (0, 0))) ∧ (W2.heap[x1]? = some (.cells #[.int .i64 b.kind, .int .u64 b.num, .string b.text, .slice pb nb cb, .int .i64 b.elem] 25 (0, 0)))) := Lib.hid ((And.intro (HM2.out.1.trans (hb.mono HM2.out.1.size)) (And.intro ((hb.block _ (Array.getElem?_eq_some_iff.1 HM2.out.2.1).1).trans HM2.out.2.1) ((hb.block _ (Array.getElem?_eq_some_iff.1 HM2.out.2.2).1).trans HM2.out.2.2))))
  clear HM2
  clear hb
  cases G
  rotate_left
  · go_wp2_with fail
    go_ret
    exact ⟨rfl, HM3.out.1⟩
  have HWT := Lib.hid (show wts [a, b] ≤ 100000 from by have h1 := of_decide_eq_false HGD.out; have h2 : ¬ 100000 < wts [a, b] := h1; omega)
  have HW := Lib.hid (show a.wt ≤ 100000 ∧ b.wt ≤ 100000 from by have h := HWT.out; simp only [wts] at h; omega)
  have HWF : Hid (V.Wf (V.mk a.kind (xor1 a.num) a.text (a.list.map V.turned) a.elem)) := Lib.hid (by have h := (HV.out.1).wf.turned; rwa [V.turned_eq] at h)
  have HWTT : Hid (V.wt (V.mk a.kind (xor1 a.num) a.text (a.list.map V.turned) a.elem) ≤ 2000000) := Lib.hid (by have h := HW.out.1; have h2 := a.wt_eq; rw [V.wt_eq]; show 1 + a.text.size / 64 + wts (a.list.map V.turned) ≤ 2000000; rw [xor1_wt]; omega)
  obtain ⟨⟨l1, e1⟩, hA⟩ : ∃ A, encS a = A := ⟨_, rfl⟩
  obtain ⟨m1, hm⟩ : ∃ m, l1.length = m := ⟨_, rfl⟩
  have HA1 := Lib.hid (And.intro hA hm)
  clear hA hm
  obtain ⟨⟨l2, e2⟩, hA⟩ : ∃ A, encS b = A := ⟨_, rfl⟩
  obtain ⟨m2, hm⟩ : ∃ m, l2.length = m := ⟨_, rfl⟩
  have HA2 := Lib.hid (And.intro hA hm)
  clear hA hm
  obtain ⟨⟨l3, e3⟩, hA⟩ : ∃ A, encS (V.mk a.kind (xor1 a.num) a.text (a.list.map V.turned) a.elem) = A := ⟨_, rfl⟩
  obtain ⟨m3, hm⟩ : ∃ m, l3.length = m := ⟨_, rfl⟩
  have HA3 := Lib.hid (And.intro hA hm)
  clear hA hm
  have hc := renc_as a W2 _ (HV.out.1.blw HM3.out.1) (HT.out.below HM3.out.1) (by have := HW.out.1; omega) HA1.out.1 HA1.out.2
  have HC3 := Lib.hid hc
  clear hc
  have q := HM3.out.2.1
  have x0_0 : W2.cell? ⟨x0, 0, none⟩ = some (.int .i64 a.kind) := (cell_of_row _ _ 0 _ _ _ q).trans rfl
  have x0_1 : W2.cell? ⟨x0, 1, none⟩ = some (.int .u64 a.num) := (cell_of_row _ _ 1 _ _ _ q).trans rfl
  have x0_2 : W2.cell? ⟨x0, 2, none⟩ = some (.string a.text) := (cell_of_row _ _ 2 _ _ _ q).trans rfl
  have x0_3 : W2.cell? ⟨x0, 3, none⟩ = some (.slice pa na ca) := (cell_of_row _ _ 3 _ _ _ q).trans rfl
  have x0_4 : W2.cell? ⟨x0, 4, none⟩ = some (.int .i64 a.elem) := (cell_of_row _ _ 4 _ _ _ q).trans rfl
  clear q
  go_wp2_with fail
  refine HC3.out.mono ?_
  clear x0_0 x0_1 x0_2 x0_3 x0_4
  rintro e W3 ⟨p_w7, c_w7, rfl, ho, hb⟩
  have HIN_w7 : Hid (∀ g, (Value.slice p_w7 m1 c_w7).ownBlock = some g → W2.heap.size ≤ g ∧ g < W3.heap.size) := Lib.hid (fun g e => ho.row.lt g e)
  have hz3 : W2.heap.size ≤ W3.heap.size := hb.size
  have HZ3 := Lib.hid hz3
  clear hz3
  have HM4 : Hid ((Below w.heap.size w W3) ∧ (W3.heap[x0]? = some (.cells #[.int .i64 a.kind, .int .u64 a.num, .string a.text, .slice pa na ca, .int .i64 a.elem] 25 (0, 0))) ∧ (W3.heap[x1]? = some (.cells #[.int .i64 b.kind, .int .u64 b.num, .string b.text, .slice pb nb cb, .int .i64 b.elem] 25 (0, 0))) ∧ (OwnBytes W3 W2.heap.size 5 (.slice p_w7 m1 c_w7) l1)) := Lib.hid ((And.intro (HM3.out.1.trans (hb.mono HM3.out.1.size)) (And.intro ((hb.block _ (Array.getElem?_eq_some_iff.1 HM3.out.2.1).1).trans HM3.out.2.1) (And.intro ((hb.block _ (Array.getElem?_eq_some_iff.1 HM3.out.2.2).1).trans HM3.out.2.2) ho))))
  clear HM3
  clear hb ho
  have hc := renc_as b W3 _ (HV.out.2.blw HM4.out.1) (HT.out.below HM4.out.1) (by have := HW.out.2; omega) HA2.out.1 HA2.out.2
  have HC4 := Lib.hid hc
  clear hc
  have q := HM4.out.2.2.1
  have x1_0 : W3.cell? ⟨x1, 0, none⟩ = some (.int .i64 b.kind) := (cell_of_row _ _ 0 _ _ _ q).trans rfl
  have x1_1 : W3.cell? ⟨x1, 1, none⟩ = some (.int .u64 b.num) := (cell_of_row _ _ 1 _ _ _ q).trans rfl
  have x1_2 : W3.cell? ⟨x1, 2, none⟩ = some (.string b.text) := (cell_of_row _ _ 2 _ _ _ q).trans rfl
  have x1_3 : W3.cell? ⟨x1, 3, none⟩ = some (.slice pb nb cb) := (cell_of_row _ _ 3 _ _ _ q).trans rfl
  have x1_4 : W3.cell? ⟨x1, 4, none⟩ = some (.int .i64 b.elem) := (cell_of_row _ _ 4 _ _ _ q).trans rfl
  clear q
  go_wp2_with fail
  refine HC4.out.mono ?_
  clear x1_0 x1_1 x1_2 x1_3 x1_4
  rintro e W4 ⟨p_w9, c_w9, rfl, ho, hb⟩
  have HIN_w9 : Hid (∀ g, (Value.slice p_w9 m2 c_w9).ownBlock = some g → W3.heap.size ≤ g ∧ g < W4.heap.size) := Lib.hid (fun g e => ho.row.lt g e)
  have hz4 : W3.heap.size ≤ W4.heap.size := hb.size
  have HZ4 := Lib.hid hz4
  clear hz4
  have HM5 : Hid ((Below w.heap.size w W4) ∧ (W4.heap[x0]? = some (.cells #[.int .i64 a.kind, .int .u64 a.num, .string a.text, .slice pa na ca, .int .i64 a.elem] 25 (0, 0))) ∧ (W4.heap[x1]? = some (.cells #[.int .i64 b.kind, .int .u64 b.num, .string b.text, .slice pb nb cb, .int .i64 b.elem] 25 (0, 0))) ∧ (OwnBytes W4 W2.heap.size 5 (.slice p_w7 m1 c_w7) l1) ∧ (OwnBytes W4 W3.heap.size 5 (.slice p_w9 m2 c_w9) l2)) := Lib.hid ((And.intro (HM4.out.1.trans (hb.mono HM4.out.1.size)) (And.intro ((hb.block _ (Array.getElem?_eq_some_iff.1 HM4.out.2.1).1).trans HM4.out.2.1) (And.intro ((hb.block _ (Array.getElem?_eq_some_iff.1 HM4.out.2.2.1).1).trans HM4.out.2.2.1) (And.intro (HM4.out.2.2.2.of_below hb) ho)))))
  clear HM4
  clear hb ho
  have hc := lent_on a W4 _ (HV.out.1.blw HM5.out.1) (by have := HW.out.1; omega)
  have HC5 := Lib.hid hc
  clear hc
  have q := HM5.out.2.1
  have x0_0 : W4.cell? ⟨x0, 0, none⟩ = some (.int .i64 a.kind) := (cell_of_row _ _ 0 _ _ _ q).trans rfl
  have x0_1 : W4.cell? ⟨x0, 1, none⟩ = some (.int .u64 a.num) := (cell_of_row _ _ 1 _ _ _ q).trans rfl
  have x0_2 : W4.cell? ⟨x0, 2, none⟩ = some (.string a.text) := (cell_of_row _ _ 2 _ _ _ q).trans rfl
  have x0_3 : W4.cell? ⟨x0, 3, none⟩ = some (.slice pa na ca) := (cell_of_row _ _ 3 _ _ _ q).trans rfl
  have x0_4 : W4.cell? ⟨x0, 4, none⟩ = some (.int .i64 a.elem) := (cell_of_row _ _ 4 _ _ _ q).trans rfl
  clear q
  go_wp2_with fail
  refine HC5.out.mono ?_
  clear x0_0 x0_1 x0_2 x0_3 x0_4
  rintro e W5 ⟨t_x11, F11, rfl, hvl, hb⟩
  obtain ⟨g_x11, hs, hj1, hj2⟩ := hvl.slice
  clear hj1 hj2
  rw [HNA.out] at hs
  subst hs
  have HIN_F11 : Hid (∀ g, F11 g → W4.heap.size ≤ g ∧ g < W5.heap.size) := Lib.hid (hvl.lt)
  have hz5 : W4.heap.size ≤ W5.heap.size := hb.size
  have HZ5 := Lib.hid hz5
  clear hz5
  have HM6 : Hid ((Below w.heap.size w W5) ∧ (W5.heap[x0]? = some (.cells #[.int .i64 a.kind, .int .u64 a.num, .string a.text, .slice pa na ca, .int .i64 a.elem] 25 (0, 0))) ∧ (W5.heap[x1]? = some (.cells #[.int .i64 b.kind, .int .u64 b.num, .string b.text, .slice pb nb cb, .int .i64 b.elem] 25 (0, 0))) ∧ (OwnBytes W5 W2.heap.size 5 (.slice p_w7 m1 c_w7) l1) ∧ (OwnBytes W5 W3.heap.size 5 (.slice p_w9 m2 c_w9) l2) ∧ (VL W5 W4.heap.size a (.slice (some ⟨g_x11, 0, none⟩) na (na + 3)) F11)) := Lib.hid ((And.intro (HM5.out.1.trans (hb.mono HM5.out.1.size)) (And.intro ((hb.block _ (Array.getElem?_eq_some_iff.1 HM5.out.2.1).1).trans HM5.out.2.1) (And.intro ((hb.block _ (Array.getElem?_eq_some_iff.1 HM5.out.2.2.1).1).trans HM5.out.2.2.1) (And.intro (HM5.out.2.2.2.1.of_below hb) (And.intro (HM5.out.2.2.2.2.of_below hb) hvl))))))
  clear HM5
  clear hb hvl
  go_upto_region 10 with (refine wpList_store_rowTo rfl 25 (.tmp 11) (.tmp 53) rfl rfl W5.heap.size #[.int .i64 a.kind, .int .u64 a.num, .string a.text, .slice (some ⟨g_x11, 0, none⟩) na (na + 3), .int .i64 a.elem] rfl rfl 25 #[.int .i64 0, .int .u64 0, .string ⟨#[]⟩, .slice none 0 0, .int .i64 0] (_root_.Go.heap_alloc_new W5 _) (by as_aux_lemma => kernel_rfl) (by as_aux_lemma => kernel_rfl) (by simp [Value.oneCell']) ?_)
  have hb_W6 : Below W5.heap.size W5 ((W5.alloc (.cells #[.int .i64 0, .int .u64 0, .string ⟨#[]⟩, .slice none 0 0, .int .i64 0] 25)).setRow W5.heap.size #[.int .i64 a.kind, .int .u64 a.num, .string a.text, .slice (some ⟨g_x11, 0, none⟩) na (na + 3), .int .i64 a.elem]) := below_setRow ((Below.refl _ _).alloc (Nat.le_refl _) _) (Nat.le_refl _) _
  have ox11 := setRow_heap (W5.alloc (.cells #[.int .i64 0, .int .u64 0, .string ⟨#[]⟩, .slice none 0 0, .int .i64 0] 25)) W5.heap.size _ #[.int .i64 a.kind, .int .u64 a.num, .string a.text, .slice (some ⟨g_x11, 0, none⟩) na (na + 3), .int .i64 a.elem] _ _ (_root_.Go.heap_alloc_new W5 _)
  change Code.wp _ _ _ _ ((W5.alloc (.cells #[.int .i64 0, .int .u64 0, .string ⟨#[]⟩, .slice none 0 0, .int .i64 0] 25)).setRow W5.heap.size #[.int .i64 a.kind, .int .u64 a.num, .string a.text, .slice (some ⟨g_x11, 0, none⟩) na (na + 3), .int .i64 a.elem])
  generalize ((W5.alloc (.cells #[.int .i64 0, .int .u64 0, .string ⟨#[]⟩, .slice none 0 0, .int .i64 0] 25)).setRow W5.heap.size #[.int .i64 a.kind, .int .u64 a.num, .string a.text, .slice (some ⟨g_x11, 0, none⟩) na (na + 3), .int .i64 a.elem]) = W6 at *
  obtain ⟨x11, hx_x11⟩ : ∃ x, W5.heap.size = x := ⟨_, rfl⟩
  rw [hx_x11] at ox11 ⊢
  have HX_x11 := Lib.hid hx_x11
  clear hx_x11
  have hlt := (Array.getElem?_eq_some_iff.1 ox11).1
  have HLT_x11 := Lib.hid hlt
  clear hlt
  have hz6 : W5.heap.size ≤ W6.heap.size := hb_W6.size
  have HZ6 := Lib.hid hz6
  clear hz6
  have HM7 : Hid ((Below w.heap.size w W6) ∧ (W6.heap[x0]? = some (.cells #[.int .i64 a.kind, .int .u64 a.num, .string a.text, .slice pa na ca, .int .i64 a.elem] 25 (0, 0))) ∧ (W6.heap[x1]? = some (.cells #[.int .i64 b.kind, .int .u64 b.num, .string b.text, .slice pb nb cb, .int .i64 b.elem] 25 (0, 0))) ∧ (OwnBytes W6 W2.heap.size 5 (.slice p_w7 m1 c_w7) l1) ∧ (OwnBytes W6 W3.heap.size 5 (.slice p_w9 m2 c_w9) l2) ∧ (VL W6 W4.heap.size a (.slice (some ⟨g_x11, 0, none⟩) na (na + 3)) F11) ∧ (W6.heap[x11]? = some (.cells #[.int .i64 a.kind, .int .u64 a.num, .string a.text, .slice (some ⟨g_x11, 0, none⟩) na (na + 3), .int .i64 a.elem] 25 (0, 0)))) := Lib.hid ((And.intro (HM6.out.1.trans (hb_W6.mono HM6.out.1.size)) (And.intro ((hb_W6.block _ (Array.getElem?_eq_some_iff.1 HM6.out.2.1).1).trans HM6.out.2.1) (And.intro ((hb_W6.block _ (Array.getElem?_eq_some_iff.1 HM6.out.2.2.1).1).trans HM6.out.2.2.1) (And.intro (HM6.out.2.2.2.1.of_below hb_W6) (And.intro (HM6.out.2.2.2.2.1.of_below hb_W6) (And.intro (HM6.out.2.2.2.2.2.blw hb_W6) ox11)))))))
  clear HM6
  clear hb_W6 ox11
  have hc := lent_on b W6 _ (HV.out.2.blw HM7.out.1) (by have := HW.out.2; omega)
  have HC7 := Lib.hid hc
  clear hc
  have q := HM7.out.2.2.1
  have x1_0 : W6.cell? ⟨x1, 0, none⟩ = some (.int .i64 b.kind) := (cell_of_row _ _ 0 _ _ _ q).trans rfl
  have x1_1 : W6.cell? ⟨x1, 1, none⟩ = some (.int .u64 b.num) := (cell_of_row _ _ 1 _ _ _ q).trans rfl
  have x1_2 : W6.cell? ⟨x1, 2, none⟩ = some (.string b.text) := (cell_of_row _ _ 2 _ _ _ q).trans rfl
  have x1_3 : W6.cell? ⟨x1, 3, none⟩ = some (.slice pb nb cb) := (cell_of_row _ _ 3 _ _ _ q).trans rfl
  have x1_4 : W6.cell? ⟨x1, 4, none⟩ = some (.int .i64 b.elem) := (cell_of_row _ _ 4 _ _ _ q).trans rfl
  clear q
  go_wp2_with fail
  refine HC7.out.mono ?_
  clear x1_0 x1_1 x1_2 x1_3 x1_4
  rintro e W7 ⟨t_x12, F12, rfl, hvl, hb⟩
  obtain ⟨g_x12, hs, hj1, hj2⟩ := hvl.slice
  clear hj1 hj2
  rw [HNB.out] at hs
  subst hs
  have HIN_F12 : Hid (∀ g, F12 g → W6.heap.size ≤ g ∧ g < W7.heap.size) := Lib.hid (hvl.lt)
  have hz7 : W6.heap.size ≤ W7.heap.size := hb.size
  have HZ7 := Lib.hid hz7
  clear hz7
  have HM8 : Hid ((Below w.heap.size w W7) ∧ (W7.heap[x0]? = some (.cells #[.int .i64 a.kind, .int .u64 a.num, .string a.text, .slice pa na ca, .int .i64 a.elem] 25 (0, 0))) ∧ (W7.heap[x1]? = some (.cells #[.int .i64 b.kind, .int .u64 b.num, .string b.text, .slice pb nb cb, .int .i64 b.elem] 25 (0, 0))) ∧ (OwnBytes W7 W2.heap.size 5 (.slice p_w7 m1 c_w7) l1) ∧ (OwnBytes W7 W3.heap.size 5 (.slice p_w9 m2 c_w9) l2) ∧ (VL W7 W4.heap.size a (.slice (some ⟨g_x11, 0, none⟩) na (na + 3)) F11) ∧ (W7.heap[x11]? = some (.cells #[.int .i64 a.kind, .int .u64 a.num, .string a.text, .slice (some ⟨g_x11, 0, none⟩) na (na + 3), .int .i64 a.elem] 25 (0, 0))) ∧ (VL W7 W6.heap.size b (.slice (some ⟨g_x12, 0, none⟩) nb (nb + 3)) F12)) := Lib.hid ((And.intro (HM7.out.1.trans (hb.mono HM7.out.1.size)) (And.intro ((hb.block _ (Array.getElem?_eq_some_iff.1 HM7.out.2.1).1).trans HM7.out.2.1) (And.intro ((hb.block _ (Array.getElem?_eq_some_iff.1 HM7.out.2.2.1).1).trans HM7.out.2.2.1) (And.intro (HM7.out.2.2.2.1.of_below hb) (And.intro (HM7.out.2.2.2.2.1.of_below hb) (And.intro (HM7.out.2.2.2.2.2.1.blw hb) (And.intro ((hb.block _ (Array.getElem?_eq_some_iff.1 HM7.out.2.2.2.2.2.2).1).trans HM7.out.2.2.2.2.2.2) hvl))))))))
  clear HM7
  clear hb hvl
  go_upto_region 11 with (refine wpList_store_rowTo rfl 25 (.tmp 12) (.tmp 55) rfl rfl W7.heap.size #[.int .i64 b.kind, .int .u64 b.num, .string b.text, .slice (some ⟨g_x12, 0, none⟩) nb (nb + 3), .int .i64 b.elem] rfl rfl 25 #[.int .i64 0, .int .u64 0, .string ⟨#[]⟩, .slice none 0 0, .int .i64 0] (_root_.Go.heap_alloc_new W7 _) (by as_aux_lemma => kernel_rfl) (by as_aux_lemma => kernel_rfl) (by simp [Value.oneCell']) ?_)
  have hb_W8 : Below W7.heap.size W7 ((W7.alloc (.cells #[.int .i64 0, .int .u64 0, .string ⟨#[]⟩, .slice none 0 0, .int .i64 0] 25)).setRow W7.heap.size #[.int .i64 b.kind, .int .u64 b.num, .string b.text, .slice (some ⟨g_x12, 0, none⟩) nb (nb + 3), .int .i64 b.elem]) := below_setRow ((Below.refl _ _).alloc (Nat.le_refl _) _) (Nat.le_refl _) _
  have ox12 := setRow_heap (W7.alloc (.cells #[.int .i64 0, .int .u64 0, .string ⟨#[]⟩, .slice none 0 0, .int .i64 0] 25)) W7.heap.size _ #[.int .i64 b.kind, .int .u64 b.num, .string b.text, .slice (some ⟨g_x12, 0, none⟩) nb (nb + 3), .int .i64 b.elem] _ _ (_root_.Go.heap_alloc_new W7 _)
  change Code.wp _ _ _ _ ((W7.alloc (.cells #[.int .i64 0, .int .u64 0, .string ⟨#[]⟩, .slice none 0 0, .int .i64 0] 25)).setRow W7.heap.size #[.int .i64 b.kind, .int .u64 b.num, .string b.text, .slice (some ⟨g_x12, 0, none⟩) nb (nb + 3), .int .i64 b.elem])
  generalize ((W7.alloc (.cells #[.int .i64 0, .int .u64 0, .string ⟨#[]⟩, .slice none 0 0, .int .i64 0] 25)).setRow W7.heap.size #[.int .i64 b.kind, .int .u64 b.num, .string b.text, .slice (some ⟨g_x12, 0, none⟩) nb (nb + 3), .int .i64 b.elem]) = W8 at *
  obtain ⟨x12, hx_x12⟩ : ∃ x, W7.heap.size = x := ⟨_, rfl⟩
  rw [hx_x12] at ox12 ⊢
  have HX_x12 := Lib.hid hx_x12
  clear hx_x12
  have hlt := (Array.getElem?_eq_some_iff.1 ox12).1
  have HLT_x12 := Lib.hid hlt
  clear hlt
  have hz8 : W7.heap.size ≤ W8.heap.size := hb_W8.size
  have HZ8 := Lib.hid hz8
  clear hz8
  have HM9 : Hid ((Below w.heap.size w W8) ∧ (W8.heap[x0]? = some (.cells #[.int .i64 a.kind, .int .u64 a.num, .string a.text, .slice pa na ca, .int .i64 a.elem] 25 (0, 0))) ∧ (W8.heap[x1]? = some (.cells #[.int .i64 b.kind, .int .u64 b.num, .string b.text, .slice pb nb cb, .int .i64 b.elem] 25 (0, 0))) ∧ (OwnBytes W8 W2.heap.size 5 (.slice p_w7 m1 c_w7) l1) ∧ (OwnBytes W8 W3.heap.size 5 (.slice p_w9 m2 c_w9) l2) ∧ (VL W8 W4.heap.size a (.slice (some ⟨g_x11, 0, none⟩) na (na + 3)) F11) ∧ (W8.heap[x11]? = some (.cells #[.int .i64 a.kind, .int .u64 a.num, .string a.text, .slice (some ⟨g_x11, 0, none⟩) na (na + 3), .int .i64 a.elem] 25 (0, 0))) ∧ (VL W8 W6.heap.size b (.slice (some ⟨g_x12, 0, none⟩) nb (nb + 3)) F12) ∧ (W8.heap[x12]? = some (.cells #[.int .i64 b.kind, .int .u64 b.num, .string b.text, .slice (some ⟨g_x12, 0, none⟩) nb (nb + 3), .int .i64 b.elem] 25 (0, 0)))) := Lib.hid ((And.intro (HM8.out.1.trans (hb_W8.mono HM8.out.1.size)) (And.intro ((hb_W8.block _ (Array.getElem?_eq_some_iff.1 HM8.out.2.1).1).trans HM8.out.2.1) (And.intro ((hb_W8.block _ (Array.getElem?_eq_some_iff.1 HM8.out.2.2.1).1).trans HM8.out.2.2.1) (And.intro (HM8.out.2.2.2.1.of_below hb_W8) (And.intro (HM8.out.2.2.2.2.1.of_below hb_W8) (And.intro (HM8.out.2.2.2.2.2.1.blw hb_W8) (And.intro ((hb_W8.block _ (Array.getElem?_eq_some_iff.1 HM8.out.2.2.2.2.2.2.1).1).trans HM8.out.2.2.2.2.2.2.1) (And.intro (HM8.out.2.2.2.2.2.2.2.blw hb_W8) ox12)))))))))
  clear HM8
  clear hb_W8 ox12
  have hc := enc_as a W8 _ HM9.out.2.2.2.2.2.1.vin (HT.out.below HM9.out.1) (by have := HW.out.1; omega) HA1.out.1 HA1.out.2
  have HC9 := Lib.hid hc
  clear hc
  have q := HM9.out.2.2.2.2.2.2.1
  have x11_0 : W8.cell? ⟨x11, 0, none⟩ = some (.int .i64 a.kind) := (cell_of_row _ _ 0 _ _ _ q).trans rfl
  have x11_1 : W8.cell? ⟨x11, 1, none⟩ = some (.int .u64 a.num) := (cell_of_row _ _ 1 _ _ _ q).trans rfl
  have x11_2 : W8.cell? ⟨x11, 2, none⟩ = some (.string a.text) := (cell_of_row _ _ 2 _ _ _ q).trans rfl
  have x11_3 : W8.cell? ⟨x11, 3, none⟩ = some (.slice (some ⟨g_x11, 0, none⟩) na (na + 3)) := (cell_of_row _ _ 3 _ _ _ q).trans rfl
  have x11_4 : W8.cell? ⟨x11, 4, none⟩ = some (.int .i64 a.elem) := (cell_of_row _ _ 4 _ _ _ q).trans rfl
  clear q
  go_wp2_with fail
  refine HC9.out.mono ?_
  clear x11_0 x11_1 x11_2 x11_3 x11_4
  rintro e W9 ⟨p_u13, c_u13, rfl, ho, hb⟩
  have HIN_u13 : Hid (∀ g, (Value.slice p_u13 m1 c_u13).ownBlock = some g → W8.heap.size ≤ g ∧ g < W9.heap.size) := Lib.hid (fun g e => ho.row.lt g e)
  have hz9 : W8.heap.size ≤ W9.heap.size := hb.size
  have HZ9 := Lib.hid hz9
  clear hz9
  have HM10 : Hid ((Below w.heap.size w W9) ∧ (W9.heap[x0]? = some (.cells #[.int .i64 a.kind, .int .u64 a.num, .string a.text, .slice pa na ca, .int .i64 a.elem] 25 (0, 0))) ∧ (W9.heap[x1]? = some (.cells #[.int .i64 b.kind, .int .u64 b.num, .string b.text, .slice pb nb cb, .int .i64 b.elem] 25 (0, 0))) ∧ (OwnBytes W9 W2.heap.size 5 (.slice p_w7 m1 c_w7) l1) ∧ (OwnBytes W9 W3.heap.size 5 (.slice p_w9 m2 c_w9) l2) ∧ (VL W9 W4.heap.size a (.slice (some ⟨g_x11, 0, none⟩) na (na + 3)) F11) ∧ (W9.heap[x11]? = some (.cells #[.int .i64 a.kind, .int .u64 a.num, .string a.text, .slice (some ⟨g_x11, 0, none⟩) na (na + 3), .int .i64 a.elem] 25 (0, 0))) ∧ (VL W9 W6.heap.size b (.slice (some ⟨g_x12, 0, none⟩) nb (nb + 3)) F12) ∧ (W9.heap[x12]? = some (.cells #[.int .i64 b.kind, .int .u64 b.num, .string b.text, .slice (some ⟨g_x12, 0, none⟩) nb (nb + 3), .int .i64 b.elem] 25 (0, 0))) ∧ (OwnBytes W9 W8.heap.size 5 (.slice p_u13 m1 c_u13) l1)) := Lib.hid ((And.intro (HM9.out.1.trans (hb.mono HM9.out.1.size)) (And.intro ((hb.block _ (Array.getElem?_eq_some_iff.1 HM9.out.2.1).1).trans HM9.out.2.1) (And.intro ((hb.block _ (Array.getElem?_eq_some_iff.1 HM9.out.2.2.1).1).trans HM9.out.2.2.1) (And.intro (HM9.out.2.2.2.1.of_below hb) (And.intro (HM9.out.2.2.2.2.1.of_below hb) (And.intro (HM9.out.2.2.2.2.2.1.blw hb) (And.intro ((hb.block _ (Array.getElem?_eq_some_iff.1 HM9.out.2.2.2.2.2.2.1).1).trans HM9.out.2.2.2.2.2.2.1) (And.intro (HM9.out.2.2.2.2.2.2.2.1.blw hb) (And.intro ((hb.block _ (Array.getElem?_eq_some_iff.1 HM9.out.2.2.2.2.2.2.2.2).1).trans HM9.out.2.2.2.2.2.2.2.2) ho))))))))))
  clear HM9
  clear hb ho
  have hc := enc_as a W9 _ HM10.out.2.2.2.2.2.1.vin (HT.out.below HM10.out.1) (by have := HW.out.1; omega) HA1.out.1 HA1.out.2
  have HC10 := Lib.hid hc
  clear hc
  have q := HM10.out.2.2.2.2.2.2.1
  have x11_0 : W9.cell? ⟨x11, 0, none⟩ = some (.int .i64 a.kind) := (cell_of_row _ _ 0 _ _ _ q).trans rfl
  have x11_1 : W9.cell? ⟨x11, 1, none⟩ = some (.int .u64 a.num) := (cell_of_row _ _ 1 _ _ _ q).trans rfl
  have x11_2 : W9.cell? ⟨x11, 2, none⟩ = some (.string a.text) := (cell_of_row _ _ 2 _ _ _ q).trans rfl
  have x11_3 : W9.cell? ⟨x11, 3, none⟩ = some (.slice (some ⟨g_x11, 0, none⟩) na (na + 3)) := (cell_of_row _ _ 3 _ _ _ q).trans rfl
  have x11_4 : W9.cell? ⟨x11, 4, none⟩ = some (.int .i64 a.elem) := (cell_of_row _ _ 4 _ _ _ q).trans rfl
  clear q
  go_wp2_with fail
  refine HC10.out.mono ?_
  clear x11_0 x11_1 x11_2 x11_3 x11_4
  rintro e W10 ⟨p_u15, c_u15, rfl, ho, hb⟩
  have HIN_u15 : Hid (∀ g, (Value.slice p_u15 m1 c_u15).ownBlock = some g → W9.heap.size ≤ g ∧ g < W10.heap.size) := Lib.hid (fun g e => ho.row.lt g e)
  have hz10 : W9.heap.size ≤ W10.heap.size := hb.size
  have HZ10 := Lib.hid hz10
  clear hz10
  have HM11 : Hid ((Below w.heap.size w W10) ∧ (W10.heap[x0]? = some (.cells #[.int .i64 a.kind, .int .u64 a.num, .string a.text, .slice pa na ca, .int .i64 a.elem] 25 (0, 0))) ∧ (W10.heap[x1]? = some (.cells #[.int .i64 b.kind, .int .u64 b.num, .string b.text, .slice pb nb cb, .int .i64 b.elem] 25 (0, 0))) ∧ (OwnBytes W10 W2.heap.size 5 (.slice p_w7 m1 c_w7) l1) ∧ (OwnBytes W10 W3.heap.size 5 (.slice p_w9 m2 c_w9) l2) ∧ (VL W10 W4.heap.size a (.slice (some ⟨g_x11, 0, none⟩) na (na + 3)) F11) ∧ (W10.heap[x11]? = some (.cells #[.int .i64 a.kind, .int .u64 a.num, .string a.text, .slice (some ⟨g_x11, 0, none⟩) na (na + 3), .int .i64 a.elem] 25 (0, 0))) ∧ (VL W10 W6.heap.size b (.slice (some ⟨g_x12, 0, none⟩) nb (nb + 3)) F12) ∧ (W10.heap[x12]? = some (.cells #[.int .i64 b.kind, .int .u64 b.num, .string b.text, .slice (some ⟨g_x12, 0, none⟩) nb (nb + 3), .int .i64 b.elem] 25 (0, 0))) ∧ (OwnBytes W10 W8.heap.size 5 (.slice p_u13 m1 c_u13) l1) ∧ (OwnBytes W10 W9.heap.size 5 (.slice p_u15 m1 c_u15) l1)) := Lib.hid ((And.intro (HM10.out.1.trans (hb.mono HM10.out.1.size)) (And.intro ((hb.block _ (Array.getElem?_eq_some_iff.1 HM10.out.2.1).1).trans HM10.out.2.1) (And.intro ((hb.block _ (Array.getElem?_eq_some_iff.1 HM10.out.2.2.1).1).trans HM10.out.2.2.1) (And.intro (HM10.out.2.2.2.1.of_below hb) (And.intro (HM10.out.2.2.2.2.1.of_below hb) (And.intro (HM10.out.2.2.2.2.2.1.blw hb) (And.intro ((hb.block _ (Array.getElem?_eq_some_iff.1 HM10.out.2.2.2.2.2.2.1).1).trans HM10.out.2.2.2.2.2.2.1) (And.intro (HM10.out.2.2.2.2.2.2.2.1.blw hb) (And.intro ((hb.block _ (Array.getElem?_eq_some_iff.1 HM10.out.2.2.2.2.2.2.2.2.1).1).trans HM10.out.2.2.2.2.2.2.2.2.1) (And.intro (HM10.out.2.2.2.2.2.2.2.2.2.of_below hb) ho)))))))))))
  clear HM10
  clear hb ho
  have hc := enc_as b W10 _ HM11.out.2.2.2.2.2.2.2.1.vin (HT.out.below HM11.out.1) (by have := HW.out.2; omega) HA2.out.1 HA2.out.2
  have HC11 := Lib.hid hc
  clear hc
  have q := HM11.out.2.2.2.2.2.2.2.2.1
  have x12_0 : W10.cell? ⟨x12, 0, none⟩ = some (.int .i64 b.kind) := (cell_of_row _ _ 0 _ _ _ q).trans rfl
  have x12_1 : W10.cell? ⟨x12, 1, none⟩ = some (.int .u64 b.num) := (cell_of_row _ _ 1 _ _ _ q).trans rfl
  have x12_2 : W10.cell? ⟨x12, 2, none⟩ = some (.string b.text) := (cell_of_row _ _ 2 _ _ _ q).trans rfl
  have x12_3 : W10.cell? ⟨x12, 3, none⟩ = some (.slice (some ⟨g_x12, 0, none⟩) nb (nb + 3)) := (cell_of_row _ _ 3 _ _ _ q).trans rfl
  have x12_4 : W10.cell? ⟨x12, 4, none⟩ = some (.int .i64 b.elem) := (cell_of_row _ _ 4 _ _ _ q).trans rfl
  clear q
  go_wp2_with fail
  refine HC11.out.mono ?_
  clear x12_0 x12_1 x12_2 x12_3 x12_4
  rintro e W11 ⟨p_u17, c_u17, rfl, ho, hb⟩
  have HIN_u17 : Hid (∀ g, (Value.slice p_u17 m2 c_u17).ownBlock = some g → W10.heap.size ≤ g ∧ g < W11.heap.size) := Lib.hid (fun g e => ho.row.lt g e)
  have hz11 : W10.heap.size ≤ W11.heap.size := hb.size
  have HZ11 := Lib.hid hz11
  clear hz11
  have HM12 : Hid ((Below w.heap.size w W11) ∧ (W11.heap[x0]? = some (.cells #[.int .i64 a.kind, .int .u64 a.num, .string a.text, .slice pa na ca, .int .i64 a.elem] 25 (0, 0))) ∧ (W11.heap[x1]? = some (.cells #[.int .i64 b.kind, .int .u64 b.num, .string b.text, .slice pb nb cb, .int .i64 b.elem] 25 (0, 0))) ∧ (OwnBytes W11 W2.heap.size 5 (.slice p_w7 m1 c_w7) l1) ∧ (OwnBytes W11 W3.heap.size 5 (.slice p_w9 m2 c_w9) l2) ∧ (VL W11 W4.heap.size a (.slice (some ⟨g_x11, 0, none⟩) na (na + 3)) F11) ∧ (W11.heap[x11]? = some (.cells #[.int .i64 a.kind, .int .u64 a.num, .string a.text, .slice (some ⟨g_x11, 0, none⟩) na (na + 3), .int .i64 a.elem] 25 (0, 0))) ∧ (VL W11 W6.heap.size b (.slice (some ⟨g_x12, 0, none⟩) nb (nb + 3)) F12) ∧ (W11.heap[x12]? = some (.cells #[.int .i64 b.kind, .int .u64 b.num, .string b.text, .slice (some ⟨g_x12, 0, none⟩) nb (nb + 3), .int .i64 b.elem] 25 (0, 0))) ∧ (OwnBytes W11 W8.heap.size 5 (.slice p_u13 m1 c_u13) l1) ∧ (OwnBytes W11 W9.heap.size 5 (.slice p_u15 m1 c_u15) l1) ∧ (OwnBytes W11 W10.heap.size 5 (.slice p_u17 m2 c_u17) l2)) := Lib.hid ((And.intro (HM11.out.1.trans (hb.mono HM11.out.1.size)) (And.intro ((hb.block _ (Array.getElem?_eq_some_iff.1 HM11.out.2.1).1).trans HM11.out.2.1) (And.intro ((hb.block _ (Array.getElem?_eq_some_iff.1 HM11.out.2.2.1).1).trans HM11.out.2.2.1) (And.intro (HM11.out.2.2.2.1.of_below hb) (And.intro (HM11.out.2.2.2.2.1.of_below hb) (And.intro (HM11.out.2.2.2.2.2.1.blw hb) (And.intro ((hb.block _ (Array.getElem?_eq_some_iff.1 HM11.out.2.2.2.2.2.2.1).1).trans HM11.out.2.2.2.2.2.2.1) (And.intro (HM11.out.2.2.2.2.2.2.2.1.blw hb) (And.intro ((hb.block _ (Array.getElem?_eq_some_iff.1 HM11.out.2.2.2.2.2.2.2.2.1).1).trans HM11.out.2.2.2.2.2.2.2.2.1) (And.intro (HM11.out.2.2.2.2.2.2.2.2.2.1.of_below hb) (And.intro (HM11.out.2.2.2.2.2.2.2.2.2.2.of_below hb) ho))))))))))))
  clear HM11
  clear hb ho
  have hc := enc_as a W11 _ HM12.out.2.2.2.2.2.1.vin (HT.out.below HM12.out.1) (by have := HW.out.1; omega) HA1.out.1 HA1.out.2
  have HC12 := Lib.hid hc
  clear hc
  have q := HM12.out.2.2.2.2.2.2.1
  have x11_0 : W11.cell? ⟨x11, 0, none⟩ = some (.int .i64 a.kind) := (cell_of_row _ _ 0 _ _ _ q).trans rfl
  have x11_1 : W11.cell? ⟨x11, 1, none⟩ = some (.int .u64 a.num) := (cell_of_row _ _ 1 _ _ _ q).trans rfl
  have x11_2 : W11.cell? ⟨x11, 2, none⟩ = some (.string a.text) := (cell_of_row _ _ 2 _ _ _ q).trans rfl
  have x11_3 : W11.cell? ⟨x11, 3, none⟩ = some (.slice (some ⟨g_x11, 0, none⟩) na (na + 3)) := (cell_of_row _ _ 3 _ _ _ q).trans rfl
  have x11_4 : W11.cell? ⟨x11, 4, none⟩ = some (.int .i64 a.elem) := (cell_of_row _ _ 4 _ _ _ q).trans rfl
  clear q
  go_wp2_with fail
  refine HC12.out.mono ?_
  clear x11_0 x11_1 x11_2 x11_3 x11_4
  rintro e W12 ⟨p_u19, c_u19, rfl, ho, hb⟩
  have HIN_u19 : Hid (∀ g, (Value.slice p_u19 m1 c_u19).ownBlock = some g → W11.heap.size ≤ g ∧ g < W12.heap.size) := Lib.hid (fun g e => ho.row.lt g e)
  have hz12 : W11.heap.size ≤ W12.heap.size := hb.size
  have HZ12 := Lib.hid hz12
  clear hz12
  have HM13 : Hid ((Below w.heap.size w W12) ∧ (W12.heap[x0]? = some (.cells #[.int .i64 a.kind, .int .u64 a.num, .string a.text, .slice pa na ca, .int .i64 a.elem] 25 (0, 0))) ∧ (W12.heap[x1]? = some (.cells #[.int .i64 b.kind, .int .u64 b.num, .string b.text, .slice pb nb cb, .int .i64 b.elem] 25 (0, 0))) ∧ (OwnBytes W12 W2.heap.size 5 (.slice p_w7 m1 c_w7) l1) ∧ (OwnBytes W12 W3.heap.size 5 (.slice p_w9 m2 c_w9) l2) ∧ (VL W12 W4.heap.size a (.slice (some ⟨g_x11, 0, none⟩) na (na + 3)) F11) ∧ (W12.heap[x11]? = some (.cells #[.int .i64 a.kind, .int .u64 a.num, .string a.text, .slice (some ⟨g_x11, 0, none⟩) na (na + 3), .int .i64 a.elem] 25 (0, 0))) ∧ (VL W12 W6.heap.size b (.slice (some ⟨g_x12, 0, none⟩) nb (nb + 3)) F12) ∧ (W12.heap[x12]? = some (.cells #[.int .i64 b.kind, .int .u64 b.num, .string b.text, .slice (some ⟨g_x12, 0, none⟩) nb (nb + 3), .int .i64 b.elem] 25 (0, 0))) ∧ (OwnBytes W12 W8.heap.size 5 (.slice p_u13 m1 c_u13) l1) ∧ (OwnBytes W12 W9.heap.size 5 (.slice p_u15 m1 c_u15) l1) ∧ (OwnBytes W12 W10.heap.size 5 (.slice p_u17 m2 c_u17) l2) ∧ (OwnBytes W12 W11.heap.size 5 (.slice p_u19 m1 c_u19) l1)) := Lib.hid ((And.intro (HM12.out.1.trans (hb.mono HM12.out.1.size)) (And.intro ((hb.block _ (Array.getElem?_eq_some_iff.1 HM12.out.2.1).1).trans HM12.out.2.1) (And.intro ((hb.block _ (Array.getElem?_eq_some_iff.1 HM12.out.2.2.1).1).trans HM12.out.2.2.1) (And.intro (HM12.out.2.2.2.1.of_below hb) (And.intro (HM12.out.2.2.2.2.1.of_below hb) (And.intro (HM12.out.2.2.2.2.2.1.blw hb) (And.intro ((hb.block _ (Array.getElem?_eq_some_iff.1 HM12.out.2.2.2.2.2.2.1).1).trans HM12.out.2.2.2.2.2.2.1) (And.intro (HM12.out.2.2.2.2.2.2.2.1.blw hb) (And.intro ((hb.block _ (Array.getElem?_eq_some_iff.1 HM12.out.2.2.2.2.2.2.2.2.1).1).trans HM12.out.2.2.2.2.2.2.2.2.1) (And.intro (HM12.out.2.2.2.2.2.2.2.2.2.1.of_below hb) (And.intro (HM12.out.2.2.2.2.2.2.2.2.2.2.1.of_below hb) (And.intro (HM12.out.2.2.2.2.2.2.2.2.2.2.2.of_below hb) ho)))))))))))))
  clear HM12
  clear hb ho
  have hc := len_as a W12 _ HM13.out.2.2.2.2.2.1.vin (HT.out.below HM13.out.1) (by have := HW.out.1; omega) HA1.out.1 HA1.out.2
  have HC13 := Lib.hid hc
  clear hc
  have q := HM13.out.2.2.2.2.2.2.1
  have x11_0 : W12.cell? ⟨x11, 0, none⟩ = some (.int .i64 a.kind) := (cell_of_row _ _ 0 _ _ _ q).trans rfl
  have x11_1 : W12.cell? ⟨x11, 1, none⟩ = some (.int .u64 a.num) := (cell_of_row _ _ 1 _ _ _ q).trans rfl
  have x11_2 : W12.cell? ⟨x11, 2, none⟩ = some (.string a.text) := (cell_of_row _ _ 2 _ _ _ q).trans rfl
  have x11_3 : W12.cell? ⟨x11, 3, none⟩ = some (.slice (some ⟨g_x11, 0, none⟩) na (na + 3)) := (cell_of_row _ _ 3 _ _ _ q).trans rfl
  have x11_4 : W12.cell? ⟨x11, 4, none⟩ = some (.int .i64 a.elem) := (cell_of_row _ _ 4 _ _ _ q).trans rfl
  clear q
  go_wp2_with fail
  refine HC13.out.mono ?_
  clear x11_0 x11_1 x11_2 x11_3 x11_4
  rintro e W13 ⟨rfl, hb⟩
  have hz13 : W12.heap.size ≤ W13.heap.size := hb.size
  have HZ13 := Lib.hid hz13
  clear hz13
  have HM14 : Hid ((Below w.heap.size w W13) ∧ (W13.heap[x0]? = some (.cells #[.int .i64 a.kind, .int .u64 a.num, .string a.text, .slice pa na ca, .int .i64 a.elem] 25 (0, 0))) ∧ (W13.heap[x1]? = some (.cells #[.int .i64 b.kind, .int .u64 b.num, .string b.text, .slice pb nb cb, .int .i64 b.elem] 25 (0, 0))) ∧ (OwnBytes W13 W2.heap.size 5 (.slice p_w7 m1 c_w7) l1) ∧ (OwnBytes W13 W3.heap.size 5 (.slice p_w9 m2 c_w9) l2) ∧ (VL W13 W4.heap.size a (.slice (some ⟨g_x11, 0, none⟩) na (na + 3)) F11) ∧ (W13.heap[x11]? = some (.cells #[.int .i64 a.kind, .int .u64 a.num, .string a.text, .slice (some ⟨g_x11, 0, none⟩) na (na + 3), .int .i64 a.elem] 25 (0, 0))) ∧ (VL W13 W6.heap.size b (.slice (some ⟨g_x12, 0, none⟩) nb (nb + 3)) F12) ∧ (W13.heap[x12]? = some (.cells #[.int .i64 b.kind, .int .u64 b.num, .string b.text, .slice (some ⟨g_x12, 0, none⟩) nb (nb + 3), .int .i64 b.elem] 25 (0, 0))) ∧ (OwnBytes W13 W8.heap.size 5 (.slice p_u13 m1 c_u13) l1) ∧ (OwnBytes W13 W9.heap.size 5 (.slice p_u15 m1 c_u15) l1) ∧ (OwnBytes W13 W10.heap.size 5 (.slice p_u17 m2 c_u17) l2) ∧ (OwnBytes W13 W11.heap.size 5 (.slice p_u19 m1 c_u19) l1)) := Lib.hid ((And.intro (HM13.out.1.trans (hb.mono HM13.out.1.size)) (And.intro ((hb.block _ (Array.getElem?_eq_some_iff.1 HM13.out.2.1).1).trans HM13.out.2.1) (And.intro ((hb.block _ (Array.getElem?_eq_some_iff.1 HM13.out.2.2.1).1).trans HM13.out.2.2.1) (And.intro (HM13.out.2.2.2.1.of_below hb) (And.intro (HM13.out.2.2.2.2.1.of_below hb) (And.intro (HM13.out.2.2.2.2.2.1.blw hb) (And.intro ((hb.block _ (Array.getElem?_eq_some_iff.1 HM13.out.2.2.2.2.2.2.1).1).trans HM13.out.2.2.2.2.2.2.1) (And.intro (HM13.out.2.2.2.2.2.2.2.1.blw hb) (And.intro ((hb.block _ (Array.getElem?_eq_some_iff.1 HM13.out.2.2.2.2.2.2.2.2.1).1).trans HM13.out.2.2.2.2.2.2.2.2.1) (And.intro (HM13.out.2.2.2.2.2.2.2.2.2.1.of_below hb) (And.intro (HM13.out.2.2.2.2.2.2.2.2.2.2.1.of_below hb) (And.intro (HM13.out.2.2.2.2.2.2.2.2.2.2.2.1.of_below hb) (HM13.out.2.2.2.2.2.2.2.2.2.2.2.2.of_below hb))))))))))))))
  clear HM13
  clear hb
  have hc := len_as b W13 _ HM14.out.2.2.2.2.2.2.2.1.vin (HT.out.below HM14.out.1) (by have := HW.out.2; omega) HA2.out.1 HA2.out.2
  have HC14 := Lib.hid hc
  clear hc
  have q := HM14.out.2.2.2.2.2.2.2.2.1
  have x12_0 : W13.cell? ⟨x12, 0, none⟩ = some (.int .i64 b.kind) := (cell_of_row _ _ 0 _ _ _ q).trans rfl
  have x12_1 : W13.cell? ⟨x12, 1, none⟩ = some (.int .u64 b.num) := (cell_of_row _ _ 1 _ _ _ q).trans rfl
  have x12_2 : W13.cell? ⟨x12, 2, none⟩ = some (.string b.text) := (cell_of_row _ _ 2 _ _ _ q).trans rfl
  have x12_3 : W13.cell? ⟨x12, 3, none⟩ = some (.slice (some ⟨g_x12, 0, none⟩) nb (nb + 3)) := (cell_of_row _ _ 3 _ _ _ q).trans rfl
  have x12_4 : W13.cell? ⟨x12, 4, none⟩ = some (.int .i64 b.elem) := (cell_of_row _ _ 4 _ _ _ q).trans rfl
  clear q
  go_wp2_with fail
  refine HC14.out.mono ?_
  clear x12_0 x12_1 x12_2 x12_3 x12_4
  rintro e W14 ⟨rfl, hb⟩
  have hz14 : W13.heap.size ≤ W14.heap.size := hb.size
  have HZ14 := Lib.hid hz14
  clear hz14
  have HM15 : Hid ((Below w.heap.size w W14) ∧ (W14.heap[x0]? = some (.cells #[.int .i64 a.kind, .int .u64 a.num, .string a.text, .slice pa na ca, .int .i64 a.elem] 25 (0, 0))) ∧ (W14.heap[x1]? = some (.cells #[.int .i64 b.kind, .int .u64 b.num, .string b.text, .slice pb nb cb, .int .i64 b.elem] 25 (0, 0))) ∧ (OwnBytes W14 W2.heap.size 5 (.slice p_w7 m1 c_w7) l1) ∧ (OwnBytes W14 W3.heap.size 5 (.slice p_w9 m2 c_w9) l2) ∧ (VL W14 W4.heap.size a (.slice (some ⟨g_x11, 0, none⟩) na (na + 3)) F11) ∧ (W14.heap[x11]? = some (.cells #[.int .i64 a.kind, .int .u64 a.num, .string a.text, .slice (some ⟨g_x11, 0, none⟩) na (na + 3), .int .i64 a.elem] 25 (0, 0))) ∧ (VL W14 W6.heap.size b (.slice (some ⟨g_x12, 0, none⟩) nb (nb + 3)) F12) ∧ (W14.heap[x12]? = some (.cells #[.int .i64 b.kind, .int .u64 b.num, .string b.text, .slice (some ⟨g_x12, 0, none⟩) nb (nb + 3), .int .i64 b.elem] 25 (0, 0))) ∧ (OwnBytes W14 W8.heap.size 5 (.slice p_u13 m1 c_u13) l1) ∧ (OwnBytes W14 W9.heap.size 5 (.slice p_u15 m1 c_u15) l1) ∧ (OwnBytes W14 W10.heap.size 5 (.slice p_u17 m2 c_u17) l2) ∧ (OwnBytes W14 W11.heap.size 5 (.slice p_u19 m1 c_u19) l1)) := Lib.hid ((And.intro (HM14.out.1.trans (hb.mono HM14.out.1.size)) (And.intro ((hb.block _ (Array.getElem?_eq_some_iff.1 HM14.out.2.1).1).trans HM14.out.2.1) (And.intro ((hb.block _ (Array.getElem?_eq_some_iff.1 HM14.out.2.2.1).1).trans HM14.out.2.2.1) (And.intro (HM14.out.2.2.2.1.of_below hb) (And.intro (HM14.out.2.2.2.2.1.of_below hb) (And.intro (HM14.out.2.2.2.2.2.1.blw hb) (And.intro ((hb.block _ (Array.getElem?_eq_some_iff.1 HM14.out.2.2.2.2.2.2.1).1).trans HM14.out.2.2.2.2.2.2.1) (And.intro (HM14.out.2.2.2.2.2.2.2.1.blw hb) (And.intro ((hb.block _ (Array.getElem?_eq_some_iff.1 HM14.out.2.2.2.2.2.2.2.2.1).1).trans HM14.out.2.2.2.2.2.2.2.2.1) (And.intro (HM14.out.2.2.2.2.2.2.2.2.2.1.of_below hb) (And.intro (HM14.out.2.2.2.2.2.2.2.2.2.2.1.of_below hb) (And.intro (HM14.out.2.2.2.2.2.2.2.2.2.2.2.1.of_below hb) (HM14.out.2.2.2.2.2.2.2.2.2.2.2.2.of_below hb))))))))))))))
  clear HM14
  clear hb
  have qw7 : (convert 28 9 (.slice p_w7 m1 c_w7)).run Tryz.prog W14 = .ok (.string ⟨l1.toArray⟩) W14 := run_string_bytes W14 _ _ 5 Tryz.underlying28 Tryz.underlying5 Tryz.underlying9 _ _ _ _ (HM15.out.2.2.2.1).sl.2
  have qw9 : (convert 28 9 (.slice p_w9 m2 c_w9)).run Tryz.prog W14 = .ok (.string ⟨l2.toArray⟩) W14 := run_string_bytes W14 _ _ 5 Tryz.underlying28 Tryz.underlying5 Tryz.underlying9 _ _ _ _ (HM15.out.2.2.2.2.1).sl.2
  have qu13 : (convert 28 9 (.slice p_u13 m1 c_u13)).run Tryz.prog W14 = .ok (.string ⟨l1.toArray⟩) W14 := run_string_bytes W14 _ _ 5 Tryz.underlying28 Tryz.underlying5 Tryz.underlying9 _ _ _ _ (HM15.out.2.2.2.2.2.2.2.2.2.1).sl.2
  have qu15 : (convert 28 9 (.slice p_u15 m1 c_u15)).run Tryz.prog W14 = .ok (.string ⟨l1.toArray⟩) W14 := run_string_bytes W14 _ _ 5 Tryz.underlying28 Tryz.underlying5 Tryz.underlying9 _ _ _ _ (HM15.out.2.2.2.2.2.2.2.2.2.2.1).sl.2
  have qu17 : (convert 28 9 (.slice p_u17 m2 c_u17)).run Tryz.prog W14 = .ok (.string ⟨l2.toArray⟩) W14 := run_string_bytes W14 _ _ 5 Tryz.underlying28 Tryz.underlying5 Tryz.underlying9 _ _ _ _ (HM15.out.2.2.2.2.2.2.2.2.2.2.2.1).sl.2
  have qu19 : (convert 28 9 (.slice p_u19 m1 c_u19)).run Tryz.prog W14 = .ok (.string ⟨l1.toArray⟩) W14 := run_string_bytes W14 _ _ 5 Tryz.underlying28 Tryz.underlying5 Tryz.underlying9 _ _ _ _ (HM15.out.2.2.2.2.2.2.2.2.2.2.2.2).sl.2
  obtain ⟨T1, hT1⟩ : ∃ T : ByteArray, ⟨l1.toArray⟩ = T := ⟨_, rfl⟩
  obtain ⟨T2, hT2⟩ : ∃ T : ByteArray, ⟨l2.toArray⟩ = T := ⟨_, rfl⟩
  rw [hT1] at qw7 qu13 qu15 qu19
  rw [hT2] at qw9 qu17
  clear hT1 hT2
  go_upto_region 21 with fail
  clear qw7 qw9 qu13 qu15 qu17 qu19
  go_upto_region 22 with fail
  have hk0 : BookIs (W14.alloc (.cells #[.slice none 0 0] 38)) W14.heap.size W14.heap.size (.slice none 0 0) [] := ⟨_root_.Go.heap_alloc_new _ _, World.ownsRow_nil _ _ _ _⟩
  have hb0 : Below W14.heap.size W14 (W14.alloc (.cells #[.slice none 0 0] 38)) := (Below.refl _ _).alloc (Nat.le_refl _) _
  generalize (W14.alloc (.cells #[.slice none 0 0] 38)) = W15 at *
  obtain ⟨bk, hbk⟩ : ∃ x, W14.heap.size = x := ⟨_, rfl⟩
  rw [hbk] at hk0 hb0 ⊢
  have HBK := Lib.hid hbk
  have HK0 := Lib.hid (And.intro hk0 hb0)
  clear hk0 hb0 hbk
  go_wp2_with fail
  refine (btake_any W15 bk bk (.slice none 0 0) [] p_u13 m1 c_u13 HK0.out.1 (by have h1 := HK0.out.2.size; have h2 := HBK.out; omega) (by simp)).mono ?_
  rintro e W16 ⟨rfl, vl1, hk, hs, hsame, h1, h2, h3⟩
  have HK1 : Hid (BookIs W16 bk bk vl1 [.slice p_u13 m1 c_u13] ∧ Below bk W14 W16) := Lib.hid ⟨hk, took_below HK0.out.2 HK0.out.1 hs hsame h1 h2 h3 (by have := HBK.out; omega)⟩
  clear hk hs hsame h1 h2 h3
  go_wp2_with fail
  refine (btake_any W16 bk bk vl1 [.slice p_u13 m1 c_u13] p_u15 m1 c_u15 HK1.out.1 (by have h1 := HK1.out.2.size; have h2 := HBK.out; omega) (by simp)).mono ?_
  rintro e W17 ⟨rfl, vl2, hk, hs, hsame, h1, h2, h3⟩
  have HK2 : Hid (BookIs W17 bk bk vl2 [.slice p_u13 m1 c_u13, .slice p_u15 m1 c_u15] ∧ Below bk W14 W17) := Lib.hid ⟨hk, took_below HK1.out.2 HK1.out.1 hs hsame h1 h2 h3 (by have := HBK.out; omega)⟩
  clear hk hs hsame h1 h2 h3
  go_wp2_with fail
  refine (btake_any W17 bk bk vl2 [.slice p_u13 m1 c_u13, .slice p_u15 m1 c_u15] p_u17 m2 c_u17 HK2.out.1 (by have h1 := HK2.out.2.size; have h2 := HBK.out; omega) (by simp)).mono ?_
  rintro e W18 ⟨rfl, vl3, hk, hs, hsame, h1, h2, h3⟩
  have HK3 : Hid (BookIs W18 bk bk vl3 [.slice p_u13 m1 c_u13, .slice p_u15 m1 c_u15, .slice p_u17 m2 c_u17] ∧ Below bk W14 W18) := Lib.hid ⟨hk, took_below HK2.out.2 HK2.out.1 hs hsame h1 h2 h3 (by have := HBK.out; omega)⟩
  clear hk hs hsame h1 h2 h3
  go_wp2_with fail
  refine (btake_any W18 bk bk vl3 [.slice p_u13 m1 c_u13, .slice p_u15 m1 c_u15, .slice p_u17 m2 c_u17] p_u19 m1 c_u19 HK3.out.1 (by have h1 := HK3.out.2.size; have h2 := HBK.out; omega) (by simp)).mono ?_
  rintro e W19 ⟨rfl, vl4, hk, hs, hsame, h1, h2, h3⟩
  have HK4 : Hid (BookIs W19 bk bk vl4 [.slice p_u13 m1 c_u13, .slice p_u15 m1 c_u15, .slice p_u17 m2 c_u17, .slice p_u19 m1 c_u19] ∧ Below bk W14 W19) := Lib.hid ⟨hk, took_below HK3.out.2 HK3.out.1 hs hsame h1 h2 h3 (by have := HBK.out; omega)⟩
  clear hk hs hsame h1 h2 h3
  have ho0 : OwnBytes W19 0 5 (.slice p_u13 m1 c_u13) l1 := ⟨ownsRow_base ((HM15.out.2.2.2.2.2.2.2.2.2.1).of_below (HBK.out ▸ HK4.out.2)).row (fun _ _ => Nat.zero_le _)⟩
  have ho1 : OwnBytes W19 0 5 (.slice p_u15 m1 c_u15) l1 := ⟨ownsRow_base ((HM15.out.2.2.2.2.2.2.2.2.2.2.1).of_below (HBK.out ▸ HK4.out.2)).row (fun _ _ => Nat.zero_le _)⟩
  have ho2 : OwnBytes W19 0 5 (.slice p_u17 m2 c_u17) l2 := ⟨ownsRow_base ((HM15.out.2.2.2.2.2.2.2.2.2.2.2.1).of_below (HBK.out ▸ HK4.out.2)).row (fun _ _ => Nat.zero_le _)⟩
  have ho3 : OwnBytes W19 0 5 (.slice p_u19 m1 c_u19) l1 := ⟨ownsRow_base ((HM15.out.2.2.2.2.2.2.2.2.2.2.2.2).of_below (HBK.out ▸ HK4.out.2)).row (fun _ _ => Nat.zero_le _)⟩
  have hdist : Distinct [(.slice p_u13 m1 c_u13 : Value), .slice p_u15 m1 c_u15, .slice p_u17 m2 c_u17, .slice p_u19 m1 c_u19] := distinct4 HIN_u13.out HIN_u15.out HIN_u17.out HIN_u19.out (by have z0 := HX_x0.out; have z1 := HX_x1.out; have z2 := HZw.out; have z3 := HLT0.out; have z4 := HLT1.out; have z5 := HZ1.out; have z6 := HZ2.out; have z7 := HZ3.out; have z8 := HZ4.out; have z9 := HZ5.out; have z10 := HX_x11.out; have z11 := HLT_x11.out; have z12 := HZ6.out; have z13 := HZ7.out; have z14 := HX_x12.out; have z15 := HLT_x12.out; have z16 := HZ8.out; have z17 := HZ9.out; have z18 := HZ10.out; have z19 := HZ11.out; have z20 := HZ12.out; have z21 := HZ13.out; have z22 := HZ14.out; omega) (by have z0 := HX_x0.out; have z1 := HX_x1.out; have z2 := HZw.out; have z3 := HLT0.out; have z4 := HLT1.out; have z5 := HZ1.out; have z6 := HZ2.out; have z7 := HZ3.out; have z8 := HZ4.out; have z9 := HZ5.out; have z10 := HX_x11.out; have z11 := HLT_x11.out; have z12 := HZ6.out; have z13 := HZ7.out; have z14 := HX_x12.out; have z15 := HLT_x12.out; have z16 := HZ8.out; have z17 := HZ9.out; have z18 := HZ10.out; have z19 := HZ11.out; have z20 := HZ12.out; have z21 := HZ13.out; have z22 := HZ14.out; omega) (by have z0 := HX_x0.out; have z1 := HX_x1.out; have z2 := HZw.out; have z3 := HLT0.out; have z4 := HLT1.out; have z5 := HZ1.out; have z6 := HZ2.out; have z7 := HZ3.out; have z8 := HZ4.out; have z9 := HZ5.out; have z10 := HX_x11.out; have z11 := HLT_x11.out; have z12 := HZ6.out; have z13 := HZ7.out; have z14 := HX_x12.out; have z15 := HLT_x12.out; have z16 := HZ8.out; have z17 := HZ9.out; have z18 := HZ10.out; have z19 := HZ11.out; have z20 := HZ12.out; have z21 := HZ13.out; have z22 := HZ14.out; omega) (by have z0 := HX_x0.out; have z1 := HX_x1.out; have z2 := HZw.out; have z3 := HLT0.out; have z4 := HLT1.out; have z5 := HZ1.out; have z6 := HZ2.out; have z7 := HZ3.out; have z8 := HZ4.out; have z9 := HZ5.out; have z10 := HX_x11.out; have z11 := HLT_x11.out; have z12 := HZ6.out; have z13 := HZ7.out; have z14 := HX_x12.out; have z15 := HLT_x12.out; have z16 := HZ8.out; have z17 := HZ9.out; have z18 := HZ10.out; have z19 := HZ11.out; have z20 := HZ12.out; have z21 := HZ13.out; have z22 := HZ14.out; omega) (by have z0 := HX_x0.out; have z1 := HX_x1.out; have z2 := HZw.out; have z3 := HLT0.out; have z4 := HLT1.out; have z5 := HZ1.out; have z6 := HZ2.out; have z7 := HZ3.out; have z8 := HZ4.out; have z9 := HZ5.out; have z10 := HX_x11.out; have z11 := HLT_x11.out; have z12 := HZ6.out; have z13 := HZ7.out; have z14 := HX_x12.out; have z15 := HLT_x12.out; have z16 := HZ8.out; have z17 := HZ9.out; have z18 := HZ10.out; have z19 := HZ11.out; have z20 := HZ12.out; have z21 := HZ13.out; have z22 := HZ14.out; omega)
  have HLB := Lib.hid (And.intro (putlen_le HA1.out.1) (putlen_le HA2.out.1))
  have hown := owned_any W19 0 bk vl4 [(.slice p_u13 m1 c_u13 : Value), .slice p_u15 m1 c_u15, .slice p_u17 m2 c_u17, .slice p_u19 m1 c_u19] (fun j => ((match j with | 0 => m1 | 1 => m1 | 2 => m2 | _ => m1) : Nat)) ⟨HK4.out.1.at_, ownsRow_base HK4.out.1.row (fun _ _ => Nat.zero_le _)⟩ (Nat.zero_le _) hdist (fun j hj => by
    simp only [List.length_cons, List.length_nil] at hj
    match j, hj with
    | 0, _ => exact ⟨l1, HA1.out.2, ho0⟩
    | 1, _ => exact ⟨l1, HA1.out.2, ho1⟩
    | 2, _ => exact ⟨l2, HA2.out.2, ho2⟩
    | 3, _ => exact ⟨l1, HA1.out.2, ho3⟩
    | (j + 4), h => exact absurd h (by omega)) (by simp) (fun j => by
    have h1 := HLB.out
    have h2 := HA1.out.2
    have h3 := HA2.out.2
    match j with
    | 0 => show m1 ≤ _; omega
    | 1 => show m1 ≤ _; omega
    | 2 => show m2 ≤ _; omega
    | (j + 3) => show m1 ≤ _; omega)
  have HOWN := Lib.hid hown
  clear hown hdist ho0 ho1 ho2 ho3
  go_wp2_with fail
  refine HOWN.out.mono ?_
  rintro e W20 ⟨rfl, hor⟩
  have hk : KeepF (fun g => ∃ v ∈ [(.slice p_u13 m1 c_u13 : Value), .slice p_u15 m1 c_u15, .slice p_u17 m2 c_u17, .slice p_u19 m1 c_u19], v.ownBlock = some g) W14 W20 := only_keepF (n := bk) HK4.out.2 (by have := HBK.out; omega) hor
  clear hor
  have HIN_FB : Hid (∀ g, (∃ v ∈ [(.slice p_u13 m1 c_u13 : Value), .slice p_u15 m1 c_u15, .slice p_u17 m2 c_u17, .slice p_u19 m1 c_u19], v.ownBlock = some g) → W8.heap.size ≤ g ∧ g < W14.heap.size) := Lib.hid (fun g h => by
    obtain ⟨v, hv, e⟩ := h
    simp only [List.mem_cons, List.not_mem_nil, or_false] at hv
    rcases hv with rfl | rfl | rfl | rfl
    · have h1 := HIN_u13.out g e; have z0 := HX_x0.out; have z1 := HX_x1.out; have z2 := HZw.out; have z3 := HLT0.out; have z4 := HLT1.out; have z5 := HZ1.out; have z6 := HZ2.out; have z7 := HZ3.out; have z8 := HZ4.out; have z9 := HZ5.out; have z10 := HX_x11.out; have z11 := HLT_x11.out; have z12 := HZ6.out; have z13 := HZ7.out; have z14 := HX_x12.out; have z15 := HLT_x12.out; have z16 := HZ8.out; have z17 := HZ9.out; have z18 := HZ10.out; have z19 := HZ11.out; have z20 := HZ12.out; have z21 := HZ13.out; have z22 := HZ14.out; omega
    · have h1 := HIN_u15.out g e; have z0 := HX_x0.out; have z1 := HX_x1.out; have z2 := HZw.out; have z3 := HLT0.out; have z4 := HLT1.out; have z5 := HZ1.out; have z6 := HZ2.out; have z7 := HZ3.out; have z8 := HZ4.out; have z9 := HZ5.out; have z10 := HX_x11.out; have z11 := HLT_x11.out; have z12 := HZ6.out; have z13 := HZ7.out; have z14 := HX_x12.out; have z15 := HLT_x12.out; have z16 := HZ8.out; have z17 := HZ9.out; have z18 := HZ10.out; have z19 := HZ11.out; have z20 := HZ12.out; have z21 := HZ13.out; have z22 := HZ14.out; omega
    · have h1 := HIN_u17.out g e; have z0 := HX_x0.out; have z1 := HX_x1.out; have z2 := HZw.out; have z3 := HLT0.out; have z4 := HLT1.out; have z5 := HZ1.out; have z6 := HZ2.out; have z7 := HZ3.out; have z8 := HZ4.out; have z9 := HZ5.out; have z10 := HX_x11.out; have z11 := HLT_x11.out; have z12 := HZ6.out; have z13 := HZ7.out; have z14 := HX_x12.out; have z15 := HLT_x12.out; have z16 := HZ8.out; have z17 := HZ9.out; have z18 := HZ10.out; have z19 := HZ11.out; have z20 := HZ12.out; have z21 := HZ13.out; have z22 := HZ14.out; omega
    · have h1 := HIN_u19.out g e; have z0 := HX_x0.out; have z1 := HX_x1.out; have z2 := HZw.out; have z3 := HLT0.out; have z4 := HLT1.out; have z5 := HZ1.out; have z6 := HZ2.out; have z7 := HZ3.out; have z8 := HZ4.out; have z9 := HZ5.out; have z10 := HX_x11.out; have z11 := HLT_x11.out; have z12 := HZ6.out; have z13 := HZ7.out; have z14 := HX_x12.out; have z15 := HLT_x12.out; have z16 := HZ8.out; have z17 := HZ9.out; have z18 := HZ10.out; have z19 := HZ11.out; have z20 := HZ12.out; have z21 := HZ13.out; have z22 := HZ14.out; omega)
  have HM16 : Hid ((Below w.heap.size w W14) ∧ (W14.heap[x0]? = some (.cells #[.int .i64 a.kind, .int .u64 a.num, .string a.text, .slice pa na ca, .int .i64 a.elem] 25 (0, 0))) ∧ (W14.heap[x1]? = some (.cells #[.int .i64 b.kind, .int .u64 b.num, .string b.text, .slice pb nb cb, .int .i64 b.elem] 25 (0, 0))) ∧ (OwnBytes W14 W3.heap.size 5 (.slice p_w9 m2 c_w9) l2) ∧ (VL W14 W4.heap.size a (.slice (some ⟨g_x11, 0, none⟩) na (na + 3)) F11) ∧ (W14.heap[x11]? = some (.cells #[.int .i64 a.kind, .int .u64 a.num, .string a.text, .slice (some ⟨g_x11, 0, none⟩) na (na + 3), .int .i64 a.elem] 25 (0, 0))) ∧ (VL W14 W6.heap.size b (.slice (some ⟨g_x12, 0, none⟩) nb (nb + 3)) F12) ∧ (W14.heap[x12]? = some (.cells #[.int .i64 b.kind, .int .u64 b.num, .string b.text, .slice (some ⟨g_x12, 0, none⟩) nb (nb + 3), .int .i64 b.elem] 25 (0, 0))) ∧ (OwnBytes W14 W8.heap.size 5 (.slice p_u13 m1 c_u13) l1) ∧ (OwnBytes W14 W9.heap.size 5 (.slice p_u15 m1 c_u15) l1) ∧ (OwnBytes W14 W10.heap.size 5 (.slice p_u17 m2 c_u17) l2) ∧ (OwnBytes W14 W11.heap.size 5 (.slice p_u19 m1 c_u19) l1)) := Lib.hid ((And.intro HM15.out.1 (And.intro HM15.out.2.1 (And.intro HM15.out.2.2.1 (And.intro HM15.out.2.2.2.2.1 (And.intro HM15.out.2.2.2.2.2.1 (And.intro HM15.out.2.2.2.2.2.2.1 (And.intro HM15.out.2.2.2.2.2.2.2.1 (And.intro HM15.out.2.2.2.2.2.2.2.2.1 (And.intro HM15.out.2.2.2.2.2.2.2.2.2.1 (And.intro HM15.out.2.2.2.2.2.2.2.2.2.2.1 (And.intro HM15.out.2.2.2.2.2.2.2.2.2.2.2.1 HM15.out.2.2.2.2.2.2.2.2.2.2.2.2))))))))))))
  clear HM15
  have HM17 : Hid ((Below w.heap.size w W14) ∧ (W14.heap[x0]? = some (.cells #[.int .i64 a.kind, .int .u64 a.num, .string a.text, .slice pa na ca, .int .i64 a.elem] 25 (0, 0))) ∧ (W14.heap[x1]? = some (.cells #[.int .i64 b.kind, .int .u64 b.num, .string b.text, .slice pb nb cb, .int .i64 b.elem] 25 (0, 0))) ∧ (VL W14 W4.heap.size a (.slice (some ⟨g_x11, 0, none⟩) na (na + 3)) F11) ∧ (W14.heap[x11]? = some (.cells #[.int .i64 a.kind, .int .u64 a.num, .string a.text, .slice (some ⟨g_x11, 0, none⟩) na (na + 3), .int .i64 a.elem] 25 (0, 0))) ∧ (VL W14 W6.heap.size b (.slice (some ⟨g_x12, 0, none⟩) nb (nb + 3)) F12) ∧ (W14.heap[x12]? = some (.cells #[.int .i64 b.kind, .int .u64 b.num, .string b.text, .slice (some ⟨g_x12, 0, none⟩) nb (nb + 3), .int .i64 b.elem] 25 (0, 0))) ∧ (OwnBytes W14 W8.heap.size 5 (.slice p_u13 m1 c_u13) l1) ∧ (OwnBytes W14 W9.heap.size 5 (.slice p_u15 m1 c_u15) l1) ∧ (OwnBytes W14 W10.heap.size 5 (.slice p_u17 m2 c_u17) l2) ∧ (OwnBytes W14 W11.heap.size 5 (.slice p_u19 m1 c_u19) l1)) := Lib.hid ((And.intro HM16.out.1 (And.intro HM16.out.2.1 (And.intro HM16.out.2.2.1 (And.intro HM16.out.2.2.2.2.1 (And.intro HM16.out.2.2.2.2.2.1 (And.intro HM16.out.2.2.2.2.2.2.1 (And.intro HM16.out.2.2.2.2.2.2.2.1 (And.intro HM16.out.2.2.2.2.2.2.2.2.1 (And.intro HM16.out.2.2.2.2.2.2.2.2.2.1 (And.intro HM16.out.2.2.2.2.2.2.2.2.2.2.1 HM16.out.2.2.2.2.2.2.2.2.2.2.2)))))))))))
  clear HM16
  have HM18 : Hid ((Below w.heap.size w W14) ∧ (W14.heap[x0]? = some (.cells #[.int .i64 a.kind, .int .u64 a.num, .string a.text, .slice pa na ca, .int .i64 a.elem] 25 (0, 0))) ∧ (W14.heap[x1]? = some (.cells #[.int .i64 b.kind, .int .u64 b.num, .string b.text, .slice pb nb cb, .int .i64 b.elem] 25 (0, 0))) ∧ (VL W14 W4.heap.size a (.slice (some ⟨g_x11, 0, none⟩) na (na + 3)) F11) ∧ (W14.heap[x11]? = some (.cells #[.int .i64 a.kind, .int .u64 a.num, .string a.text, .slice (some ⟨g_x11, 0, none⟩) na (na + 3), .int .i64 a.elem] 25 (0, 0))) ∧ (VL W14 W6.heap.size b (.slice (some ⟨g_x12, 0, none⟩) nb (nb + 3)) F12) ∧ (W14.heap[x12]? = some (.cells #[.int .i64 b.kind, .int .u64 b.num, .string b.text, .slice (some ⟨g_x12, 0, none⟩) nb (nb + 3), .int .i64 b.elem] 25 (0, 0))) ∧ (OwnBytes W14 W9.heap.size 5 (.slice p_u15 m1 c_u15) l1) ∧ (OwnBytes W14 W10.heap.size 5 (.slice p_u17 m2 c_u17) l2) ∧ (OwnBytes W14 W11.heap.size 5 (.slice p_u19 m1 c_u19) l1)) := Lib.hid ((And.intro HM17.out.1 (And.intro HM17.out.2.1 (And.intro HM17.out.2.2.1 (And.intro HM17.out.2.2.2.1 (And.intro HM17.out.2.2.2.2.1 (And.intro HM17.out.2.2.2.2.2.1 (And.intro HM17.out.2.2.2.2.2.2.1 (And.intro HM17.out.2.2.2.2.2.2.2.2.1 (And.intro HM17.out.2.2.2.2.2.2.2.2.2.1 HM17.out.2.2.2.2.2.2.2.2.2.2))))))))))
  clear HM17
  have HM19 : Hid ((Below w.heap.size w W14) ∧ (W14.heap[x0]? = some (.cells #[.int .i64 a.kind, .int .u64 a.num, .string a.text, .slice pa na ca, .int .i64 a.elem] 25 (0, 0))) ∧ (W14.heap[x1]? = some (.cells #[.int .i64 b.kind, .int .u64 b.num, .string b.text, .slice pb nb cb, .int .i64 b.elem] 25 (0, 0))) ∧ (VL W14 W4.heap.size a (.slice (some ⟨g_x11, 0, none⟩) na (na + 3)) F11) ∧ (W14.heap[x11]? = some (.cells #[.int .i64 a.kind, .int .u64 a.num, .string a.text, .slice (some ⟨g_x11, 0, none⟩) na (na + 3), .int .i64 a.elem] 25 (0, 0))) ∧ (VL W14 W6.heap.size b (.slice (some ⟨g_x12, 0, none⟩) nb (nb + 3)) F12) ∧ (W14.heap[x12]? = some (.cells #[.int .i64 b.kind, .int .u64 b.num, .string b.text, .slice (some ⟨g_x12, 0, none⟩) nb (nb + 3), .int .i64 b.elem] 25 (0, 0))) ∧ (OwnBytes W14 W10.heap.size 5 (.slice p_u17 m2 c_u17) l2) ∧ (OwnBytes W14 W11.heap.size 5 (.slice p_u19 m1 c_u19) l1)) := Lib.hid ((And.intro HM18.out.1 (And.intro HM18.out.2.1 (And.intro HM18.out.2.2.1 (And.intro HM18.out.2.2.2.1 (And.intro HM18.out.2.2.2.2.1 (And.intro HM18.out.2.2.2.2.2.1 (And.intro HM18.out.2.2.2.2.2.2.1 (And.intro HM18.out.2.2.2.2.2.2.2.2.1 HM18.out.2.2.2.2.2.2.2.2.2)))))))))
  clear HM18
  have HM20 : Hid ((Below w.heap.size w W14) ∧ (W14.heap[x0]? = some (.cells #[.int .i64 a.kind, .int .u64 a.num, .string a.text, .slice pa na ca, .int .i64 a.elem] 25 (0, 0))) ∧ (W14.heap[x1]? = some (.cells #[.int .i64 b.kind, .int .u64 b.num, .string b.text, .slice pb nb cb, .int .i64 b.elem] 25 (0, 0))) ∧ (VL W14 W4.heap.size a (.slice (some ⟨g_x11, 0, none⟩) na (na + 3)) F11) ∧ (W14.heap[x11]? = some (.cells #[.int .i64 a.kind, .int .u64 a.num, .string a.text, .slice (some ⟨g_x11, 0, none⟩) na (na + 3), .int .i64 a.elem] 25 (0, 0))) ∧ (VL W14 W6.heap.size b (.slice (some ⟨g_x12, 0, none⟩) nb (nb + 3)) F12) ∧ (W14.heap[x12]? = some (.cells #[.int .i64 b.kind, .int .u64 b.num, .string b.text, .slice (some ⟨g_x12, 0, none⟩) nb (nb + 3), .int .i64 b.elem] 25 (0, 0))) ∧ (OwnBytes W14 W11.heap.size 5 (.slice p_u19 m1 c_u19) l1)) := Lib.hid ((And.intro HM19.out.1 (And.intro HM19.out.2.1 (And.intro HM19.out.2.2.1 (And.intro HM19.out.2.2.2.1 (And.intro HM19.out.2.2.2.2.1 (And.intro HM19.out.2.2.2.2.2.1 (And.intro HM19.out.2.2.2.2.2.2.1 HM19.out.2.2.2.2.2.2.2.2))))))))
  clear HM19
  have HM21 : Hid ((Below w.heap.size w W14) ∧ (W14.heap[x0]? = some (.cells #[.int .i64 a.kind, .int .u64 a.num, .string a.text, .slice pa na ca, .int .i64 a.elem] 25 (0, 0))) ∧ (W14.heap[x1]? = some (.cells #[.int .i64 b.kind, .int .u64 b.num, .string b.text, .slice pb nb cb, .int .i64 b.elem] 25 (0, 0))) ∧ (VL W14 W4.heap.size a (.slice (some ⟨g_x11, 0, none⟩) na (na + 3)) F11) ∧ (W14.heap[x11]? = some (.cells #[.int .i64 a.kind, .int .u64 a.num, .string a.text, .slice (some ⟨g_x11, 0, none⟩) na (na + 3), .int .i64 a.elem] 25 (0, 0))) ∧ (VL W14 W6.heap.size b (.slice (some ⟨g_x12, 0, none⟩) nb (nb + 3)) F12) ∧ (W14.heap[x12]? = some (.cells #[.int .i64 b.kind, .int .u64 b.num, .string b.text, .slice (some ⟨g_x12, 0, none⟩) nb (nb + 3), .int .i64 b.elem] 25 (0, 0)))) := Lib.hid ((And.intro HM20.out.1 (And.intro HM20.out.2.1 (And.intro HM20.out.2.2.1 (And.intro HM20.out.2.2.2.1 (And.intro HM20.out.2.2.2.2.1 (And.intro HM20.out.2.2.2.2.2.1 HM20.out.2.2.2.2.2.2.1)))))))
  clear HM20
  have hz21 : W14.heap.size ≤ W20.heap.size := hk.size
  have HZ21 := Lib.hid hz21
  clear hz21
  have HM22 : Hid ((Below w.heap.size w W20) ∧ (W20.heap[x0]? = some (.cells #[.int .i64 a.kind, .int .u64 a.num, .string a.text, .slice pa na ca, .int .i64 a.elem] 25 (0, 0))) ∧ (W20.heap[x1]? = some (.cells #[.int .i64 b.kind, .int .u64 b.num, .string b.text, .slice pb nb cb, .int .i64 b.elem] 25 (0, 0))) ∧ (VL W20 W4.heap.size a (.slice (some ⟨g_x11, 0, none⟩) na (na + 3)) F11) ∧ (W20.heap[x11]? = some (.cells #[.int .i64 a.kind, .int .u64 a.num, .string a.text, .slice (some ⟨g_x11, 0, none⟩) na (na + 3), .int .i64 a.elem] 25 (0, 0))) ∧ (VL W20 W6.heap.size b (.slice (some ⟨g_x12, 0, none⟩) nb (nb + 3)) F12) ∧ (W20.heap[x12]? = some (.cells #[.int .i64 b.kind, .int .u64 b.num, .string b.text, .slice (some ⟨g_x12, 0, none⟩) nb (nb + 3), .int .i64 b.elem] 25 (0, 0)))) := Lib.hid ((And.intro (KeepF.below HM21.out.1 hk (fun j q => by have h1 := HIN_FB.out j q; have z0 := HX_x0.out; have z1 := HX_x1.out; have z2 := HZw.out; have z3 := HLT0.out; have z4 := HLT1.out; have z5 := HZ1.out; have z6 := HZ2.out; have z7 := HZ3.out; have z8 := HZ4.out; have z9 := HZ5.out; have z10 := HX_x11.out; have z11 := HLT_x11.out; have z12 := HZ6.out; have z13 := HZ7.out; have z14 := HX_x12.out; have z15 := HLT_x12.out; have z16 := HZ8.out; have z17 := HZ9.out; have z18 := HZ10.out; have z19 := HZ11.out; have z20 := HZ12.out; have z21 := HZ13.out; have z22 := HZ14.out; have z23 := HZ21.out; omega) HM21.out.1.size) (And.intro ((hk.block _ (Array.getElem?_eq_some_iff.1 HM21.out.2.1).1 (fun q => by have h1 := HIN_FB.out _ q; have z0 := HX_x0.out; have z1 := HX_x1.out; have z2 := HZw.out; have z3 := HLT0.out; have z4 := HLT1.out; have z5 := HZ1.out; have z6 := HZ2.out; have z7 := HZ3.out; have z8 := HZ4.out; have z9 := HZ5.out; have z10 := HX_x11.out; have z11 := HLT_x11.out; have z12 := HZ6.out; have z13 := HZ7.out; have z14 := HX_x12.out; have z15 := HLT_x12.out; have z16 := HZ8.out; have z17 := HZ9.out; have z18 := HZ10.out; have z19 := HZ11.out; have z20 := HZ12.out; have z21 := HZ13.out; have z22 := HZ14.out; have z23 := HZ21.out; omega)).trans HM21.out.2.1) (And.intro ((hk.block _ (Array.getElem?_eq_some_iff.1 HM21.out.2.2.1).1 (fun q => by have h1 := HIN_FB.out _ q; have z0 := HX_x0.out; have z1 := HX_x1.out; have z2 := HZw.out; have z3 := HLT0.out; have z4 := HLT1.out; have z5 := HZ1.out; have z6 := HZ2.out; have z7 := HZ3.out; have z8 := HZ4.out; have z9 := HZ5.out; have z10 := HX_x11.out; have z11 := HLT_x11.out; have z12 := HZ6.out; have z13 := HZ7.out; have z14 := HX_x12.out; have z15 := HLT_x12.out; have z16 := HZ8.out; have z17 := HZ9.out; have z18 := HZ10.out; have z19 := HZ11.out; have z20 := HZ12.out; have z21 := HZ13.out; have z22 := HZ14.out; have z23 := HZ21.out; omega)).trans HM21.out.2.2.1) (And.intro (HM21.out.2.2.2.1.keepF hk (fun j g q => by have h1 := HIN_FB.out j q; have h2 := HIN_F11.out j g; have z0 := HX_x0.out; have z1 := HX_x1.out; have z2 := HZw.out; have z3 := HLT0.out; have z4 := HLT1.out; have z5 := HZ1.out; have z6 := HZ2.out; have z7 := HZ3.out; have z8 := HZ4.out; have z9 := HZ5.out; have z10 := HX_x11.out; have z11 := HLT_x11.out; have z12 := HZ6.out; have z13 := HZ7.out; have z14 := HX_x12.out; have z15 := HLT_x12.out; have z16 := HZ8.out; have z17 := HZ9.out; have z18 := HZ10.out; have z19 := HZ11.out; have z20 := HZ12.out; have z21 := HZ13.out; have z22 := HZ14.out; have z23 := HZ21.out; omega)) (And.intro ((hk.block _ (Array.getElem?_eq_some_iff.1 HM21.out.2.2.2.2.1).1 (fun q => by have h1 := HIN_FB.out _ q; have z0 := HX_x0.out; have z1 := HX_x1.out; have z2 := HZw.out; have z3 := HLT0.out; have z4 := HLT1.out; have z5 := HZ1.out; have z6 := HZ2.out; have z7 := HZ3.out; have z8 := HZ4.out; have z9 := HZ5.out; have z10 := HX_x11.out; have z11 := HLT_x11.out; have z12 := HZ6.out; have z13 := HZ7.out; have z14 := HX_x12.out; have z15 := HLT_x12.out; have z16 := HZ8.out; have z17 := HZ9.out; have z18 := HZ10.out; have z19 := HZ11.out; have z20 := HZ12.out; have z21 := HZ13.out; have z22 := HZ14.out; have z23 := HZ21.out; omega)).trans HM21.out.2.2.2.2.1) (And.intro (HM21.out.2.2.2.2.2.1.keepF hk (fun j g q => by have h1 := HIN_FB.out j q; have h2 := HIN_F12.out j g; have z0 := HX_x0.out; have z1 := HX_x1.out; have z2 := HZw.out; have z3 := HLT0.out; have z4 := HLT1.out; have z5 := HZ1.out; have z6 := HZ2.out; have z7 := HZ3.out; have z8 := HZ4.out; have z9 := HZ5.out; have z10 := HX_x11.out; have z11 := HLT_x11.out; have z12 := HZ6.out; have z13 := HZ7.out; have z14 := HX_x12.out; have z15 := HLT_x12.out; have z16 := HZ8.out; have z17 := HZ9.out; have z18 := HZ10.out; have z19 := HZ11.out; have z20 := HZ12.out; have z21 := HZ13.out; have z22 := HZ14.out; have z23 := HZ21.out; omega)) ((hk.block _ (Array.getElem?_eq_some_iff.1 HM21.out.2.2.2.2.2.2).1 (fun q => by have h1 := HIN_FB.out _ q; have z0 := HX_x0.out; have z1 := HX_x1.out; have z2 := HZw.out; have z3 := HLT0.out; have z4 := HLT1.out; have z5 := HZ1.out; have z6 := HZ2.out; have z7 := HZ3.out; have z8 := HZ4.out; have z9 := HZ5.out; have z10 := HX_x11.out; have z11 := HLT_x11.out; have z12 := HZ6.out; have z13 := HZ7.out; have z14 := HX_x12.out; have z15 := HLT_x12.out; have z16 := HZ8.out; have z17 := HZ9.out; have z18 := HZ10.out; have z19 := HZ11.out; have z20 := HZ12.out; have z21 := HZ13.out; have z22 := HZ14.out; have z23 := HZ21.out; omega)).trans HM21.out.2.2.2.2.2.2))))))))
  clear HM21
  clear hk HOWN
  have hc := turned_on a W20 _ (HV.out.1.blw HM22.out.1) (by have := HW.out.1; omega)
  have HC21 := Lib.hid hc
  clear hc
  have q := HM22.out.2.1
  have x0_0 : W20.cell? ⟨x0, 0, none⟩ = some (.int .i64 a.kind) := (cell_of_row _ _ 0 _ _ _ q).trans rfl
  have x0_1 : W20.cell? ⟨x0, 1, none⟩ = some (.int .u64 a.num) := (cell_of_row _ _ 1 _ _ _ q).trans rfl
  have x0_2 : W20.cell? ⟨x0, 2, none⟩ = some (.string a.text) := (cell_of_row _ _ 2 _ _ _ q).trans rfl
  have x0_3 : W20.cell? ⟨x0, 3, none⟩ = some (.slice pa na ca) := (cell_of_row _ _ 3 _ _ _ q).trans rfl
  have x0_4 : W20.cell? ⟨x0, 4, none⟩ = some (.int .i64 a.elem) := (cell_of_row _ _ 4 _ _ _ q).trans rfl
  clear q
  go_wp2_with fail
  refine HC21.out.mono ?_
  clear x0_0 x0_1 x0_2 x0_3 x0_4
  rintro e W21 ⟨t_x27, FT, rfl, hvo, hb⟩
  rw [V.turned_eq] at hvo
  obtain ⟨p_x27, c_x27, hs, hj1, hj2⟩ := hvo.slice
  clear hj1 hj2
  rw [show (V.mk a.kind (xor1 a.num) a.text (a.list.map V.turned) a.elem).list.length = na by show (a.list.map V.turned).length = na; rw [List.length_map, HNA.out]] at hs
  subst hs
  have HIN_FT : Hid (∀ g, FT g → W20.heap.size ≤ g ∧ g < W21.heap.size) := Lib.hid (hvo.lt)
  have hz22 : W20.heap.size ≤ W21.heap.size := hb.size
  have HZ22 := Lib.hid hz22
  clear hz22
  have HM23 : Hid ((Below w.heap.size w W21) ∧ (W21.heap[x0]? = some (.cells #[.int .i64 a.kind, .int .u64 a.num, .string a.text, .slice pa na ca, .int .i64 a.elem] 25 (0, 0))) ∧ (W21.heap[x1]? = some (.cells #[.int .i64 b.kind, .int .u64 b.num, .string b.text, .slice pb nb cb, .int .i64 b.elem] 25 (0, 0))) ∧ (VL W21 W4.heap.size a (.slice (some ⟨g_x11, 0, none⟩) na (na + 3)) F11) ∧ (W21.heap[x11]? = some (.cells #[.int .i64 a.kind, .int .u64 a.num, .string a.text, .slice (some ⟨g_x11, 0, none⟩) na (na + 3), .int .i64 a.elem] 25 (0, 0))) ∧ (VL W21 W6.heap.size b (.slice (some ⟨g_x12, 0, none⟩) nb (nb + 3)) F12) ∧ (W21.heap[x12]? = some (.cells #[.int .i64 b.kind, .int .u64 b.num, .string b.text, .slice (some ⟨g_x12, 0, none⟩) nb (nb + 3), .int .i64 b.elem] 25 (0, 0))) ∧ (VO W21 W20.heap.size (V.mk a.kind (xor1 a.num) a.text (a.list.map V.turned) a.elem) (.slice p_x27 na c_x27) FT)) := Lib.hid ((And.intro (HM22.out.1.trans (hb.mono HM22.out.1.size)) (And.intro ((hb.block _ (Array.getElem?_eq_some_iff.1 HM22.out.2.1).1).trans HM22.out.2.1) (And.intro ((hb.block _ (Array.getElem?_eq_some_iff.1 HM22.out.2.2.1).1).trans HM22.out.2.2.1) (And.intro (HM22.out.2.2.2.1.blw hb) (And.intro ((hb.block _ (Array.getElem?_eq_some_iff.1 HM22.out.2.2.2.2.1).1).trans HM22.out.2.2.2.2.1) (And.intro (HM22.out.2.2.2.2.2.1.blw hb) (And.intro ((hb.block _ (Array.getElem?_eq_some_iff.1 HM22.out.2.2.2.2.2.2).1).trans HM22.out.2.2.2.2.2.2) hvo))))))))
  clear HM22
  clear hb hvo
  go_upto_region 28 with (refine wpList_store_rowTo rfl 25 (.tmp 27) (.tmp 169) rfl rfl W21.heap.size #[.int .i64 a.kind, .int .u64 (xor1 a.num), .string a.text, .slice p_x27 na c_x27, .int .i64 a.elem] rfl rfl 25 #[.int .i64 0, .int .u64 0, .string ⟨#[]⟩, .slice none 0 0, .int .i64 0] (_root_.Go.heap_alloc_new W21 _) (by as_aux_lemma => kernel_rfl) (by as_aux_lemma => kernel_rfl) (by simp [Value.oneCell']) ?_)
  have hb_W22 : Below W21.heap.size W21 ((W21.alloc (.cells #[.int .i64 0, .int .u64 0, .string ⟨#[]⟩, .slice none 0 0, .int .i64 0] 25)).setRow W21.heap.size #[.int .i64 a.kind, .int .u64 (xor1 a.num), .string a.text, .slice p_x27 na c_x27, .int .i64 a.elem]) := below_setRow ((Below.refl _ _).alloc (Nat.le_refl _) _) (Nat.le_refl _) _
  have ox27 := setRow_heap (W21.alloc (.cells #[.int .i64 0, .int .u64 0, .string ⟨#[]⟩, .slice none 0 0, .int .i64 0] 25)) W21.heap.size _ #[.int .i64 a.kind, .int .u64 (xor1 a.num), .string a.text, .slice p_x27 na c_x27, .int .i64 a.elem] _ _ (_root_.Go.heap_alloc_new W21 _)
  change Code.wp _ _ _ _ ((W21.alloc (.cells #[.int .i64 0, .int .u64 0, .string ⟨#[]⟩, .slice none 0 0, .int .i64 0] 25)).setRow W21.heap.size #[.int .i64 a.kind, .int .u64 (xor1 a.num), .string a.text, .slice p_x27 na c_x27, .int .i64 a.elem])
  generalize ((W21.alloc (.cells #[.int .i64 0, .int .u64 0, .string ⟨#[]⟩, .slice none 0 0, .int .i64 0] 25)).setRow W21.heap.size #[.int .i64 a.kind, .int .u64 (xor1 a.num), .string a.text, .slice p_x27 na c_x27, .int .i64 a.elem]) = W22 at *
  obtain ⟨x27, hx_x27⟩ : ∃ x, W21.heap.size = x := ⟨_, rfl⟩
  rw [hx_x27] at ox27 ⊢
  have HX_x27 := Lib.hid hx_x27
  clear hx_x27
  have hlt := (Array.getElem?_eq_some_iff.1 ox27).1
  have HLT_x27 := Lib.hid hlt
  clear hlt
  have hz23 : W21.heap.size ≤ W22.heap.size := hb_W22.size
  have HZ23 := Lib.hid hz23
  clear hz23
  have HM24 : Hid ((Below w.heap.size w W22) ∧ (W22.heap[x0]? = some (.cells #[.int .i64 a.kind, .int .u64 a.num, .string a.text, .slice pa na ca, .int .i64 a.elem] 25 (0, 0))) ∧ (W22.heap[x1]? = some (.cells #[.int .i64 b.kind, .int .u64 b.num, .string b.text, .slice pb nb cb, .int .i64 b.elem] 25 (0, 0))) ∧ (VL W22 W4.heap.size a (.slice (some ⟨g_x11, 0, none⟩) na (na + 3)) F11) ∧ (W22.heap[x11]? = some (.cells #[.int .i64 a.kind, .int .u64 a.num, .string a.text, .slice (some ⟨g_x11, 0, none⟩) na (na + 3), .int .i64 a.elem] 25 (0, 0))) ∧ (VL W22 W6.heap.size b (.slice (some ⟨g_x12, 0, none⟩) nb (nb + 3)) F12) ∧ (W22.heap[x12]? = some (.cells #[.int .i64 b.kind, .int .u64 b.num, .string b.text, .slice (some ⟨g_x12, 0, none⟩) nb (nb + 3), .int .i64 b.elem] 25 (0, 0))) ∧ (VO W22 W20.heap.size (V.mk a.kind (xor1 a.num) a.text (a.list.map V.turned) a.elem) (.slice p_x27 na c_x27) FT) ∧ (W22.heap[x27]? = some (.cells #[.int .i64 a.kind, .int .u64 (xor1 a.num), .string a.text, .slice p_x27 na c_x27, .int .i64 a.elem] 25 (0, 0)))) := Lib.hid ((And.intro (HM23.out.1.trans (hb_W22.mono HM23.out.1.size)) (And.intro ((hb_W22.block _ (Array.getElem?_eq_some_iff.1 HM23.out.2.1).1).trans HM23.out.2.1) (And.intro ((hb_W22.block _ (Array.getElem?_eq_some_iff.1 HM23.out.2.2.1).1).trans HM23.out.2.2.1) (And.intro (HM23.out.2.2.2.1.blw hb_W22) (And.intro ((hb_W22.block _ (Array.getElem?_eq_some_iff.1 HM23.out.2.2.2.2.1).1).trans HM23.out.2.2.2.2.1) (And.intro (HM23.out.2.2.2.2.2.1.blw hb_W22) (And.intro ((hb_W22.block _ (Array.getElem?_eq_some_iff.1 HM23.out.2.2.2.2.2.2.1).1).trans HM23.out.2.2.2.2.2.2.1) (And.intro (HM23.out.2.2.2.2.2.2.2.blw hb_W22) ox27)))))))))
  clear HM23
  clear hb_W22 ox27
  have hc := over_on a W22 (Proofs.YtnnnfhobbnjmfaaGreatDoor.only W22 FT) _ _ _ F11 (V.mk a.kind (xor1 a.num) a.text (a.list.map V.turned) a.elem) HM24.out.2.2.2.1 (VO.only HM24.out.2.2.2.2.2.2.2.1) rfl (fun W hW => only_rd (fun j hj => hW.block j (VO.lt HM24.out.2.2.2.2.2.2.2.1 j hj).2 (fun q => by have h1 := HIN_F11.out j q; have h2 := HIN_FT.out j hj; have z0 := HX_x0.out; have z1 := HX_x1.out; have z2 := HZw.out; have z3 := HLT0.out; have z4 := HLT1.out; have z5 := HZ1.out; have z6 := HZ2.out; have z7 := HZ3.out; have z8 := HZ4.out; have z9 := HZ5.out; have z10 := HX_x11.out; have z11 := HLT_x11.out; have z12 := HZ6.out; have z13 := HZ7.out; have z14 := HX_x12.out; have z15 := HLT_x12.out; have z16 := HZ8.out; have z17 := HZ9.out; have z18 := HZ10.out; have z19 := HZ11.out; have z20 := HZ12.out; have z21 := HZ13.out; have z22 := HZ14.out; have z23 := HZ21.out; have z24 := HZ22.out; have z25 := HX_x27.out; have z26 := HLT_x27.out; have z27 := HZ23.out; omega))) (by have := HW.out.1; omega)
  have HC23 := Lib.hid hc
  clear hc
  have q := HM24.out.2.2.2.2.1
  have x11_0 : W22.cell? ⟨x11, 0, none⟩ = some (.int .i64 a.kind) := (cell_of_row _ _ 0 _ _ _ q).trans rfl
  have x11_1 : W22.cell? ⟨x11, 1, none⟩ = some (.int .u64 a.num) := (cell_of_row _ _ 1 _ _ _ q).trans rfl
  have x11_2 : W22.cell? ⟨x11, 2, none⟩ = some (.string a.text) := (cell_of_row _ _ 2 _ _ _ q).trans rfl
  have x11_3 : W22.cell? ⟨x11, 3, none⟩ = some (.slice (some ⟨g_x11, 0, none⟩) na (na + 3)) := (cell_of_row _ _ 3 _ _ _ q).trans rfl
  have x11_4 : W22.cell? ⟨x11, 4, none⟩ = some (.int .i64 a.elem) := (cell_of_row _ _ 4 _ _ _ q).trans rfl
  clear q
  have q := HM24.out.2.2.2.2.2.2.2.2
  have x27_0 : W22.cell? ⟨x27, 0, none⟩ = some (.int .i64 a.kind) := (cell_of_row _ _ 0 _ _ _ q).trans rfl
  have x27_1 : W22.cell? ⟨x27, 1, none⟩ = some (.int .u64 (xor1 a.num)) := (cell_of_row _ _ 1 _ _ _ q).trans rfl
  have x27_2 : W22.cell? ⟨x27, 2, none⟩ = some (.string a.text) := (cell_of_row _ _ 2 _ _ _ q).trans rfl
  have x27_3 : W22.cell? ⟨x27, 3, none⟩ = some (.slice p_x27 na c_x27) := (cell_of_row _ _ 3 _ _ _ q).trans rfl
  have x27_4 : W22.cell? ⟨x27, 4, none⟩ = some (.int .i64 a.elem) := (cell_of_row _ _ 4 _ _ _ q).trans rfl
  clear q
  go_wp2_with fail
  refine HC23.out.mono ?_
  clear x11_0 x11_1 x11_2 x11_3 x11_4 x27_0 x27_1 x27_2 x27_3 x27_4
  rintro e W23 ⟨rfl, hv, hk⟩
  have HM25 : Hid ((Below w.heap.size w W22) ∧ (W22.heap[x0]? = some (.cells #[.int .i64 a.kind, .int .u64 a.num, .string a.text, .slice pa na ca, .int .i64 a.elem] 25 (0, 0))) ∧ (W22.heap[x1]? = some (.cells #[.int .i64 b.kind, .int .u64 b.num, .string b.text, .slice pb nb cb, .int .i64 b.elem] 25 (0, 0))) ∧ (W22.heap[x11]? = some (.cells #[.int .i64 a.kind, .int .u64 a.num, .string a.text, .slice (some ⟨g_x11, 0, none⟩) na (na + 3), .int .i64 a.elem] 25 (0, 0))) ∧ (VL W22 W6.heap.size b (.slice (some ⟨g_x12, 0, none⟩) nb (nb + 3)) F12) ∧ (W22.heap[x12]? = some (.cells #[.int .i64 b.kind, .int .u64 b.num, .string b.text, .slice (some ⟨g_x12, 0, none⟩) nb (nb + 3), .int .i64 b.elem] 25 (0, 0))) ∧ (VO W22 W20.heap.size (V.mk a.kind (xor1 a.num) a.text (a.list.map V.turned) a.elem) (.slice p_x27 na c_x27) FT) ∧ (W22.heap[x27]? = some (.cells #[.int .i64 a.kind, .int .u64 (xor1 a.num), .string a.text, .slice p_x27 na c_x27, .int .i64 a.elem] 25 (0, 0)))) := Lib.hid ((And.intro HM24.out.1 (And.intro HM24.out.2.1 (And.intro HM24.out.2.2.1 (And.intro HM24.out.2.2.2.2.1 (And.intro HM24.out.2.2.2.2.2.1 (And.intro HM24.out.2.2.2.2.2.2.1 (And.intro HM24.out.2.2.2.2.2.2.2.1 HM24.out.2.2.2.2.2.2.2.2))))))))
  clear HM24
  have hz25 : W22.heap.size ≤ W23.heap.size := hk.size
  have HZ25 := Lib.hid hz25
  clear hz25
  have HM26 : Hid ((Below w.heap.size w W23) ∧ (W23.heap[x0]? = some (.cells #[.int .i64 a.kind, .int .u64 a.num, .string a.text, .slice pa na ca, .int .i64 a.elem] 25 (0, 0))) ∧ (W23.heap[x1]? = some (.cells #[.int .i64 b.kind, .int .u64 b.num, .string b.text, .slice pb nb cb, .int .i64 b.elem] 25 (0, 0))) ∧ (W23.heap[x11]? = some (.cells #[.int .i64 a.kind, .int .u64 a.num, .string a.text, .slice (some ⟨g_x11, 0, none⟩) na (na + 3), .int .i64 a.elem] 25 (0, 0))) ∧ (VL W23 W6.heap.size b (.slice (some ⟨g_x12, 0, none⟩) nb (nb + 3)) F12) ∧ (W23.heap[x12]? = some (.cells #[.int .i64 b.kind, .int .u64 b.num, .string b.text, .slice (some ⟨g_x12, 0, none⟩) nb (nb + 3), .int .i64 b.elem] 25 (0, 0))) ∧ (VO W23 W20.heap.size (V.mk a.kind (xor1 a.num) a.text (a.list.map V.turned) a.elem) (.slice p_x27 na c_x27) FT) ∧ (W23.heap[x27]? = some (.cells #[.int .i64 a.kind, .int .u64 (xor1 a.num), .string a.text, .slice p_x27 na c_x27, .int .i64 a.elem] 25 (0, 0))) ∧ (VL W23 W4.heap.size (V.mk a.kind (xor1 a.num) a.text (a.list.map V.turned) a.elem) (.slice (some ⟨g_x11, 0, none⟩) na (na + 3)) F11)) := Lib.hid ((And.intro (KeepF.below HM25.out.1 hk (fun j q => by have h1 := HIN_F11.out j q; have z0 := HX_x0.out; have z1 := HX_x1.out; have z2 := HZw.out; have z3 := HLT0.out; have z4 := HLT1.out; have z5 := HZ1.out; have z6 := HZ2.out; have z7 := HZ3.out; have z8 := HZ4.out; have z9 := HZ5.out; have z10 := HX_x11.out; have z11 := HLT_x11.out; have z12 := HZ6.out; have z13 := HZ7.out; have z14 := HX_x12.out; have z15 := HLT_x12.out; have z16 := HZ8.out; have z17 := HZ9.out; have z18 := HZ10.out; have z19 := HZ11.out; have z20 := HZ12.out; have z21 := HZ13.out; have z22 := HZ14.out; have z23 := HZ21.out; have z24 := HZ22.out; have z25 := HX_x27.out; have z26 := HLT_x27.out; have z27 := HZ23.out; have z28 := HZ25.out; omega) HM25.out.1.size) (And.intro ((hk.block _ (Array.getElem?_eq_some_iff.1 HM25.out.2.1).1 (fun q => by have h1 := HIN_F11.out _ q; have z0 := HX_x0.out; have z1 := HX_x1.out; have z2 := HZw.out; have z3 := HLT0.out; have z4 := HLT1.out; have z5 := HZ1.out; have z6 := HZ2.out; have z7 := HZ3.out; have z8 := HZ4.out; have z9 := HZ5.out; have z10 := HX_x11.out; have z11 := HLT_x11.out; have z12 := HZ6.out; have z13 := HZ7.out; have z14 := HX_x12.out; have z15 := HLT_x12.out; have z16 := HZ8.out; have z17 := HZ9.out; have z18 := HZ10.out; have z19 := HZ11.out; have z20 := HZ12.out; have z21 := HZ13.out; have z22 := HZ14.out; have z23 := HZ21.out; have z24 := HZ22.out; have z25 := HX_x27.out; have z26 := HLT_x27.out; have z27 := HZ23.out; have z28 := HZ25.out; omega)).trans HM25.out.2.1) (And.intro ((hk.block _ (Array.getElem?_eq_some_iff.1 HM25.out.2.2.1).1 (fun q => by have h1 := HIN_F11.out _ q; have z0 := HX_x0.out; have z1 := HX_x1.out; have z2 := HZw.out; have z3 := HLT0.out; have z4 := HLT1.out; have z5 := HZ1.out; have z6 := HZ2.out; have z7 := HZ3.out; have z8 := HZ4.out; have z9 := HZ5.out; have z10 := HX_x11.out; have z11 := HLT_x11.out; have z12 := HZ6.out; have z13 := HZ7.out; have z14 := HX_x12.out; have z15 := HLT_x12.out; have z16 := HZ8.out; have z17 := HZ9.out; have z18 := HZ10.out; have z19 := HZ11.out; have z20 := HZ12.out; have z21 := HZ13.out; have z22 := HZ14.out; have z23 := HZ21.out; have z24 := HZ22.out; have z25 := HX_x27.out; have z26 := HLT_x27.out; have z27 := HZ23.out; have z28 := HZ25.out; omega)).trans HM25.out.2.2.1) (And.intro ((hk.block _ (Array.getElem?_eq_some_iff.1 HM25.out.2.2.2.1).1 (fun q => by have h1 := HIN_F11.out _ q; have z0 := HX_x0.out; have z1 := HX_x1.out; have z2 := HZw.out; have z3 := HLT0.out; have z4 := HLT1.out; have z5 := HZ1.out; have z6 := HZ2.out; have z7 := HZ3.out; have z8 := HZ4.out; have z9 := HZ5.out; have z10 := HX_x11.out; have z11 := HLT_x11.out; have z12 := HZ6.out; have z13 := HZ7.out; have z14 := HX_x12.out; have z15 := HLT_x12.out; have z16 := HZ8.out; have z17 := HZ9.out; have z18 := HZ10.out; have z19 := HZ11.out; have z20 := HZ12.out; have z21 := HZ13.out; have z22 := HZ14.out; have z23 := HZ21.out; have z24 := HZ22.out; have z25 := HX_x27.out; have z26 := HLT_x27.out; have z27 := HZ23.out; have z28 := HZ25.out; omega)).trans HM25.out.2.2.2.1) (And.intro (HM25.out.2.2.2.2.1.keepF hk (fun j g q => by have h1 := HIN_F11.out j q; have h2 := HIN_F12.out j g; have z0 := HX_x0.out; have z1 := HX_x1.out; have z2 := HZw.out; have z3 := HLT0.out; have z4 := HLT1.out; have z5 := HZ1.out; have z6 := HZ2.out; have z7 := HZ3.out; have z8 := HZ4.out; have z9 := HZ5.out; have z10 := HX_x11.out; have z11 := HLT_x11.out; have z12 := HZ6.out; have z13 := HZ7.out; have z14 := HX_x12.out; have z15 := HLT_x12.out; have z16 := HZ8.out; have z17 := HZ9.out; have z18 := HZ10.out; have z19 := HZ11.out; have z20 := HZ12.out; have z21 := HZ13.out; have z22 := HZ14.out; have z23 := HZ21.out; have z24 := HZ22.out; have z25 := HX_x27.out; have z26 := HLT_x27.out; have z27 := HZ23.out; have z28 := HZ25.out; omega)) (And.intro ((hk.block _ (Array.getElem?_eq_some_iff.1 HM25.out.2.2.2.2.2.1).1 (fun q => by have h1 := HIN_F11.out _ q; have z0 := HX_x0.out; have z1 := HX_x1.out; have z2 := HZw.out; have z3 := HLT0.out; have z4 := HLT1.out; have z5 := HZ1.out; have z6 := HZ2.out; have z7 := HZ3.out; have z8 := HZ4.out; have z9 := HZ5.out; have z10 := HX_x11.out; have z11 := HLT_x11.out; have z12 := HZ6.out; have z13 := HZ7.out; have z14 := HX_x12.out; have z15 := HLT_x12.out; have z16 := HZ8.out; have z17 := HZ9.out; have z18 := HZ10.out; have z19 := HZ11.out; have z20 := HZ12.out; have z21 := HZ13.out; have z22 := HZ14.out; have z23 := HZ21.out; have z24 := HZ22.out; have z25 := HX_x27.out; have z26 := HLT_x27.out; have z27 := HZ23.out; have z28 := HZ25.out; omega)).trans HM25.out.2.2.2.2.2.1) (And.intro (HM25.out.2.2.2.2.2.2.1.keepF hk (fun j g q => by have h1 := HIN_F11.out j q; have h2 := HIN_FT.out j g; have z0 := HX_x0.out; have z1 := HX_x1.out; have z2 := HZw.out; have z3 := HLT0.out; have z4 := HLT1.out; have z5 := HZ1.out; have z6 := HZ2.out; have z7 := HZ3.out; have z8 := HZ4.out; have z9 := HZ5.out; have z10 := HX_x11.out; have z11 := HLT_x11.out; have z12 := HZ6.out; have z13 := HZ7.out; have z14 := HX_x12.out; have z15 := HLT_x12.out; have z16 := HZ8.out; have z17 := HZ9.out; have z18 := HZ10.out; have z19 := HZ11.out; have z20 := HZ12.out; have z21 := HZ13.out; have z22 := HZ14.out; have z23 := HZ21.out; have z24 := HZ22.out; have z25 := HX_x27.out; have z26 := HLT_x27.out; have z27 := HZ23.out; have z28 := HZ25.out; omega)) (And.intro ((hk.block _ (Array.getElem?_eq_some_iff.1 HM25.out.2.2.2.2.2.2.2).1 (fun q => by have h1 := HIN_F11.out _ q; have z0 := HX_x0.out; have z1 := HX_x1.out; have z2 := HZw.out; have z3 := HLT0.out; have z4 := HLT1.out; have z5 := HZ1.out; have z6 := HZ2.out; have z7 := HZ3.out; have z8 := HZ4.out; have z9 := HZ5.out; have z10 := HX_x11.out; have z11 := HLT_x11.out; have z12 := HZ6.out; have z13 := HZ7.out; have z14 := HX_x12.out; have z15 := HLT_x12.out; have z16 := HZ8.out; have z17 := HZ9.out; have z18 := HZ10.out; have z19 := HZ11.out; have z20 := HZ12.out; have z21 := HZ13.out; have z22 := HZ14.out; have z23 := HZ21.out; have z24 := HZ22.out; have z25 := HX_x27.out; have z26 := HLT_x27.out; have z27 := HZ23.out; have z28 := HZ25.out; omega)).trans HM25.out.2.2.2.2.2.2.2) (VL.as (v' := (V.mk a.kind (xor1 a.num) a.text (a.list.map V.turned) a.elem)) hv rfl (Hid.out HWF)))))))))))
  clear HM25
  clear hk hv
  have q := HM26.out.2.2.2.1
  have x11_0 : W23.cell? ⟨x11, 0, none⟩ = some (.int .i64 a.kind) := (cell_of_row _ _ 0 _ _ _ q).trans rfl
  have x11_1 : W23.cell? ⟨x11, 1, none⟩ = some (.int .u64 a.num) := (cell_of_row _ _ 1 _ _ _ q).trans rfl
  have x11_2 : W23.cell? ⟨x11, 2, none⟩ = some (.string a.text) := (cell_of_row _ _ 2 _ _ _ q).trans rfl
  have x11_3 : W23.cell? ⟨x11, 3, none⟩ = some (.slice (some ⟨g_x11, 0, none⟩) na (na + 3)) := (cell_of_row _ _ 3 _ _ _ q).trans rfl
  have x11_4 : W23.cell? ⟨x11, 4, none⟩ = some (.int .i64 a.elem) := (cell_of_row _ _ 4 _ _ _ q).trans rfl
  clear q
  have q := HM26.out.2.2.2.2.2.2.2.1
  have x27_0 : W23.cell? ⟨x27, 0, none⟩ = some (.int .i64 a.kind) := (cell_of_row _ _ 0 _ _ _ q).trans rfl
  have x27_1 : W23.cell? ⟨x27, 1, none⟩ = some (.int .u64 (xor1 a.num)) := (cell_of_row _ _ 1 _ _ _ q).trans rfl
  have x27_2 : W23.cell? ⟨x27, 2, none⟩ = some (.string a.text) := (cell_of_row _ _ 2 _ _ _ q).trans rfl
  have x27_3 : W23.cell? ⟨x27, 3, none⟩ = some (.slice p_x27 na c_x27) := (cell_of_row _ _ 3 _ _ _ q).trans rfl
  have x27_4 : W23.cell? ⟨x27, 4, none⟩ = some (.int .i64 a.elem) := (cell_of_row _ _ 4 _ _ _ q).trans rfl
  clear q
  have fz : W23.frozen? ⟨x11, 1, none⟩ = false := by have q := HM26.out.2.2.2.1; simp [World.frozen?, q]
  have ox2 : (W23.setCell ⟨x11, 1, none⟩ (.int .u64 (xor1 a.num))).heap[x11]? = some (.cells #[.int .i64 a.kind, .int .u64 (xor1 a.num), .string a.text, .slice (some ⟨g_x11, 0, none⟩) na (na + 3), .int .i64 a.elem] 25 (0, 0)) := heap_setCell_same W23 x11 1 _ _ (.int .u64 (xor1 a.num)) HM26.out.2.2.2.1
  have hk : KeepF (fun g => g = x11) W23 (W23.setCell ⟨x11, 1, none⟩ (.int .u64 (xor1 a.num))) := keepF_setCell W23 x11 1 (.int .u64 (xor1 a.num))
  go_upto_region 30 with fail
  generalize (W23.setCell ⟨x11, 1, none⟩ (.int .u64 (xor1 a.num))) = W24 at *
  clear fz x11_0 x11_1 x11_2 x11_3 x11_4 x27_0 x27_1 x27_2 x27_3 x27_4
  have HIN_sx11 : Hid (∀ g, g = x11 → x11 ≤ g ∧ g < x11 + 1) := Lib.hid (fun g h => by omega)
  have HM27 : Hid ((Below w.heap.size w W23) ∧ (W23.heap[x0]? = some (.cells #[.int .i64 a.kind, .int .u64 a.num, .string a.text, .slice pa na ca, .int .i64 a.elem] 25 (0, 0))) ∧ (W23.heap[x1]? = some (.cells #[.int .i64 b.kind, .int .u64 b.num, .string b.text, .slice pb nb cb, .int .i64 b.elem] 25 (0, 0))) ∧ (VL W23 W6.heap.size b (.slice (some ⟨g_x12, 0, none⟩) nb (nb + 3)) F12) ∧ (W23.heap[x12]? = some (.cells #[.int .i64 b.kind, .int .u64 b.num, .string b.text, .slice (some ⟨g_x12, 0, none⟩) nb (nb + 3), .int .i64 b.elem] 25 (0, 0))) ∧ (VO W23 W20.heap.size (V.mk a.kind (xor1 a.num) a.text (a.list.map V.turned) a.elem) (.slice p_x27 na c_x27) FT) ∧ (W23.heap[x27]? = some (.cells #[.int .i64 a.kind, .int .u64 (xor1 a.num), .string a.text, .slice p_x27 na c_x27, .int .i64 a.elem] 25 (0, 0))) ∧ (VL W23 W4.heap.size (V.mk a.kind (xor1 a.num) a.text (a.list.map V.turned) a.elem) (.slice (some ⟨g_x11, 0, none⟩) na (na + 3)) F11)) := Lib.hid ((And.intro HM26.out.1 (And.intro HM26.out.2.1 (And.intro HM26.out.2.2.1 (And.intro HM26.out.2.2.2.2.1 (And.intro HM26.out.2.2.2.2.2.1 (And.intro HM26.out.2.2.2.2.2.2.1 (And.intro HM26.out.2.2.2.2.2.2.2.1 HM26.out.2.2.2.2.2.2.2.2))))))))
  clear HM26
  have hz27 : W23.heap.size ≤ W24.heap.size := hk.size
  have HZ27 := Lib.hid hz27
  clear hz27
  have HM28 : Hid ((Below w.heap.size w W24) ∧ (W24.heap[x0]? = some (.cells #[.int .i64 a.kind, .int .u64 a.num, .string a.text, .slice pa na ca, .int .i64 a.elem] 25 (0, 0))) ∧ (W24.heap[x1]? = some (.cells #[.int .i64 b.kind, .int .u64 b.num, .string b.text, .slice pb nb cb, .int .i64 b.elem] 25 (0, 0))) ∧ (VL W24 W6.heap.size b (.slice (some ⟨g_x12, 0, none⟩) nb (nb + 3)) F12) ∧ (W24.heap[x12]? = some (.cells #[.int .i64 b.kind, .int .u64 b.num, .string b.text, .slice (some ⟨g_x12, 0, none⟩) nb (nb + 3), .int .i64 b.elem] 25 (0, 0))) ∧ (VO W24 W20.heap.size (V.mk a.kind (xor1 a.num) a.text (a.list.map V.turned) a.elem) (.slice p_x27 na c_x27) FT) ∧ (W24.heap[x27]? = some (.cells #[.int .i64 a.kind, .int .u64 (xor1 a.num), .string a.text, .slice p_x27 na c_x27, .int .i64 a.elem] 25 (0, 0))) ∧ (VL W24 W4.heap.size (V.mk a.kind (xor1 a.num) a.text (a.list.map V.turned) a.elem) (.slice (some ⟨g_x11, 0, none⟩) na (na + 3)) F11) ∧ (W24.heap[x11]? = some (.cells #[.int .i64 a.kind, .int .u64 (xor1 a.num), .string a.text, .slice (some ⟨g_x11, 0, none⟩) na (na + 3), .int .i64 a.elem] 25 (0, 0)))) := Lib.hid ((And.intro (KeepF.below HM27.out.1 hk (fun j q => by have h1 := HIN_sx11.out j q; have z0 := HX_x0.out; have z1 := HX_x1.out; have z2 := HZw.out; have z3 := HLT0.out; have z4 := HLT1.out; have z5 := HZ1.out; have z6 := HZ2.out; have z7 := HZ3.out; have z8 := HZ4.out; have z9 := HZ5.out; have z10 := HX_x11.out; have z11 := HLT_x11.out; have z12 := HZ6.out; have z13 := HZ7.out; have z14 := HX_x12.out; have z15 := HLT_x12.out; have z16 := HZ8.out; have z17 := HZ9.out; have z18 := HZ10.out; have z19 := HZ11.out; have z20 := HZ12.out; have z21 := HZ13.out; have z22 := HZ14.out; have z23 := HZ21.out; have z24 := HZ22.out; have z25 := HX_x27.out; have z26 := HLT_x27.out; have z27 := HZ23.out; have z28 := HZ25.out; have z29 := HZ27.out; omega) HM27.out.1.size) (And.intro ((hk.block _ (Array.getElem?_eq_some_iff.1 HM27.out.2.1).1 (fun q => by have h1 := HIN_sx11.out _ q; have z0 := HX_x0.out; have z1 := HX_x1.out; have z2 := HZw.out; have z3 := HLT0.out; have z4 := HLT1.out; have z5 := HZ1.out; have z6 := HZ2.out; have z7 := HZ3.out; have z8 := HZ4.out; have z9 := HZ5.out; have z10 := HX_x11.out; have z11 := HLT_x11.out; have z12 := HZ6.out; have z13 := HZ7.out; have z14 := HX_x12.out; have z15 := HLT_x12.out; have z16 := HZ8.out; have z17 := HZ9.out; have z18 := HZ10.out; have z19 := HZ11.out; have z20 := HZ12.out; have z21 := HZ13.out; have z22 := HZ14.out; have z23 := HZ21.out; have z24 := HZ22.out; have z25 := HX_x27.out; have z26 := HLT_x27.out; have z27 := HZ23.out; have z28 := HZ25.out; have z29 := HZ27.out; omega)).trans HM27.out.2.1) (And.intro ((hk.block _ (Array.getElem?_eq_some_iff.1 HM27.out.2.2.1).1 (fun q => by have h1 := HIN_sx11.out _ q; have z0 := HX_x0.out; have z1 := HX_x1.out; have z2 := HZw.out; have z3 := HLT0.out; have z4 := HLT1.out; have z5 := HZ1.out; have z6 := HZ2.out; have z7 := HZ3.out; have z8 := HZ4.out; have z9 := HZ5.out; have z10 := HX_x11.out; have z11 := HLT_x11.out; have z12 := HZ6.out; have z13 := HZ7.out; have z14 := HX_x12.out; have z15 := HLT_x12.out; have z16 := HZ8.out; have z17 := HZ9.out; have z18 := HZ10.out; have z19 := HZ11.out; have z20 := HZ12.out; have z21 := HZ13.out; have z22 := HZ14.out; have z23 := HZ21.out; have z24 := HZ22.out; have z25 := HX_x27.out; have z26 := HLT_x27.out; have z27 := HZ23.out; have z28 := HZ25.out; have z29 := HZ27.out; omega)).trans HM27.out.2.2.1) (And.intro (HM27.out.2.2.2.1.keepF hk (fun j g q => by have h1 := HIN_sx11.out j q; have h2 := HIN_F12.out j g; have z0 := HX_x0.out; have z1 := HX_x1.out; have z2 := HZw.out; have z3 := HLT0.out; have z4 := HLT1.out; have z5 := HZ1.out; have z6 := HZ2.out; have z7 := HZ3.out; have z8 := HZ4.out; have z9 := HZ5.out; have z10 := HX_x11.out; have z11 := HLT_x11.out; have z12 := HZ6.out; have z13 := HZ7.out; have z14 := HX_x12.out; have z15 := HLT_x12.out; have z16 := HZ8.out; have z17 := HZ9.out; have z18 := HZ10.out; have z19 := HZ11.out; have z20 := HZ12.out; have z21 := HZ13.out; have z22 := HZ14.out; have z23 := HZ21.out; have z24 := HZ22.out; have z25 := HX_x27.out; have z26 := HLT_x27.out; have z27 := HZ23.out; have z28 := HZ25.out; have z29 := HZ27.out; omega)) (And.intro ((hk.block _ (Array.getElem?_eq_some_iff.1 HM27.out.2.2.2.2.1).1 (fun q => by have h1 := HIN_sx11.out _ q; have z0 := HX_x0.out; have z1 := HX_x1.out; have z2 := HZw.out; have z3 := HLT0.out; have z4 := HLT1.out; have z5 := HZ1.out; have z6 := HZ2.out; have z7 := HZ3.out; have z8 := HZ4.out; have z9 := HZ5.out; have z10 := HX_x11.out; have z11 := HLT_x11.out; have z12 := HZ6.out; have z13 := HZ7.out; have z14 := HX_x12.out; have z15 := HLT_x12.out; have z16 := HZ8.out; have z17 := HZ9.out; have z18 := HZ10.out; have z19 := HZ11.out; have z20 := HZ12.out; have z21 := HZ13.out; have z22 := HZ14.out; have z23 := HZ21.out; have z24 := HZ22.out; have z25 := HX_x27.out; have z26 := HLT_x27.out; have z27 := HZ23.out; have z28 := HZ25.out; have z29 := HZ27.out; omega)).trans HM27.out.2.2.2.2.1) (And.intro (HM27.out.2.2.2.2.2.1.keepF hk (fun j g q => by have h1 := HIN_sx11.out j q; have h2 := HIN_FT.out j g; have z0 := HX_x0.out; have z1 := HX_x1.out; have z2 := HZw.out; have z3 := HLT0.out; have z4 := HLT1.out; have z5 := HZ1.out; have z6 := HZ2.out; have z7 := HZ3.out; have z8 := HZ4.out; have z9 := HZ5.out; have z10 := HX_x11.out; have z11 := HLT_x11.out; have z12 := HZ6.out; have z13 := HZ7.out; have z14 := HX_x12.out; have z15 := HLT_x12.out; have z16 := HZ8.out; have z17 := HZ9.out; have z18 := HZ10.out; have z19 := HZ11.out; have z20 := HZ12.out; have z21 := HZ13.out; have z22 := HZ14.out; have z23 := HZ21.out; have z24 := HZ22.out; have z25 := HX_x27.out; have z26 := HLT_x27.out; have z27 := HZ23.out; have z28 := HZ25.out; have z29 := HZ27.out; omega)) (And.intro ((hk.block _ (Array.getElem?_eq_some_iff.1 HM27.out.2.2.2.2.2.2.1).1 (fun q => by have h1 := HIN_sx11.out _ q; have z0 := HX_x0.out; have z1 := HX_x1.out; have z2 := HZw.out; have z3 := HLT0.out; have z4 := HLT1.out; have z5 := HZ1.out; have z6 := HZ2.out; have z7 := HZ3.out; have z8 := HZ4.out; have z9 := HZ5.out; have z10 := HX_x11.out; have z11 := HLT_x11.out; have z12 := HZ6.out; have z13 := HZ7.out; have z14 := HX_x12.out; have z15 := HLT_x12.out; have z16 := HZ8.out; have z17 := HZ9.out; have z18 := HZ10.out; have z19 := HZ11.out; have z20 := HZ12.out; have z21 := HZ13.out; have z22 := HZ14.out; have z23 := HZ21.out; have z24 := HZ22.out; have z25 := HX_x27.out; have z26 := HLT_x27.out; have z27 := HZ23.out; have z28 := HZ25.out; have z29 := HZ27.out; omega)).trans HM27.out.2.2.2.2.2.2.1) (And.intro (HM27.out.2.2.2.2.2.2.2.keepF hk (fun j g q => by have h1 := HIN_sx11.out j q; have h2 := HIN_F11.out j g; have z0 := HX_x0.out; have z1 := HX_x1.out; have z2 := HZw.out; have z3 := HLT0.out; have z4 := HLT1.out; have z5 := HZ1.out; have z6 := HZ2.out; have z7 := HZ3.out; have z8 := HZ4.out; have z9 := HZ5.out; have z10 := HX_x11.out; have z11 := HLT_x11.out; have z12 := HZ6.out; have z13 := HZ7.out; have z14 := HX_x12.out; have z15 := HLT_x12.out; have z16 := HZ8.out; have z17 := HZ9.out; have z18 := HZ10.out; have z19 := HZ11.out; have z20 := HZ12.out; have z21 := HZ13.out; have z22 := HZ14.out; have z23 := HZ21.out; have z24 := HZ22.out; have z25 := HX_x27.out; have z26 := HLT_x27.out; have z27 := HZ23.out; have z28 := HZ25.out; have z29 := HZ27.out; omega)) ox2)))))))))
  clear HM27
  clear hk ox2
  have hc : Calls Tryz.prog 8 #[.agg #[.int .i64 a.kind, .int .u64 (xor1 a.num), .string a.text, .slice p_x27 na c_x27, .int .i64 a.elem]] W24 _ := renc_as (V.mk a.kind (xor1 a.num) a.text (a.list.map V.turned) a.elem) W24 _ HM28.out.2.2.2.2.2.1.vin (HT.out.below HM28.out.1) HWTT.out HA3.out.1 HA3.out.2
  have HC25 := Lib.hid hc
  clear hc
  have q := HM28.out.2.2.2.2.2.2.1
  have x27_0 : W24.cell? ⟨x27, 0, none⟩ = some (.int .i64 a.kind) := (cell_of_row _ _ 0 _ _ _ q).trans rfl
  have x27_1 : W24.cell? ⟨x27, 1, none⟩ = some (.int .u64 (xor1 a.num)) := (cell_of_row _ _ 1 _ _ _ q).trans rfl
  have x27_2 : W24.cell? ⟨x27, 2, none⟩ = some (.string a.text) := (cell_of_row _ _ 2 _ _ _ q).trans rfl
  have x27_3 : W24.cell? ⟨x27, 3, none⟩ = some (.slice p_x27 na c_x27) := (cell_of_row _ _ 3 _ _ _ q).trans rfl
  have x27_4 : W24.cell? ⟨x27, 4, none⟩ = some (.int .i64 a.elem) := (cell_of_row _ _ 4 _ _ _ q).trans rfl
  clear q
  go_wp2_with fail
  refine HC25.out.mono ?_
  clear x27_0 x27_1 x27_2 x27_3 x27_4
  rintro e W25 ⟨p_r28, c_r28, rfl, ho, hb⟩
  have HIN_r28 : Hid (∀ g, (Value.slice p_r28 m3 c_r28).ownBlock = some g → W24.heap.size ≤ g ∧ g < W25.heap.size) := Lib.hid (fun g e => ho.row.lt g e)
  have hz28 : W24.heap.size ≤ W25.heap.size := hb.size
  have HZ28 := Lib.hid hz28
  clear hz28
  have HM29 : Hid ((Below w.heap.size w W25) ∧ (W25.heap[x0]? = some (.cells #[.int .i64 a.kind, .int .u64 a.num, .string a.text, .slice pa na ca, .int .i64 a.elem] 25 (0, 0))) ∧ (W25.heap[x1]? = some (.cells #[.int .i64 b.kind, .int .u64 b.num, .string b.text, .slice pb nb cb, .int .i64 b.elem] 25 (0, 0))) ∧ (VL W25 W6.heap.size b (.slice (some ⟨g_x12, 0, none⟩) nb (nb + 3)) F12) ∧ (W25.heap[x12]? = some (.cells #[.int .i64 b.kind, .int .u64 b.num, .string b.text, .slice (some ⟨g_x12, 0, none⟩) nb (nb + 3), .int .i64 b.elem] 25 (0, 0))) ∧ (VO W25 W20.heap.size (V.mk a.kind (xor1 a.num) a.text (a.list.map V.turned) a.elem) (.slice p_x27 na c_x27) FT) ∧ (W25.heap[x27]? = some (.cells #[.int .i64 a.kind, .int .u64 (xor1 a.num), .string a.text, .slice p_x27 na c_x27, .int .i64 a.elem] 25 (0, 0))) ∧ (VL W25 W4.heap.size (V.mk a.kind (xor1 a.num) a.text (a.list.map V.turned) a.elem) (.slice (some ⟨g_x11, 0, none⟩) na (na + 3)) F11) ∧ (W25.heap[x11]? = some (.cells #[.int .i64 a.kind, .int .u64 (xor1 a.num), .string a.text, .slice (some ⟨g_x11, 0, none⟩) na (na + 3), .int .i64 a.elem] 25 (0, 0))) ∧ (OwnBytes W25 W24.heap.size 5 (.slice p_r28 m3 c_r28) l3)) := Lib.hid ((And.intro (HM28.out.1.trans (hb.mono HM28.out.1.size)) (And.intro ((hb.block _ (Array.getElem?_eq_some_iff.1 HM28.out.2.1).1).trans HM28.out.2.1) (And.intro ((hb.block _ (Array.getElem?_eq_some_iff.1 HM28.out.2.2.1).1).trans HM28.out.2.2.1) (And.intro (HM28.out.2.2.2.1.blw hb) (And.intro ((hb.block _ (Array.getElem?_eq_some_iff.1 HM28.out.2.2.2.2.1).1).trans HM28.out.2.2.2.2.1) (And.intro (HM28.out.2.2.2.2.2.1.blw hb) (And.intro ((hb.block _ (Array.getElem?_eq_some_iff.1 HM28.out.2.2.2.2.2.2.1).1).trans HM28.out.2.2.2.2.2.2.1) (And.intro (HM28.out.2.2.2.2.2.2.2.1.blw hb) (And.intro ((hb.block _ (Array.getElem?_eq_some_iff.1 HM28.out.2.2.2.2.2.2.2.2).1).trans HM28.out.2.2.2.2.2.2.2.2) ho))))))))))
  clear HM28
  clear hb ho
  have hc : Calls Tryz.prog 10 #[.agg #[.int .i64 a.kind, .int .u64 (xor1 a.num), .string a.text, .slice (some ⟨g_x11, 0, none⟩) na (na + 3), .int .i64 a.elem]] W25 _ := enc_as (V.mk a.kind (xor1 a.num) a.text (a.list.map V.turned) a.elem) W25 _ HM29.out.2.2.2.2.2.2.2.1.vin (HT.out.below HM29.out.1) HWTT.out HA3.out.1 HA3.out.2
  have HC26 := Lib.hid hc
  clear hc
  have q := HM29.out.2.2.2.2.2.2.2.2.1
  have x11_0 : W25.cell? ⟨x11, 0, none⟩ = some (.int .i64 a.kind) := (cell_of_row _ _ 0 _ _ _ q).trans rfl
  have x11_1 : W25.cell? ⟨x11, 1, none⟩ = some (.int .u64 (xor1 a.num)) := (cell_of_row _ _ 1 _ _ _ q).trans rfl
  have x11_2 : W25.cell? ⟨x11, 2, none⟩ = some (.string a.text) := (cell_of_row _ _ 2 _ _ _ q).trans rfl
  have x11_3 : W25.cell? ⟨x11, 3, none⟩ = some (.slice (some ⟨g_x11, 0, none⟩) na (na + 3)) := (cell_of_row _ _ 3 _ _ _ q).trans rfl
  have x11_4 : W25.cell? ⟨x11, 4, none⟩ = some (.int .i64 a.elem) := (cell_of_row _ _ 4 _ _ _ q).trans rfl
  clear q
  go_wp2_with fail
  refine HC26.out.mono ?_
  clear x11_0 x11_1 x11_2 x11_3 x11_4
  rintro e W26 ⟨p_r30, c_r30, rfl, ho, hb⟩
  have HIN_r30 : Hid (∀ g, (Value.slice p_r30 m3 c_r30).ownBlock = some g → W25.heap.size ≤ g ∧ g < W26.heap.size) := Lib.hid (fun g e => ho.row.lt g e)
  have hz29 : W25.heap.size ≤ W26.heap.size := hb.size
  have HZ29 := Lib.hid hz29
  clear hz29
  have HM30 : Hid ((Below w.heap.size w W26) ∧ (W26.heap[x0]? = some (.cells #[.int .i64 a.kind, .int .u64 a.num, .string a.text, .slice pa na ca, .int .i64 a.elem] 25 (0, 0))) ∧ (W26.heap[x1]? = some (.cells #[.int .i64 b.kind, .int .u64 b.num, .string b.text, .slice pb nb cb, .int .i64 b.elem] 25 (0, 0))) ∧ (VL W26 W6.heap.size b (.slice (some ⟨g_x12, 0, none⟩) nb (nb + 3)) F12) ∧ (W26.heap[x12]? = some (.cells #[.int .i64 b.kind, .int .u64 b.num, .string b.text, .slice (some ⟨g_x12, 0, none⟩) nb (nb + 3), .int .i64 b.elem] 25 (0, 0))) ∧ (VO W26 W20.heap.size (V.mk a.kind (xor1 a.num) a.text (a.list.map V.turned) a.elem) (.slice p_x27 na c_x27) FT) ∧ (W26.heap[x27]? = some (.cells #[.int .i64 a.kind, .int .u64 (xor1 a.num), .string a.text, .slice p_x27 na c_x27, .int .i64 a.elem] 25 (0, 0))) ∧ (VL W26 W4.heap.size (V.mk a.kind (xor1 a.num) a.text (a.list.map V.turned) a.elem) (.slice (some ⟨g_x11, 0, none⟩) na (na + 3)) F11) ∧ (W26.heap[x11]? = some (.cells #[.int .i64 a.kind, .int .u64 (xor1 a.num), .string a.text, .slice (some ⟨g_x11, 0, none⟩) na (na + 3), .int .i64 a.elem] 25 (0, 0))) ∧ (OwnBytes W26 W24.heap.size 5 (.slice p_r28 m3 c_r28) l3) ∧ (OwnBytes W26 W25.heap.size 5 (.slice p_r30 m3 c_r30) l3)) := Lib.hid ((And.intro (HM29.out.1.trans (hb.mono HM29.out.1.size)) (And.intro ((hb.block _ (Array.getElem?_eq_some_iff.1 HM29.out.2.1).1).trans HM29.out.2.1) (And.intro ((hb.block _ (Array.getElem?_eq_some_iff.1 HM29.out.2.2.1).1).trans HM29.out.2.2.1) (And.intro (HM29.out.2.2.2.1.blw hb) (And.intro ((hb.block _ (Array.getElem?_eq_some_iff.1 HM29.out.2.2.2.2.1).1).trans HM29.out.2.2.2.2.1) (And.intro (HM29.out.2.2.2.2.2.1.blw hb) (And.intro ((hb.block _ (Array.getElem?_eq_some_iff.1 HM29.out.2.2.2.2.2.2.1).1).trans HM29.out.2.2.2.2.2.2.1) (And.intro (HM29.out.2.2.2.2.2.2.2.1.blw hb) (And.intro ((hb.block _ (Array.getElem?_eq_some_iff.1 HM29.out.2.2.2.2.2.2.2.2.1).1).trans HM29.out.2.2.2.2.2.2.2.2.1) (And.intro (HM29.out.2.2.2.2.2.2.2.2.2.of_below hb) ho)))))))))))
  clear HM29
  clear hb ho
  have hc : Calls Tryz.prog 16 #[.agg #[.int .i64 a.kind, .int .u64 (xor1 a.num), .string a.text, .slice (some ⟨g_x11, 0, none⟩) na (na + 3), .int .i64 a.elem], .agg #[.int .i64 a.kind, .int .u64 (xor1 a.num), .string a.text, .slice p_x27 na c_x27, .int .i64 a.elem]] W26 _ := asl_on (V.mk a.kind (xor1 a.num) a.text (a.list.map V.turned) a.elem) W26 (Proofs.YtnnnfhobbnjmfaaGreatDoor.only W26 FT) _ _ _ F11 HM30.out.2.2.2.2.2.2.2.1 (VO.only HM30.out.2.2.2.2.2.1) (fun W hW => only_rd (fun j hj => hW.block j (VO.lt HM30.out.2.2.2.2.2.1 j hj).2 (fun q => by have h1 := HIN_F11.out j q; have h2 := HIN_FT.out j hj; have z0 := HX_x0.out; have z1 := HX_x1.out; have z2 := HZw.out; have z3 := HLT0.out; have z4 := HLT1.out; have z5 := HZ1.out; have z6 := HZ2.out; have z7 := HZ3.out; have z8 := HZ4.out; have z9 := HZ5.out; have z10 := HX_x11.out; have z11 := HLT_x11.out; have z12 := HZ6.out; have z13 := HZ7.out; have z14 := HX_x12.out; have z15 := HLT_x12.out; have z16 := HZ8.out; have z17 := HZ9.out; have z18 := HZ10.out; have z19 := HZ11.out; have z20 := HZ12.out; have z21 := HZ13.out; have z22 := HZ14.out; have z23 := HZ21.out; have z24 := HZ22.out; have z25 := HX_x27.out; have z26 := HLT_x27.out; have z27 := HZ23.out; have z28 := HZ25.out; have z29 := HZ27.out; have z30 := HZ28.out; have z31 := HZ29.out; omega))) HWTT.out
  have HC27 := Lib.hid hc
  clear hc
  have q := HM30.out.2.2.2.2.2.2.2.2.1
  have x11_0 : W26.cell? ⟨x11, 0, none⟩ = some (.int .i64 a.kind) := (cell_of_row _ _ 0 _ _ _ q).trans rfl
  have x11_1 : W26.cell? ⟨x11, 1, none⟩ = some (.int .u64 (xor1 a.num)) := (cell_of_row _ _ 1 _ _ _ q).trans rfl
  have x11_2 : W26.cell? ⟨x11, 2, none⟩ = some (.string a.text) := (cell_of_row _ _ 2 _ _ _ q).trans rfl
  have x11_3 : W26.cell? ⟨x11, 3, none⟩ = some (.slice (some ⟨g_x11, 0, none⟩) na (na + 3)) := (cell_of_row _ _ 3 _ _ _ q).trans rfl
  have x11_4 : W26.cell? ⟨x11, 4, none⟩ = some (.int .i64 a.elem) := (cell_of_row _ _ 4 _ _ _ q).trans rfl
  clear q
  have q := HM30.out.2.2.2.2.2.2.1
  have x27_0 : W26.cell? ⟨x27, 0, none⟩ = some (.int .i64 a.kind) := (cell_of_row _ _ 0 _ _ _ q).trans rfl
  have x27_1 : W26.cell? ⟨x27, 1, none⟩ = some (.int .u64 (xor1 a.num)) := (cell_of_row _ _ 1 _ _ _ q).trans rfl
  have x27_2 : W26.cell? ⟨x27, 2, none⟩ = some (.string a.text) := (cell_of_row _ _ 2 _ _ _ q).trans rfl
  have x27_3 : W26.cell? ⟨x27, 3, none⟩ = some (.slice p_x27 na c_x27) := (cell_of_row _ _ 3 _ _ _ q).trans rfl
  have x27_4 : W26.cell? ⟨x27, 4, none⟩ = some (.int .i64 a.elem) := (cell_of_row _ _ 4 _ _ _ q).trans rfl
  clear q
  go_wp2_with fail
  refine HC27.out.mono ?_
  clear x11_0 x11_1 x11_2 x11_3 x11_4 x27_0 x27_1 x27_2 x27_3 x27_4
  rintro e W27 ⟨rfl, hk⟩
  have HM31 : Hid ((Below w.heap.size w W26) ∧ (W26.heap[x0]? = some (.cells #[.int .i64 a.kind, .int .u64 a.num, .string a.text, .slice pa na ca, .int .i64 a.elem] 25 (0, 0))) ∧ (W26.heap[x1]? = some (.cells #[.int .i64 b.kind, .int .u64 b.num, .string b.text, .slice pb nb cb, .int .i64 b.elem] 25 (0, 0))) ∧ (VL W26 W6.heap.size b (.slice (some ⟨g_x12, 0, none⟩) nb (nb + 3)) F12) ∧ (W26.heap[x12]? = some (.cells #[.int .i64 b.kind, .int .u64 b.num, .string b.text, .slice (some ⟨g_x12, 0, none⟩) nb (nb + 3), .int .i64 b.elem] 25 (0, 0))) ∧ (VO W26 W20.heap.size (V.mk a.kind (xor1 a.num) a.text (a.list.map V.turned) a.elem) (.slice p_x27 na c_x27) FT) ∧ (W26.heap[x27]? = some (.cells #[.int .i64 a.kind, .int .u64 (xor1 a.num), .string a.text, .slice p_x27 na c_x27, .int .i64 a.elem] 25 (0, 0))) ∧ (W26.heap[x11]? = some (.cells #[.int .i64 a.kind, .int .u64 (xor1 a.num), .string a.text, .slice (some ⟨g_x11, 0, none⟩) na (na + 3), .int .i64 a.elem] 25 (0, 0))) ∧ (OwnBytes W26 W24.heap.size 5 (.slice p_r28 m3 c_r28) l3) ∧ (OwnBytes W26 W25.heap.size 5 (.slice p_r30 m3 c_r30) l3)) := Lib.hid ((And.intro HM30.out.1 (And.intro HM30.out.2.1 (And.intro HM30.out.2.2.1 (And.intro HM30.out.2.2.2.1 (And.intro HM30.out.2.2.2.2.1 (And.intro HM30.out.2.2.2.2.2.1 (And.intro HM30.out.2.2.2.2.2.2.1 (And.intro HM30.out.2.2.2.2.2.2.2.2.1 (And.intro HM30.out.2.2.2.2.2.2.2.2.2.1 HM30.out.2.2.2.2.2.2.2.2.2.2))))))))))
  clear HM30
  have hz31 : W26.heap.size ≤ W27.heap.size := hk.size
  have HZ31 := Lib.hid hz31
  clear hz31
  have HM32 : Hid ((Below w.heap.size w W27) ∧ (W27.heap[x0]? = some (.cells #[.int .i64 a.kind, .int .u64 a.num, .string a.text, .slice pa na ca, .int .i64 a.elem] 25 (0, 0))) ∧ (W27.heap[x1]? = some (.cells #[.int .i64 b.kind, .int .u64 b.num, .string b.text, .slice pb nb cb, .int .i64 b.elem] 25 (0, 0))) ∧ (VL W27 W6.heap.size b (.slice (some ⟨g_x12, 0, none⟩) nb (nb + 3)) F12) ∧ (W27.heap[x12]? = some (.cells #[.int .i64 b.kind, .int .u64 b.num, .string b.text, .slice (some ⟨g_x12, 0, none⟩) nb (nb + 3), .int .i64 b.elem] 25 (0, 0))) ∧ (VO W27 W20.heap.size (V.mk a.kind (xor1 a.num) a.text (a.list.map V.turned) a.elem) (.slice p_x27 na c_x27) FT) ∧ (W27.heap[x27]? = some (.cells #[.int .i64 a.kind, .int .u64 (xor1 a.num), .string a.text, .slice p_x27 na c_x27, .int .i64 a.elem] 25 (0, 0))) ∧ (W27.heap[x11]? = some (.cells #[.int .i64 a.kind, .int .u64 (xor1 a.num), .string a.text, .slice (some ⟨g_x11, 0, none⟩) na (na + 3), .int .i64 a.elem] 25 (0, 0))) ∧ (OwnBytes W27 W24.heap.size 5 (.slice p_r28 m3 c_r28) l3) ∧ (OwnBytes W27 W25.heap.size 5 (.slice p_r30 m3 c_r30) l3)) := Lib.hid ((And.intro (KeepF.below HM31.out.1 hk (fun j q => by have h1 := HIN_F11.out j q; have z0 := HX_x0.out; have z1 := HX_x1.out; have z2 := HZw.out; have z3 := HLT0.out; have z4 := HLT1.out; have z5 := HZ1.out; have z6 := HZ2.out; have z7 := HZ3.out; have z8 := HZ4.out; have z9 := HZ5.out; have z10 := HX_x11.out; have z11 := HLT_x11.out; have z12 := HZ6.out; have z13 := HZ7.out; have z14 := HX_x12.out; have z15 := HLT_x12.out; have z16 := HZ8.out; have z17 := HZ9.out; have z18 := HZ10.out; have z19 := HZ11.out; have z20 := HZ12.out; have z21 := HZ13.out; have z22 := HZ14.out; have z23 := HZ21.out; have z24 := HZ22.out; have z25 := HX_x27.out; have z26 := HLT_x27.out; have z27 := HZ23.out; have z28 := HZ25.out; have z29 := HZ27.out; have z30 := HZ28.out; have z31 := HZ29.out; have z32 := HZ31.out; omega) HM31.out.1.size) (And.intro ((hk.block _ (Array.getElem?_eq_some_iff.1 HM31.out.2.1).1 (fun q => by have h1 := HIN_F11.out _ q; have z0 := HX_x0.out; have z1 := HX_x1.out; have z2 := HZw.out; have z3 := HLT0.out; have z4 := HLT1.out; have z5 := HZ1.out; have z6 := HZ2.out; have z7 := HZ3.out; have z8 := HZ4.out; have z9 := HZ5.out; have z10 := HX_x11.out; have z11 := HLT_x11.out; have z12 := HZ6.out; have z13 := HZ7.out; have z14 := HX_x12.out; have z15 := HLT_x12.out; have z16 := HZ8.out; have z17 := HZ9.out; have z18 := HZ10.out; have z19 := HZ11.out; have z20 := HZ12.out; have z21 := HZ13.out; have z22 := HZ14.out; have z23 := HZ21.out; have z24 := HZ22.out; have z25 := HX_x27.out; have z26 := HLT_x27.out; have z27 := HZ23.out; have z28 := HZ25.out; have z29 := HZ27.out; have z30 := HZ28.out; have z31 := HZ29.out; have z32 := HZ31.out; omega)).trans HM31.out.2.1) (And.intro ((hk.block _ (Array.getElem?_eq_some_iff.1 HM31.out.2.2.1).1 (fun q => by have h1 := HIN_F11.out _ q; have z0 := HX_x0.out; have z1 := HX_x1.out; have z2 := HZw.out; have z3 := HLT0.out; have z4 := HLT1.out; have z5 := HZ1.out; have z6 := HZ2.out; have z7 := HZ3.out; have z8 := HZ4.out; have z9 := HZ5.out; have z10 := HX_x11.out; have z11 := HLT_x11.out; have z12 := HZ6.out; have z13 := HZ7.out; have z14 := HX_x12.out; have z15 := HLT_x12.out; have z16 := HZ8.out; have z17 := HZ9.out; have z18 := HZ10.out; have z19 := HZ11.out; have z20 := HZ12.out; have z21 := HZ13.out; have z22 := HZ14.out; have z23 := HZ21.out; have z24 := HZ22.out; have z25 := HX_x27.out; have z26 := HLT_x27.out; have z27 := HZ23.out; have z28 := HZ25.out; have z29 := HZ27.out; have z30 := HZ28.out; have z31 := HZ29.out; have z32 := HZ31.out; omega)).trans HM31.out.2.2.1) (And.intro (HM31.out.2.2.2.1.keepF hk (fun j g q => by have h1 := HIN_F11.out j q; have h2 := HIN_F12.out j g; have z0 := HX_x0.out; have z1 := HX_x1.out; have z2 := HZw.out; have z3 := HLT0.out; have z4 := HLT1.out; have z5 := HZ1.out; have z6 := HZ2.out; have z7 := HZ3.out; have z8 := HZ4.out; have z9 := HZ5.out; have z10 := HX_x11.out; have z11 := HLT_x11.out; have z12 := HZ6.out; have z13 := HZ7.out; have z14 := HX_x12.out; have z15 := HLT_x12.out; have z16 := HZ8.out; have z17 := HZ9.out; have z18 := HZ10.out; have z19 := HZ11.out; have z20 := HZ12.out; have z21 := HZ13.out; have z22 := HZ14.out; have z23 := HZ21.out; have z24 := HZ22.out; have z25 := HX_x27.out; have z26 := HLT_x27.out; have z27 := HZ23.out; have z28 := HZ25.out; have z29 := HZ27.out; have z30 := HZ28.out; have z31 := HZ29.out; have z32 := HZ31.out; omega)) (And.intro ((hk.block _ (Array.getElem?_eq_some_iff.1 HM31.out.2.2.2.2.1).1 (fun q => by have h1 := HIN_F11.out _ q; have z0 := HX_x0.out; have z1 := HX_x1.out; have z2 := HZw.out; have z3 := HLT0.out; have z4 := HLT1.out; have z5 := HZ1.out; have z6 := HZ2.out; have z7 := HZ3.out; have z8 := HZ4.out; have z9 := HZ5.out; have z10 := HX_x11.out; have z11 := HLT_x11.out; have z12 := HZ6.out; have z13 := HZ7.out; have z14 := HX_x12.out; have z15 := HLT_x12.out; have z16 := HZ8.out; have z17 := HZ9.out; have z18 := HZ10.out; have z19 := HZ11.out; have z20 := HZ12.out; have z21 := HZ13.out; have z22 := HZ14.out; have z23 := HZ21.out; have z24 := HZ22.out; have z25 := HX_x27.out; have z26 := HLT_x27.out; have z27 := HZ23.out; have z28 := HZ25.out; have z29 := HZ27.out; have z30 := HZ28.out; have z31 := HZ29.out; have z32 := HZ31.out; omega)).trans HM31.out.2.2.2.2.1) (And.intro (HM31.out.2.2.2.2.2.1.keepF hk (fun j g q => by have h1 := HIN_F11.out j q; have h2 := HIN_FT.out j g; have z0 := HX_x0.out; have z1 := HX_x1.out; have z2 := HZw.out; have z3 := HLT0.out; have z4 := HLT1.out; have z5 := HZ1.out; have z6 := HZ2.out; have z7 := HZ3.out; have z8 := HZ4.out; have z9 := HZ5.out; have z10 := HX_x11.out; have z11 := HLT_x11.out; have z12 := HZ6.out; have z13 := HZ7.out; have z14 := HX_x12.out; have z15 := HLT_x12.out; have z16 := HZ8.out; have z17 := HZ9.out; have z18 := HZ10.out; have z19 := HZ11.out; have z20 := HZ12.out; have z21 := HZ13.out; have z22 := HZ14.out; have z23 := HZ21.out; have z24 := HZ22.out; have z25 := HX_x27.out; have z26 := HLT_x27.out; have z27 := HZ23.out; have z28 := HZ25.out; have z29 := HZ27.out; have z30 := HZ28.out; have z31 := HZ29.out; have z32 := HZ31.out; omega)) (And.intro ((hk.block _ (Array.getElem?_eq_some_iff.1 HM31.out.2.2.2.2.2.2.1).1 (fun q => by have h1 := HIN_F11.out _ q; have z0 := HX_x0.out; have z1 := HX_x1.out; have z2 := HZw.out; have z3 := HLT0.out; have z4 := HLT1.out; have z5 := HZ1.out; have z6 := HZ2.out; have z7 := HZ3.out; have z8 := HZ4.out; have z9 := HZ5.out; have z10 := HX_x11.out; have z11 := HLT_x11.out; have z12 := HZ6.out; have z13 := HZ7.out; have z14 := HX_x12.out; have z15 := HLT_x12.out; have z16 := HZ8.out; have z17 := HZ9.out; have z18 := HZ10.out; have z19 := HZ11.out; have z20 := HZ12.out; have z21 := HZ13.out; have z22 := HZ14.out; have z23 := HZ21.out; have z24 := HZ22.out; have z25 := HX_x27.out; have z26 := HLT_x27.out; have z27 := HZ23.out; have z28 := HZ25.out; have z29 := HZ27.out; have z30 := HZ28.out; have z31 := HZ29.out; have z32 := HZ31.out; omega)).trans HM31.out.2.2.2.2.2.2.1) (And.intro ((hk.block _ (Array.getElem?_eq_some_iff.1 HM31.out.2.2.2.2.2.2.2.1).1 (fun q => by have h1 := HIN_F11.out _ q; have z0 := HX_x0.out; have z1 := HX_x1.out; have z2 := HZw.out; have z3 := HLT0.out; have z4 := HLT1.out; have z5 := HZ1.out; have z6 := HZ2.out; have z7 := HZ3.out; have z8 := HZ4.out; have z9 := HZ5.out; have z10 := HX_x11.out; have z11 := HLT_x11.out; have z12 := HZ6.out; have z13 := HZ7.out; have z14 := HX_x12.out; have z15 := HLT_x12.out; have z16 := HZ8.out; have z17 := HZ9.out; have z18 := HZ10.out; have z19 := HZ11.out; have z20 := HZ12.out; have z21 := HZ13.out; have z22 := HZ14.out; have z23 := HZ21.out; have z24 := HZ22.out; have z25 := HX_x27.out; have z26 := HLT_x27.out; have z27 := HZ23.out; have z28 := HZ25.out; have z29 := HZ27.out; have z30 := HZ28.out; have z31 := HZ29.out; have z32 := HZ31.out; omega)).trans HM31.out.2.2.2.2.2.2.2.1) (And.intro (own_keepF HM31.out.2.2.2.2.2.2.2.2.1 hk (fun j g q => by have h1 := HIN_F11.out j q; have h2 := HIN_r28.out j g; have z0 := HX_x0.out; have z1 := HX_x1.out; have z2 := HZw.out; have z3 := HLT0.out; have z4 := HLT1.out; have z5 := HZ1.out; have z6 := HZ2.out; have z7 := HZ3.out; have z8 := HZ4.out; have z9 := HZ5.out; have z10 := HX_x11.out; have z11 := HLT_x11.out; have z12 := HZ6.out; have z13 := HZ7.out; have z14 := HX_x12.out; have z15 := HLT_x12.out; have z16 := HZ8.out; have z17 := HZ9.out; have z18 := HZ10.out; have z19 := HZ11.out; have z20 := HZ12.out; have z21 := HZ13.out; have z22 := HZ14.out; have z23 := HZ21.out; have z24 := HZ22.out; have z25 := HX_x27.out; have z26 := HLT_x27.out; have z27 := HZ23.out; have z28 := HZ25.out; have z29 := HZ27.out; have z30 := HZ28.out; have z31 := HZ29.out; have z32 := HZ31.out; omega)) (own_keepF HM31.out.2.2.2.2.2.2.2.2.2 hk (fun j g q => by have h1 := HIN_F11.out j q; have h2 := HIN_r30.out j g; have z0 := HX_x0.out; have z1 := HX_x1.out; have z2 := HZw.out; have z3 := HLT0.out; have z4 := HLT1.out; have z5 := HZ1.out; have z6 := HZ2.out; have z7 := HZ3.out; have z8 := HZ4.out; have z9 := HZ5.out; have z10 := HX_x11.out; have z11 := HLT_x11.out; have z12 := HZ6.out; have z13 := HZ7.out; have z14 := HX_x12.out; have z15 := HLT_x12.out; have z16 := HZ8.out; have z17 := HZ9.out; have z18 := HZ10.out; have z19 := HZ11.out; have z20 := HZ12.out; have z21 := HZ13.out; have z22 := HZ14.out; have z23 := HZ21.out; have z24 := HZ22.out; have z25 := HX_x27.out; have z26 := HLT_x27.out; have z27 := HZ23.out; have z28 := HZ25.out; have z29 := HZ27.out; have z30 := HZ28.out; have z31 := HZ29.out; have z32 := HZ31.out; omega))))))))))))
  clear HM31
  clear hk
  have hc : Calls Tryz.prog 16 #[.agg #[.int .i64 b.kind, .int .u64 b.num, .string b.text, .slice (some ⟨g_x12, 0, none⟩) nb (nb + 3), .int .i64 b.elem], .agg #[.int .i64 b.kind, .int .u64 b.num, .string b.text, .slice pb nb cb, .int .i64 b.elem]] W27 _ := asl_on b W27 w _ _ _ F12 HM32.out.2.2.2.1 HV.out.2 (fun W hW => rd_below (KeepF.below HM32.out.1 hW (fun j q => by have h1 := HIN_F12.out j q; have z0 := HX_x0.out; have z1 := HX_x1.out; have z2 := HZw.out; have z3 := HLT0.out; have z4 := HLT1.out; have z5 := HZ1.out; have z6 := HZ2.out; have z7 := HZ3.out; have z8 := HZ4.out; have z9 := HZ5.out; have z10 := HX_x11.out; have z11 := HLT_x11.out; have z12 := HZ6.out; have z13 := HZ7.out; have z14 := HX_x12.out; have z15 := HLT_x12.out; have z16 := HZ8.out; have z17 := HZ9.out; have z18 := HZ10.out; have z19 := HZ11.out; have z20 := HZ12.out; have z21 := HZ13.out; have z22 := HZ14.out; have z23 := HZ21.out; have z24 := HZ22.out; have z25 := HX_x27.out; have z26 := HLT_x27.out; have z27 := HZ23.out; have z28 := HZ25.out; have z29 := HZ27.out; have z30 := HZ28.out; have z31 := HZ29.out; have z32 := HZ31.out; omega) HM32.out.1.size)) (by have := HW.out.2; omega)
  have HC28 := Lib.hid hc
  clear hc
  have q := HM32.out.2.2.2.2.1
  have x12_0 : W27.cell? ⟨x12, 0, none⟩ = some (.int .i64 b.kind) := (cell_of_row _ _ 0 _ _ _ q).trans rfl
  have x12_1 : W27.cell? ⟨x12, 1, none⟩ = some (.int .u64 b.num) := (cell_of_row _ _ 1 _ _ _ q).trans rfl
  have x12_2 : W27.cell? ⟨x12, 2, none⟩ = some (.string b.text) := (cell_of_row _ _ 2 _ _ _ q).trans rfl
  have x12_3 : W27.cell? ⟨x12, 3, none⟩ = some (.slice (some ⟨g_x12, 0, none⟩) nb (nb + 3)) := (cell_of_row _ _ 3 _ _ _ q).trans rfl
  have x12_4 : W27.cell? ⟨x12, 4, none⟩ = some (.int .i64 b.elem) := (cell_of_row _ _ 4 _ _ _ q).trans rfl
  clear q
  have q := HM32.out.2.2.1
  have x1_0 : W27.cell? ⟨x1, 0, none⟩ = some (.int .i64 b.kind) := (cell_of_row _ _ 0 _ _ _ q).trans rfl
  have x1_1 : W27.cell? ⟨x1, 1, none⟩ = some (.int .u64 b.num) := (cell_of_row _ _ 1 _ _ _ q).trans rfl
  have x1_2 : W27.cell? ⟨x1, 2, none⟩ = some (.string b.text) := (cell_of_row _ _ 2 _ _ _ q).trans rfl
  have x1_3 : W27.cell? ⟨x1, 3, none⟩ = some (.slice pb nb cb) := (cell_of_row _ _ 3 _ _ _ q).trans rfl
  have x1_4 : W27.cell? ⟨x1, 4, none⟩ = some (.int .i64 b.elem) := (cell_of_row _ _ 4 _ _ _ q).trans rfl
  clear q
  go_wp2_with fail
  refine HC28.out.mono ?_
  clear x12_0 x12_1 x12_2 x12_3 x12_4 x1_0 x1_1 x1_2 x1_3 x1_4
  rintro e W28 ⟨rfl, hk⟩
  have HM33 : Hid ((Below w.heap.size w W27) ∧ (W27.heap[x0]? = some (.cells #[.int .i64 a.kind, .int .u64 a.num, .string a.text, .slice pa na ca, .int .i64 a.elem] 25 (0, 0))) ∧ (W27.heap[x1]? = some (.cells #[.int .i64 b.kind, .int .u64 b.num, .string b.text, .slice pb nb cb, .int .i64 b.elem] 25 (0, 0))) ∧ (W27.heap[x12]? = some (.cells #[.int .i64 b.kind, .int .u64 b.num, .string b.text, .slice (some ⟨g_x12, 0, none⟩) nb (nb + 3), .int .i64 b.elem] 25 (0, 0))) ∧ (VO W27 W20.heap.size (V.mk a.kind (xor1 a.num) a.text (a.list.map V.turned) a.elem) (.slice p_x27 na c_x27) FT) ∧ (W27.heap[x27]? = some (.cells #[.int .i64 a.kind, .int .u64 (xor1 a.num), .string a.text, .slice p_x27 na c_x27, .int .i64 a.elem] 25 (0, 0))) ∧ (W27.heap[x11]? = some (.cells #[.int .i64 a.kind, .int .u64 (xor1 a.num), .string a.text, .slice (some ⟨g_x11, 0, none⟩) na (na + 3), .int .i64 a.elem] 25 (0, 0))) ∧ (OwnBytes W27 W24.heap.size 5 (.slice p_r28 m3 c_r28) l3) ∧ (OwnBytes W27 W25.heap.size 5 (.slice p_r30 m3 c_r30) l3)) := Lib.hid ((And.intro HM32.out.1 (And.intro HM32.out.2.1 (And.intro HM32.out.2.2.1 (And.intro HM32.out.2.2.2.2.1 (And.intro HM32.out.2.2.2.2.2.1 (And.intro HM32.out.2.2.2.2.2.2.1 (And.intro HM32.out.2.2.2.2.2.2.2.1 (And.intro HM32.out.2.2.2.2.2.2.2.2.1 HM32.out.2.2.2.2.2.2.2.2.2)))))))))
  clear HM32
  have hz33 : W27.heap.size ≤ W28.heap.size := hk.size
  have HZ33 := Lib.hid hz33
  clear hz33
  have HM34 : Hid ((Below w.heap.size w W28) ∧ (W28.heap[x0]? = some (.cells #[.int .i64 a.kind, .int .u64 a.num, .string a.text, .slice pa na ca, .int .i64 a.elem] 25 (0, 0))) ∧ (W28.heap[x1]? = some (.cells #[.int .i64 b.kind, .int .u64 b.num, .string b.text, .slice pb nb cb, .int .i64 b.elem] 25 (0, 0))) ∧ (W28.heap[x12]? = some (.cells #[.int .i64 b.kind, .int .u64 b.num, .string b.text, .slice (some ⟨g_x12, 0, none⟩) nb (nb + 3), .int .i64 b.elem] 25 (0, 0))) ∧ (VO W28 W20.heap.size (V.mk a.kind (xor1 a.num) a.text (a.list.map V.turned) a.elem) (.slice p_x27 na c_x27) FT) ∧ (W28.heap[x27]? = some (.cells #[.int .i64 a.kind, .int .u64 (xor1 a.num), .string a.text, .slice p_x27 na c_x27, .int .i64 a.elem] 25 (0, 0))) ∧ (W28.heap[x11]? = some (.cells #[.int .i64 a.kind, .int .u64 (xor1 a.num), .string a.text, .slice (some ⟨g_x11, 0, none⟩) na (na + 3), .int .i64 a.elem] 25 (0, 0))) ∧ (OwnBytes W28 W24.heap.size 5 (.slice p_r28 m3 c_r28) l3) ∧ (OwnBytes W28 W25.heap.size 5 (.slice p_r30 m3 c_r30) l3)) := Lib.hid ((And.intro (KeepF.below HM33.out.1 hk (fun j q => by have h1 := HIN_F12.out j q; have z0 := HX_x0.out; have z1 := HX_x1.out; have z2 := HZw.out; have z3 := HLT0.out; have z4 := HLT1.out; have z5 := HZ1.out; have z6 := HZ2.out; have z7 := HZ3.out; have z8 := HZ4.out; have z9 := HZ5.out; have z10 := HX_x11.out; have z11 := HLT_x11.out; have z12 := HZ6.out; have z13 := HZ7.out; have z14 := HX_x12.out; have z15 := HLT_x12.out; have z16 := HZ8.out; have z17 := HZ9.out; have z18 := HZ10.out; have z19 := HZ11.out; have z20 := HZ12.out; have z21 := HZ13.out; have z22 := HZ14.out; have z23 := HZ21.out; have z24 := HZ22.out; have z25 := HX_x27.out; have z26 := HLT_x27.out; have z27 := HZ23.out; have z28 := HZ25.out; have z29 := HZ27.out; have z30 := HZ28.out; have z31 := HZ29.out; have z32 := HZ31.out; have z33 := HZ33.out; omega) HM33.out.1.size) (And.intro ((hk.block _ (Array.getElem?_eq_some_iff.1 HM33.out.2.1).1 (fun q => by have h1 := HIN_F12.out _ q; have z0 := HX_x0.out; have z1 := HX_x1.out; have z2 := HZw.out; have z3 := HLT0.out; have z4 := HLT1.out; have z5 := HZ1.out; have z6 := HZ2.out; have z7 := HZ3.out; have z8 := HZ4.out; have z9 := HZ5.out; have z10 := HX_x11.out; have z11 := HLT_x11.out; have z12 := HZ6.out; have z13 := HZ7.out; have z14 := HX_x12.out; have z15 := HLT_x12.out; have z16 := HZ8.out; have z17 := HZ9.out; have z18 := HZ10.out; have z19 := HZ11.out; have z20 := HZ12.out; have z21 := HZ13.out; have z22 := HZ14.out; have z23 := HZ21.out; have z24 := HZ22.out; have z25 := HX_x27.out; have z26 := HLT_x27.out; have z27 := HZ23.out; have z28 := HZ25.out; have z29 := HZ27.out; have z30 := HZ28.out; have z31 := HZ29.out; have z32 := HZ31.out; have z33 := HZ33.out; omega)).trans HM33.out.2.1) (And.intro ((hk.block _ (Array.getElem?_eq_some_iff.1 HM33.out.2.2.1).1 (fun q => by have h1 := HIN_F12.out _ q; have z0 := HX_x0.out; have z1 := HX_x1.out; have z2 := HZw.out; have z3 := HLT0.out; have z4 := HLT1.out; have z5 := HZ1.out; have z6 := HZ2.out; have z7 := HZ3.out; have z8 := HZ4.out; have z9 := HZ5.out; have z10 := HX_x11.out; have z11 := HLT_x11.out; have z12 := HZ6.out; have z13 := HZ7.out; have z14 := HX_x12.out; have z15 := HLT_x12.out; have z16 := HZ8.out; have z17 := HZ9.out; have z18 := HZ10.out; have z19 := HZ11.out; have z20 := HZ12.out; have z21 := HZ13.out; have z22 := HZ14.out; have z23 := HZ21.out; have z24 := HZ22.out; have z25 := HX_x27.out; have z26 := HLT_x27.out; have z27 := HZ23.out; have z28 := HZ25.out; have z29 := HZ27.out; have z30 := HZ28.out; have z31 := HZ29.out; have z32 := HZ31.out; have z33 := HZ33.out; omega)).trans HM33.out.2.2.1) (And.intro ((hk.block _ (Array.getElem?_eq_some_iff.1 HM33.out.2.2.2.1).1 (fun q => by have h1 := HIN_F12.out _ q; have z0 := HX_x0.out; have z1 := HX_x1.out; have z2 := HZw.out; have z3 := HLT0.out; have z4 := HLT1.out; have z5 := HZ1.out; have z6 := HZ2.out; have z7 := HZ3.out; have z8 := HZ4.out; have z9 := HZ5.out; have z10 := HX_x11.out; have z11 := HLT_x11.out; have z12 := HZ6.out; have z13 := HZ7.out; have z14 := HX_x12.out; have z15 := HLT_x12.out; have z16 := HZ8.out; have z17 := HZ9.out; have z18 := HZ10.out; have z19 := HZ11.out; have z20 := HZ12.out; have z21 := HZ13.out; have z22 := HZ14.out; have z23 := HZ21.out; have z24 := HZ22.out; have z25 := HX_x27.out; have z26 := HLT_x27.out; have z27 := HZ23.out; have z28 := HZ25.out; have z29 := HZ27.out; have z30 := HZ28.out; have z31 := HZ29.out; have z32 := HZ31.out; have z33 := HZ33.out; omega)).trans HM33.out.2.2.2.1) (And.intro (HM33.out.2.2.2.2.1.keepF hk (fun j g q => by have h1 := HIN_F12.out j q; have h2 := HIN_FT.out j g; have z0 := HX_x0.out; have z1 := HX_x1.out; have z2 := HZw.out; have z3 := HLT0.out; have z4 := HLT1.out; have z5 := HZ1.out; have z6 := HZ2.out; have z7 := HZ3.out; have z8 := HZ4.out; have z9 := HZ5.out; have z10 := HX_x11.out; have z11 := HLT_x11.out; have z12 := HZ6.out; have z13 := HZ7.out; have z14 := HX_x12.out; have z15 := HLT_x12.out; have z16 := HZ8.out; have z17 := HZ9.out; have z18 := HZ10.out; have z19 := HZ11.out; have z20 := HZ12.out; have z21 := HZ13.out; have z22 := HZ14.out; have z23 := HZ21.out; have z24 := HZ22.out; have z25 := HX_x27.out; have z26 := HLT_x27.out; have z27 := HZ23.out; have z28 := HZ25.out; have z29 := HZ27.out; have z30 := HZ28.out; have z31 := HZ29.out; have z32 := HZ31.out; have z33 := HZ33.out; omega)) (And.intro ((hk.block _ (Array.getElem?_eq_some_iff.1 HM33.out.2.2.2.2.2.1).1 (fun q => by have h1 := HIN_F12.out _ q; have z0 := HX_x0.out; have z1 := HX_x1.out; have z2 := HZw.out; have z3 := HLT0.out; have z4 := HLT1.out; have z5 := HZ1.out; have z6 := HZ2.out; have z7 := HZ3.out; have z8 := HZ4.out; have z9 := HZ5.out; have z10 := HX_x11.out; have z11 := HLT_x11.out; have z12 := HZ6.out; have z13 := HZ7.out; have z14 := HX_x12.out; have z15 := HLT_x12.out; have z16 := HZ8.out; have z17 := HZ9.out; have z18 := HZ10.out; have z19 := HZ11.out; have z20 := HZ12.out; have z21 := HZ13.out; have z22 := HZ14.out; have z23 := HZ21.out; have z24 := HZ22.out; have z25 := HX_x27.out; have z26 := HLT_x27.out; have z27 := HZ23.out; have z28 := HZ25.out; have z29 := HZ27.out; have z30 := HZ28.out; have z31 := HZ29.out; have z32 := HZ31.out; have z33 := HZ33.out; omega)).trans HM33.out.2.2.2.2.2.1) (And.intro ((hk.block _ (Array.getElem?_eq_some_iff.1 HM33.out.2.2.2.2.2.2.1).1 (fun q => by have h1 := HIN_F12.out _ q; have z0 := HX_x0.out; have z1 := HX_x1.out; have z2 := HZw.out; have z3 := HLT0.out; have z4 := HLT1.out; have z5 := HZ1.out; have z6 := HZ2.out; have z7 := HZ3.out; have z8 := HZ4.out; have z9 := HZ5.out; have z10 := HX_x11.out; have z11 := HLT_x11.out; have z12 := HZ6.out; have z13 := HZ7.out; have z14 := HX_x12.out; have z15 := HLT_x12.out; have z16 := HZ8.out; have z17 := HZ9.out; have z18 := HZ10.out; have z19 := HZ11.out; have z20 := HZ12.out; have z21 := HZ13.out; have z22 := HZ14.out; have z23 := HZ21.out; have z24 := HZ22.out; have z25 := HX_x27.out; have z26 := HLT_x27.out; have z27 := HZ23.out; have z28 := HZ25.out; have z29 := HZ27.out; have z30 := HZ28.out; have z31 := HZ29.out; have z32 := HZ31.out; have z33 := HZ33.out; omega)).trans HM33.out.2.2.2.2.2.2.1) (And.intro (own_keepF HM33.out.2.2.2.2.2.2.2.1 hk (fun j g q => by have h1 := HIN_F12.out j q; have h2 := HIN_r28.out j g; have z0 := HX_x0.out; have z1 := HX_x1.out; have z2 := HZw.out; have z3 := HLT0.out; have z4 := HLT1.out; have z5 := HZ1.out; have z6 := HZ2.out; have z7 := HZ3.out; have z8 := HZ4.out; have z9 := HZ5.out; have z10 := HX_x11.out; have z11 := HLT_x11.out; have z12 := HZ6.out; have z13 := HZ7.out; have z14 := HX_x12.out; have z15 := HLT_x12.out; have z16 := HZ8.out; have z17 := HZ9.out; have z18 := HZ10.out; have z19 := HZ11.out; have z20 := HZ12.out; have z21 := HZ13.out; have z22 := HZ14.out; have z23 := HZ21.out; have z24 := HZ22.out; have z25 := HX_x27.out; have z26 := HLT_x27.out; have z27 := HZ23.out; have z28 := HZ25.out; have z29 := HZ27.out; have z30 := HZ28.out; have z31 := HZ29.out; have z32 := HZ31.out; have z33 := HZ33.out; omega)) (own_keepF HM33.out.2.2.2.2.2.2.2.2 hk (fun j g q => by have h1 := HIN_F12.out j q; have h2 := HIN_r30.out j g; have z0 := HX_x0.out; have z1 := HX_x1.out; have z2 := HZw.out; have z3 := HLT0.out; have z4 := HLT1.out; have z5 := HZ1.out; have z6 := HZ2.out; have z7 := HZ3.out; have z8 := HZ4.out; have z9 := HZ5.out; have z10 := HX_x11.out; have z11 := HLT_x11.out; have z12 := HZ6.out; have z13 := HZ7.out; have z14 := HX_x12.out; have z15 := HLT_x12.out; have z16 := HZ8.out; have z17 := HZ9.out; have z18 := HZ10.out; have z19 := HZ11.out; have z20 := HZ12.out; have z21 := HZ13.out; have z22 := HZ14.out; have z23 := HZ21.out; have z24 := HZ22.out; have z25 := HX_x27.out; have z26 := HLT_x27.out; have z27 := HZ23.out; have z28 := HZ25.out; have z29 := HZ27.out; have z30 := HZ28.out; have z31 := HZ29.out; have z32 := HZ31.out; have z33 := HZ33.out; omega)))))))))))
  clear HM33
  clear hk
  have qr28 : (convert 28 9 (.slice p_r28 m3 c_r28)).run Tryz.prog W28 = .ok (.string ⟨l3.toArray⟩) W28 := run_string_bytes W28 _ _ 5 Tryz.underlying28 Tryz.underlying5 Tryz.underlying9 _ _ _ _ (HM34.out.2.2.2.2.2.2.2.1).sl.2
  have qr30 : (convert 28 9 (.slice p_r30 m3 c_r30)).run Tryz.prog W28 = .ok (.string ⟨l3.toArray⟩) W28 := run_string_bytes W28 _ _ 5 Tryz.underlying28 Tryz.underlying5 Tryz.underlying9 _ _ _ _ (HM34.out.2.2.2.2.2.2.2.2).sl.2
  obtain ⟨T3, hT3⟩ : ∃ T : ByteArray, ⟨l3.toArray⟩ = T := ⟨_, rfl⟩
  rw [hT3] at qr28 qr30
  clear hT3
  go_wp2_with fail
  go_ret
  exact ⟨rfl, HM34.out.1⟩

end Go.Proofs.YtnnnfhobbnjmfaaGreatDoor
