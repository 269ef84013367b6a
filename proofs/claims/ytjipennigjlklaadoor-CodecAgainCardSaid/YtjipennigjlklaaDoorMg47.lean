/-
  CodecAgain: what is read may be, is written in no more bytes, and is read as the same. Conditions: the bytes lie in memory; the tables stand.
  From the rows' list of laid variables to the decoder's tables; a world that lays them, for the witnesses. No conditions.
-/
import Derived.Test.YtjipennigjlklaaDoorMg46
import Derived.Test.YtjipennigjlklaaDoorMg07
import Derived.Lib.LaidU8
import Derived.PinnedBridge
namespace Go.Proofs.YtjipennigjlklaaDoor
open Go.RowKit
set_option linter.unusedVariables false
set_option maxHeartbeats 4000000

attribute [local go_sem] Oper.semAt_some

set_option maxRecDepth 20000 in
theorem again_walk (w : World) (hT : Tabs w) (p : Option Addr) (n cp : Nat) (B : List UInt8) (hB : BytesIn w p n cp B) (hn : n ≤ 140737488355328) (at_ : Int) :
    Calls Tryd.prog 5 #[.slice p n cp, .int .i64 at_] w fun e w' => e = .returned (.bool true) ∧ Below w.heap.size w w' := by
  have HV := Lib.hid (And.intro hB (And.intro hT hn))
  clear hB hT hn
  go_enter Tryd.func5, Tryd.ntmps5
  go_wp2_with fail
  refine (awake_any w HV.out.2.1).mono ?_
  rintro e w1 ⟨rfl, hb1⟩
  have H1 := Lib.hid hb1
  clear hb1
  go_wp2_with fail
  refine (decode_any w1 p n cp B (HV.out.1.below H1.out) (HV.out.2.1.below H1.out) HV.out.2.2 at_).mono ?_
  rintro e w2 ⟨s1, F1, rfl, hvo, hb2⟩
  by_cases herr : (decS B at_).2.2 = 0
  · obtain ⟨a, k, rfl, hak, hk1, hk2, hpl, hrd, hgd⟩ := decS_good (by rw [HV.out.1.len]; have := HV.out.2.2; unfold maxLen; omega) herr
    rw [herr, hpl]
    obtain ⟨v, hv⟩ : ∃ v, (decS B (a : Nat)).1 = v := ⟨_, rfl⟩
    rw [hv] at hvo hrd hgd ⊢
    obtain ⟨ps, cs, hss, _, _⟩ := hvo.slice
    subst hss
    have hlaw := again_law (by rw [HV.out.1.len]; have := HV.out.2.2; unfold maxLen; omega) hak hk2 hrd hgd
    rw [HV.out.1.len] at hak
    have hwt : v.wt ≤ 1048576 := Nat.le_trans hgd.wt hk2
    have H2 := Lib.hid (And.intro (H1.out.trans (hb2.mono H1.out.size)) hvo.vin)
    have HL := Lib.hid (And.intro hlaw (And.intro hwt (And.intro hak (And.intro hk1 hk2))))
    obtain ⟨tt, hto⟩ : ∃ t, a + k = t := ⟨_, rfl⟩
    have htoI : ((a : Nat) : Int) + (k : Nat) = (tt : Nat) := by omega
    rw [htoI]
    have HTO := Lib.hid (And.intro hto htoI)
    clear hlaw hwt hak hk1 hk2 hrd hgd hvo hb2 hv hpl herr hto htoI
    go_upto_region 5 with (refine wpList_store_rowTo rfl 25 (.tmp 6) (.tmp 24) rfl rfl w2.heap.size #[.int .i64 v.kind, .int .u64 v.num, .string v.text, (.slice ps v.list.length cs), .int .i64 v.elem] rfl rfl 25 zR (_root_.Go.heap_alloc_new _ _) (by as_aux_lemma => kernel_rfl) (by as_aux_lemma => kernel_rfl) (by simp [Value.oneCell']) ?_)
    have hbx6 : Below w2.heap.size w2 ((w2.alloc (.cells zR 25)).setRow w2.heap.size #[.int .i64 v.kind, .int .u64 v.num, .string v.text, (.slice ps v.list.length cs), .int .i64 v.elem]) := below_setRow ((Below.refl _ _).alloc (Nat.le_refl _) _) (Nat.le_refl _) _
    have ox6 := setRow_heap (w2.alloc (.cells zR 25)) w2.heap.size _ #[.int .i64 v.kind, .int .u64 v.num, .string v.text, (.slice ps v.list.length cs), .int .i64 v.elem] _ _ (_root_.Go.heap_alloc_new w2 _)
    change Code.wp _ _ _ _ ((w2.alloc (.cells zR 25)).setRow w2.heap.size #[.int .i64 v.kind, .int .u64 v.num, .string v.text, (.slice ps v.list.length cs), .int .i64 v.elem])
    generalize ((w2.alloc (.cells zR 25)).setRow w2.heap.size #[.int .i64 v.kind, .int .u64 v.num, .string v.text, (.slice ps v.list.length cs), .int .i64 v.elem]) = w3 at *
    obtain ⟨x6, hx6⟩ : ∃ x, w2.heap.size = x := ⟨_, rfl⟩
    rw [hx6] at ox6 ⊢
    have z0 : w3.cell? ⟨x6, 0, none⟩ = some (.int .i64 v.kind) := (cell_of_row _ _ 0 _ _ _ ox6).trans rfl
    have z1 : w3.cell? ⟨x6, 1, none⟩ = some (.int .u64 v.num) := (cell_of_row _ _ 1 _ _ _ ox6).trans rfl
    have z2 : w3.cell? ⟨x6, 2, none⟩ = some (.string v.text) := (cell_of_row _ _ 2 _ _ _ ox6).trans rfl
    have z3 : w3.cell? ⟨x6, 3, none⟩ = some ((.slice ps v.list.length cs)) := (cell_of_row _ _ 3 _ _ _ ox6).trans rfl
    have z4 : w3.cell? ⟨x6, 4, none⟩ = some (.int .i64 v.elem) := (cell_of_row _ _ 4 _ _ _ ox6).trans rfl
    have H3 := Lib.hid (And.intro (H2.out.1.trans (hbx6.mono H2.out.1.size)) (And.intro (H2.out.2.blw hbx6) ox6))
    clear hbx6 ox6 hx6
    have d1 : decide ((tt : Int) ≤ (a : Nat)) = false := decide_eq_false (by have := HTO.out.1; have := HL.out.2.2.2.1; omega)
    have d2 : decide (tt ≤ a) = false := decide_eq_false (by have := HTO.out.1; have := HL.out.2.2.2.1; omega)
    have d3 : decide ((n : Int) < (tt : Nat)) = false := decide_eq_false (by have := HTO.out.1; have := HL.out.2.2.1; omega)
    have d4 : decide (n < tt) = false := decide_eq_false (by have := HTO.out.1; have := HL.out.2.2.1; omega)
    have hck := check_any v w3 _ H3.out.2.1 (HV.out.2.1.below H3.out.1) (by have := HL.out.2.1; omega)
    rw [HL.out.1.1] at hck
    have HCK := Lib.hid hck
    clear hck
    go_wp2_with fail
    refine HCK.out.mono ?_
    rintro e w4 ⟨rfl, hb4⟩
    have H4 := Lib.hid (And.intro (H3.out.1.trans (hb4.mono H3.out.1.size)) (And.intro (H3.out.2.1.blw hb4) ((hb4.block x6 (gl H3.out.2.2)).trans H3.out.2.2)))
    clear hb4 z0 z1 z2 z3 z4 d1 d2 d3 d4
    have z0 : w4.cell? ⟨x6, 0, none⟩ = some (.int .i64 v.kind) := (cell_of_row _ _ 0 _ _ _ H4.out.2.2).trans rfl
    have z1 : w4.cell? ⟨x6, 1, none⟩ = some (.int .u64 v.num) := (cell_of_row _ _ 1 _ _ _ H4.out.2.2).trans rfl
    have z2 : w4.cell? ⟨x6, 2, none⟩ = some (.string v.text) := (cell_of_row _ _ 2 _ _ _ H4.out.2.2).trans rfl
    have z3 : w4.cell? ⟨x6, 3, none⟩ = some ((.slice ps v.list.length cs)) := (cell_of_row _ _ 3 _ _ _ H4.out.2.2).trans rfl
    have z4 : w4.cell? ⟨x6, 4, none⟩ = some (.int .i64 v.elem) := (cell_of_row _ _ 4 _ _ _ H4.out.2.2).trans rfl
    have hen := encode_any v w4 _ H4.out.2.1 (HV.out.2.1.below H4.out.1) (by have := HL.out.2.1; omega)
    unfold EncTo at hen
    rw [HL.out.1.2.1] at hen
    have HEN := Lib.hid hen
    clear hen
    go_wp2_with fail
    refine HEN.out.mono ?_
    rintro e w5 ⟨u, rfl, hou, hb5⟩
    obtain ⟨pu, cu, hu, _⟩ := hou.bytes
    subst hu
    have H5 := Lib.hid (And.intro (H4.out.1.trans (hb5.mono H4.out.1.size)) (And.intro (H4.out.2.1.blw hb5) (And.intro ((hb5.block x6 (gl H4.out.2.2)).trans H4.out.2.2) hou)))
    clear hb5 hou z0 z1 z2 z3 z4
    obtain ⟨m, hm⟩ : ∃ m, (putV v).length = m := ⟨_, rfl⟩
    have HM := Lib.hid (show (putV v).length = m ∧ m ≤ k from ⟨hm, by rw [← hm]; exact HL.out.1.2.2.1⟩)
    simp only [hm]
    clear hm
    go_wp2_with fail
    refine (decode_any w5 pu m cu (putV v) (by have := H5.out.2.2.2.sl.2; rw [HM.out.1] at this; exact this) (HV.out.2.1.below H5.out.1) (by have := HM.out.2; have := HL.out.2.2.2.2; omega) 0).mono ?_
    rintro e w6 ⟨s2, F2, rfl, hvo6, hb6⟩
    rw [HL.out.1.2.2.2.1] at hvo6 ⊢
    simp only [HM.out.1] at hvo6 ⊢
    obtain ⟨qs, ds, hss, _, _⟩ := hvo6.slice
    subst hss
    have H6 := Lib.hid (And.intro (H5.out.1.trans (hb6.mono H5.out.1.size)) (And.intro (H5.out.2.1.blw hb6) (And.intro ((hb6.block x6 (gl H5.out.2.2.1)).trans H5.out.2.2.1) (And.intro (H5.out.2.2.2.of_below hb6) hvo6.vin))))
    clear hb6 hvo6
    go_upto_region 12 with (refine wpList_store_rowTo rfl 25 (.tmp 12) (.tmp 57) rfl rfl w6.heap.size #[.int .i64 v.kind, .int .u64 v.num, .string v.text, (.slice qs v.list.length ds), .int .i64 v.elem] rfl rfl 25 zR (_root_.Go.heap_alloc_new _ _) (by as_aux_lemma => kernel_rfl) (by as_aux_lemma => kernel_rfl) (by simp [Value.oneCell']) ?_)
    have hbx7 : Below w6.heap.size w6 ((w6.alloc (.cells zR 25)).setRow w6.heap.size #[.int .i64 v.kind, .int .u64 v.num, .string v.text, (.slice qs v.list.length ds), .int .i64 v.elem]) := below_setRow ((Below.refl _ _).alloc (Nat.le_refl _) _) (Nat.le_refl _) _
    have ox7 := setRow_heap (w6.alloc (.cells zR 25)) w6.heap.size _ #[.int .i64 v.kind, .int .u64 v.num, .string v.text, (.slice qs v.list.length ds), .int .i64 v.elem] _ _ (_root_.Go.heap_alloc_new w6 _)
    change Code.wp _ _ _ _ ((w6.alloc (.cells zR 25)).setRow w6.heap.size #[.int .i64 v.kind, .int .u64 v.num, .string v.text, (.slice qs v.list.length ds), .int .i64 v.elem])
    generalize ((w6.alloc (.cells zR 25)).setRow w6.heap.size #[.int .i64 v.kind, .int .u64 v.num, .string v.text, (.slice qs v.list.length ds), .int .i64 v.elem]) = w7 at *
    obtain ⟨x7, hx7⟩ : ∃ x, w6.heap.size = x := ⟨_, rfl⟩
    rw [hx7] at ox7 ⊢
    have H7 := Lib.hid (And.intro (H6.out.1.trans (hbx7.mono H6.out.1.size)) (And.intro (H6.out.2.1.blw hbx7) (And.intro ((hbx7.block x6 (gl H6.out.2.2.1)).trans H6.out.2.2.1) (And.intro (H6.out.2.2.2.1.of_below hbx7) (And.intro (H6.out.2.2.2.2.blw hbx7) ox7)))))
    clear hbx7 ox7 hx7
    have z0 : w7.cell? ⟨x6, 0, none⟩ = some (.int .i64 v.kind) := (cell_of_row _ _ 0 _ _ _ H7.out.2.2.1).trans rfl
    have z1 : w7.cell? ⟨x6, 1, none⟩ = some (.int .u64 v.num) := (cell_of_row _ _ 1 _ _ _ H7.out.2.2.1).trans rfl
    have z2 : w7.cell? ⟨x6, 2, none⟩ = some (.string v.text) := (cell_of_row _ _ 2 _ _ _ H7.out.2.2.1).trans rfl
    have z3 : w7.cell? ⟨x6, 3, none⟩ = some ((.slice ps v.list.length cs)) := (cell_of_row _ _ 3 _ _ _ H7.out.2.2.1).trans rfl
    have z4 : w7.cell? ⟨x6, 4, none⟩ = some (.int .i64 v.elem) := (cell_of_row _ _ 4 _ _ _ H7.out.2.2.1).trans rfl
    have y0 : w7.cell? ⟨x7, 0, none⟩ = some (.int .i64 v.kind) := (cell_of_row _ _ 0 _ _ _ H7.out.2.2.2.2.2).trans rfl
    have y1 : w7.cell? ⟨x7, 1, none⟩ = some (.int .u64 v.num) := (cell_of_row _ _ 1 _ _ _ H7.out.2.2.2.2.2).trans rfl
    have y2 : w7.cell? ⟨x7, 2, none⟩ = some (.string v.text) := (cell_of_row _ _ 2 _ _ _ H7.out.2.2.2.2.2).trans rfl
    have y3 : w7.cell? ⟨x7, 3, none⟩ = some ((.slice qs v.list.length ds)) := (cell_of_row _ _ 3 _ _ _ H7.out.2.2.2.2.2).trans rfl
    have y4 : w7.cell? ⟨x7, 4, none⟩ = some (.int .i64 v.elem) := (cell_of_row _ _ 4 _ _ _ H7.out.2.2.2.2.2).trans rfl
    have hq := equal_on v w7 _ v _ H7.out.2.1 H7.out.2.2.2.2.1
    rw [decide_eq_true rfl] at hq
    have HQ := Lib.hid hq
    clear hq
    go_wp2_with fail
    refine HQ.out.mono ?_
    rintro e w8 ⟨rfl, hb8⟩
    have H8 := Lib.hid (And.intro (H7.out.1.trans (hb8.mono H7.out.1.size)) (H7.out.2.2.2.1.of_below hb8))
    clear hb8 z0 z1 z2 z3 z4 y0 y1 y2 y3 y4
    have bp := (HV.out.1.below H8.out.1).part a k (by have := HL.out.2.2.1; omega)
    have hcp := HV.out.1.le
    have i1 : (0 : Int) ≤ (a : Nat) := by omega
    have i2 : ((a : Nat) : Int) ≤ (tt : Nat) := by have := HTO.out.1; omega
    have i3 : ((tt : Nat) : Int) ≤ (cp : Nat) := by have := HTO.out.1; have := HL.out.2.2.1; omega
    have i4 : tt - a = k := by have := HTO.out.1; omega
    have HP := Lib.hid bp
    have i5 : ((k : Nat) : Int) ≤ 1048576 := by have := HL.out.2.2.2.2; omega
    clear bp hcp
    by_cases hca : cp = a
    · have hbp : BytesIn w8 p k 0 ((B.drop a).take k) := by have h := HP.out; rw [if_pos hca, show cp - a = 0 by omega] at h; exact h
      have hca0 : cp - a = 0 := by omega
      by_cases heq : putV v = (B.drop a).take k
      · have hl := HL.out.1.2.2.2.2
        rw [decide_eq_true heq] at hl
        have HL2 := Lib.hid hl
        have he1 : ((⟨(putV v).toArray⟩ : ByteArray).toList == (⟨((B.drop a).take k).toArray⟩ : ByteArray).toList) = true := (bytes_beq _ _).trans (decide_eq_true heq)
        have HE1 := Lib.hid he1
        clear hl he1 heq
        go_wp2_with fail
        refine (shortest_any w8 p k 0 _ hbp (HV.out.2.1.below H8.out.1) (by have := HL.out.2.2.2.2; omega)).mono ?_
        rintro e w9 ⟨rfl, hb9⟩
        rw [HL2.out]
        have HB9 := Lib.hid (H8.out.1.trans (hb9.mono H8.out.1.size))
        have bu := (H8.out.2.of_below hb9).sl.2
        have bq := hbp.below hb9
        have dn : ∀ m, Below w9.heap.size w9 (w9.drewN m) := fun m => ⟨rfl, rfl, rfl, Nat.le_refl _, fun _ _ => rfl⟩
        have k1 : ∀ j, (convert 28 9 (.slice pu m cu)).run Tryd.prog (w9.drewN j) = .ok (.string ⟨(putV v).toArray⟩) (w9.drewN j) := fun j => by
          have := run_string_bytes (w9.drewN j) _ _ 5 Tryd.underlying28 Tryd.underlying5 Tryd.underlying9 _ _ _ _ (bu.below (dn j))
          rw [HM.out.1] at this
          exact this
        have k2 : ∀ j, (convert 28 9 (.slice p k 0)).run Tryd.prog (w9.drewN j) = .ok (.string ⟨((B.drop a).take k).toArray⟩) (w9.drewN j) := fun j => run_string_bytes (w9.drewN j) _ _ 5 Tryd.underlying28 Tryd.underlying5 Tryd.underlying9 _ _ _ _ (bq.below (dn j))
        have e1 := HE1.out
        have hsub : wrap64 (((tt : Nat) : Int) - (a : Nat)) = (k : Nat) := by have h1 := HTO.out.2; have h2 := i5; unfold wrap64; omega
        have hsub2 : IntKind.i64.wrap (((tt : Nat) : Int) - (a : Nat)) = (k : Nat) := by have h1 := HTO.out.2; have h2 := i5; rw [IntWalk.i64_in _ (by omega)]; omega
        have dm1 : decide ((m : Int) ≤ (k : Nat)) = true := decide_eq_true (by have := HM.out.2; omega)
        have dm2 : decide (m ≤ k) = true := decide_eq_true HM.out.2
        obtain ⟨TA, hTA⟩ : ∃ T : ByteArray, ⟨(putV v).toArray⟩ = T := ⟨_, rfl⟩
        obtain ⟨TB, hTB⟩ : ∃ T : ByteArray, ⟨((B.drop a).take k).toArray⟩ = T := ⟨_, rfl⟩
        rw [hTA, hTB] at e1
        rw [hTA] at k1
        rw [hTB] at k2
        clear hb9 bu bq dn hTA hTB
        go_upto_region 14 with fail
        go_quiet (fail)
        go_wp2_with fail
        go_ret
        exact ⟨rfl, HB9.out.trans ⟨rfl, rfl, rfl, Nat.le_refl _, fun _ _ => rfl⟩⟩
      · have hl := HL.out.1.2.2.2.2
        rw [decide_eq_false heq] at hl
        have HL2 := Lib.hid hl
        have he1 : ((⟨(putV v).toArray⟩ : ByteArray).toList == (⟨((B.drop a).take k).toArray⟩ : ByteArray).toList) = false := (bytes_beq _ _).trans (decide_eq_false heq)
        have HE1 := Lib.hid he1
        clear hl he1 heq
        go_wp2_with fail
        refine (shortest_any w8 p k 0 _ hbp (HV.out.2.1.below H8.out.1) (by have := HL.out.2.2.2.2; omega)).mono ?_
        rintro e w9 ⟨rfl, hb9⟩
        rw [HL2.out]
        have HB9 := Lib.hid (H8.out.1.trans (hb9.mono H8.out.1.size))
        have bu := (H8.out.2.of_below hb9).sl.2
        have bq := hbp.below hb9
        have dn : ∀ m, Below w9.heap.size w9 (w9.drewN m) := fun m => ⟨rfl, rfl, rfl, Nat.le_refl _, fun _ _ => rfl⟩
        have k1 : ∀ j, (convert 28 9 (.slice pu m cu)).run Tryd.prog (w9.drewN j) = .ok (.string ⟨(putV v).toArray⟩) (w9.drewN j) := fun j => by
          have := run_string_bytes (w9.drewN j) _ _ 5 Tryd.underlying28 Tryd.underlying5 Tryd.underlying9 _ _ _ _ (bu.below (dn j))
          rw [HM.out.1] at this
          exact this
        have k2 : ∀ j, (convert 28 9 (.slice p k 0)).run Tryd.prog (w9.drewN j) = .ok (.string ⟨((B.drop a).take k).toArray⟩) (w9.drewN j) := fun j => run_string_bytes (w9.drewN j) _ _ 5 Tryd.underlying28 Tryd.underlying5 Tryd.underlying9 _ _ _ _ (bq.below (dn j))
        have e1 := HE1.out
        have hsub : wrap64 (((tt : Nat) : Int) - (a : Nat)) = (k : Nat) := by have h1 := HTO.out.2; have h2 := i5; unfold wrap64; omega
        have hsub2 : IntKind.i64.wrap (((tt : Nat) : Int) - (a : Nat)) = (k : Nat) := by have h1 := HTO.out.2; have h2 := i5; rw [IntWalk.i64_in _ (by omega)]; omega
        have dm1 : decide ((m : Int) ≤ (k : Nat)) = true := decide_eq_true (by have := HM.out.2; omega)
        have dm2 : decide (m ≤ k) = true := decide_eq_true HM.out.2
        obtain ⟨TA, hTA⟩ : ∃ T : ByteArray, ⟨(putV v).toArray⟩ = T := ⟨_, rfl⟩
        obtain ⟨TB, hTB⟩ : ∃ T : ByteArray, ⟨((B.drop a).take k).toArray⟩ = T := ⟨_, rfl⟩
        rw [hTA, hTB] at e1
        rw [hTA] at k1
        rw [hTB] at k2
        clear hb9 bu bq dn hTA hTB
        go_upto_region 14 with fail
        go_quiet (fail)
        go_wp2_with fail
        go_ret
        exact ⟨rfl, HB9.out.trans ⟨rfl, rfl, rfl, Nat.le_refl _, fun _ _ => rfl⟩⟩
    · have hbp : BytesIn w8 (p.map (fun x => x.add a)) k (cp - a) ((B.drop a).take k) := by have h := HP.out; rw [if_neg hca] at h; exact h
      by_cases heq : putV v = (B.drop a).take k
      · have hl := HL.out.1.2.2.2.2
        rw [decide_eq_true heq] at hl
        have HL2 := Lib.hid hl
        have he1 : ((⟨(putV v).toArray⟩ : ByteArray).toList == (⟨((B.drop a).take k).toArray⟩ : ByteArray).toList) = true := (bytes_beq _ _).trans (decide_eq_true heq)
        have HE1 := Lib.hid he1
        clear hl he1 heq
        go_wp2_with fail
        refine (shortest_any w8 (p.map (fun x => x.add a)) k (cp - a) _ hbp (HV.out.2.1.below H8.out.1) (by have := HL.out.2.2.2.2; omega)).mono ?_
        rintro e w9 ⟨rfl, hb9⟩
        rw [HL2.out]
        have HB9 := Lib.hid (H8.out.1.trans (hb9.mono H8.out.1.size))
        have bu := (H8.out.2.of_below hb9).sl.2
        have bq := hbp.below hb9
        have dn : ∀ m, Below w9.heap.size w9 (w9.drewN m) := fun m => ⟨rfl, rfl, rfl, Nat.le_refl _, fun _ _ => rfl⟩
        have k1 : ∀ j, (convert 28 9 (.slice pu m cu)).run Tryd.prog (w9.drewN j) = .ok (.string ⟨(putV v).toArray⟩) (w9.drewN j) := fun j => by
          have := run_string_bytes (w9.drewN j) _ _ 5 Tryd.underlying28 Tryd.underlying5 Tryd.underlying9 _ _ _ _ (bu.below (dn j))
          rw [HM.out.1] at this
          exact this
        have k2 : ∀ j, (convert 28 9 (.slice (p.map (fun x => x.add a)) k (cp - a))).run Tryd.prog (w9.drewN j) = .ok (.string ⟨((B.drop a).take k).toArray⟩) (w9.drewN j) := fun j => run_string_bytes (w9.drewN j) _ _ 5 Tryd.underlying28 Tryd.underlying5 Tryd.underlying9 _ _ _ _ (bq.below (dn j))
        have e1 := HE1.out
        have hsub : wrap64 (((tt : Nat) : Int) - (a : Nat)) = (k : Nat) := by have h1 := HTO.out.2; have h2 := i5; unfold wrap64; omega
        have hsub2 : IntKind.i64.wrap (((tt : Nat) : Int) - (a : Nat)) = (k : Nat) := by have h1 := HTO.out.2; have h2 := i5; rw [IntWalk.i64_in _ (by omega)]; omega
        have dm1 : decide ((m : Int) ≤ (k : Nat)) = true := decide_eq_true (by have := HM.out.2; omega)
        have dm2 : decide (m ≤ k) = true := decide_eq_true HM.out.2
        obtain ⟨TA, hTA⟩ : ∃ T : ByteArray, ⟨(putV v).toArray⟩ = T := ⟨_, rfl⟩
        obtain ⟨TB, hTB⟩ : ∃ T : ByteArray, ⟨((B.drop a).take k).toArray⟩ = T := ⟨_, rfl⟩
        rw [hTA, hTB] at e1
        rw [hTA] at k1
        rw [hTB] at k2
        clear hb9 bu bq dn hTA hTB
        go_upto_region 14 with fail
        go_quiet (fail)
        go_wp2_with fail
        go_ret
        exact ⟨rfl, HB9.out.trans ⟨rfl, rfl, rfl, Nat.le_refl _, fun _ _ => rfl⟩⟩
      · have hl := HL.out.1.2.2.2.2
        rw [decide_eq_false heq] at hl
        have HL2 := Lib.hid hl
        have he1 : ((⟨(putV v).toArray⟩ : ByteArray).toList == (⟨((B.drop a).take k).toArray⟩ : ByteArray).toList) = false := (bytes_beq _ _).trans (decide_eq_false heq)
        have HE1 := Lib.hid he1
        clear hl he1 heq
        go_wp2_with fail
        refine (shortest_any w8 (p.map (fun x => x.add a)) k (cp - a) _ hbp (HV.out.2.1.below H8.out.1) (by have := HL.out.2.2.2.2; omega)).mono ?_
        rintro e w9 ⟨rfl, hb9⟩
        rw [HL2.out]
        have HB9 := Lib.hid (H8.out.1.trans (hb9.mono H8.out.1.size))
        have bu := (H8.out.2.of_below hb9).sl.2
        have bq := hbp.below hb9
        have dn : ∀ m, Below w9.heap.size w9 (w9.drewN m) := fun m => ⟨rfl, rfl, rfl, Nat.le_refl _, fun _ _ => rfl⟩
        have k1 : ∀ j, (convert 28 9 (.slice pu m cu)).run Tryd.prog (w9.drewN j) = .ok (.string ⟨(putV v).toArray⟩) (w9.drewN j) := fun j => by
          have := run_string_bytes (w9.drewN j) _ _ 5 Tryd.underlying28 Tryd.underlying5 Tryd.underlying9 _ _ _ _ (bu.below (dn j))
          rw [HM.out.1] at this
          exact this
        have k2 : ∀ j, (convert 28 9 (.slice (p.map (fun x => x.add a)) k (cp - a))).run Tryd.prog (w9.drewN j) = .ok (.string ⟨((B.drop a).take k).toArray⟩) (w9.drewN j) := fun j => run_string_bytes (w9.drewN j) _ _ 5 Tryd.underlying28 Tryd.underlying5 Tryd.underlying9 _ _ _ _ (bq.below (dn j))
        have e1 := HE1.out
        have hsub : wrap64 (((tt : Nat) : Int) - (a : Nat)) = (k : Nat) := by have h1 := HTO.out.2; have h2 := i5; unfold wrap64; omega
        have hsub2 : IntKind.i64.wrap (((tt : Nat) : Int) - (a : Nat)) = (k : Nat) := by have h1 := HTO.out.2; have h2 := i5; rw [IntWalk.i64_in _ (by omega)]; omega
        have dm1 : decide ((m : Int) ≤ (k : Nat)) = true := decide_eq_true (by have := HM.out.2; omega)
        have dm2 : decide (m ≤ k) = true := decide_eq_true HM.out.2
        obtain ⟨TA, hTA⟩ : ∃ T : ByteArray, ⟨(putV v).toArray⟩ = T := ⟨_, rfl⟩
        obtain ⟨TB, hTB⟩ : ∃ T : ByteArray, ⟨((B.drop a).take k).toArray⟩ = T := ⟨_, rfl⟩
        rw [hTA, hTB] at e1
        rw [hTA] at k1
        rw [hTB] at k2
        clear hb9 bu bq dn hTA hTB
        go_upto_region 14 with fail
        go_quiet (fail)
        go_wp2_with fail
        go_ret
        exact ⟨rfl, HB9.out.trans ⟨rfl, rfl, rfl, Nat.le_refl _, fun _ _ => rfl⟩⟩
  · have hz := decS_err herr
    rw [hz] at hvo ⊢
    obtain ⟨ps, cs, hss, _, _⟩ := hvo.slice
    subst hss
    have H2 := Lib.hid (H1.out.trans (hb2.mono H1.out.size))
    obtain ⟨pl, hpl⟩ : ∃ pl, (decS B at_).2.1 = pl := ⟨_, rfl⟩
    obtain ⟨ec, hec⟩ : ∃ ec, (decS B at_).2.2 = ec := ⟨_, rfl⟩
    rw [hpl, hec]
    rw [hec] at herr
    have d1 : (ec != 0) = true := by simp [herr]
    clear hz hvo hb2 hpl hec herr
    go_upto_region 5 with (refine wpList_store_rowTo rfl 25 (.tmp 6) (.tmp 24) rfl rfl w2.heap.size #[.int .i64 zeroV.kind, .int .u64 zeroV.num, .string zeroV.text, .slice ps zeroV.list.length cs, .int .i64 zeroV.elem] rfl rfl 25 zR (_root_.Go.heap_alloc_new _ _) (by as_aux_lemma => kernel_rfl) (by as_aux_lemma => kernel_rfl) (by simp [Value.oneCell']) ?_)
    have hbx6 : Below w2.heap.size w2 ((w2.alloc (.cells zR 25)).setRow w2.heap.size #[.int .i64 zeroV.kind, .int .u64 zeroV.num, .string zeroV.text, .slice ps zeroV.list.length cs, .int .i64 zeroV.elem]) := below_setRow ((Below.refl _ _).alloc (Nat.le_refl _) _) (Nat.le_refl _) _
    have ox6 := setRow_heap (w2.alloc (.cells zR 25)) w2.heap.size _ #[.int .i64 zeroV.kind, .int .u64 zeroV.num, .string zeroV.text, .slice ps zeroV.list.length cs, .int .i64 zeroV.elem] _ _ (_root_.Go.heap_alloc_new w2 _)
    change Code.wp _ _ _ _ ((w2.alloc (.cells zR 25)).setRow w2.heap.size #[.int .i64 zeroV.kind, .int .u64 zeroV.num, .string zeroV.text, .slice ps zeroV.list.length cs, .int .i64 zeroV.elem])
    generalize ((w2.alloc (.cells zR 25)).setRow w2.heap.size #[.int .i64 zeroV.kind, .int .u64 zeroV.num, .string zeroV.text, .slice ps zeroV.list.length cs, .int .i64 zeroV.elem]) = w3 at *
    obtain ⟨x6, hx6⟩ : ∃ x, w2.heap.size = x := ⟨_, rfl⟩
    rw [hx6] at ox6 ⊢
    have z0 : w3.cell? ⟨x6, 0, none⟩ = some (.int .i64 zeroV.kind) := (cell_of_row _ _ 0 _ _ _ ox6).trans rfl
    have z1 : w3.cell? ⟨x6, 1, none⟩ = some (.int .u64 zeroV.num) := (cell_of_row _ _ 1 _ _ _ ox6).trans rfl
    have z2 : w3.cell? ⟨x6, 2, none⟩ = some (.string zeroV.text) := (cell_of_row _ _ 2 _ _ _ ox6).trans rfl
    have z3 : w3.cell? ⟨x6, 3, none⟩ = some ((.slice ps zeroV.list.length cs)) := (cell_of_row _ _ 3 _ _ _ ox6).trans rfl
    have z4 : w3.cell? ⟨x6, 4, none⟩ = some (.int .i64 zeroV.elem) := (cell_of_row _ _ 4 _ _ _ ox6).trans rfl
    have HB := Lib.hid (H2.out.trans (hbx6.mono H2.out.size))
    clear hbx6 ox6 hx6
    go_wp2_with fail
    go_ret
    exact ⟨rfl, HB.out⟩
end Go.Proofs.YtjipennigjlklaaDoor

namespace Go.Proofs.YtjipennigjlklaaDoor
open Go.RowKit
set_option maxRecDepth 100000

theorem accept_eq : (Rows.laid_unicode_utf8_acceptRanges : DataW Unit) = Lib.acceptData := by kernel_rfl
theorem tabs_of {W : World} (hL : laidMetH Tryd.prog [("unicode/utf8.acceptRanges", Rows.laid_unicode_utf8_acceptRanges), ("unicode/utf8.first", Rows.laid_unicode_utf8_first)] W) : Tabs W := by
  have h3 := Lib.laidMet.reads hL (.tail _ (.head _))
  have h4 := Lib.laidMet.reads hL (.head _)
  have e3 : Rows.laid_unicode_utf8_first = Lib.firstData := Pinned.utf8First_eq
  rw [e3] at h3
  rw [accept_eq] at h4
  exact utf8Tabs_of_reads Tryd.lays260 ⟨by kernel_rfl, by kernel_rfl, by kernel_rfl, by kernel_rfl, by kernel_rfl, by kernel_rfl, by kernel_rfl⟩ h3 h4

def putTab (vals : Array Value) : Obj → Obj
  | .cells _ t frozen => .cells vals t frozen
  | o => o
noncomputable def laidWorld (os : Os) : World :=
  { World.holding Tryd.prog os ⟨#[], #[], []⟩ with
    heap := ((World.holding Tryd.prog os ⟨#[], #[], []⟩).heap.modify 0 (putTab ((List.range 256).map fun c => (Value.int .u8 (Lib.firstT c : Int))).toArray)).modify 1 (putTab ((List.range 32).map fun c => (Value.int .u8 ((if c % 2 = 0 then Lib.accLo (c / 2) else Lib.accHi (c / 2) : Nat) : Int))).toArray) }
end Go.Proofs.YtjipennigjlklaaDoor
