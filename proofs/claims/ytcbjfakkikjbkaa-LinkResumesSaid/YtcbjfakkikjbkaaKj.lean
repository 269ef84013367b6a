/-
  A link made; its credit. Conditions: the numbers are ints; the link lies in memory.
-/
import Derived.Test.YtcbjfakkikjbkaaKi
namespace Go.Proofs.Ytcbjfakkikjbkaa
open Go.RowKit Go.Maps
set_option linter.all false

def newL (name : ByteArray) (rc : Bool) (sn rv ini mx : Int) : Lk := ⟨name, rc, sn, rv, ini, mx, ini, 0, ini, 0, false, []⟩
structure CfgOk (name : ByteArray) (sn rv ini mx : Int) : Prop where
  n : name.size ≤ 64
  s : 0 ≤ sn ∧ sn ≤ 2
  r : 0 ≤ rv ∧ rv ≤ 1
  i : 0 ≤ ini ∧ ini ≤ 4294967295
  m : 0 ≤ mx ∧ mx ≤ 9223372036854775807
theorem newL_ok {name : ByteArray} {rc : Bool} {sn rv ini mx : Int} (h : CfgOk name sn rv ini mx) : (newL name rc sn rv ini mx).Ok :=
  ⟨by have := h.n; unfold maxLen; show name.size ≤ _; omega, h.s, h.r, h.i, ⟨by have := h.m; show -9223372036854775808 ≤ mx; omega, h.m.2⟩, h.i, ⟨by show (0 : Int) ≤ 0; omega, by show (0 : Int) ≤ 2147483647; omega⟩, h.i, ⟨by show (0 : Int) ≤ 0; omega, by show (0 : Int) ≤ 4294967295; omega⟩, fun p hp => by simp [newL] at hp⟩

set_option maxRecDepth 20000 in
set_option maxHeartbeats 4000000 in
theorem new_ok (w : World) (name : ByteArray) (rc : Bool) (sn rv ini mx : Int) (h : CfgOk name sn rv ini mx) :
    Calls Try.prog 13 #[.agg #[.string name, .bool rc, .int .i64 sn, .int .i64 rv, .int .i64 ini, .int .i64 mx]] w fun e w' => ∃ q m, w.heap.size ≤ q ∧ w.heap.size ≤ m ∧ e = .returned (.pointer (some ⟨q, 0, none⟩)) ∧ LkIn w' q m (fun _ => False) (newL name rc sn rv ini mx) ∧ Below w.heap.size w w' := by
  have hmm := @run_makeMap Try.prog
  have H := Lib.hid h
  obtain ⟨h1, ⟨h2, h3⟩, ⟨h4, h5⟩, ⟨h6, h7⟩, ⟨h8, h9⟩⟩ := h
  have g1 : ¬ ((64 : Int) < name.size) := by omega
  go_enter Try.func13, Try.ntmps13
  go_wp2_with fail
  go_ret
  have hr : ∀ c : Array Value, (((w.alloc (.cells c 57)).alloc (.map #[] 0)).alloc (.cells ((newL name rc sn rv ini mx).cells (w.heap.size + 1)) 76)).heap[w.heap.size + 1 + 1]? = some (.cells ((newL name rc sn rv ini mx).cells (w.heap.size + 1)) 76 (0, 0)) := fun c => by
    have := _root_.Go.heap_alloc_new (((w.alloc (.cells c 57)).alloc (.map #[] 0))) (.cells ((newL name rc sn rv ini mx).cells (w.heap.size + 1)) 76)
    simpa using this
  refine ⟨w.heap.size + 1 + 1, Nat.le_succ_of_le (Nat.le_succ _), w.heap.size + 1, Nat.le_succ _, rfl, ⟨hr _, ?_, fun p hp => by simp [newL] at hp, fun h => h, fun h => h, fun b h => h.elim, newL_ok H.out⟩, (((Below.refl _ _).alloc (Nat.le_refl _) _).alloc (by simp) _).alloc (by simp; omega) _⟩
  have hm := MapOf.made (w.alloc (.cells #[.string name, .bool rc, .int .i64 sn, .int .i64 rv, .int .i64 ini, .int .i64 mx] 57))
  refine MapOf.same (w := (w.alloc (.cells #[.string name, .bool rc, .int .i64 sn, .int .i64 rv, .int .i64 ini, .int .i64 mx] 57)).alloc (.map #[] 0)) (by simpa [newL, ents] using hm) ?_
  exact Below.heap_alloc _ _ _ (by simp)

/-- a sender's mode that there is not -/
theorem new_bad (w : World) (name : ByteArray) (rc : Bool) (sn rv ini mx : Int) (h1 : name.size ≤ 64) (h2 : 2 < sn) (h3 : sn ≤ 9223372036854775807) :
    Calls Try.prog 13 #[.agg #[.string name, .bool rc, .int .i64 sn, .int .i64 rv, .int .i64 ini, .int .i64 mx]] w fun e w' => e = .returned (.pointer none) ∧ Below w.heap.size w w' := by
  have g1 : ¬ ((64 : Int) < name.size) := by omega
  have g2 : ¬ (sn < 0) := by omega
  go_enter Try.func13, Try.ntmps13
  go_wp2_with fail
  go_ret
  exact ⟨rfl, (Below.refl _ _).alloc (Nat.le_refl _) _⟩

/-- credit given -/
def Lk.grant (l : Lk) (c : Int) (dr : Bool) : Lk := { l with credit := c, drain := dr && decide (0 < c), bound := if 0 < gapS l.bound (addS l.count c) then addS l.count c else l.bound }
set_option maxRecDepth 20000 in
set_option maxHeartbeats 4000000 in
theorem grant_ok (w : World) (q m : Nat) (G : Nat → Prop) (l : Lk) (c : Int) (dr : Bool) (h : LkIn w q m G l) (hrc : l.rc = true) (hc : 0 ≤ c ∧ c ≤ 2147483647) :
    Calls Try.prog 15 #[.pointer (some ⟨q, 0, none⟩), .int .i64 c, .bool dr] w fun e w' => e = .returned (.int .i64 0) ∧ LkIn w' q m G (l.grant c dr) ∧ LMv q m w w' := by
  have c1 : w.cell? ⟨q, 1, none⟩ = some (.bool l.rc) := h.cs 1 _ rfl
  rw [hrc] at c1
  have z7 := h.fz 7
  have z10 := h.fz 10
  have c7 : w.cell? ⟨q, 7, none⟩ = some (.int .i64 l.credit) := h.cs 7 _ rfl
  have c10 : w.cell? ⟨q, 10, none⟩ = some (.bool l.drain) := h.cs 10 _ rfl
  have o := h.ok
  have H1 := Lib.hid ((h.set1 (l' := { l with credit := c }) 7 (.int .i64 c) rfl rfl ⟨o.name, o.snd, o.rcv, o.ini, o.mx, o.count, hc, o.bound, o.wait, o.ent⟩).set1 (l' := { l with credit := c, drain := dr && decide (0 < c) }) 10 (.bool (dr && decide (0 < c))) rfl rfl ⟨o.name, o.snd, o.rcv, o.ini, o.mx, o.count, hc, o.bound, o.wait, o.ent⟩)
  have HM := Lib.hid ((LMv.set (q := q) (m := m) (w := w) 7 (.int .i64 c)).cell (i := 10) (v := .bool (dr && decide (0 < c))))
  have H := Lib.hid h
  have HC := Lib.hid hc
  clear h o hrc
  obtain ⟨hc1, hc2⟩ := hc
  have HZB := Lib.hid (show ∀ b : Bool, (⟨l.name, l.rc, l.snd, l.rcv, l.ini, l.mx, l.count, c, l.bound, l.wait, b, l.all⟩ : Lk).Ok from fun b => by have o := H.out.ok; exact ⟨o.name, o.snd, o.rcv, o.ini, o.mx, o.count, HC.out, o.bound, o.wait, o.ent⟩)
  go_enter Try.func15, Try.ntmps15
  cases dr
  · go_upto_region 6 with fail
    have hL : LkIn ((w.setCell ⟨q, 7, none⟩ (.int .i64 c)).setCell ⟨q, 10, none⟩ (.bool false)) q m G { l with credit := c, drain := false } := H1.out
    have hM : LMv q m w ((w.setCell ⟨q, 7, none⟩ (.int .i64 c)).setCell ⟨q, 10, none⟩ (.bool false)) := HM.out
    change Code.wp _ _ _ _ ((w.setCell ⟨q, 7, none⟩ (.int .i64 c)).setCell ⟨q, 10, none⟩ (.bool false))
    generalize (w.setCell ⟨q, 7, none⟩ (.int .i64 c)).setCell ⟨q, 10, none⟩ (.bool false) = W at hL hM ⊢
    have d6 : W.cell? ⟨q, 6, none⟩ = some (.int .i64 l.count) := hL.cs 6 _ rfl
    have d8 : W.cell? ⟨q, 8, none⟩ = some (.int .i64 l.bound) := hL.cs 8 _ rfl
    have y8 := hL.fz 8
    have hadd := add_any l.count c W H.out.ok.count.i64 ⟨by omega, by omega⟩
    have hbef := before_any l.bound (addS l.count c) W H.out.ok.bound.i64 (addS_word _ _).i64
    have HL := Lib.hid hL
    have HMM := Lib.hid hM
    have HBF := Lib.hid hbef
    clear hL hM c1 c7 c10 z7 z10 hbef
    go_wp2_with fail
    refine hadd.mono ?_
    clear hadd
    rintro e w1 ⟨rfl, rfl⟩
    go_wp2_with fail
    refine HBF.out.mono ?_
    rintro e w1 ⟨rfl, rfl⟩
    by_cases hg : 0 < gapS l.bound (addS l.count c)
    · have hd : l.grant c false = { l with credit := c, drain := false, bound := addS l.count c } := by unfold Lk.grant; rw [if_pos hg]; rfl
      have HD := Lib.hid hd
      rw [decide_eq_true hg]
      have h3 := HL.out.set1 (l' := { l with credit := c, drain := false, bound := addS l.count c }) 8 (.int .i64 (addS l.count c)) rfl rfl (by have o := HZB.out (false); exact ⟨o.name, o.snd, o.rcv, o.ini, o.mx, o.count, o.credit, addS_word _ _, o.wait, o.ent⟩)
      have H3 := Lib.hid h3
      clear hd hg h3
      go_wp2_with fail
      go_ret
      rw [HD.out]
      exact ⟨rfl, H3.out, HMM.out.cell⟩
    · have hd : l.grant c false = { l with credit := c, drain := false } := by unfold Lk.grant; rw [if_neg hg]; rfl
      have HD := Lib.hid hd
      rw [decide_eq_false hg]
      clear hd hg
      go_wp2_with fail
      go_ret
      rw [HD.out]
      exact ⟨rfl, HL.out, HMM.out⟩
  · go_upto_region 6 with fail
    have hL : LkIn ((w.setCell ⟨q, 7, none⟩ (.int .i64 c)).setCell ⟨q, 10, none⟩ (.bool (decide (0 < c)))) q m G { l with credit := c, drain := decide (0 < c) } := H1.out
    have hM : LMv q m w ((w.setCell ⟨q, 7, none⟩ (.int .i64 c)).setCell ⟨q, 10, none⟩ (.bool (decide (0 < c)))) := HM.out
    change Code.wp _ _ _ _ ((w.setCell ⟨q, 7, none⟩ (.int .i64 c)).setCell ⟨q, 10, none⟩ (.bool (decide (0 < c))))
    generalize (w.setCell ⟨q, 7, none⟩ (.int .i64 c)).setCell ⟨q, 10, none⟩ (.bool (decide (0 < c))) = W at hL hM ⊢
    have d6 : W.cell? ⟨q, 6, none⟩ = some (.int .i64 l.count) := hL.cs 6 _ rfl
    have d8 : W.cell? ⟨q, 8, none⟩ = some (.int .i64 l.bound) := hL.cs 8 _ rfl
    have y8 := hL.fz 8
    have hadd := add_any l.count c W H.out.ok.count.i64 ⟨by omega, by omega⟩
    have hbef := before_any l.bound (addS l.count c) W H.out.ok.bound.i64 (addS_word _ _).i64
    have HL := Lib.hid hL
    have HMM := Lib.hid hM
    have HBF := Lib.hid hbef
    clear hL hM c1 c7 c10 z7 z10 hbef
    go_wp2_with fail
    refine hadd.mono ?_
    clear hadd
    rintro e w1 ⟨rfl, rfl⟩
    go_wp2_with fail
    refine HBF.out.mono ?_
    rintro e w1 ⟨rfl, rfl⟩
    by_cases hg : 0 < gapS l.bound (addS l.count c)
    · have hd : l.grant c true = { l with credit := c, drain := decide (0 < c), bound := addS l.count c } := by unfold Lk.grant; rw [if_pos hg]; rfl
      have HD := Lib.hid hd
      rw [decide_eq_true hg]
      have h3 := HL.out.set1 (l' := { l with credit := c, drain := decide (0 < c), bound := addS l.count c }) 8 (.int .i64 (addS l.count c)) rfl rfl (by have o := HZB.out (decide (0 < c)); exact ⟨o.name, o.snd, o.rcv, o.ini, o.mx, o.count, o.credit, addS_word _ _, o.wait, o.ent⟩)
      have H3 := Lib.hid h3
      clear hd hg h3
      go_wp2_with fail
      go_ret
      rw [HD.out]
      exact ⟨rfl, H3.out, HMM.out.cell⟩
    · have hd : l.grant c true = { l with credit := c, drain := decide (0 < c) } := by unfold Lk.grant; rw [if_neg hg]; rfl
      have HD := Lib.hid hd
      rw [decide_eq_false hg]
      clear hd hg
      go_wp2_with fail
      go_ret
      rw [HD.out]
      exact ⟨rfl, HL.out, HMM.out⟩

/-- a perform's fields that a Flow has for a link -/
structure PfIs (C : Array Value) (kd ct cr av : Int) (dr : Bool) : Prop where
  sz : C.size = 128
  k : C[0]? = some (.int .i64 kd)
  c : C[84]? = some (.int .i64 ct)
  r : C[85]? = some (.int .i64 cr)
  a : C[86]? = some (.int .i64 av)
  d : C[87]? = some (.bool dr)
def Lk.granted (l : Lk) (ct cr : Int) (dr : Bool) : Lk := if cr = -1 then l else { l with credit := max 0 (gapS l.count (addS (addS 0 (if ct = -1 then l.ini else ct)) cr)), drain := dr }
theorem Lk.granted_ok {l : Lk} (h : l.Ok) (ct cr : Int) (dr : Bool) : (l.granted ct cr dr).Ok := by
  unfold Lk.granted
  split
  · exact h
  · exact ⟨h.name, h.snd, h.rcv, h.ini, h.mx, h.count, ⟨by show 0 ≤ max 0 _; omega, by show max 0 (gapS l.count (addS (addS 0 (if ct = -1 then l.ini else ct)) cr)) ≤ _; have := gapS_bd l.count (addS (addS 0 (if ct = -1 then l.ini else ct)) cr); omega⟩, h.bound, h.wait, h.ent⟩

set_option maxRecDepth 20000 in
set_option maxHeartbeats 4000000 in
theorem granted_any (w : World) (q m : Nat) (G : Nat → Prop) (l : Lk) (C : Array Value) (kd ct cr av : Int) (dr : Bool) (h : LkIn w q m G l) (hp : PfIs C kd ct cr av dr) (hct : IsI64 ct) (hcr : IsI64 cr) :
    Calls Try.prog 35 #[.pointer (some ⟨q, 0, none⟩), .agg C] w fun e w' => e = .returned (.tuple #[]) ∧ LkIn w' q m G (l.granted ct cr dr) ∧ LMv q m w w' := by
  obtain ⟨L, hL⟩ : ∃ L, l.granted ct cr dr = L := ⟨_, rfl⟩
  have hok := Lk.granted_ok h.ok ct cr dr
  rw [hL] at hok ⊢
  have HLG := Lib.hid hL
  have HOK := Lib.hid hok
  have H := Lib.hid h
  have HP := Lib.hid hp
  clear hL hok
  have HI := Lib.hid (And.intro hct hcr)
  have hlq := h.lq
  clear h hp hct hcr
  go_enter Try.func35, Try.ntmps35
  go_upto_region 1 with fail
  have hb0 : Below w.heap.size w (w.alloc (.cells C 38)) := (Below.refl _ _).alloc (Nat.le_refl _) _
  have ox : (w.alloc (.cells C 38)).heap[w.heap.size]? = some (.cells C 38 (0, 0)) := _root_.Go.heap_alloc_new _ _
  change Code.wp _ _ _ _ (w.alloc (.cells C 38))
  generalize (w.alloc (.cells C 38)) = w0 at *
  have HX := Lib.hid (And.intro ox (Nat.ne_of_gt hlq))
  have x84 : w0.cell? ⟨w.heap.size, 84, none⟩ = some (.int .i64 ct) := (cell_of_row _ _ 84 _ _ _ ox).trans HP.out.c
  have x85 : w0.cell? ⟨w.heap.size, 85, none⟩ = some (.int .i64 cr) := (cell_of_row _ _ 85 _ _ _ ox).trans HP.out.r
  have x87 : w0.cell? ⟨w.heap.size, 87, none⟩ = some (.bool dr) := (cell_of_row _ _ 87 _ _ _ ox).trans HP.out.d
  obtain ⟨x, hx⟩ : ∃ x, w.heap.size = x := ⟨_, rfl⟩
  have HNE := Lib.hid (show x ≠ q by omega)
  rw [hx] at x84 x85 x87 ⊢
  have h0 := H.out.blw hb0
  have H0 := Lib.hid h0
  have HM0 := Lib.hid (LMv.of_below (q := q) (m := m) hb0)
  have c4 : w0.cell? ⟨q, 4, none⟩ = some (.int .i64 l.ini) := h0.cs 4 _ rfl
  have c6 : w0.cell? ⟨q, 6, none⟩ = some (.int .i64 l.count) := h0.cs 6 _ rfl
  have c7 : w0.cell? ⟨q, 7, none⟩ = some (.int .i64 l.credit) := h0.cs 7 _ rfl
  have c10 : w0.cell? ⟨q, 10, none⟩ = some (.bool l.drain) := h0.cs 10 _ rfl
  have z7 := h0.fz 7
  have z10 := h0.fz 10
  clear hb0 ox hlq h0 hx
  by_cases hm : cr = -1
  · have hd : l = L := by rw [← HLG.out]; unfold Lk.granted; rw [if_pos hm]
    have em : (cr == -1) = true := by simpa using hm
    subst hd
    clear hm
    go_wp2_with fail
    refine bodyPost_ret (results_none rfl _ _ _) rfl ?_
    exact ⟨rfl, H0.out, HM0.out⟩
  · have em : (cr == -1) = false := by simpa using hm
    obtain ⟨fr, hfr⟩ : ∃ fr, (if ct = -1 then l.ini else ct) = fr := ⟨_, rfl⟩
    obtain ⟨gp, hgp⟩ : ∃ gp, gapS l.count (addS (addS 0 fr) cr) = gp := ⟨_, rfl⟩
    have hd : L = { l with credit := max 0 gp, drain := dr } := by rw [← HLG.out]; unfold Lk.granted; rw [if_neg hm, hfr, hgp]
    subst hd
    have hfi : IsI64 fr := by
      rw [← hfr]
      split
      · exact H0.out.ok.ini.i64
      · exact HI.out.1
    have hgb := gapS_bd l.count (addS (addS 0 fr) cr)
    rw [hgp] at hgb
    have HG := Lib.hid hgp
    have HFI := Lib.hid hfi
    clear hm hgp hfi
    have hA1 := Lib.hid (fun W => (add_any 0 fr W ⟨by omega, by omega⟩ HFI.out).mono (fun e w' (q : e = _ ∧ W = w') => And.intro q.1 q.2.symm))
    have hA2 := Lib.hid (fun W => (add_any (addS 0 fr) cr W (addS_word _ _).i64 HI.out.2).mono (fun e w' (q : e = _ ∧ W = w') => And.intro q.1 q.2.symm))
    have hA3 := Lib.hid (fun W => (gap_any l.count (addS (addS 0 fr) cr) W H0.out.ok.count.i64 (addS_word _ _).i64).mono (fun e w' (q : e = _ ∧ W = w') => And.intro (q.1.trans (ret_i64 HG.out)) q.2.symm))
    have hmx : (if 0 < gp then gp else 0) = max 0 gp := by split <;> omega
    have h1 := H0.out.blw (bdrew (Below.refl w0.heap.size w0))
    have o := H0.out.ok
    have h2 := h1.set1 (l' := { l with credit := max 0 gp }) 7 (.int .i64 (max 0 gp)) rfl rfl (by have o2 := HOK.out; exact ⟨o.name, o.snd, o.rcv, o.ini, o.mx, o.count, o2.credit, o.bound, o.wait, o.ent⟩)
    have h3 := h2.set1 (l' := { l with credit := max 0 gp, drain := dr }) 10 (.bool dr) rfl rfl HOK.out
    have H3 := Lib.hid h3
    have HM3 := Lib.hid (((HM0.out.trans (LMv.of_below (bdrew (Below.refl w0.heap.size w0)))).cell (i := 7) (v := .int .i64 (max 0 gp))).cell (i := 10) (v := .bool dr))
    clear h1 h2 h3 o
    by_cases hc1 : ct = -1
    · rw [if_pos hc1] at hfr
      have ec : (ct == -1) = true := by simpa using hc1
      subst hfr
      clear hc1
      go_upto_region 5 with fail
      go_still_tail 14, (by kernel_rfl)
      still_call (hA1.out _)
      repeat still_step
      still_call (hA2.out _)
      repeat still_step
      still_call (hA3.out _)
      repeat still_step
      refine wpStill_nil ?_
      try simp only [hmx]
      change wpList _ _ _ _ _ w0.drew
      go_wp2_with fail
      go_end0
      exact ⟨rfl, H3.out, HM3.out⟩
    · rw [if_neg hc1] at hfr
      have ec : (ct == -1) = false := by simpa using hc1
      subst hfr
      clear hc1
      go_upto_region 5 with fail
      go_still_tail 14, (by kernel_rfl)
      still_call (hA1.out _)
      repeat still_step
      still_call (hA2.out _)
      repeat still_step
      still_call (hA3.out _)
      repeat still_step
      refine wpStill_nil ?_
      try simp only [hmx]
      change wpList _ _ _ _ _ w0.drew
      go_wp2_with fail
      go_end0
      exact ⟨rfl, H3.out, HM3.out⟩

def Lk.flow (l : Lk) (ct cr : Int) (dr : Bool) : Lk := l.granted ct cr dr
set_option maxRecDepth 20000 in
set_option maxHeartbeats 4000000 in
/-- a sender's -/
theorem flow_sender (w : World) (q m : Nat) (G : Nat → Prop) (l : Lk) (C : Array Value) (ct cr av : Int) (dr : Bool) (h : LkIn w q m G l) (hrc : l.rc = false) (hp : PfIs C 19 ct cr av dr) (hct : IsI64 ct) (hcr : IsI64 cr) :
    Calls Try.prog 16 #[.pointer (some ⟨q, 0, none⟩), .agg C] w fun e w' => e = .returned (.int .i64 0) ∧ LkIn w' q m G (l.granted ct cr dr) ∧ LMv q m w w' := by
  have HG := Lib.hid (fun W => fun hw => granted_any W q m G l C 19 ct cr av dr hw hp hct hcr)
  have hb0 : Below w.heap.size w (w.alloc (.cells C 38)) := (Below.refl _ _).alloc (Nat.le_refl _) _
  have ox : (w.alloc (.cells C 38)).heap[w.heap.size]? = some (.cells C 38 (0, 0)) := _root_.Go.heap_alloc_new _ _
  have c1 : w.cell? ⟨q, 1, none⟩ = some (.bool l.rc) := h.cs 1 _ rfl
  rw [hrc] at c1
  have x0 : (w.alloc (.cells C 38)).cell? ⟨w.heap.size, 0, none⟩ = some (.int .i64 19) := (cell_of_row _ _ 0 _ _ _ ox).trans hp.k
  have c1 : (w.alloc (.cells C 38)).cell? ⟨q, 1, none⟩ = some (.bool false) := (World.cell?_of_block (hb0.block q h.lq)).trans c1
  have HSZ := Lib.hid (show (Try.prog.info? 38).map (·.size) = some C.toList.length by rw [Array.length_toList, hp.sz]; kernel_rfl)
  have HR := Lib.hid (range_of_row ox)
  have H := Lib.hid h
  clear h hp hrc ox
  go_enter Try.func16, Try.ntmps16
  go_upto_region 1 with fail
  have H0 := Lib.hid (H.out.blw hb0)
  have HM0 := Lib.hid (LMv.of_below (q := q) (m := m) hb0)
  have HRR := Lib.hid HR.out
  change Code.wp _ _ _ _ (w.alloc (.cells C 38))
  clear hb0
  generalize (w.alloc (.cells C 38)) = w0 at *
  generalize w.heap.size = x at *
  go_wp2_with (refine wpList_load_midTo rfl 38 (.tmp 3) rfl (some 17) rfl x 0 rfl C _ HRR.out Try.underlying38 rfl HSZ.out ?_)
  refine (HG.out w0 H0.out).mono ?_
  rintro e w1 ⟨rfl, h1, hm1⟩
  have H1 := Lib.hid (And.intro h1 hm1)
  clear h1 hm1
  go_wp2_with fail
  go_ret
  exact ⟨rfl, H1.out.1, HM0.out.trans H1.out.2⟩
end Go.Proofs.Ytcbjfakkikjbkaa
