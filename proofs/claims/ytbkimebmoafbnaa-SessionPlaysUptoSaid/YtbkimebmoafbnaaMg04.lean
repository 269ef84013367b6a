/-
  A session's Deliver, Arrive. Conditions: the session lies in memory.
  The library's maps.Keys, slices.Collect, slices.DeleteFunc, slices.SortFunc laid at this dump (printed by the shelf's plain mode). No conditions.
  The closures that a session hands to the library; cmp.Compare. No conditions.
  A table's from: the deliveries of a range, in order. Conditions: the table lies in memory, holds something; its numbers are words.
-/
import Derived.Test.YtbkimebmoafbnaaMg03
import Derived.Shelf.SlIterI.Collect
import Derived.Shelf.SlicesE.DeleteFunc
import Derived.Shelf.SlSortCmp.Whole1
import Derived.Shelf.SlSortCmp.NoneTotal
import Derived.Test.YtbkimebmoafbnaaProg
import Derived.Sort.OwnSortedInts
import Derived.Laws.AppendOwn
namespace Go.Proofs.Ytbkimebmoafbnaa
open Go.RowKit Go.Maps
set_option linter.unusedVariables false

theorem Word.i64 {n : Int} (h : Word n) : IsI64 n := by unfold IsI64; have := h.1; have := h.2; omega

/-- the map of what was sent turns -/
theorem SesIn.turnS {w w' : World} {K : SK} {s s' : SS} (h : SesIn w K s) (hm : MapOf w' K.mS (pend s'.snd)) (hg : w.grownBy w' (some K.mS)) (hc : s'.cells K = s.cells K) (h2 : s'.rem = s.rem) (h3 : s'.arr = s.arr) (hok : s'.ok) : SesIn w' K s' := by
  obtain ⟨n1, n2, n3, n4, n5⟩ := h.bne
  obtain ⟨_, _, m1, m2, _⟩ := h.mne
  have e : ∀ j, K.has j → j ≠ K.mS → w'.heap[j]? = w.heap[j]? := fun j hj hn => hg.block j (h.lt j hj) (fun e => hn (Option.some.inj e))
  exact ⟨by rw [hc]; exact (e _ (.inl rfl) (fun q => n4 q.symm)).trans h.row, (e _ (.inr (.inl rfl)) (fun q => m1 q.symm)).trans h.rowS, (e _ (.inr (.inr (.inl rfl))) (fun q => m2 q.symm)).trans h.rowA, by rw [h2]; exact h.rem.same (e _ (.inr (.inr (.inr (.inl rfl)))) h.ne.2.1), hm, by rw [h3]; exact h.arr.same (e _ (.inr (.inr (.inr (.inr (.inr rfl))))) (fun q => h.ne.2.2.2 q.symm)), h.lo, h.ne, hok⟩

/-- the map of what came turns -/
theorem SesIn.turnA {w w' : World} {K : SK} {s s' : SS} (h : SesIn w K s) (hm : MapOf w' K.mA (pend s'.arr)) (hg : w.grownBy w' (some K.mA)) (hc : s'.cells K = s.cells K) (h2 : s'.rem = s.rem) (h3 : s'.snd = s.snd) (hok : s'.ok) : SesIn w' K s' := by
  obtain ⟨n1, n2, n3, n4, n5⟩ := h.bne
  obtain ⟨_, _, _, _, m1, m2⟩ := h.mne
  have e : ∀ j, K.has j → j ≠ K.mA → w'.heap[j]? = w.heap[j]? := fun j hj hn => hg.block j (h.lt j hj) (fun e => hn (Option.some.inj e))
  exact ⟨by rw [hc]; exact (e _ (.inl rfl) (fun q => n5 q.symm)).trans h.row, (e _ (.inr (.inl rfl)) (fun q => m1 q.symm)).trans h.rowS, (e _ (.inr (.inr (.inl rfl))) (fun q => m2 q.symm)).trans h.rowA, by rw [h2]; exact h.rem.same (e _ (.inr (.inr (.inr (.inl rfl)))) h.ne.2.2.1), by rw [h3]; exact h.snd.same (e _ (.inr (.inr (.inr (.inr (.inl rfl))))) h.ne.2.2.2), hm, h.lo, h.ne, hok⟩

def SS.put (s : SS) (p : Pnd) (settled : Bool) : SS := { s with snd := if settled then s.snd else s.snd ++ [p] }
def SS.putA (s : SS) (p : Pnd) (settled : Bool) : SS := { s with arr := if settled then s.arr else s.arr ++ [p] }
theorem SS.put_ok {s : SS} (h : s.ok) (p : Pnd) (b : Bool) : (s.put p b).ok := ⟨h.first, h.no, h.ow, h.ni, h.iw, h.ri, h.ro, h.nd, h.hm, h.rh⟩
theorem SS.putA_ok {s : SS} (h : s.ok) (p : Pnd) (b : Bool) : (s.putA p b).ok := ⟨h.first, h.no, h.ow, h.ni, h.iw, h.ri, h.ro, h.nd, h.hm, h.rh⟩

/-- Deliver -/
def deliverS (s : SS) (n : Int) (tag : ByteArray) (settled : Bool) : SS × Int × Int :=
  if n ∉ s.rem.map Prod.fst then (s, 0, 132) else if s.nd ∈ s.snd.map Pnd.id then (s, 0, 131) else ({ s.put ⟨s.nd, n, tag⟩ settled with nd := addS s.nd 1 }, s.nd, 0)

theorem addS_word (a n : Int) : Word (addS a n) := by have := addS_bd a n; exact ⟨this.1, by omega⟩

set_option maxRecDepth 20000 in
set_option maxHeartbeats 4000000 in
theorem deliver_any (w : World) (K : SK) (s : SS) (n : Int) (tag : ByteArray) (settled : Bool) (h : SesIn w K s) (hn : IsI64 n) (hl : s.snd.length < maxLen) :
    Calls Try.prog 31 #[.pointer (some ⟨K.b, 0, none⟩), .int .i64 n, .string tag, .bool settled] w fun e w' => e = .returned (.tuple #[.int .i64 (deliverS s n tag settled).2.1, .int .i64 (deliverS s n tag settled).2.2]) ∧ SesIn w' K (deliverS s n tag settled).1 ∧ SMv K w w' := by
  have c8 : w.cell? ⟨K.b, 8, none⟩ = some (.int .i64 s.nd) := h.cs 8 _ rfl
  have c14 : w.cell? ⟨K.b, 14, none⟩ = some (.pointer (some ⟨K.tS, 0, none⟩)) := h.cs 14 _ rfl
  have hu := used_any w K s n h hn
  rw [keys_rems] at hu
  obtain ⟨D, hD⟩ : ∃ D, deliverS s n tag settled = D := ⟨_, rfl⟩
  rw [hD]
  have HD := Lib.hid hD
  have H := Lib.hid h
  have HL := Lib.hid hl
  clear h hl hD
  by_cases h1 : n ∈ s.rem.map Prod.fst
  · rw [decide_eq_true h1] at hu
    have H1 := Lib.hid h1
    clear h1
    go_enter Try.func31, Try.ntmps31
    go_wp2_with fail
    refine hu.mono ?_
    clear hu
    rintro e w1 ⟨rfl, rfl⟩
    have hh := has_any w1 K.tS K.mS s.snd s.nd H.out.rowS H.out.snd H.out.ok.nd.i64
    rw [keys_pend] at hh
    by_cases h2 : s.nd ∈ s.snd.map Pnd.id
    · rw [decide_eq_true h2] at hh
      have hd : D = (s, 0, 131) := by rw [← HD.out, deliverS, if_neg (fun q => q H1.out), if_pos h2]
      subst hd
      clear h2
      go_wp2_with fail
      refine hh.mono ?_
      clear hh
      rintro e w2 ⟨rfl, hb2⟩
      have HB2 := Lib.hid hb2
      clear hb2
      go_wp2_with fail
      go_ret2
      exact ⟨rfl, H.out.below HB2.out, SMv.of_below HB2.out⟩
    · rw [decide_eq_false h2] at hh
      have hd : D = ({ s.put ⟨s.nd, n, tag⟩ settled with nd := addS s.nd 1 }, s.nd, 0) := by rw [← HD.out, deliverS, if_neg (fun q => q H1.out), if_neg h2]
      have HDD := Lib.hid hd
      have H2 := Lib.hid h2
      clear h2 hd
      go_wp2_with fail
      refine hh.mono ?_
      clear hh
      rintro e w2 ⟨rfl, hb2⟩
      have hs2 := H.out.below hb2
      have HM2 := Lib.hid (SMv.of_below (K := K) hb2)
      cases settled
      · obtain ⟨w3, hu3, hm3, hg3⟩ := hs2.snd.put Try.underlying90 H.out.ok.nd.i64 (by rw [keys_pend]; exact H2.out) (by have := HL.out; simpa [pend] using this) (Pnd.val ⟨s.nd, n, tag⟩)
        unfold Pnd.val at hu3
        have hs3 : SesIn w3 K (s.put ⟨s.nd, n, tag⟩ false) := hs2.turnS (s' := s.put ⟨s.nd, n, tag⟩ false) (by simpa [pend, SS.put, Pnd.val] using hm3) hg3 rfl rfl rfl (SS.put_ok H.out.ok _ _)
        have d14 : w2.cell? ⟨K.b, 14, none⟩ = some (.pointer (some ⟨K.tS, 0, none⟩)) := hs2.cs 14 _ rfl
        have t0 : w2.cell? ⟨K.tS, 0, none⟩ = some (.map (some K.mS)) := (cell_of_row _ _ 0 _ _ _ hs2.rowS).trans rfl
        have d8 : w3.cell? ⟨K.b, 8, none⟩ = some (.int .i64 s.nd) := hs3.cs 8 _ rfl
        have fz := hs3.fz
        have HS3 := Lib.hid hs3
        have HM3 := Lib.hid (HM2.out.trans (SMv.of_grown (K := K) hg3 (.inr (.inr (.inr (.inr (.inl rfl)))))))
        have hadd := add_any s.nd 1 w3 H.out.ok.nd.i64 (by unfold IsI64; omega)
        clear hb2 hs2 hm3 hg3 hs3 c8 c14
        go_wp2_with fail
        refine hadd.mono ?_
        clear hadd
        rintro e w4 ⟨rfl, rfl⟩
        go_wp2_with fail
        go_ret2
        rw [HDD.out]
        refine ⟨rfl, HS3.out.turn (s' := { s.put ⟨s.nd, n, tag⟩ false with nd := addS s.nd 1 }) ?_ (fun j hj hne => set_far hne) rfl rfl rfl ?_, HM3.out.cell (.inl rfl)⟩
        · rw [heap_setCell_same _ K.b 8 _ _ _ HS3.out.row]
          simp [SS.cells, SS.put]
        · have := H.out.ok
          exact ⟨this.first, this.no, this.ow, this.ni, this.iw, this.ri, this.ro, addS_word _ _, this.hm, this.rh⟩
      · have d8 : w2.cell? ⟨K.b, 8, none⟩ = some (.int .i64 s.nd) := hs2.cs 8 _ rfl
        have fz := hs2.fz
        have HS3 := Lib.hid hs2
        have hadd := add_any s.nd 1 w2 H.out.ok.nd.i64 (by unfold IsI64; omega)
        clear hb2 hs2 c8 c14
        go_wp2_with fail
        refine hadd.mono ?_
        clear hadd
        rintro e w4 ⟨rfl, rfl⟩
        go_wp2_with fail
        go_ret2
        rw [HDD.out]
        refine ⟨rfl, HS3.out.turn (s' := { s.put ⟨s.nd, n, tag⟩ true with nd := addS s.nd 1 }) ?_ (fun j hj hne => set_far hne) rfl (by simp [SS.put]) rfl ?_, HM2.out.cell (.inl rfl)⟩
        · rw [heap_setCell_same _ K.b 8 _ _ _ HS3.out.row]
          simp [SS.cells, SS.put]
        · have := H.out.ok
          exact ⟨this.first, this.no, this.ow, this.ni, this.iw, this.ri, this.ro, addS_word _ _, this.hm, this.rh⟩
  · rw [decide_eq_false h1] at hu
    have hd : D = (s, 0, 132) := by rw [← HD.out, deliverS, if_pos h1]
    subst hd
    clear h1
    go_enter Try.func31, Try.ntmps31
    go_wp2_with fail
    refine hu.mono ?_
    clear hu
    rintro e w1 ⟨rfl, rfl⟩
    go_wp2_with fail
    go_ret2
    exact ⟨rfl, H.out, SMv.refl _ _⟩
end Go.Proofs.Ytbkimebmoafbnaa

namespace Go.Proofs
open Go.Shelf
def Try.keys_ren : Go.Shelf.Ren := ⟨fun | 7 => 58 | 10 => 83 | n => n, fun | 23 => 90 | 26 => 3 | 3 => 59 | 28 => 105 | 0 => 0 | 27 => 104 | 33 => 89 | 4 => 4 | n => n, fun | n => n⟩
theorem Try.keys : Go.Proofs.SlLaysZI.n7 Try.prog Try.keys_ren := {
  mixed := by kernel_rfl
  f7 := ⟨Try.f58.name, by decide, Try.func58.trans (congrArg some (by kernel_rfl))⟩
  f10 := ⟨Try.f83.name, by decide, Try.func83.trans (congrArg some (by kernel_rfl))⟩
  t0 := Try.underlying0
  a0 := Try.isAgg0
  z0 := Try.sizeOf0
  v0 := Try.zeroValue0
  t4 := Try.underlying4
  a4 := Try.isAgg4
  z4 := Try.sizeOf4
  v4 := Try.zeroValue4
  t23 := Try.underlying90
  a23 := Try.isAgg90
  z23 := Try.sizeOf90
  v23 := Try.zeroValue90
  t26 := Try.underlying3
  a26 := Try.isAgg3
  z26 := Try.sizeOf3
  v26 := Try.zeroValue3
  t27 := Try.underlying104
  a27 := Try.isAgg104
  z27 := Try.sizeOf104
  v27 := Try.zeroValue104
  t28 := Try.underlying105
  a28 := Try.isAgg105
  z28 := Try.sizeOf105
  v28 := Try.zeroValue105
  t33 := Try.underlying89
  a33 := Try.isAgg89
  z33 := Try.sizeOf89
  v33 := Try.zeroValue89 }
def Try.collect_ren : Go.Shelf.Ren := ⟨fun | 8 => 57 | 11 => 82 | n => n, fun | 26 => 3 | 28 => 105 | 24 => 50 | 0 => 0 | 33 => 89 | 4 => 4 | n => n, fun | n => n⟩
theorem Try.collect : Go.Proofs.SlLaysZI.n8 Try.prog Try.collect_ren := {
  mixed := by kernel_rfl
  f8 := ⟨Try.f57.name, by decide, Try.func57.trans (congrArg some (by kernel_rfl))⟩
  f11 := ⟨Try.f82.name, by decide, Try.func82.trans (congrArg some (by kernel_rfl))⟩
  t0 := Try.underlying0
  a0 := Try.isAgg0
  z0 := Try.sizeOf0
  v0 := Try.zeroValue0
  t24 := Try.underlying50
  a24 := Try.isAgg50
  z24 := Try.sizeOf50
  v24 := Try.zeroValue50
  t26 := Try.underlying3
  a26 := Try.isAgg3
  z26 := Try.sizeOf3
  v26 := Try.zeroValue3
  t28 := Try.underlying105
  a28 := Try.isAgg105
  z28 := Try.sizeOf105
  v28 := Try.zeroValue105
  i26 := by kernel_rfl }
def Try.delf_ren : Go.Shelf.Ren := ⟨fun | 10 => 56 | 6 => 81 | n => n, fun | 22 => 50 | 23 => 3 | 25 => 89 | 3 => 3 | 4 => 4 | 0 => 0 | n => n, fun | n => n⟩
theorem Try.delf : Go.Proofs.SlLaysH.n10 Try.prog Try.delf_ren := {
  mixed := by kernel_rfl
  f6 := ⟨Try.f81.name, by decide, Try.func81.trans (congrArg some (by kernel_rfl))⟩
  f10 := ⟨Try.f56.name, by decide, Try.func56.trans (congrArg some (by kernel_rfl))⟩
  t0 := Try.underlying0
  a0 := Try.isAgg0
  z0 := Try.sizeOf0
  v0 := Try.zeroValue0
  t3 := Try.underlying3
  a3 := Try.isAgg3
  z3 := Try.sizeOf3
  v3 := Try.zeroValue3
  t4 := Try.underlying4
  a4 := Try.isAgg4
  z4 := Try.sizeOf4
  v4 := Try.zeroValue4
  t22 := Try.underlying50
  a22 := Try.isAgg50
  z22 := Try.sizeOf50
  v22 := Try.zeroValue50
  a23 := Try.isAgg3
  z23 := Try.sizeOf3
  t25 := Try.underlying89
  a25 := Try.isAgg89
  z25 := Try.sizeOf89
  v25 := Try.zeroValue89 }
def Try.sort_ren : Go.Shelf.Ren := ⟨fun | 6 => 60 | 15 => 85 | 14 => 84 | 28 => 97 | 29 => 98 | 20 => 89 | 21 => 90 | 22 => 91 | 23 => 92 | 24 => 93 | 25 => 94 | 26 => 95 | 27 => 96 | 46 => 99 | 47 => 100 | 48 => 101 | 49 => 102 | 50 => 103 | 57 => 104 | n => n, fun | 22 => 50 | 24 => 3 | 25 => 93 | 3 => 3 | 39 => 118 | 0 => 0 | 53 => 101 | 55 => 25 | 4 => 4 | 46 => 122 | 45 => 121 | 50 => 68 | 5 => 5 | 9 => 9 | 66 => 129 | 70 => 133 | 76 => 135 | 77 => 136 | n => n, fun | n => n⟩
theorem Try.sort : Go.Proofs.SlLaysF.n6 Try.prog Try.sort_ren := {
  mixed := by kernel_rfl
  f6 := ⟨Try.f60.name, by decide, Try.func60.trans (congrArg some (by kernel_rfl))⟩
  f14 := ⟨Try.f84.name, by decide, Try.func84.trans (congrArg some (by kernel_rfl))⟩
  f15 := Try.func85.trans (congrArg some (by kernel_rfl))
  f20 := ⟨Try.f89.name, by decide, Try.func89.trans (congrArg some (by kernel_rfl))⟩
  f21 := ⟨Try.f90.name, by decide, Try.func90.trans (congrArg some (by kernel_rfl))⟩
  f22 := ⟨Try.f91.name, by decide, Try.func91.trans (congrArg some (by kernel_rfl))⟩
  f23 := ⟨Try.f92.name, by decide, Try.func92.trans (congrArg some (by kernel_rfl))⟩
  f24 := ⟨Try.f93.name, by decide, Try.func93.trans (congrArg some (by kernel_rfl))⟩
  f25 := ⟨Try.f94.name, by decide, Try.func94.trans (congrArg some (by kernel_rfl))⟩
  f26 := ⟨Try.f95.name, by decide, Try.func95.trans (congrArg some (by kernel_rfl))⟩
  f27 := ⟨Try.f96.name, by decide, Try.func96.trans (congrArg some (by kernel_rfl))⟩
  f28 := Try.func97.trans (congrArg some (by kernel_rfl))
  f29 := Try.func98.trans (congrArg some (by kernel_rfl))
  f46 := ⟨Try.f99.name, by decide, Try.func99.trans (congrArg some (by kernel_rfl))⟩
  f47 := Try.func100.trans (congrArg some (by kernel_rfl))
  f48 := Try.func101.trans (congrArg some (by kernel_rfl))
  f49 := ⟨Try.f102.name, by decide, Try.func102.trans (congrArg some (by kernel_rfl))⟩
  f50 := ⟨Try.f103.name, by decide, Try.func103.trans (congrArg some (by kernel_rfl))⟩
  f57 := ⟨Try.f104.name, by decide, Try.func104.trans (congrArg some (by kernel_rfl))⟩
  t0 := Try.underlying0
  a0 := Try.isAgg0
  z0 := Try.sizeOf0
  v0 := Try.zeroValue0
  t3 := Try.underlying3
  a3 := Try.isAgg3
  z3 := Try.sizeOf3
  v3 := Try.zeroValue3
  t4 := Try.underlying4
  a4 := Try.isAgg4
  z4 := Try.sizeOf4
  v4 := Try.zeroValue4
  t5 := Try.underlying5
  a5 := Try.isAgg5
  z5 := Try.sizeOf5
  v5 := Try.zeroValue5
  t9 := Try.underlying9
  a9 := Try.isAgg9
  z9 := Try.sizeOf9
  v9 := Try.zeroValue9
  t22 := Try.underlying50
  a22 := Try.isAgg50
  z22 := Try.sizeOf50
  v22 := Try.zeroValue50
  a24 := Try.isAgg3
  z24 := Try.sizeOf3
  t25 := Try.underlying93
  a25 := Try.isAgg93
  z25 := Try.sizeOf93
  v25 := Try.zeroValue93
  t39 := Try.underlying118
  a39 := Try.isAgg118
  z39 := Try.sizeOf118
  v39 := Try.zeroValue118
  t45 := Try.underlying121
  a45 := Try.isAgg121
  z45 := Try.sizeOf121
  v45 := Try.zeroValue121
  t46 := Try.underlying122
  a46 := Try.isAgg122
  z46 := Try.sizeOf122
  v46 := Try.zeroValue122
  t50 := Try.underlying68
  a50 := Try.isAgg68
  z50 := Try.sizeOf68
  v50 := Try.zeroValue68
  t53 := Try.underlying101
  a53 := Try.isAgg101
  z53 := Try.sizeOf101
  v53 := Try.zeroValue101
  t55 := Try.underlying25
  a55 := Try.isAgg25
  z55 := Try.sizeOf25
  v55 := Try.zeroValue25
  t66 := Try.underlying129
  a66 := Try.isAgg129
  z66 := Try.sizeOf129
  v66 := Try.zeroValue129
  t70 := Try.underlying133
  a70 := Try.isAgg133
  z70 := Try.sizeOf133
  v70 := Try.zeroValue133
  t76 := Try.underlying135
  a76 := Try.isAgg135
  z76 := Try.sizeOf135
  v76 := Try.zeroValue135
  t77 := Try.underlying136
  a77 := Try.isAgg136
  z77 := Try.sizeOf136
  v77 := Try.zeroValue136 }
end Go.Proofs

namespace Go.Proofs.Ytbkimebmoafbnaa
open Go.RowKit Go.Maps Go.Sort Go.Shelf
set_option linter.unusedVariables false

theorem gap_all (a b : Int) (w : World) :
    Calls Try.prog 39 #[.int .i64 a, .int .i64 b] w fun e w' => e = .returned (.int .i64 (gapS a b)) ∧ w = w' := by
  go_enter Try.func39, Try.ntmps39
  go_wp2
  go_ret
  refine ⟨ret_i64 ?_, rfl⟩
  unfold gapS wrap64 wrap32
  omega

theorem isNaN_any (a : Int) (w : World) : Calls Try.prog 86 #[.int .i64 a] w fun e w' => e = .returned (.bool false) ∧ w' = w := by
  go_enter Try.func86, Try.ntmps86
  go_wp2
  go_ret
  exact ⟨by simp, rfl⟩

def cmpZ (a b : Int) : Int := if a < b then -1 else if b < a then 1 else 0

theorem compare_any (a b : Int) (w : World) : Calls Try.prog 62 #[.int .i64 a, .int .i64 b] w fun e w' => e = .returned (.int .i64 (cmpZ a b)) ∧ w' = w := by
  obtain ⟨r, hr⟩ : ∃ r, cmpZ a b = r := ⟨_, rfl⟩
  rw [hr]
  have HR := Lib.hid hr
  clear hr
  go_enter Try.func62, Try.ntmps62
  go_wp2_with fail
  refine (isNaN_any a w).mono ?_
  rintro e w1 ⟨rfl, rfl⟩
  go_wp2_with fail
  refine (isNaN_any b w1).mono ?_
  rintro e w2 ⟨rfl, rfl⟩
  by_cases h1 : a < b
  · have HC := Lib.hid (show cmpZ a b = -1 by rw [cmpZ, if_pos h1])
    go_wp2_with fail
    go_ret
    exact ⟨by rw [← HR.out, HC.out]; simp, rfl⟩
  · by_cases h2 : b < a
    · have HC := Lib.hid (show cmpZ a b = 1 by rw [cmpZ, if_neg h1, if_pos h2])
      go_wp2_with fail
      go_ret
      exact ⟨by rw [← HR.out, HC.out]; simp, rfl⟩
    · have HC := Lib.hid (show cmpZ a b = 0 by rw [cmpZ, if_neg h1, if_neg h2])
      go_wp2_with fail
      go_ret
      exact ⟨by rw [← HR.out, HC.out]; simp, rfl⟩

/-- what is not told -/
def outR (first many x : Int) : Bool := decide (gapS first x < 0 ∨ many < gapS first x)

theorem from1_any (first many x : Int) (b4 b5 : Nat) (w : World) (h4 : w.cell? ⟨b4, 0, none⟩ = some (.int .i64 first)) (h5 : w.cell? ⟨b5, 0, none⟩ = some (.int .i64 many)) :
    FnGives Try.prog 59 #[.pointer (some ⟨b4, 0, none⟩), .pointer (some ⟨b5, 0, none⟩)] #[.int .i64 x] (.bool (outR first many x)) w := by
  show Calls Try.prog 59 #[.int .i64 x, .pointer (some ⟨b4, 0, none⟩), .pointer (some ⟨b5, 0, none⟩)] w _
  obtain ⟨r, hr⟩ : ∃ r, outR first many x = r := ⟨_, rfl⟩
  rw [hr]
  have HR := Lib.hid hr
  clear hr
  have hg := gap_all first x w
  go_enter Try.func59, Try.ntmps59
  go_wp2_with fail
  refine hg.mono ?_
  clear hg
  rintro e w1 ⟨rfl, rfl⟩
  unfold outR at HR
  generalize gapS first x = g at *
  by_cases h1 : g < 0
  · go_wp2_with fail
    go_ret
    exact ⟨by rw [← HR.out]; simp [h1], 0, rfl⟩
  · go_wp2_with fail
    go_ret
    exact ⟨by rw [← HR.out]; simp, 0, rfl⟩

set_option maxHeartbeats 2000000 in
set_option maxRecDepth 20000 in
theorem from2_any (first x y : Int) (b4 : Nat) (w : World) (h4 : w.cell? ⟨b4, 0, none⟩ = some (.int .i64 first)) :
    Calls Try.prog 61 #[.int .i64 x, .int .i64 y, .pointer (some ⟨b4, 0, none⟩)] w fun e w' => e = .returned (.int .i64 (cmpZ (gapS first x) (gapS first y))) ∧ ∃ q, w' = w.drewN q := by
  go_enter Try.func61, Try.ntmps61
  go_upto_region 1 with fail
  go_quiet (first
    | (go_at_call 62; exact Calls.quiet_of_same (compare_any _ _ _))
    | (go_at_call 39; exact Calls.quiet_of_same ((gap_all first _ _).mono fun e w' ⟨h1, h2⟩ => ⟨h1, h2.symm⟩)))
  go_wp2_with fail
  go_ret
  exact ⟨rfl, _, rfl⟩
end Go.Proofs.Ytbkimebmoafbnaa

namespace Go.Proofs.Ytbkimebmoafbnaa
open Go.RowKit Go.Maps
set_option linter.unusedVariables false

/-- what is told -/
def FromL (l : List Pnd) (first many : Int) (out : List Pnd) : Prop := out.Perm (l.filter fun p => !outR first many p.id) ∧ out.Pairwise fun p q => gapS first p.id < gapS first q.id
def pndRow (out : List Pnd) : List Value := out.flatMap fun p => [.int .i64 p.id, .int .i64 p.h, .string p.tag]

theorem perm_map_inv {α β : Type} {f : α → β} : ∀ (ns : List β) (L : List α), ns.Perm (L.map f) → ∃ out : List α, out.Perm L ∧ out.map f = ns := by
  intro ns
  induction ns with
  | nil =>
    intro L h
    have := h.symm.eq_nil
    obtain rfl : L = [] := by simpa using this
    exact ⟨[], List.Perm.refl _, rfl⟩
  | cons n ns ih =>
    intro L h
    have hm : n ∈ L.map f := h.subset (List.mem_cons_self ..)
    obtain ⟨p, hp, rfl⟩ := List.mem_map.1 hm
    obtain ⟨s, t, rfl⟩ := List.append_of_mem hp
    rw [List.map_append, List.map_cons] at h
    have h2 := (h.trans List.perm_middle).cons_inv
    rw [← List.map_append] at h2
    obtain ⟨out, h3, h4⟩ := ih (s ++ t) h2
    exact ⟨p :: out, (h3.cons p).trans List.perm_middle.symm, by rw [List.map_cons, h4]⟩

theorem gap_inj {f a b : Int} (ha : Word a) (hb : Word b) (h : gapS f a = gapS f b) : a = b := by
  unfold gapS at h
  obtain ⟨_, _⟩ := ha
  obtain ⟨_, _⟩ := hb
  omega

def cmpG (first x y : Int) : Int := cmpZ (gapS first x) (gapS first y)
theorem ltG (first x y : Int) : Go.Proofs.ltOf (cmpG first) x y = decide (gapS first x < gapS first y) := by
  unfold Go.Proofs.ltOf cmpG cmpZ
  by_cases h1 : gapS first x < gapS first y
  · simp [h1]
  · by_cases h2 : gapS first y < gapS first x <;> simp [h1, h2]
theorem swoG (first : Int) : Go.Sort.SWO (Go.Proofs.ltOf (cmpG first)) where
  irrefl x := by rw [ltG]; simp
  trans x y z h1 h2 := by rw [ltG] at *; simp at *; omega
  ntrans x y z h1 h2 := by rw [ltG] at *; simp at *; omega

/-- the numbers that are told, as deliveries -/
theorem from_list {l : List Pnd} {first many : Int} (hw : ∀ p ∈ l, Word p.id) (hnd : (l.map Pnd.id).Nodup) {ss : List Int} (hs : ss.Perm (l.map Pnd.id)) {d : Array Int}
    (hp : Go.Sort.PermIn 0 (ss.filter fun x => !outR first many x).toArray.size (ss.filter fun x => !outR first many x).toArray d) (ho : Go.Sort.SortedIn (Go.Proofs.ltOf (cmpG first)) 0 (ss.filter fun x => !outR first many x).toArray.size d) :
    ∃ out, FromL l first many out ∧ out.map Pnd.id = d.toList := by
  have h1 : d.toList.Perm (ss.filter fun x => !outR first many x) := by
    have h2 := hp.2.2
    have h3 := hp.1
    rw [← h3] at h2
    simp only [Array.extract_size] at h2
    rw [h3] at h2
    simpa using h2
  have h2 : (ss.filter fun x => !outR first many x).Perm ((l.filter fun p => !outR first many p.id).map Pnd.id) := by
    rw [show (l.filter fun p => !outR first many p.id).map Pnd.id = (l.map Pnd.id).filter fun x => !outR first many x by rw [List.filter_map]; rfl]
    exact hs.filter _
  obtain ⟨out, h3, h4⟩ := perm_map_inv d.toList _ (h1.trans h2)
  refine ⟨out, ⟨h3, ?_⟩, h4⟩
  have hsub : ∀ p ∈ out, p ∈ l := fun p hp => (List.mem_filter.1 (h3.subset hp)).1
  have hndo : (out.map Pnd.id).Nodup := by
    rw [h4]
    exact (h1.trans h2).symm.nodup ((List.Sublist.map _ (List.filter_sublist)).nodup hnd)
  have hlen : out.length = d.size := by have := congrArg List.length h4; simpa using this
  rw [List.pairwise_iff_getElem]
  intro i j hi hj hij
  have ei : out[i].id = d[i]! := by
    have := congrArg (fun l => l[i]?) h4
    simp only [List.getElem?_map, List.getElem?_eq_getElem hi, Option.map_some, Array.getElem?_toList] at this
    rw [getElem!_pos d i (by omega)]
    rw [Array.getElem?_eq_getElem (by omega)] at this
    exact Option.some.inj this
  have ej : out[j].id = d[j]! := by
    have := congrArg (fun l => l[j]?) h4
    simp only [List.getElem?_map, List.getElem?_eq_getElem hj, Option.map_some, Array.getElem?_toList] at this
    rw [getElem!_pos d j (by omega)]
    rw [Array.getElem?_eq_getElem (by omega)] at this
    exact Option.some.inj this
  have h5 := ho i j (Nat.zero_le _) hij (by have := hp.1; omega)
  rw [ltG] at h5
  have h6 : ¬ gapS first d[j]! < gapS first d[i]! := by simpa using h5
  rw [ei, ej]
  have hne : out[i].id ≠ out[j].id := by
    have := List.pairwise_iff_getElem.1 hndo i j (by simpa using hi) (by simpa using hj) hij
    simpa using this
  have hg : gapS first d[i]! ≠ gapS first d[j]! := by
    rw [← ei, ← ej]
    exact fun e => hne (gap_inj (hw _ (hsub _ (List.getElem_mem _))) (hw _ (hsub _ (List.getElem_mem _))) e)
  omega
end Go.Proofs.Ytbkimebmoafbnaa
