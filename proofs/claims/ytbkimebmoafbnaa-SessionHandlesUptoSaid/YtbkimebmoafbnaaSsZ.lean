/-
  A session's Free, Remote. Conditions: the session lies in memory.
-/
import Derived.Test.YtbkimebmoafbnaaSsK
namespace Go.Proofs.Ytbkimebmoafbnaa
open Go.RowKit Go.Maps
set_option linter.unusedVariables false

/-- without a handle, and what is its -/
def SS.free (s : SS) (n : Int) : SS := { s with rem := s.rem.filter (fun p => decide (p.1 ≠ n)), snd := s.snd.filter (fun p => decide (p.h ≠ n)), arr := s.arr.filter (fun p => decide (p.h ≠ n)) }
theorem SS.free_ok {s : SS} (h : s.ok) (n : Int) : (s.free n).ok := ⟨h.first, h.no, h.ow, h.ni, h.iw, h.ri, h.ro, h.nd, h.hm, h.rh⟩
def freeS (s : SS) (n : Int) : SS × Int := if n ∈ s.rem.map Prod.fst then (s.free n, 0) else (s, 132)
theorem rems_del (l : List (Int × Int)) (n : Int) : (rems l).filter (fun p => decide (p.1 ≠ n)) = rems (l.filter fun p => decide (p.1 ≠ n)) := by
  unfold rems
  rw [List.filter_map]
  rfl

set_option maxRecDepth 20000 in
set_option maxHeartbeats 4000000 in
theorem free_any (w : World) (K : SK) (s : SS) (n : Int) (h : SesIn w K s) (hn : IsI64 n) :
    Calls Try.prog 25 #[.pointer (some ⟨K.b, 0, none⟩), .int .i64 n] w fun e w' => e = .returned (.int .i64 (freeS s n).2) ∧ SesIn w' K (freeS s n).1 ∧ SMv K w w' := by
  obtain ⟨D, hD⟩ : ∃ D, freeS s n = D := ⟨_, rfl⟩
  rw [hD]
  have HD := Lib.hid hD
  have H := Lib.hid h
  clear h hD
  go_enter Try.func25, Try.ntmps25
  go_upto_region 1 with fail
  have hb1 : Below w.heap.size w (w.alloc (.cells #[.int .i64 n] 3)) := (Below.refl _ _).alloc (Nat.le_refl _) _
  have r1 : (w.alloc (.cells #[.int .i64 n] 3)).heap[w.heap.size]? = some (.cells #[.int .i64 n] 3 (0, 0)) := _root_.Go.heap_alloc_new _ _
  generalize (w.alloc (.cells #[.int .i64 n] 3)) = w1 at *
  obtain ⟨x, hx⟩ : ∃ x, w.heap.size = x := ⟨_, rfl⟩
  have hs1 := H.out.below hb1
  have hu := used_any w1 K s n hs1 hn
  rw [keys_rems] at hu
  rw [hx] at r1 ⊢
  have cx : w1.cell? ⟨x, 0, none⟩ = some (.int .i64 n) := (cell_of_row _ _ 0 _ _ _ r1).trans rfl
  have hkx : ∀ j, K.has j → j ≠ x := fun j hj => by have := H.out.lt j hj; omega
  have HX := Lib.hid (And.intro r1 hkx)
  have HS1 := Lib.hid hs1
  have HM1 := Lib.hid (SMv.of_below (K := K) hb1)
  have c13 : w1.cell? ⟨K.b, 13, none⟩ = some (.map (some K.mR)) := hs1.cs 13 _ rfl
  clear hb1 r1 hs1 hkx hx
  by_cases h1 : n ∈ s.rem.map Prod.fst
  · rw [decide_eq_true h1] at hu
    have hd : D = (s.free n, 0) := by rw [← HD.out, freeS, if_pos h1]
    subst hd
    clear h1
    go_wp2_with fail
    refine hu.mono ?_
    clear hu
    rintro e w2 ⟨rfl, rfl⟩
    go_upto_region 3 with fail
    go_still_tail 5, (by kernel_rfl)
    change wpList _ _ _ _ _ w2.drew
    have hs2 : SesIn w2.drew K s := HS1.out.keep (fun _ _ => rfl)
    have hm2 : SMv K w w2.drew := HM1.out.trans ⟨rfl, rfl, rfl, Nat.le_refl _, fun _ _ _ => rfl⟩
    have hx2 : w2.drew.heap[x]? = some (.cells #[.int .i64 n] 3 (0, 0)) := HX.out.1
    generalize w2.drew = w3 at *
    obtain ⟨w4, hdel, hm4, hg4⟩ := hs2.rem.del Try.underlying81 hn 0
    rw [rems_del] at hm4
    have hs4 : SesIn w4 K { s with rem := s.rem.filter (fun p => decide (p.1 ≠ n)) } := hs2.turnR hm4 hg4 rfl rfl rfl ⟨hs2.ok.first, hs2.ok.no, hs2.ok.ow, hs2.ok.ni, hs2.ok.iw, hs2.ok.ri, hs2.ok.ro, hs2.ok.nd, hs2.ok.hm, hs2.ok.rh⟩
    have hx4 := (hg4.block x (Array.getElem?_eq_some_iff.1 hx2).1 (fun e => HX.out.2 K.mR (.inr (.inr (.inr (.inl rfl)))) (Option.some.inj e).symm)).trans hx2
    have HM4 := Lib.hid (hm2.trans (SMv.of_grown (K := K) hg4 (.inr (.inr (.inr (.inl rfl))))))
    have HS4 := Lib.hid hs4
    have hfo := forgets_any w4 K.tS K.mS s.snd n x hs4.rowS hs4.snd hx4
    have c14 : w4.cell? ⟨K.b, 14, none⟩ = some (.pointer (some ⟨K.tS, 0, none⟩)) := hs4.cs 14 _ rfl
    have HX4 := Lib.hid hx4
    clear hs2 hm2 hx2 hm4 hg4 hs4 hx4 cx c13
    go_wp2_with fail
    refine hfo.mono ?_
    clear hfo hdel c14
    rintro e w5 ⟨rfl, hm5, hg5⟩
    have hs5 : SesIn w5 K { s with rem := s.rem.filter (fun p => decide (p.1 ≠ n)), snd := s.snd.filter (fun p => decide (p.h ≠ n)) } := HS4.out.turnS hm5 hg5 rfl rfl rfl ⟨HS4.out.ok.first, HS4.out.ok.no, HS4.out.ok.ow, HS4.out.ok.ni, HS4.out.ok.iw, HS4.out.ok.ri, HS4.out.ok.ro, HS4.out.ok.nd, HS4.out.ok.hm, HS4.out.ok.rh⟩
    have hx5 := (hg5.block x (Array.getElem?_eq_some_iff.1 HX4.out).1 (fun e => HX.out.2 K.mS (.inr (.inr (.inr (.inr (.inl rfl))))) (Option.some.inj e).symm)).trans HX4.out
    have HM5 := Lib.hid (HM4.out.trans (SMv.of_grown (K := K) hg5 (.inr (.inr (.inr (.inr (.inl rfl)))))))
    have HS5 := Lib.hid hs5
    have hfo := forgets_any w5 K.tA K.mA s.arr n x hs5.rowA hs5.arr hx5
    have c15 : w5.cell? ⟨K.b, 15, none⟩ = some (.pointer (some ⟨K.tA, 0, none⟩)) := hs5.cs 15 _ rfl
    clear hm5 hg5 hs5 hx5
    go_wp2_with fail
    refine hfo.mono ?_
    clear hfo c15
    rintro e w6 ⟨rfl, hm6, hg6⟩
    have HS6 := Lib.hid (HS5.out.turnA (s' := s.free n) hm6 hg6 rfl rfl rfl (SS.free_ok H.out.ok n))
    have HM6 := Lib.hid (HM5.out.trans (SMv.of_grown (K := K) hg6 (.inr (.inr (.inr (.inr (.inr rfl)))))))
    clear hm6 hg6
    go_wp2_with fail
    go_ret
    exact ⟨rfl, HS6.out, HM6.out⟩
  · rw [decide_eq_false h1] at hu
    have hd : D = (s, 132) := by rw [← HD.out, freeS, if_neg h1]
    subst hd
    clear h1
    go_wp2_with fail
    refine hu.mono ?_
    clear hu
    rintro e w2 ⟨rfl, rfl⟩
    go_wp2_with fail
    go_ret
    exact ⟨rfl, HS1.out, HM1.out⟩

theorem SesIn.rem_nd {w : World} {K : SK} {s : SS} (h : SesIn w K s) : (keysL (rems s.rem)).Nodup := by obtain ⟨D, _, hD⟩ := h.rem; exact hD.nd

/-- a handle bound to the peer's -/
def SS.bind (s : SS) (remote n : Int) : SS := { s with rem := s.rem.map fun p => if p.1 = n then (n, remote) else p }
theorem SS.bind_ok {s : SS} (h : s.ok) (r n : Int) : (s.bind r n).ok := ⟨h.first, h.no, h.ow, h.ni, h.iw, h.ri, h.ro, h.nd, h.hm, h.rh⟩
/-- what Remote refuses -/
def remBad (s : SS) (remote n : Int) : Prop := remote < 0 ∨ s.hm < remote ∨ (∃ p ∈ s.rem, p.2 = remote) ∨ n ∉ s.rem.map Prod.fst ∨ ∃ p ∈ s.rem, p.1 = n ∧ 0 ≤ p.2
theorem rems_set (l : List (Int × Int)) (n r : Int) : (rems l).map (fun p => if p.1 = n then (n, .int .i64 r) else p) = rems (l.map fun p => if p.1 = n then (n, r) else p) := by
  unfold rems
  rw [List.map_map, List.map_map]
  refine List.map_congr_left (fun p _ => ?_)
  simp only [Function.comp]
  split <;> rfl

set_option maxRecDepth 20000 in
set_option maxHeartbeats 4000000 in
theorem remote_any (w : World) (K : SK) (s : SS) (remote n : Int) (h : SesIn w K s) (hn : IsI64 n) (hl : s.rem.length < maxLen) :
    Calls Try.prog 27 #[.pointer (some ⟨K.b, 0, none⟩), .int .i64 remote, .int .i64 n] w fun e w' => (remBad s remote n ∧ e = .returned (.int .i64 132) ∧ SesIn w' K s ∧ SMv K w w') ∨ (¬ remBad s remote n ∧ e = .returned (.int .i64 0) ∧ SesIn w' K (s.bind remote n) ∧ SMv K w w') := by
  have hlo := local_any w K s remote h
  have H := Lib.hid h
  have HL := Lib.hid hl
  clear h hl
  go_enter Try.func27, Try.ntmps27
  go_wp2_with fail
  refine hlo.mono ?_
  clear hlo
  rintro e w1 ⟨hd, is, rfl, hyes, hno, hb1⟩
  have hs1 := H.out.below hb1
  have HS1 := Lib.hid hs1
  have HM1 := Lib.hid (SMv.of_below (K := K) hb1)
  have c11 : w1.cell? ⟨K.b, 11, none⟩ = some (.int .i64 s.hm) := hs1.cs 11 _ rfl
  have c13 : w1.cell? ⟨K.b, 13, none⟩ = some (.map (some K.mR)) := hs1.cs 13 _ rfl
  have hu := used_any w1 K s n hs1 hn
  rw [keys_rems] at hu
  obtain ⟨v, hlk, hv⟩ := hs1.rem.get Try.underlying81 (zero_int w1) hn
  obtain ⟨va, rfl⟩ := rems_val hv
  have HV := Lib.hid hv
  have HYES := Lib.hid hyes
  have HNO := Lib.hid hno
  clear hb1 hs1 hv hyes hno
  by_cases h1 : 0 ≤ remote
  · by_cases h2 : remote ≤ s.hm
    · cases is
      · by_cases h4 : n ∈ s.rem.map Prod.fst
        · rw [decide_eq_true h4] at hu
          have H4 := Lib.hid h4
          clear h4
          have hva : ∃ p ∈ s.rem, p.1 = n ∧ p.2 = va := by
            rcases HV.out with hv | ⟨hv, _⟩
            · obtain ⟨p, hp, he⟩ := List.mem_map.1 hv
              exact ⟨p, hp, congrArg Prod.fst he, by have := congrArg Prod.snd he; simp only [Value.int.injEq] at this; exact this.2⟩
            · rw [keys_rems] at hv
              exact absurd H4.out hv
          have HVA := Lib.hid hva
          clear hva
          by_cases h5 : 0 ≤ va
          · go_wp2_with fail
            refine hu.mono ?_
            clear hu
            rintro e w2 ⟨rfl, rfl⟩
            go_wp2_with fail
            go_ret
            refine .inl ⟨?_, rfl, HS1.out, HM1.out⟩
            obtain ⟨p, hp, e1, e2⟩ := HVA.out
            exact .inr (.inr (.inr (.inr ⟨p, hp, e1, by omega⟩)))
          · obtain ⟨w3, hup, hm3, hg3⟩ := HS1.out.rem.set Try.underlying81 (i := n) (by rw [keys_rems]; exact H4.out) (by have := HL.out; simpa [rems] using this) (.int .i64 remote)
            rw [rems_set] at hm3
            have HE := Lib.hid (And.intro (HS1.out.turnR (s' := s.bind remote n) hm3 hg3 rfl rfl rfl (SS.bind_ok HS1.out.ok _ _)) (HM1.out.trans (SMv.of_grown (K := K) hg3 (.inr (.inr (.inr (.inl rfl)))))))
            clear hm3 hg3
            go_wp2_with fail
            refine hu.mono ?_
            clear hu
            rintro e w2 ⟨rfl, rfl⟩
            go_wp2_with fail
            go_ret
            refine .inr ⟨?_, rfl, HE.out.1, HE.out.2⟩
            rintro (q | q | ⟨p, hp, q⟩ | q | ⟨p, hp, e1, q⟩)
            · omega
            · omega
            · exact (HNO.out trivial).2 h1 p hp q
            · exact q H4.out
            · obtain ⟨p', hp', e1', e2⟩ := HVA.out
              have := keys_one HS1.out.rem_nd (mem_rems hp) (mem_rems hp') (e1.trans e1'.symm)
              have e3 : p.2 = p'.2 := by injection (congrArg Prod.snd this)
              omega
        · rw [decide_eq_false h4] at hu
          have H4 := Lib.hid h4
          clear h4
          go_wp2_with fail
          refine hu.mono ?_
          clear hu
          rintro e w2 ⟨rfl, rfl⟩
          go_wp2_with fail
          go_ret
          exact .inl ⟨.inr (.inr (.inr (.inl H4.out))), rfl, HS1.out, HM1.out⟩
      · go_wp2_with fail
        go_ret
        exact .inl ⟨.inr (.inr (.inl ⟨_, (HYES.out trivial).2, rfl⟩)), rfl, HS1.out, HM1.out⟩
    · go_wp2_with fail
      go_ret
      exact .inl ⟨.inr (.inl (by omega)), rfl, HS1.out, HM1.out⟩
  · go_wp2_with fail
    go_ret
    exact .inl ⟨.inl (by omega), rfl, HS1.out, HM1.out⟩
end Go.Proofs.Ytbkimebmoafbnaa
