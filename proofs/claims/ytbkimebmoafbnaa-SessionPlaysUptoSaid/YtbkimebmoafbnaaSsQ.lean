/-
  SessionRanges' walk. Conditions: the numbers lie in memory.
-/
import Derived.Test.YtbkimebmoafbnaaMg08
import Derived.Test.YtbkimebmoafbnaaMg06
namespace Go.Proofs.Ytbkimebmoafbnaa
open Go.RowKit Go.Maps
set_option linter.unusedVariables false

def s2A (arr : List Pnd) : SS := { s2L with arr := arr }
def arr1 (arr : List Pnd) (id : Int) : List Pnd := if Word id ∧ id ∉ arr.map Pnd.id then arr ++ [⟨id, 0, tagT⟩] else arr
theorem zero_in (arr : List Pnd) : ¬ ((0 : Int) ∉ (s2A arr).rem.map Prod.fst) := show ¬ ((0 : Int) ∉ s2L.rem.map Prod.fst) by decide
theorem arrive_yes {arr : List Pnd} {id : Int} (h : Word id ∧ id ∉ arr.map Pnd.id) : arriveS (s2A arr) id 0 tagT false = (s2A (arr1 arr id), 0) := by
  unfold arriveS arr1
  rw [if_pos h, if_neg (fun q => q h.1), if_neg (zero_in arr), if_neg (show ¬ id ∈ (s2A arr).arr.map Pnd.id from h.2)]
  rfl
theorem arrive_no {arr : List Pnd} {id : Int} (h : ¬ (Word id ∧ id ∉ arr.map Pnd.id)) : ∃ e : Int, e ≠ 0 ∧ arriveS (s2A arr) id 0 tagT false = (s2A (arr1 arr id), e) := by
  unfold arriveS arr1
  rw [if_neg h]
  by_cases h1 : Word id
  · rw [if_neg (fun q => q h1), if_neg (zero_in arr), if_pos (show id ∈ (s2A arr).arr.map Pnd.id from Classical.not_not.1 fun q => h ⟨h1, q⟩)]
    exact ⟨131, by decide, rfl⟩
  · rw [if_pos h1]
    exact ⟨1, by decide, rfl⟩
theorem arr1_word {arr : List Pnd} {id : Int} (h : ∀ p ∈ arr, Word p.id) : ∀ p ∈ arr1 arr id, Word p.id := by
  intro p hp
  unfold arr1 at hp
  split at hp
  · rename_i hq
    rcases List.mem_append.1 hp with hp | hp
    · exact h p hp
    · obtain rfl : p = ⟨id, 0, tagT⟩ := by simpa using hp
      exact hq.1
  · exact h p hp

theorem forget_L {arr all : List Pnd} {first many : Int} (h : FromL arr first many all) {k : Nat} (hk : k < all.length) : forgetS (s2A (leftBy arr all k)) false all[k].id = (s2A (leftBy arr all (k + 1)), 0) := by
  unfold forgetS
  rw [if_pos (show all[k].id ∈ ((s2A (leftBy arr all k)).way false).map Pnd.id from leftBy_has h hk), ← leftBy_succ arr all k hk]
  rfl

theorem FromL.len {l : List Pnd} {first many : Int} {out : List Pnd} (h : FromL l first many out) : out.length ≤ l.length := by
  rw [h.1.length_eq]
  exact List.length_filter_le _ _

theorem range_rd (w : World) (K : SK) (s : SS) (sending : Bool) (first last many : Int) (h : SesIn w K s) (hw : ∀ p ∈ s.way sending, Word p.id) (hlen : (s.way sending).length ≤ 1073741824) (h1 : Word first) (h2 : Word last) (hm : gapS first last = many) (h0 : 0 ≤ many) :
    Calls Try.prog 21 #[.pointer (some ⟨K.b, 0, none⟩), .bool sending, .int .i64 first, .int .i64 last] w fun e w' => ∃ p c out, e = .returned (.slice p out.length c) ∧ FromL (s.way sending) first many out ∧ PndRd w' p c out ∧ (∀ g, p = some ⟨g, 0, none⟩ → w.heap.size ≤ g) ∧ Below w.heap.size w w' := by
  refine (range_any w K s sending first last h hw hlen).mono ?_
  rintro e w' ⟨v, out, rfl, hr, hrow, hb⟩
  rw [RangeL, if_pos ⟨h1, h2, by omega⟩, hm] at hr
  obtain ⟨p, c, rfl, hrd, hB⟩ := PndRd.of_row hrow
  exact ⟨p, c, out, rfl, hr, hrd, hB, hb⟩

theorem PndRd.info {W : World} {p : Option Addr} {c : Nat} {out : List Pnd} {n : Nat} (h : PndRd W p c out) (hn : out.length = n) : n ≤ c ∧ c ≤ 9223372036854775807 ∧ (0 < n → ∃ g, p = some ⟨g, 0, none⟩) := by
  subst hn
  have := h.cap
  unfold maxLen at this
  exact ⟨this.1, by omega, h.at_⟩

set_option maxRecDepth 20000 in
set_option maxHeartbeats 8000000 in
theorem ranges_walk (w : World) (p : Option Addr) (n c : Nat) (l : List Int) (begun one two : Int) (hids : IntsIn .i64 w p n c l) (hw0 : IsI64 begun) (hw1 : IsI64 one) (hw2 : IsI64 two) :
    Calls Try.prog 5 #[.slice p n c, .int .i64 begun, .int .i64 one, .int .i64 two] w fun e w' => e = .returned (.bool true) ∧ Below w.heap.size w w' := by
  have HI := Lib.hid hids
  have HW := Lib.hid (And.intro hw0 (And.intro hw1 hw2))
  have hnc := hids.le
  have hcap := hids.cap
  unfold maxLen at hcap
  clear hids hw0 hw1 hw2
  have hl := live_any w
  go_enter Try.func5, Try.ntmps5
  go_wp2_with fail
  refine hl.mono ?_
  clear hl
  rintro e w0 ⟨rfl, hb0⟩
  have HB0 := Lib.hid hb0
  have hF := first_any w0
  clear hb0
  go_wp2_with fail
  refine hF.mono ?_
  clear hF
  rintro e w1 ⟨rfl, hb1⟩
  have HB1 := Lib.hid (HB0.out.trans (hb1.mono HB0.out.size))
  clear hb1
  have hsz : firstC.size = 128 := perf_size ..
  go_upto_region 3 with (refine wpList_store_rowTo rfl 39 (.tmp 10) (.tmp 33) rfl rfl w1.heap.size firstC rfl rfl 39 perfZ (_root_.Go.heap_alloc_new w1 _) (by as_aux_lemma => kernel_rfl) (by as_aux_lemma => kernel_rfl) (by as_aux_lemma => kernel_rfl) ?_)
  have hb2 := below_setRow ((Below.refl w1.heap.size w1).alloc (Nat.le_refl _) (.cells perfZ 39)) (Nat.le_refl _) firstC
  have h2 := setRow_heap (w1.alloc (.cells perfZ 39)) w1.heap.size _ firstC _ _ (_root_.Go.heap_alloc_new w1 _)
  change Code.wp _ _ _ _ ((w1.alloc (.cells perfZ 39)).setRow w1.heap.size firstC)
  generalize ((w1.alloc (.cells perfZ 39)).setRow w1.heap.size firstC) = w2 at *
  obtain ⟨x, hx⟩ : ∃ x, w1.heap.size = x := ⟨_, rfl⟩
  rw [hx] at h2 ⊢
  have HB2 := Lib.hid (HB1.out.trans (hb2.mono HB1.out.size))
  have hn : Calls Try.prog 10 #[.agg firstC] w2 fun e w' => ∃ K : SK, e = .returned (.pointer (some ⟨K.b, 0, none⟩)) ∧ K.B = w2.heap.size ∧ SesIn w' K s0L ∧ Below w2.heap.size w2 w' := snew_ok w2 17 0 0 2 5 10 1 0 0 0 0 false (by decide)
  obtain ⟨F, hF⟩ : ∃ F, firstC = F := ⟨_, rfl⟩
  have HF := Lib.hid hF
  rw [hF] at h2 hn hsz ⊢
  clear hb2 hx hF
  go_upto_region 4 with (refine wpList_load_row rfl 39 (.tmp 10) rfl x rfl 39 F (0, 0) _ h2 Try.underlying39 rfl (by rw [hsz]; as_aux_lemma => kernel_rfl) ?_)
  refine hn.mono ?_
  clear hn
  rintro e w3 ⟨K, rfl, hKB, hS, hb3⟩
  have h3 := (hb3.block x (Array.getElem?_eq_some_iff.1 h2).1).trans h2
  have hlo : ∀ j, K.has j → w.heap.size ≤ j := fun j hj => by have := hS.lo j hj; have := HB2.out.size; omega
  have HLO := Lib.hid hlo
  have HB3 := Lib.hid (HB2.out.trans (hb3.mono HB2.out.size))
  have HS3 := Lib.hid hS
  have hp : Calls Try.prog 18 #[.pointer (some ⟨K.b, 0, none⟩), .agg F] w3 fun e w' => e = .returned (.int .i64 0) ∧ SesIn w' K s1L ∧ SMv K w3 w' := by
    rw [← HF.out]
    exact peer_ok w3 K s0L 0 0 2 5 10 1 0 0 0 0 false hS rfl (by decide)
  clear h2 hb3 hKB hlo hS
  go_upto_region 4 with fail
  by_cases q1 : (n : Int) ≤ 2000
  · by_cases q2 : 0 ≤ begun
    · by_cases q3 : begun ≤ 4294967295
      · go_wp2_with (refine wpList_load_row rfl 39 (.tmp 10) rfl x rfl 39 F (0, 0) _ h3 Try.underlying39 rfl (by rw [hsz]; as_aux_lemma => kernel_rfl) ?_)
        refine hp.mono ?_
        clear hp h3
        rintro e w4 ⟨rfl, hS4, hm4⟩
        have HB4 := Lib.hid (live_step HB3.out hm4 HLO.out)
        have hh : Calls Try.prog 19 #[.pointer (some ⟨K.b, 0, none⟩)] w4 fun e w' => e = .returned (.tuple #[.int .i64 0, .int .i64 0]) ∧ SesIn w' K s2L ∧ SMv K w4 w' := by
          refine (hand_any w4 K s1L 0 hS4 rfl least_L (by decide)).mono fun e w' h => ?_
          rw [if_neg (by decide)] at h
          exact h
        clear hS4 hm4
        go_wp2_with fail
        refine hh.mono ?_
        clear hh
        rintro e w5 ⟨rfl, hS5, hm5⟩
        have HB5 := Lib.hid (live_step HB4.out hm5 HLO.out)
        have HS5 := Lib.hid hS5
        clear hS5 hm5
        go_wp2_with fail
        go_loopw [15, 16, 17] (fun v15 v16 v17 wr => ∃ (k : Nat) (arr : List Pnd), k ≤ n ∧ v16 = .int .i64 k ∧ v15 = .int .i64 arr.length ∧ arr.length ≤ k ∧ (∀ p ∈ arr, Word p.id) ∧ SesIn wr K (s2A arr) ∧ Below w.heap.size w wr) (fun _ v16 _ _ => n - (intOf v16).toNat)
        case atStart => exact ⟨0, [], Nat.zero_le _, rfl, rfl, Nat.zero_le _, fun p hp => by simp at hp, HS5.out, HB5.out⟩
        case round =>
          obtain ⟨k, arr, hk, rfl, rfl, hak, hwd, hS, hb⟩ := hrel
          by_cases hkN : (k : Int) < n
          · have hk' : k < n := by omega
            obtain ⟨b, o, rfl, hbw, hcell⟩ := (HI.out.below hb).at_ (by omega)
            have hci := hcell k hk'
            obtain ⟨q, hqq⟩ : ∃ q, l.getD k 0 = q := ⟨_, rfl⟩
            rw [hqq] at hci
            have hv : arr.length < maxLen := by unfold maxLen; omega
            have hc0 := arrive_any wr K (s2A arr) q 0 tagT false hS (by unfold IsI64; omega) hv
            have hc : Calls Try.prog 20 #[.pointer (some ⟨K.b, 0, none⟩), .int .i64 q, .int .i64 0, .string ⟨#[116]⟩, .bool false] wr fun e w' => e = .returned (.int .i64 (arriveS (s2A arr) q 0 tagT false).2) ∧ SesIn w' K (arriveS (s2A arr) q 0 tagT false).1 ∧ SMv K wr w' := hc0
            have HB := Lib.hid hb
            have HWD := Lib.hid (arr1_word (id := q) hwd)
            have hlt' : (k : Int) < (n : Int) := by omega
            clear hb hS hwd hcell hqq hbw hc0 hv
            by_cases hq : Word q ∧ q ∉ arr.map Pnd.id
            · rw [arrive_yes hq] at hc
              have hlen : (arr1 arr q).length = arr.length + 1 := by rw [arr1, if_pos hq, List.length_append, List.length_singleton]
              have HLEN := Lib.hid hlen
              generalize arr1 arr q = arr' at *
              clear hq hlen
              go_wp2_with fail
              refine hc.mono ?_
              clear hc hci
              rintro e w6 ⟨rfl, hS6, hm6⟩
              have HS6 := Lib.hid hS6
              have HB6 := Lib.hid (live_step HB.out hm6 HLO.out)
              clear hS6 hm6
              go_wp2_with fail
              go_roundw
              case rel => exact ⟨k + 1, arr', by omega, by go_num, by rw [HLEN.out]; go_num, by rw [HLEN.out]; omega, HWD.out, HS6.out, HB6.out⟩
              case measure => simp [intOf]; omega
            · obtain ⟨ee, hee, har⟩ := arrive_no hq
              rw [har] at hc
              have hlen : (arr1 arr q).length = arr.length := by rw [arr1, if_neg hq]
              have HLEN := Lib.hid hlen
              generalize arr1 arr q = arr' at *
              clear hq hlen har
              go_wp2_with fail
              refine hc.mono ?_
              clear hc hci
              rintro e w6 ⟨rfl, hS6, hm6⟩
              have HS6 := Lib.hid hS6
              have HB6 := Lib.hid (live_step HB.out hm6 HLO.out)
              clear hS6 hm6
              go_wp2_with fail
              go_roundw
              case rel => exact ⟨k + 1, arr', by omega, by go_num, by rw [HLEN.out], by rw [HLEN.out]; omega, HWD.out, HS6.out, HB6.out⟩
              case measure => simp [intOf]; omega
          · have hA : arr.length ≤ 2000 := by omega
            have HA := Lib.hid hA
            have HS := Lib.hid hS
            have HB := Lib.hid hb
            have HWD := Lib.hid hwd
            clear hS hb hwd hA hak
            by_cases r1 : 0 ≤ one
            · by_cases r2 : 0 ≤ two
              · by_cases r3 : one ≤ 1000000000
                · by_cases r4 : two ≤ 1000000000
                  · go_upto_region 21 with fail
                    obtain ⟨M, hM⟩ : ∃ M, (begun + one) % 4294967296 = M := ⟨_, rfl⟩
                    rw [hM]
                    obtain ⟨L, hL⟩ : ∃ L, (M + 1 + two) % 4294967296 = L := ⟨_, rfl⟩
                    rw [hL]
                    have hM1 : 0 ≤ M ∧ M ≤ 4294967295 := by omega
                    have hL1 : 0 ≤ L ∧ L ≤ 4294967295 := by omega
                    have g1 : gapS begun L = one + 1 + two := by rw [← hL, ← hM]; exact gap_last r1 r3 r2 r4
                    have g2 : gapS begun M = one := by rw [← hM]; exact gap_mid r1 r3
                    have g3 : gapS ((M + 1) % 4294967296) L = two := by rw [← hL]; exact gap_next r2 r4
                    have hlen : arr.length ≤ 1073741824 := by have := HA.out; omega
                    have HG := Lib.hid (And.intro g1 (And.intro g2 (And.intro g3 (And.intro hM (And.intro hlen (And.intro (show 0 ≤ one + 1 + two by omega) (And.intro r1 r2)))))))
                    have hr1 := range_rd wr K (s2A arr) false begun L (one + 1 + two) HS.out HWD.out hlen ⟨q2, q3⟩ hL1 g1 (by omega)
                    clear g1 g2 g3 hM hL hlen
                    obtain ⟨hM1, hM2⟩ := hM1
                    go_wp2_with fail
                    refine hr1.mono ?_
                    clear hr1
                    rintro e w6 ⟨pa, ca, all, rfl, hfa, hra, hga, hb6⟩
                    have HFA := Lib.hid hfa
                    have HRA := Lib.hid (And.intro hra hga)
                    have HS6 := Lib.hid (HS.out.below hb6)
                    have HB6 := Lib.hid (HB.out.trans (hb6.mono HB.out.size))
                    have HZ6 := Lib.hid hb6
                    have hr2 := range_rd w6 K (s2A arr) false begun M one HS6.out HWD.out HG.out.2.2.2.2.1 ⟨q2, q3⟩ ⟨hM1, hM2⟩ HG.out.2.1 HG.out.2.2.2.2.2.2.1
                    clear hfa hra hga hb6
                    go_wp2_with fail
                    refine hr2.mono ?_
                    clear hr2
                    rintro e w7 ⟨pl, cl, left, rfl, hfl, hrl, hgl, hb7⟩
                    have HFL := Lib.hid hfl
                    have HRL := Lib.hid hrl
                    have HRA7 := Lib.hid (HRA.out.1.below hb7)
                    have HS7 := Lib.hid (HS6.out.below hb7)
                    have HB7 := Lib.hid (HB6.out.trans (hb7.mono HB6.out.size))
                    have hr3 := range_rd w7 K (s2A arr) false ((M + 1) % 4294967296) L two HS7.out HWD.out HG.out.2.2.2.2.1 (mod_word _) hL1 HG.out.2.2.1 HG.out.2.2.2.2.2.2.2
                    clear hfl hrl hgl hb7
                    go_wp2_with fail
                    refine hr3.mono ?_
                    clear hr3
                    rintro e w8 ⟨pr, cr, right, rfl, hfr, hrr, hgr, hb8⟩
                    have HFR := Lib.hid hfr
                    have HRR := Lib.hid hrr
                    have HRL8 := Lib.hid (HRL.out.below hb8)
                    have HRA8 := Lib.hid (HRA7.out.below hb8)
                    have HS8 := Lib.hid (HS7.out.below hb8)
                    have HB8 := Lib.hid (HB7.out.trans (hb8.mono HB7.out.size))
                    have hsplit : all = left ++ right := range_split r1 r3 r2 r4 HWD.out HFA.out HFL.out (by rw [HG.out.2.2.2.1]; exact HFR.out)
                    have HSP := Lib.hid hsplit
                    clear hfr hrr hgr hb8 hsplit
                    have ha1 := HFA.out.len
                    have ha2 := HFL.out.len
                    have ha3 := HFR.out.len
                    change all.length ≤ arr.length at ha1
                    change left.length ≤ arr.length at ha2
                    change right.length ≤ arr.length at ha3
                    have hlen := HA.out
                    obtain ⟨nl, hnl⟩ : ∃ nl, left.length = nl := ⟨_, rfl⟩
                    obtain ⟨nr, hnr⟩ : ∃ nr, right.length = nr := ⟨_, rfl⟩
                    obtain ⟨na, hna⟩ : ∃ na, all.length = na := ⟨_, rfl⟩
                    obtain ⟨il1, il2, il3⟩ := HRL8.out.info hnl
                    obtain ⟨ir1, ir2, ir3⟩ := HRR.out.info hnr
                    obtain ⟨ia1, ia2, ia3⟩ := HRA8.out.info hna
                    have HNN := Lib.hid (And.intro hnl (And.intro hnr hna))
                    rw [hnl, hnr, hna]
                    have na2 : na ≤ 2000 := by omega
                    have nl2 : nl ≤ 2000 := by omega
                    have nr2 : nr ≤ 2000 := by omega
                    clear ha1 ha2 ha3 hlen hnl hnr hna
                    go_wp2_with fail
                    obtain ⟨i0, hi, hz0, hz1, hz2⟩ := info_parts info_pend
                    go_loopw [23, 24] (fun v23 v24 wr => ∃ (k : Nat) (v : Value), k ≤ nl ∧ v24 = .int .i64 k ∧ v23 = v ∧ Below w8.heap.size w8 wr ∧ wr.ownsRow w8.heap.size 59 3 v k (pndRow (left.take k))) (fun _ v24 _ => nl - (intOf v24).toNat)
                    case atStart => exact ⟨0, _, Nat.zero_le _, rfl, rfl, Below.refl _ _, by rw [List.take_zero]; exact World.ownsRow_nil _ _ _ _⟩
                    case round =>
                      obtain ⟨k, v, hk, rfl, rfl, hb, hrow⟩ := hrel
                      by_cases hkN : (k : Int) < nl
                      · have hk' : k < nl := by omega
                        obtain ⟨gl, rfl⟩ := il3 (by omega)
                        have hkL : k < left.length := by rw [HNN.out.1]; exact hk'
                        obtain ⟨c0, c1, c2⟩ := (HRL8.out.below hb).cell gl rfl k hkL
                        have htk : pndRow (left.take (k + 1)) = pndRow (left.take k) ++ [.int .i64 left[k].id, .int .i64 left[k].h, .string left[k].tag] := by
                          rw [List.take_add_one, List.getElem?_eq_getElem hkL, Option.toList_some, pndRow_snoc]
                        generalize left[k] = q at c0 c1 c2 htk
                        obtain ⟨pid, ph, ptag⟩ := q
                        simp only at c0 c1 c2 htk
                        have HTK := Lib.hid htk
                        have HBL := Lib.hid hb
                        have HRO := Lib.hid hrow
                        have hbz := hb.size
                        clear hb hrow htk
                        go_wp2_with (first
                          | (at_builtin; refine wpList_append_own _ rfl (.tmp 130) (.tmp 135) 56 rfl w8.heap.size 59 i0 _ 3 32 Try.underlying56 hi hz0 hz1 hz2 rfl (by decide) _ _ _ rfl (HRO.out.alloc _) ⟨wr.heap.size, 0, none⟩ 1 1 [.int .i64 pid, .int .i64 ph, .string ptag] rfl rfl (fun j u hj => cell_of_newrow hj) (by simp [Value.oneCell']) (by unfold maxLen; omega) (by omega) (by simp; omega) ?_; intro v' w9 hown9 hgrow9 hnil9))
                        go_roundw
                        case rel => exact ⟨k + 1, _, by omega, by go_num, rfl, ((HBL.out.alloc hbz _).grown hgrow9 (by have := hbz; simp; omega) (fun j e => (HRO.out.lt j e).1)), by rw [HTK.out]; exact hown9⟩
                        case measure => simp [intOf]; omega
                      · obtain rfl : k = nl := by omega
                        have htk : left.take k = left := List.take_of_length_le (by rw [HNN.out.1]; exact Nat.le_refl _)
                        rw [htk] at hrow
                        have HBL := Lib.hid hb
                        have HRO := Lib.hid hrow
                        clear hb hrow htk
                        go_wp2_with fail
                        go_loopw [23, 25] (fun v23 v25 wr => ∃ (j : Nat) (v : Value), j ≤ nr ∧ v25 = .int .i64 j ∧ v23 = v ∧ Below w8.heap.size w8 wr ∧ wr.ownsRow w8.heap.size 59 3 v (k + j) (pndRow (left ++ right.take j))) (fun _ v25 _ => nr - (intOf v25).toNat)
                        case atStart => exact ⟨0, _, Nat.zero_le _, rfl, rfl, HBL.out, by rw [List.take_zero, List.append_nil]; exact HRO.out⟩
                        case round =>
                          clear HBL HRO
                          obtain ⟨j, v, hj, rfl, rfl, hb, hrow⟩ := hrel
                          by_cases hjN : (j : Int) < nr
                          · have hj' : j < nr := by omega
                            obtain ⟨gr, rfl⟩ := ir3 (by omega)
                            have hjL : j < right.length := by rw [HNN.out.2.1]; exact hj'
                            obtain ⟨c0, c1, c2⟩ := (HRR.out.below hb).cell gr rfl j hjL
                            have htk : pndRow (left ++ right.take (j + 1)) = pndRow (left ++ right.take j) ++ [.int .i64 right[j].id, .int .i64 right[j].h, .string right[j].tag] := by
                              rw [List.take_add_one, List.getElem?_eq_getElem hjL, Option.toList_some, ← List.append_assoc, pndRow_snoc]
                            generalize right[j] = q at c0 c1 c2 htk
                            obtain ⟨pid, ph, ptag⟩ := q
                            simp only at c0 c1 c2 htk
                            have HTK := Lib.hid htk
                            have HBL := Lib.hid hb
                            have HRO := Lib.hid hrow
                            have hbz := hb.size
                            clear hb hrow htk
                            go_wp2_with (first
                              | (at_builtin; refine wpList_append_own _ rfl (.tmp 143) (.tmp 148) 56 rfl w8.heap.size 59 i0 _ 3 32 Try.underlying56 hi hz0 hz1 hz2 rfl (by decide) _ _ _ rfl (HRO.out.alloc _) ⟨wr.heap.size, 0, none⟩ 1 1 [.int .i64 pid, .int .i64 ph, .string ptag] rfl rfl (fun j u hj => cell_of_newrow hj) (by simp [Value.oneCell']) (by unfold maxLen; omega) (by omega) (by simp; omega) ?_; intro v' w9 hown9 hgrow9 hnil9))
                            go_roundw
                            case rel => exact ⟨j + 1, _, by omega, by go_num, rfl, ((HBL.out.alloc hbz _).grown hgrow9 (by have := hbz; simp; omega) (fun j e => (HRO.out.lt j e).1)), by rw [HTK.out]; exact hown9⟩
                            case measure => simp [intOf]; omega
                          · obtain rfl : j = nr := by omega
                            have htk : right.take j = right := List.take_of_length_le (by rw [HNN.out.2.1]; exact Nat.le_refl _)
                            rw [htk, ← HSP.out] at hrow
                            have hkj : k + j = na := by have h1 := congrArg List.length HSP.out; rw [List.length_append, HNN.out.1, HNN.out.2.1, HNN.out.2.2] at h1; exact h1.symm
                            rw [hkj, ← HNN.out.2.2] at hrow
                            obtain ⟨pb, cb, rfl, hrb, hgb⟩ := PndRd.of_row hrow
                            rw [HNN.out.2.2]
                            obtain ⟨ib1, ib2, ib3⟩ := hrb.info HNN.out.2.2
                            have hsm := samep_any wr pa pb ca cb all na HNN.out.2.2 (HRA8.out.below hb) hrb
                            have HBL := Lib.hid hb
                            clear hb hrow htk hkj hrb hgb
                            go_wp2_with fail
                            refine hsm.mono ?_
                            clear hsm
                            rintro e w9 ⟨rfl, hb9⟩
                            have hb9' := HBL.out.trans (hb9.mono HBL.out.size)
                            have HRA9 := Lib.hid (HRA8.out.below hb9')
                            have HS9 := Lib.hid (HS8.out.below hb9')
                            have HB9 := Lib.hid (HB8.out.trans (hb9'.mono HB8.out.size))
                            clear hb9 hb9'
                            have hkg : ∀ g, pa = some ⟨g, 0, none⟩ → ¬ K.has g := fun g hg hk => by have h1 := HS.out.lt g hk; have h2 := HRA.out.2 g hg; omega
                            have HKG := Lib.hid hkg
                            have hrn := range_rd w9 K (s2A arr) true begun L (one + 1 + two) HS9.out (fun p hp => by cases hp) (show ([] : List Pnd).length ≤ 1073741824 by decide) ⟨q2, q3⟩ hL1 HG.out.1 HG.out.2.2.2.2.2.1
                            clear hkg
                            go_wp2_with fail
                            refine hrn.mono ?_
                            clear hrn
                            rintro e w10 ⟨pn, cn, nout, rfl, hfn, hrdn, _, hb10⟩
                            obtain rfl : nout = [] := List.eq_nil_of_length_eq_zero (Nat.le_zero.1 hfn.len)
                            have HRA10 := Lib.hid (HRA9.out.below hb10)
                            have HS10 := Lib.hid (HS9.out.below hb10)
                            have HB10 := Lib.hid (HB9.out.trans (hb10.mono HB9.out.size))
                            have hcn := hrdn.cap
                            unfold maxLen at hcn
                            rw [List.length_nil] at hcn ⊢
                            obtain ⟨hcn1, hcn2⟩ := hcn
                            clear hfn hrdn hb10
                            go_wp2_with fail
                            go_loopw [28, 29] (fun v28 v29 wr => ∃ (i : Nat), i ≤ na ∧ v28 = .int .i64 i ∧ SesIn wr K (s2A (leftBy arr all i)) ∧ PndRd wr pa ca all ∧ Below w.heap.size w wr) (fun v28 _ _ => na - (intOf v28).toNat)
                            case atStart => exact ⟨0, Nat.zero_le _, rfl, by rw [leftBy_zero]; exact HS10.out, HRA10.out, HB10.out⟩
                            case round =>
                              obtain ⟨i, hiN, rfl, hS, hrd, hb⟩ := hrel
                              by_cases hN : (i : Int) < na
                              · have hi' : i < na := by omega
                                obtain ⟨ga, rfl⟩ := ia3 (by omega)
                                have hiL : i < all.length := by rw [HNN.out.2.2]; exact hi'
                                obtain ⟨c0, _, _⟩ := hrd.cell ga rfl i hiL
                                have hwi : Word all[i].id := HWD.out _ (HFA.out.mem (List.getElem_mem hiL)).1
                                have hfo := forget_any wr K (s2A (leftBy arr all i)) false all[i].id hS hwi.i64
                                rw [forget_L (arr := arr) HFA.out hiL] at hfo
                                generalize all[i].id = aid at *
                                have HRD := Lib.hid hrd
                                have HBL := Lib.hid hb
                                clear hb hrd hS hwi
                                go_wp2_with fail
                                refine hfo.mono ?_
                                clear hfo c0
                                rintro e w11 ⟨rfl, hS11, hm11⟩
                                have HS11 := Lib.hid hS11
                                have HRD11 := Lib.hid (HRD.out.smv hm11 HKG.out)
                                have HB11 := Lib.hid (live_step HBL.out hm11 HLO.out)
                                clear hS11 hm11
                                go_wp2_with fail
                                go_roundw
                                case rel => exact ⟨i + 1, by omega, by go_num, HS11.out, HRD11.out, HB11.out⟩
                                case measure => simp [intOf]; omega
                              · obtain rfl : i = na := by omega
                                have hln := leftBy_len HFA.out
                                change (leftBy arr all all.length).length + all.length = arr.length at hln
                                rw [HNN.out.2.2] at hln
                                have hno : ∀ rest, FromL (leftBy arr all i) begun (one + 1 + two) rest → rest = [] := fun _ h => leftBy_none HFA.out (by rw [HNN.out.2.2]; exact h)
                                have hwl : ∀ p ∈ leftBy arr all i, Word p.id := leftBy_word HWD.out
                                generalize leftBy arr all i = lft at *
                                have hrr := range_rd wr K (s2A lft) false begun L (one + 1 + two) hS hwl (by show lft.length ≤ _; have := HA.out; omega) ⟨q2, q3⟩ hL1 HG.out.1 HG.out.2.2.2.2.2.1
                                have HNO := Lib.hid hno
                                have HBL := Lib.hid hb
                                have HSL := Lib.hid hS
                                clear hb hrd hS hno hwl
                                go_wp2_with fail
                                refine hrr.mono ?_
                                clear hrr
                                rintro e w11 ⟨pz, cz, rest, rfl, hfz, hrz, _, hb11⟩
                                obtain rfl := HNO.out _ hfz
                                have hS11 := HSL.out.below hb11
                                have HB11 := Lib.hid (HBL.out.trans (hb11.mono HBL.out.size))
                                have hcz := hrz.cap
                                unfold maxLen at hcz
                                rw [List.length_nil] at hcz ⊢
                                obtain ⟨hcz1, hcz2⟩ := hcz
                                have hst := sstate_any w11 K (s2A lft) hS11
                                obtain ⟨T, hT⟩ : ∃ T, (s2A lft).state = T := ⟨_, rfl⟩
                                have h9 : T[9]? = some (.int .i64 lft.length) := by rw [← hT]; rfl
                                have hTz : T.size = 12 := by rw [← hT]; rfl
                                have hT1 : T.all (·.oneCell') = true := by rw [← hT]; as_aux_lemma => kernel_rfl
                                rw [hT] at hst
                                clear hfz hrz hb11 hS11 hT
                                go_wp2_with fail
                                refine hst.mono ?_
                                clear hst
                                rintro e w12 ⟨rfl, hb12⟩
                                have HB12 := Lib.hid (HB11.out.trans (hb12.mono HB11.out.size))
                                clear hb12
                                go_upto_region 45 with (refine wpList_store_rowTo rfl 63 (.tmp 31) (.tmp 184) rfl rfl w12.heap.size T rfl rfl 63 #[.bool false, .int .i64 0, .int .i64 0, .int .i64 0, .int .i64 0, .int .i64 0, .int .i64 0, .int .i64 0, .int .i64 0, .int .i64 0, .int .i64 0, .int .i64 0] (_root_.Go.heap_alloc_new w12 _) (by rw [hTz]; as_aux_lemma => kernel_rfl) (by rw [hTz]; rfl) hT1 ?_)
                                have hb13 : Below w12.heap.size w12 ((w12.alloc (.cells #[.bool false, .int .i64 0, .int .i64 0, .int .i64 0, .int .i64 0, .int .i64 0, .int .i64 0, .int .i64 0, .int .i64 0, .int .i64 0, .int .i64 0, .int .i64 0] 63)).setRow w12.heap.size T) := below_setRow ((Below.refl _ _).alloc (Nat.le_refl _) _) (Nat.le_refl _) _
                                have h13 := setRow_heap (w12.alloc (.cells #[.bool false, .int .i64 0, .int .i64 0, .int .i64 0, .int .i64 0, .int .i64 0, .int .i64 0, .int .i64 0, .int .i64 0, .int .i64 0, .int .i64 0, .int .i64 0] 63)) w12.heap.size _ T _ _ (_root_.Go.heap_alloc_new w12 _)
                                change Code.wp _ _ _ _ ((w12.alloc (.cells #[.bool false, .int .i64 0, .int .i64 0, .int .i64 0, .int .i64 0, .int .i64 0, .int .i64 0, .int .i64 0, .int .i64 0, .int .i64 0, .int .i64 0, .int .i64 0] 63)).setRow w12.heap.size T)
                                generalize ((w12.alloc (.cells #[.bool false, .int .i64 0, .int .i64 0, .int .i64 0, .int .i64 0, .int .i64 0, .int .i64 0, .int .i64 0, .int .i64 0, .int .i64 0, .int .i64 0, .int .i64 0] 63)).setRow w12.heap.size T) = w13 at *
                                obtain ⟨y, hy⟩ : ∃ y, w12.heap.size = y := ⟨_, rfl⟩
                                have HB13 := Lib.hid (HB12.out.trans (hb13.mono HB12.out.size))
                                rw [hy] at h13 ⊢
                                have c9 : w13.cell? ⟨y, 9, none⟩ = some (.int .i64 lft.length) := (cell_of_row _ _ 9 _ _ _ h13).trans h9
                                clear hb13 hy h13 h9
                                have hA := HA.out
                                go_wp2_with fail
                                all_goals
                                  go_ret
                                  exact ⟨by simp; omega, HB13.out⟩
                  · go_wp2_with fail
                    go_ret
                    exact ⟨rfl, HB.out⟩
                · go_wp2_with fail
                  go_ret
                  exact ⟨rfl, HB.out⟩
              · go_wp2_with fail
                go_ret
                exact ⟨rfl, HB.out⟩
            · go_wp2_with fail
              go_ret
              exact ⟨rfl, HB.out⟩
      · go_wp2_with fail
        go_ret
        exact ⟨rfl, HB3.out⟩
    · go_wp2_with fail
      go_ret
      exact ⟨rfl, HB3.out⟩
  · go_wp2_with fail
    go_ret
    exact ⟨rfl, HB3.out⟩
end Go.Proofs.Ytbkimebmoafbnaa
