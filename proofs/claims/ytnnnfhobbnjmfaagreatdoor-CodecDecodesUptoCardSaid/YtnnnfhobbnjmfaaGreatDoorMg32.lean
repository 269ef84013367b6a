/-
  Lemmas on the codec. Conditions: as each says.
-/
import Derived.Test.YtnnnfhobbnjmfaaGreatDoorMg31
import Derived.Handy
import Derived.Deep.DeepCutAuto
import Derived.Deep.QuietTactic
import Derived.BigQuiet
import Derived.OwnWalk
import Derived.StillTailTactics
import Derived.Deep.RegionLaw
import Derived.Lib.SlBytesConst
import Derived.Laws.IdiomCopy
import Derived.Lib.AppendStr
import Derived.Lib.ConvBytes
import Derived.Lib.SmallJoins
import Derived.Deep.AppendLies
import Derived.Laws.EntriesVeiled
import Derived.Deep.OwnRows
namespace Go.Proofs.YtnnnfhobbnjmfaaGreatDoor
open Go.RowKit Go.Proofs.Tryz
set_option linter.all false
set_option maxHeartbeats 40000000
set_option maxRecDepth 20000

attribute [local go_sem] Oper.semAt_some

def mkR (i : Nat) : List Value := [.int .i64 (-1000 - i), .int .u64 i, .string ⟨#[]⟩, .slice none 0 0, .int .i64 0]
theorem mkR_len (i : Nat) : (mkR i).length = 5 := rfl
theorem val_ne : (25 : Nat) ≠ 23 := by decide

theorem mark_any (i : Nat) (w : World) (hi : i <= 500000000) : Calls prog 42 #[.int .i64 i] w fun e w' => e = .returned (.agg #[.int .i64 (-1000 - i), .int .u64 i, .string ⟨#[]⟩, .slice none 0 0, .int .i64 0]) ∧ Below w.heap.size w w' := by
 go_enter func42, ntmps42
 go_upto_region 1 with fail
 have hb0 : Below w.heap.size w (w.alloc (.cells zR 25)) := ((Below.refl _ _).alloc (Nat.le_refl _) _)
 have ox := zN w (.cells zR 25)
 generalize (w.alloc (.cells zR 25)) = w0 at *
 obtain ⟨x, hx⟩ : ∃ x, w.heap.size = x := ⟨_, rfl⟩
 rw [hx] at ox ⊢
 have HX := zH (And.intro hb0 (And.intro ox hx))
 clear hb0 hx
 go_wp2_with (refine stV (.tmp 2) (.tmp 7) rfl rfl rfl rfl rfl ox rfl ?_)
 have hh := setRow_heap w0 x _ #[.int .i64 (-1000 - i), .int .u64 i, .string ⟨#[]⟩, .slice none 0 0, .int .i64 0] _ _ HX.out.2.1
 have hB := below_setRow HX.out.1 (show w.heap.size <= x by have := HX.out.2.2; omega) #[.int .i64 (-1000 - i), .int .u64 i, .string ⟨#[]⟩, .slice none 0 0, .int .i64 0]
 refine bodyPost_ret (results_cell_row (p := 2) (ty := 25) (by kernel_rfl) _ _ x 25 #[.int .i64 (-1000 - i), .int .u64 i, .string ⟨#[]⟩, .slice none 0 0, .int .i64 0] (0, 0) _ rfl hh underlying25 rfl (by as_aux_lemma => kernel_rfl)) rfl ?_
 exact ⟨rfl, hB⟩
theorem marked_any (i n : Nat) (w : World) (B : Nat) (u : Value) (hi : i <= 500000000) (h : w.ownsRow B 25 5 u n (mkRow (mkR i) n)) : Calls prog 43 #[u, .int .i64 i] w fun e w' => e = .returned (.bool true) ∧ w = w' := by
 obtain ⟨p, c, rfl, h1, h2, h3⟩ := ownsRow_form h
 unfold maxLen at h2
 have H := zH h
 clear h
 go_enter func43, ntmps43
 go_wp2_with fail
 go_loopw [5] (fun v5 wq => ∃ s : Nat, s <= n ∧ v5 = .int .i64 s ∧ wq = w) (fun v5 _ => n - (intOf v5).toNat)
 case atStart => exact ⟨0, Nat.zero_le _, rfl, rfl⟩
 obtain ⟨s, hs, rfl, rfl⟩ := hrel
 by_cases hsm : (s : Int) < n
 ·obtain ⟨gu, rfl, _⟩ := h3 (by omega)
  have hcell : ∀ j v, (mkR i)[j]? = some v -> wr.cell? ⟨gu, s * 5 + j, none⟩ = some v := fun j v hv => ownsRow_cell H.out (by rw [mkRow_get (mkR_len _) _ _ _ (by omega) (by have := (List.getElem?_eq_some_iff.1 hv).1; rw [mkR_len] at this; exact this)]; exact hv)
  have c0 : wr.cell? ⟨gu, s * 5, none⟩ = some (.int .i64 (-1000 - i)) := hcell 0 _ rfl
  have c1 : wr.cell? ⟨gu, s * 5 + 1, none⟩ = some (.int .u64 i) := hcell 1 _ rfl
  clear hcell
  go_wp2_with fail
  go_roundw
  case rel => exact ⟨s + 1, by omega, by go_num, by first | rfl | trivial⟩
  case measure => simp [intOf]; omega
 obtain rfl : s = n := by omega
 go_wp2_with fail
 go_ret
 exact ⟨rfl, rfl⟩
theorem BkIn.only {w w' : World} {B bp : Nat} {vl : Value} {vs : List Value} {Q : Nat -> Prop} (h : BkIn w B bp vl vs Q) (ho : OnlyG vs w w') : w'.heap[bp]? = some (.cells #[vl] 50 (0, 0)) ∧ w'.ownsRow B 23 1 vl vs.length vs := by
 have hv : ∀ v ∈ vs, ∃ (B' n : Nat) (xs : List Value), w.ownsRow B' 25 5 v n xs := fun v hv => by
  obtain ⟨j, hj, rfl⟩ := mem_getD default hv
  obtain ⟨n, xs, h1, _⟩ := h.has j hj
  exact ⟨_, _, _, h1⟩
 refine ⟨?_, ?_⟩
 ·rw [ho.block bp (Array.getElem?_eq_some_iff.1 h.at_).1 (fun v hv' => by obtain ⟨B', n, xs, hr⟩ := hv v hv'; exact ownsRow_off hr h.at_ (by decide))]
  exact h.at_
 ·exact ho.keep h.row (fun v hv' => by
   obtain ⟨B', n, xs, hr⟩ := hv v hv'
   rcases ownsRow_apart hr h.row val_ne with q | q
   ·exact .inl q
   ·exact .inr (fun e => q e.symm))

theorem owned_any (w : World) (B bp : Nat) (vl : Value) (vs : List Value) (Q : Nat -> Prop) (h : BkIn w B bp vl vs Q) (hlen : vs.length <= 40000000) :
  Calls prog 23 #[.pointer (some ⟨bp, 0, none⟩)] w fun e w' => e = .returned (.bool true) ∧ OnlyG vs w w' := by
 obtain ⟨nn, hnn⟩ := choose_ltV (0 : Nat) (n := vs.length) (p := fun j n => ∃ xs, w.ownsRow B 25 5 (vs.getD j default) n xs ∧ n <= 6000000) (fun j hj => by obtain ⟨n, xs, h1, h2⟩ := h.has j hj; exact ⟨n, xs, h1, h2⟩)
 have hnl : ∀ j, j < vs.length -> nn j <= 6000000 := fun j hj => by obtain ⟨xs, h1, h2⟩ := hnn j hj; exact h2
 have hlt : ∀ j, j < vs.length -> ∀ g, (vs.getD j default).ownBlock = some g -> g < w.heap.size := fun j hj g hg => by obtain ⟨xs, h1, h2⟩ := hnn j hj; exact (h1.lt g hg).2
 have hf0 : FillG 25 5 mkR w B vs nn 0 0 := fun j hj => by
  obtain ⟨xs, h1, h2⟩ := hnn j hj
  exact ⟨_, h1, fun m c _ _ hc => by omega⟩
 obtain ⟨n, hn⟩ : ∃ n, vs.length = n := ⟨_, rfl⟩
 obtain ⟨pl, cl, hvl, i1, i2, i3⟩ := ownsRow_form h.row
 unfold maxLen at i2
 rw [hn] at hvl i1 i3 hlen
 have hcw : ∀ wr, OnlyG vs w wr -> wr.cell? ⟨bp, 0, none⟩ = some (.slice pl n cl) ∧ (∀ g, pl = some ⟨g, 0, none⟩ -> ∀ j, j < n -> wr.cell? ⟨g, j, none⟩ = some (vs.getD j default)) := fun wr ho => by
  obtain ⟨h1, h2⟩ := h.only ho
  refine ⟨by rw [← hvl]; exact (cell_of_row _ _ 0 _ _ _ h1).trans rfl, fun g hg j hj => ?_⟩
  rw [hvl, hg, hn] at h2
  refine ownsRow_cell h2 ?_
  rw [List.getD_eq_getElem?_getD, List.getElem?_eq_getElem (by rw [hn]; exact hj)]
  rfl
 have hdist := h.dist
 have hBw := h.le
 have hvm : ∀ j, j < n -> vs.getD j default ∈ vs := fun j hj => getD_mem (by rw [hn]; exact hj)
 have HC := zH hcw
 have HF := zH hf0
 have HLT := zH hlt
 have HN := zH (And.intro hn hnl)
 have HVM := zH hvm
 obtain ⟨k0, hi, hz0, hz1, hz2⟩ := info_partsV info_val
 have HS5 := zH (show (prog.info? 25).map (·.size) = some 5 by rw [hi]; simp [hz1])
 clear h hnn hnl hlt hf0 hn hvl hcw hvm
 go_enter func23, ntmps23
 go_wp2_with fail
 go_loopw [3] (fun v3 wr => ∃ i : Nat, i <= n ∧ v3 = .int .i64 i ∧ OnlyG vs w wr ∧ FillG 25 5 mkR wr B vs nn i 0) (fun v3 _ => n - (intOf v3).toNat)
 case atStart => exact ⟨0, Nat.zero_le _, rfl, OnlyG.refl _ _, HF.out⟩
 obtain ⟨i, hi', rfl, hO, hF⟩ := hrel
 obtain ⟨c1, c3⟩ := HC.out _ hO
 by_cases hin : (i : Int) < n
 ·have hin' : i < n := by omega
  obtain ⟨g, rfl, _⟩ := i3 (by omega)
  have d3 := c3 g rfl i hin'
  obtain ⟨l, hl, _⟩ := hF i (by rw [HN.out.1]; exact hin')
  obtain ⟨p, c, hpc, q1, q2, q3⟩ := ownsRow_form hl
  unfold maxLen at q2
  obtain ⟨m, hm⟩ : ∃ m, nn i = m := ⟨_, rfl⟩
  have hml : m <= 6000000 := by rw [← hm]; exact HN.out.2 i (by rw [HN.out.1]; exact hin')
  rw [hm] at hpc q1 q3
  rw [hpc] at d3
  have HP := zH (And.intro hpc hm)
  have hF' := zH hF
  have hO' := zH hO
  clear c3 hl hpc hm hF hO
  go_wp2_with fail
  go_loopw [5] (fun v5 wq => ∃ k : Nat, k <= m ∧ v5 = .int .i64 k ∧ OnlyG vs w wq ∧ FillG 25 5 mkR wq B vs nn i k) (fun v5 _ => m - (intOf v5).toNat)
  case atStart => exact ⟨0, Nat.zero_le _, rfl, hO'.out, hF'.out⟩
  case round =>
   obtain ⟨k, hk, rfl, hO2, hF2⟩ := hrel
   by_cases hkm : (k : Int) < m
   ·have hkm' : k < m := by omega
    obtain ⟨g', rfl, _⟩ := q3 (by omega)
    have hmk := mark_any i wr (by omega)
    have HMK := zH hmk
    have HOF := zH (And.intro hO2 hF2)
    clear hmk hO2 hF2 d3
    go_wp2_with fail
    refine HMK.out.mono ?_
    rintro e w2 ⟨rfl, hb2⟩
    have hO3 := HOF.out.1.then_ hb2
    have hF3 : FillG 25 5 mkR w2 B vs nn i k := fun j hj => by
     obtain ⟨l, q1, q2⟩ := HOF.out.2 j hj
     exact ⟨l, ownsRow_keep q1 (fun i hi => hb2.block i (q1.lt i hi).2), q2⟩
    obtain ⟨l, hl, _⟩ := hF3 i (by rw [HN.out.1]; exact hin')
    rw [HP.out.1, HP.out.2] at hl
    have hth := zH (ownsRow_there hl hkm')
    have hset := hF3.set mkR_len hdist (by rw [HN.out.1]; exact hin') (by rw [HP.out.2]; exact hkm') (by rw [HP.out.1, HP.out.2])
    have hgr := hO3.grown (setCells_grown _ g' (k * 5) (mkR i)) (fun j hj => by
     cases hj
     exact .inr ⟨_, HVM.out i hin', by rw [HP.out.1]; rfl⟩)
    have HS := zH (And.intro hset hgr)
    clear hl hset hgr hO3 hF3 hb2
    go_wp2_with (refine wpList_store_mid rfl 25 (.tmp 40) (.tmp 39) rfl g' (k * 5) #[.int .i64 (-1000 - i), .int .u64 i, .string ⟨#[]⟩, .slice none 0 0, .int .i64 0] rfl rfl hth.out HS5.out (by simp [Value.oneCell']) ?_; change wpList _ _ _ _ _ (w2.setCells g' (k * 5) (mkR i)); generalize w2.setCells g' (k * 5) (mkR i) = w4 at *)
    go_roundw
    case rel => exact ⟨k + 1, by omega, by go_num, HS.out.2, HS.out.1⟩
    case measure => simp [intOf]; omega
   ·obtain rfl : k = m := by omega
    have hFn := zH (And.intro hO2 (show FillG 25 5 mkR _ B vs nn (i + 1) 0 from FillG.next (by rw [HP.out.2]; exact hF2)))
    clear hO2 hF2 d3
    go_wp2_with fail
    go_roundw
    case rel => exact ⟨i + 1, by omega, by go_num, hFn.out.1, hFn.out.2⟩
    case measure => simp [intOf]; omega
 obtain rfl : i = n := by omega
 have hG0 : GSG 25 5 23 12 mkR w _ B vs nn (.slice none 0 0) [] 0 := GSG.start (by decide) mkR_len hO (by rw [HN.out.1]; exact hF)
 have HG0 := zH hG0
 clear c3 hG0 hO hF
 go_wp2_with fail
 go_loopw [6, 7] (fun v6 v7 wr => ∃ (j : Nat) (G : List (Value × Nat × Nat)), j <= i ∧ v7 = .int .i64 j ∧ GSG 25 5 23 12 mkR w wr B vs nn v6 G j ∧ G.length = 12 * j ∧ ∀ u ∈ G, u.2.1 < j) (fun _ v7 _ => i - (intOf v7).toNat)
 case atStart => exact ⟨0, [], Nat.zero_le _, rfl, HG0.out, rfl, fun u hu => by simp at hu⟩
 obtain ⟨j, G, hj, rfl, hG, hGl, hGi⟩ := hrel
 obtain ⟨c1, c3⟩ := HC.out wr hG.only
 by_cases hjn : (j : Int) < i
 ·have hjn' : j < i := by omega
  obtain ⟨g, rfl, _⟩ := i3 (by omega)
  have d3 := c3 g rfl j hjn'
  have hK := hG.begin hGi (by rw [HN.out.1]; exact hjn') hdist HLT.out
  have hml := HN.out.2 j (by rw [HN.out.1]; exact hjn')
  obtain ⟨m, hm⟩ : ∃ m, nn j = m := ⟨_, rfl⟩
  rw [hm] at hK hml
  obtain ⟨v0, hv0⟩ : ∃ v0, vs.getD j default = v0 := ⟨_, rfl⟩
  rw [hv0] at d3 hK
  obtain ⟨p0, c0, hv00, _⟩ := ownsRow_form hK.own
  subst hv00
  have HK := zH hK
  clear c3 hm hv0 hK hG hGi
  go_wp2_with fail
  go_loopw [6, 8, 9] (fun v6 v8 v9 wq => ∃ (k : Nat) (G : List (Value × Nat × Nat)), k <= 12 ∧ v9 = .int .i64 k ∧ GKG 25 5 23 12 mkR w wq B vs nn v6 G j (m + k) v8 ∧ G.length = 12 * j + k) (fun _ _ v9 _ => 12 - (intOf v9).toNat)
  case atStart => exact ⟨0, G, by omega, rfl, HK.out, hGl⟩
  case round =>
   obtain ⟨k, G, hk, rfl, hK, hGl⟩ := hrel
   by_cases hk8 : (k : Int) < 12
   ·obtain ⟨t, ht⟩ : ∃ t, m + k = t := ⟨_, rfl⟩
    have htb : t <= 6000020 := by omega
    rw [ht] at hK
    have HT := zH ht
    obtain ⟨p, c, hpc, _⟩ := ownsRow_form hK.own
    subst hpc
    have HKK := zH hK
    have hmk := mark_any j wr (by omega)
    have HMK := zH hmk
    clear ht hK d3 hmk
    go_wp2_with fail
    refine HMK.out.mono ?_
    rintro e w2 ⟨rfl, hb2⟩
    have hK2 := HKK.out.below hb2
    have hown := zH hK2.own
    have hBq : B <= w2.heap.size := Nat.le_trans hBw hK2.only.size
    have HK2 := zH hK2
    clear hK2 hb2
    go_wp2_with (at_builtin; refine wpList_append_two _ rfl (.tmp 61) (.tmp 64) 23 rfl B 25 k0 _ 5 64 underlying23 hi hz0 hz1 hz2 rfl _ _ _ rfl (World.ownsRow.alloc hown.out _) ⟨w2.heap.size, 0, none⟩ 1 [.int .i64 (-1000 - j), .int .u64 j, .string ⟨#[]⟩, .slice none 0 0, .int .i64 0] rfl rfl (fun j u hj => cell_of_newrow hj) (by simp [Value.oneCell']) (by unfold maxLen; omega) (by omega) ?_)
    intro v' w3 hA
    obtain ⟨p', c', hv'⟩ := hA.slice
    subst hv'
    have hP := (HK2.out.below ((Below.refl _ _).alloc (Nat.le_refl _) _)).put (by decide) mkR_len val_ne (by rw [HN.out.1]; exact hjn') (by simp; omega) hA
    have hrw := hP.row
    have hSz := hP.only.size
    have hGb : G.length <= 480000000 := by omega
    have HP2 := zH hP
    clear hP hA hown
    go_wp2_with (at_builtin; refine wpList_append_val rfl (.tmp 66) (.tmp 68) 48 rfl w.heap.size 23 (.slice none 0 0) 24 underlying48 info_listsV rfl _ _ _ (.slice p' (t + 1) c') rfl rfl rfl hrw (by unfold maxLen; omega) (by omega) hSz ?_)
    intro gv' w4 hr2 hg2 _ _
    rw [← hGl] at hr2
    have hQ := HP2.out.note val_ne (by omega) hr2 hg2
    have HQ := zH hQ
    clear hQ hr2 hg2 hrw
    go_wp2_with fail
    go_roundw
    case rel => exact ⟨k + 1, _, by omega, by go_num, by rw [← Nat.add_assoc, HT.out]; exact HQ.out, by rw [List.length_append, List.length_singleton]; omega⟩
    case measure => simp [intOf]; omega
   ·obtain rfl : k = 12 := by omega
    have HG2 := zH hK.toGSG
    clear d3 hK
    go_wp2_with fail
    go_roundw
    case rel => exact ⟨j + 1, G, by omega, by go_num, HG2.out.next, by omega, fun u hu => by have := (HG2.out.from_ u hu).1; omega⟩
    case measure => simp [intOf]; omega
 obtain rfl : j = i := by omega
 obtain ⟨pg, cg, hgv, y1, y2, y3⟩ := ownsRow_form hG.row
 unfold maxLen at y2
 subst hgv
 obtain ⟨q, hq⟩ : ∃ q, G.length = q := ⟨_, rfl⟩
 rw [hq] at y1 y3 hGl ⊢
 have HG := zH (And.intro hG hq)
 clear c3 hG hGi hq HG0 HF
 go_wp2_with fail
 go_loopw [10] (fun v10 wq => ∃ t : Nat, t <= j ∧ v10 = .int .i64 t ∧ wq = wr) (fun v10 _ => j - (intOf v10).toNat)
 case atStart => exact ⟨0, Nat.zero_le _, rfl, rfl⟩
 obtain ⟨t, ht, rfl, rfl⟩ := hrel
 obtain ⟨c1, c3⟩ := HC.out wr HG.out.1.only
 by_cases htq : (t : Int) < j
 ·have htn : t < j := by omega
  obtain ⟨g, rfl, _⟩ := i3 (by omega)
  have d3 := c3 g rfl t htn
  have hul := HG.out.1.list (j := t) (by rw [HN.out.1]; exact htn)
  obtain ⟨v0, hv0⟩ : ∃ v0, vs.getD t default = v0 := ⟨_, rfl⟩
  rw [hv0] at d3 hul
  obtain ⟨p0, c0, hv00, _⟩ := ownsRow_form hul
  subst hv00
  have hmd := marked_any t _ wr B _ (by omega) hul
  have HMD := zH hmd
  clear c3 hul hmd hv0
  go_wp2_with fail
  refine HMD.out.mono ?_
  rintro e w5 ⟨rfl, rfl⟩
  go_wp2_with fail
  go_roundw
  case rel => exact ⟨t + 1, by omega, by go_num, by first | rfl | trivial⟩
  case measure => simp [intOf]; omega
 obtain rfl : t = j := by omega
 clear c3
 go_wp2_with fail
 go_loopw [12] (fun v12 wq => ∃ t : Nat, t <= q ∧ v12 = .int .i64 t ∧ wq = wr) (fun v12 _ => q - (intOf v12).toNat)
 case atStart => exact ⟨0, Nat.zero_le _, rfl, rfl⟩
 obtain ⟨t, ht, rfl, rfl⟩ := hrel
 by_cases htq : (t : Int) < q
 ·obtain ⟨g, c, u, m, e1, e2, e3⟩ := HG.out.1.item (t := t) (by rw [HG.out.2]; omega)
  simp only [Value.slice.injEq, true_and] at e1
  obtain ⟨rfl, rfl⟩ := e1
  obtain ⟨pu, cu, hu, z1, z2, z3⟩ := ownsRow_form e3
  subst hu
  have hmd := marked_any (t / 12) m wr B _ (by omega) e3
  rw [show (((t / 12 : Nat)) : Int) = (t : Int) / 12 by omega] at hmd
  have HMD := zH hmd
  clear hmd e3 z1 z2 z3
  go_wp2_with fail
  refine HMD.out.mono ?_
  rintro e w5 ⟨rfl, rfl⟩
  go_wp2_with fail
  go_roundw
  case rel => exact ⟨t + 1, by omega, by go_num, by first | rfl | trivial⟩
  case measure => simp [intOf]; omega
 obtain rfl : t = q := by omega
 go_wp2_with fail
 go_ret
 exact ⟨rfl, HG.out.1.only⟩
end Go.Proofs.YtnnnfhobbnjmfaaGreatDoor

namespace Go.Proofs.YtnnnfhobbnjmfaaGreatDoor
open Go.RowKit Go.Lib Go.Proofs.Tryz
set_option linter.all false
set_option maxHeartbeats 40000000
set_option maxRecDepth 20000
def Grew (w w' : World) (v v' : Value) : Prop :=
 (∃ g n cap, v = .slice (some ⟨g, 0, none⟩) n cap ∧ v' = .slice (some ⟨g, 0, none⟩) (n + 1) cap) ∨ (∃ g, v'.ownBlock = some g ∧ w.heap.size <= g ∧ ∀ k, k < w.heap.size -> w'.heap[k]? = w.heap[k]?)

theorem append_grew {P : Program} {w w' : World} {base t ty e : Nat} {i : TypeInfo} {z v v' : Value} {bytes n : Nat} {xs : List Value} (ht : P.underlying t = some (.slice e)) (hi : P.info? e = some i) (hz : i.zero = some z)
  (hsize : i.size = 1) (hby : i.bytes = bytes) (hown : w.ownsRow base e 1 v n xs)
  (a : Addr) (c : Nat) (y : Value) (hy : w.cell? a = some y) (h1 : y.oneCell' = true) (h63 : n + 1 <= maxLen) (hbytes : (n + 1) * bytes <= 140737488355328)
  (hr : (Builtin.append_ #[t, t] ty #[v, .slice (some a) 1 c]).run P w = .ok v' w') : Grew w w' v v' := by
 have hnews : ∀ j u, [y][j]? = some u -> w.cell? (a.add j) = some u := by
  intro j u hj
  match j, hj with
  | 0, hj => simp at hj; subst hj; simpa [Addr.add] using hy
 have hl : [y].length = 1 * i.size := by rw [hsize]; rfl
 have hm : n + 1 <= 9223372036854775807 := by unfold maxLen at h63; omega
 rcases hown.2 with ⟨rfl, rfl⟩ | ⟨g, cap, cur, rfl, hbg, hg, hnc, hcm, hcs, htake⟩
 ·have hq := run_append_nil (P := P) w t ty e i z ht hi hz a 1 c [y] hl hnews (by decide) (by decide) (by rw [hby]; omega)
  rw [hr] at hq
  simp only [Result.ok.injEq] at hq
  refine .inr ⟨w.heap.size, by rw [hq.1]; rfl, Nat.le_refl _, fun k hk => ?_⟩
  rw [hq.2]; exact Below.heap_alloc w.drew _ k hk
 ·by_cases hroom : n + 1 <= cap
  ·have hq := run_append_room (P := P) w t ty e i ht hi g n cap cur hg a 1 c [y] hl hnews (by intro u hu; simp at hu; subst hu; exact h1) hroom (by rw [hsize, hcs]; simp; omega)
   rw [hr] at hq
   simp only [Result.ok.injEq] at hq
   exact .inl ⟨g, n, cap, rfl, by rw [hq.1]⟩
  ·have holds : ∀ j u, xs[j]? = some u -> w.cell? ((⟨g, 0, none⟩ : Addr).add j) = some u := hown.cells (g := g) rfl
   have hq := run_append_grow (P := P) w t ty e i z ht hi hz ⟨g, 0, none⟩ n cap xs (by rw [hsize]; exact hown.1) holds a 1 c [y] hl hnews (by omega) (by omega) (growslice_fits (by omega) (by rw [hby]; exact hbytes))
   rw [hr] at hq
   simp only [Result.ok.injEq] at hq
   refine .inr ⟨w.heap.size, by rw [hq.1]; rfl, Nat.le_refl _, fun k hk => ?_⟩
   rw [hq.2]; exact Below.heap_alloc w.drew _ k hk

theorem wpList_append_grew {P : Program} {wr : World} {ops : Array Oper} {rest : List Oper} {o : Oper} {a : Act} {Q : Exit -> Act -> World -> Prop} (hgd : o.guard = none)
  (s x : Operand) (t : TypeId) (ho : o.op = .call { callee := .builtin .append, args := #[s, x], argTypes := #[t, t] })
  (B e : Nat) (ht : P.underlying t = some (.slice e)) (hinfo : (P.info? e).map (fun i => (i.zero, i.size, i.bytes)) = some (some (.int .u8 0), 1, 1))
  (v : Value) (l : List UInt8) (y : UInt8)
  (hs : a.eval s = v) (hx : a.eval x = .slice (some ⟨wr.heap.size, 0, none⟩) 1 1) (hown : OwnBytes wr B e v l)
  (hlen : l.length + 1 <= 140737488355328) (hbase : B <= wr.heap.size)
  (h : ∀ v' w', OwnBytes w' B e v' (l ++ [y]) -> wr.grownBy w' v.ownBlock -> Grew wr w' v v' -> wpList P ops Q rest (a.put o.dst v') w') :
  wpList P ops Q (o :: rest) a (wr.alloc (.cells #[.int .u8 (y.toNat : Int)] e)) := by
 obtain ⟨i, hi, hzz⟩ := Option.map_eq_some_iff.1 hinfo
 simp only [Prod.mk.injEq] at hzz
 obtain ⟨hz, hsz, hb⟩ := hzz
 have hcell : (wr.alloc (.cells #[.int .u8 (y.toNat : Int)] e)).cell? ⟨wr.heap.size, 0, none⟩ = some (.int .u8 (y.toNat : Int)) := by simp only [World.cell?, heap_alloc_new]; rfl
 have hnews : ∀ j u, [Value.int .u8 (y.toNat : Int)][j]? = some u -> (wr.alloc (.cells #[.int .u8 (y.toNat : Int)] e)).cell? ((⟨wr.heap.size, 0, none⟩ : Addr).add j) = some u := by
  intro j u hj
  match j, hj with
  | 0, hj => simp at hj; subst hj; simp [Addr.add]
 have hl2 : l.length + 1 <= maxLen := by unfold maxLen; omega
 refine wpList_plain hgd fun K hK => ?_
 obtain ⟨v', w', hr, h2, h3, h4⟩ := run_append_own (P := P) (wr.alloc (.cells #[.int .u8 (y.toNat : Int)] e)) B t o.type e i (.int .u8 0) 1 1 ht hi hz hsz hb rfl (by decide) v l.length (l.map byteV) (hown.row.alloc _) ⟨wr.heap.size, 0, none⟩ 1 1 [.int .u8 (y.toNat : Int)] rfl hnews
  (by intro u hu; simp at hu; subst hu; rfl) hl2 (by omega) (by simp; omega)
 have hf := append_grew ht hi hz hsz hb (hown.row.alloc (.cells #[.int .u8 (y.toNat : Int)] e)) ⟨wr.heap.size, 0, none⟩ 1 (.int .u8 (y.toNat : Int)) hcell rfl hl2 (by omega) hr
 have hg : wr.grownBy w' v.ownBlock :=
  ⟨h3.os, h3.tape, h3.output, Nat.le_trans (by simp) h3.size, fun k hk hne => (h3.block k (by simp; omega) hne).trans (Below.heap_alloc wr _ k hk)⟩
 have hf' : Grew wr w' v v' := by
  rcases hf with hf | ⟨g, hf1, hf2, hf3⟩
  ·exact .inl hf
  ·exact .inr ⟨g, hf1, by simp at hf2; omega, fun k hk => (hf3 k (by simp; omega)).trans (Below.heap_alloc wr _ k hk)⟩
 unfold Oper.wp execOp
 simp only [ho, resolve, invoke, builtin, Sem.run_bind, Sem.run_pure, Result.andThen_ok, List.map_toArray, List.map_cons, List.map_nil, hs, hx, hr]
 exact hK _ _ (h v' w' ⟨by rw [List.length_append, List.length_singleton, List.map_append]; exact h2⟩ hg hf')

theorem wpList_append_grew' {P : Program} {wr : World} {ops : Array Oper} {rest : List Oper} {o : Oper} {a : Act} {Q : Exit -> Act -> World -> Prop} (hgd : o.guard = none)
  (s x : Operand) (t : TypeId) (ho : o.op = .call { callee := .builtin .append, args := #[s, x], argTypes := #[t, t] })
  (B e : Nat) (ht : P.underlying t = some (.slice e)) (hinfo : (P.info? e).map (fun i => (i.zero, i.size, i.bytes)) = some (some (.int .u8 0), 1, 1))
  (v : Value) (l : List UInt8) (y : UInt8) (yv : Value)
  (hs : a.eval s = v) (hx : a.eval x = .slice (some ⟨wr.heap.size, 0, none⟩) 1 1) (hyv : yv = .int .u8 (y.toNat : Int)) (hown : OwnBytes wr B e v l)
  (hlen : l.length + 1 <= 140737488355328) (hbase : B <= wr.heap.size)
  (h : ∀ v' w', OwnBytes w' B e v' (l ++ [y]) -> wr.grownBy w' v.ownBlock -> Grew wr w' v v' -> wpList P ops Q rest (a.put o.dst v') w') :
  wpList P ops Q (o :: rest) a (wr.alloc (.cells #[yv] e)) := by
 subst hyv
 exact wpList_append_grew hgd s x t ho B e ht hinfo v l y hs hx hown hlen hbase h

theorem OwnBytes.slice {w : World} {B T n c : Nat} {p : Option Addr} {l : List UInt8} (h : OwnBytes w B T (.slice p n c) l) : l.length = n ∧ BytesIn w p n c l := by
 obtain ⟨a, c', e, hb⟩ := h.bytes
 simp only [Value.slice.injEq] at e
 obtain ⟨rfl, rfl, rfl⟩ := e
 exact ⟨rfl, hb⟩

structure Lent (w : World) (b : Nat) (L : List UInt8) : Prop where
 ex : ∃ fz : Nat × Nat, w.heap[b]? = some (.cells (L.map byteV).toArray 5 fz) ∧ (fz.2 = 0 ∨ L.length <= fz.1)

theorem Lent.lt {w : World} {b : Nat} {L : List UInt8} (h : Lent w b L) : b < w.heap.size := by
 obtain ⟨fz, h1, _⟩ := h.ex
 exact (gl h1)
theorem Lent.of_block {w w' : World} {b : Nat} {L : List UInt8} (h : Lent w b L) (e : w'.heap[b]? = w.heap[b]?) : Lent w' b L := by
 obtain ⟨fz, h1, h2⟩ := h.ex
 exact ⟨fz, e.trans h1, h2⟩
theorem Lent.below {w w' : World} {b : Nat} {L : List UInt8} (h : Lent w b L) (hb : Below w.heap.size w w') : Lent w' b L := h.of_block (hb.block b h.lt)
theorem Lent.cell {w : World} {b : Nat} {L : List UInt8} (h : Lent w b L) (i : Nat) (hi : i < L.length) : w.cell? ⟨b, i, none⟩ = some (.int .u8 (L.getD i 0).toNat) := by
 obtain ⟨fz, h1, _⟩ := h.ex
 simp only [World.cell?, h1, Option.isSome_none, Bool.false_eq_true, if_false]
 simp [byteV, List.getD_eq_getElem?_getD, hi]
theorem Lent.frozen {w : World} {b : Nat} {L : List UInt8} (h : Lent w b L) (i : Nat) (hi : i < L.length) : w.frozen? ⟨b, i, none⟩ = false := by
 obtain ⟨fz, h1, h2⟩ := h.ex
 simp only [World.frozen?, h1]
 rcases h2 with h2 | h2
 ·simp [h2]
 ·have : ¬ fz.1 <= i := by omega
  simp [this]
theorem Lent.set {w : World} {b : Nat} {L : List UInt8} (h : Lent w b L) (i : Nat) (x : UInt8) : Lent (w.setCell ⟨b, i, none⟩ (.int .u8 (x.toNat : Int))) b (L.set i x) := by
 obtain ⟨fz, h1, h2⟩ := h.ex
 refine ⟨fz, ?_, by rw [List.length_set]; exact h2⟩
 rw [Go.Joins.block_setCell h1]
 congr 2
 simp [byteV]
theorem Lent.setCells {b : Nat} : ∀ (cs L : List UInt8) (off : Nat) (w : World), Lent w b L -> off + cs.length <= L.length -> Lent (w.setCells b off (cs.map byteV)) b (L.take off ++ (cs ++ L.drop (off + cs.length)))
 | [], L, off, w, h, hl => by simpa [World.setCells] using h
 | c :: cs, L, off, w, h, hl => by
  have h1 := Lent.setCells cs (L.set off c) (off + 1) (w.setCell ⟨b, off, none⟩ (byteV c)) (h.set off c) (by rw [List.length_set]; simp at hl; omega)
  have e : (L.set off c).take (off + 1) ++ (cs ++ (L.set off c).drop (off + 1 + cs.length)) = L.take off ++ (c :: cs ++ L.drop (off + (c :: cs).length)) := by
   have hlo : off < L.length := by simp at hl; omega
   rw [List.take_set, List.take_succ_eq_append_getElem hlo, List.set_append_right _ _ (by simp; omega)]
   have : off - (L.take off).length = 0 := by simp; omega
   rw [this, List.drop_set_of_lt (by omega)]
   simp [Nat.add_assoc, Nat.add_comm 1]
  rw [e] at h1
  exact h1
theorem Lent.bytes {w : World} {b : Nat} {L : List UInt8} (h : Lent w b L) (off n c : Nat) (hn : off + n <= L.length) (hc : n <= c) (hm : c <= maxLen) : BytesIn w (some ⟨b, off, none⟩) n c ((L.drop off).take n) := by
 refine ⟨by rw [List.length_take, List.length_drop]; omega, hc, hm, fun _ => ⟨b, off, rfl, h.lt, fun i hi => ?_⟩⟩
 rw [h.cell (off + i) (by omega)]
 simp only [List.getD_eq_getElem?_getD, List.getElem?_take, if_pos hi, List.getElem?_drop]

theorem setCells_other (b : Nat) : ∀ (cs : List Value) (off : Nat) (w : World) (k : Nat), k ≠ b -> (w.setCells b off cs).heap[k]? = w.heap[k]?
 | [], _, _, _, _ => rfl
 | v :: cs, off, w, k, h => by
  show ((w.setCell ⟨b, off, none⟩ v).setCells b (off + 1) cs).heap[k]? = _
  rw [setCells_other b cs (off + 1) _ k h]
  exact heap_setCell_other w ⟨b, off, none⟩ k v h
theorem setCells_below (B b : Nat) (hB : B <= b) : ∀ (cs : List Value) (off : Nat) (w : World), Below B w (w.setCells b off cs)
 | [], _, w => Below.refl _ _
 | v :: cs, off, w => ((Below.refl B w).setCell hB v).trans (setCells_below B b hB cs (off + 1) _)
theorem setCells_size (b : Nat) : ∀ (cs : List Value) (off : Nat) (w : World), (w.setCells b off cs).heap.size = w.heap.size
 | [], _, _ => rfl
 | v :: cs, off, w => by
  show ((w.setCell ⟨b, off, none⟩ v).setCells b (off + 1) cs).heap.size = _
  rw [setCells_size b cs (off + 1)]
  simp

theorem setCell_grown (w : World) (b j : Nat) (v : Value) : w.grownBy (w.setCell ⟨b, j, none⟩ v) (some b) :=
 ⟨rfl, rfl, rfl, by simp [World.setCell], fun k hk hne => by
  have : b ≠ k := fun h => hne (by rw [h])
  simp [World.setCell, Array.getElem?_modify, this]⟩

theorem OwnBytes.off {w : World} {B T b : Nat} {v : Value} {l : List UInt8} (h : OwnBytes w B T v l) (hb : b < B) : v.ownBlock = none ∨ v.ownBlock ≠ some b := by
 cases hv : v.ownBlock with
 | none => exact .inl rfl
 | some g =>
  refine .inr (fun he => ?_)
  simp only [Option.some.injEq] at he
  have := (h.row.lt g hv).1
  omega

theorem grown_trans {w w1 w2 : World} {row : Option Nat} (h1 : w.grownBy w1 row) (h2 : w1.grownBy w2 row) : w.grownBy w2 row :=
 ⟨h2.os.trans h1.os, h2.tape.trans h1.tape, h2.output.trans h1.output, Nat.le_trans h1.size h2.size, fun k hk hne => (h2.block k (Nat.lt_of_lt_of_le hk h1.size) hne).trans (h1.block k hk hne)⟩
set_option linter.all false
set_option maxHeartbeats 40000000
set_option maxRecDepth 20000

theorem wpList_copy_lent2 {P : Program} {w : World} {ops : Array Oper} {rest : List Oper} {o : Oper} {a : Act} {Q : Exit -> Act -> World -> Prop} (hgd : o.guard = none) (d s : Operand) (dT : TypeId)
  (ho : o.op = .call { callee := .builtin .copy, args := #[d, s], argTypes := #[dT, dT] }) (hu : P.underlying dT = some (.slice 5)) (hinfo : (P.info? 5).map (fun i => (i.zero, i.size, i.bytes)) = some (some (.int .u8 0), 1, 1))
  (sp : Option Addr) (dn n dCap sCap : Nat) (hdn : n <= dn) (b : Nat) (hd : a.eval d = .slice (some ⟨b, 0, none⟩) dn dCap) (hs : a.eval s = .slice sp n sCap)
  (L src : List UInt8) (hb : Lent w b L) (hsrc : BytesIn w sp n sCap src) (hfit : n <= L.length)
  (h : ∀ w', Lent w' b (src ++ L.drop n) -> Below b w w' -> w'.heap.size = w.heap.size -> (∀ k, k ≠ b -> w'.heap[k]? = w.heap[k]?) -> wpList P ops Q rest (a.put o.dst (goInt (n : Int))) w') :
  wpList P ops Q (o :: rest) a w := by
 obtain ⟨i, hi, hzz⟩ := Option.map_eq_some_iff.1 hinfo
 simp only [Prod.mk.injEq] at hzz
 have hsz : (P.info? 5).map (·.size) = some 1 := by rw [hi]; simp [hzz.2.1]
 have hl := hsrc.len
 refine wpList_plain hgd fun K hK => ?_
 by_cases h0 : n = 0
 ·subst h0
  have hrun := run_copy_none (P := P) w dT dT o.type 5 (some ⟨b, 0, none⟩) sp dn dCap 0 sCap hu hsz (by simp)
  obtain rfl : src = [] := List.eq_nil_of_length_eq_zero hl
  have := h w (by simpa using hb) (Below.refl _ _) rfl (fun _ _ => rfl)
  unfold Oper.wp
  simp [execOp, ho, resolve, invoke, builtin, hd, hs, hrun, Result.andThen]
  exact hK _ _ this
 ·obtain ⟨sb, so, rfl, hsb, hcell⟩ := hsrc.at_ (by have := hsrc.le; omega)
  have hrun := run_copy_cells (P := P) w dT dT o.type 5 b 0 dn dCap ⟨sb, so, none⟩ n sCap (src.map byteV) hu hsz (by rw [List.length_map, hl]; exact (Nat.min_eq_left hdn).symm) (by
   intro j v hj
   have hadd : (⟨sb, so, none⟩ : Addr).add j = ⟨sb, so + j, none⟩ := by unfold Addr.add; split <;> simp_all
   have hjl : j < n := by
    have := (List.getElem?_eq_some_iff.1 hj).1
    rw [List.length_map, hl] at this
    exact this
   rw [hadd, hcell j hjl, ← hj, List.getElem?_map, List.getD_eq_getElem?_getD, List.getElem?_eq_getElem (by omega)]
   simp [byteV]) (by
   intro j hj
   rw [List.length_map, hl] at hj
   rw [Nat.zero_add, hb.cell j (by omega)]
   rfl) (by
   intro j hj
   rw [List.length_map, hl] at hj
   rw [Nat.zero_add]
   exact hb.frozen j (by omega)) (by
   intro v hv
   obtain ⟨x, _, rfl⟩ := List.mem_map.1 hv
   rfl)
  rw [List.length_map, hl] at hrun
  have hnew := Lent.setCells src L 0 w hb (by omega)
  rw [Nat.zero_add, hl, List.take_zero, List.nil_append] at hnew
  unfold Oper.wp
  simp only [execOp, ho, resolve, invoke, builtin, Sem.run_bind, Sem.run_pure, Result.andThen_ok, List.map_toArray, List.map_cons, List.map_nil, hd, hs, hrun]
  exact hK _ _ (h _ hnew (setCells_below b b (Nat.le_refl _) _ _ _) (setCells_size _ _ _ _) (fun k hk => setCells_other _ _ _ _ k hk))

def markB : List UInt8 := [200, 201, 202, 203, 204, 205, 206, 207, 208]
theorem markB_getD (k : Nat) (h : k < 9) : markB.getD k 0 = UInt8.ofNat (200 + k) := by
 match k, h with
 | 0, _ => rfl
 | 1, _ => rfl
 | 2, _ => rfl
 | 3, _ => rfl
 | 4, _ => rfl
 | 5, _ => rfl
 | 6, _ => rfl
 | 7, _ => rfl
 | 8, _ => rfl
theorem markB_toNat (k : Nat) (h : k < 9) : ((markB.getD k 0).toNat : Int) = 200 + (k : Int) := by
 rw [markB_getD k h]
 simp only [UInt8.toNat_ofNat']
 omega
def lentTo (l : List UInt8) (k : Nat) : List UInt8 := l ++ (markB.take k ++ List.replicate (9 - k) 0)
theorem lentTo_length (l : List UInt8) (k : Nat) (h : k <= 9) : (lentTo l k).length = l.length + 9 := by
 simp only [lentTo, List.length_append, List.length_take, List.length_replicate, show markB.length = 9 from rfl]
 omega
theorem lentTo_set (l : List UInt8) (k : Nat) (h : k < 9) : (lentTo l k).set (l.length + k) (UInt8.ofNat (200 + k)) = lentTo l (k + 1) := by
 unfold lentTo
 rw [List.set_append_right _ _ (by omega)]
 congr 1
 rw [show l.length + k - l.length = k by omega]
 match k, h with
 | 0, _ => rfl
 | 1, _ => rfl
 | 2, _ => rfl
 | 3, _ => rfl
 | 4, _ => rfl
 | 5, _ => rfl
 | 6, _ => rfl
 | 7, _ => rfl
 | 8, _ => rfl
theorem lentTo_all (l : List UInt8) : lentTo l 9 = l ++ markB := by simp [lentTo, markB]

def LbOut (w : World) (l : List UInt8) (e : Ending) (w' : World) : Prop :=
 e = .returned (.slice (some ⟨w.heap.size, 0, none⟩) l.length (l.length + 9)) ∧ Below w.heap.size w w' ∧ w'.heap.size = w.heap.size + 1 ∧ Lent w' w.heap.size (l ++ markB)

theorem lentB_any (w : World) (a : Option Addr) (n c : Nat) (l : List UInt8) (h : BytesIn w a n c l) (hz : n <= 1048576) :
  Calls prog 17 #[.slice a n c] w (LbOut w l) := by
 have hl := h.len
 have hcap := h.cap
 have hle := h.le
 unfold maxLen at hcap
 have hmk := run_make_row' (P := prog) 28 5 (.int .u8 0) 1 underlying28 info_u8 rfl .i64 .i64 (n + 9) (by omega) (by omega) w
 have a0 : (w.alloc (.cells (madeCells #[.int .u8 0] (n + 9)) 5)).heap[w.heap.size]? = some (.cells (madeCells #[.int .u8 0] (n + 9)) 5 (0, 0)) := heap_alloc_new _ _
 have hmc : madeCells #[.int .u8 0] (n + 9) = ((List.replicate (n + 9) (0 : UInt8)).map byteV).toArray := by
  apply Array.ext
  ·simp [size_madeCells]
  ·intro i h1 h2
   simp [madeCells, Nat.mod_one, byteV]
 have hL0 : Lent (w.alloc (.cells (madeCells #[.int .u8 0] (n + 9)) 5)) w.heap.size (List.replicate (n + 9) 0) := ⟨(0, 0), by rw [a0, hmc], .inl rfl⟩
 have hb1 : Below w.heap.size w (w.alloc (.cells (madeCells #[.int .u8 0] (n + 9)) 5)) := (Below.refl _ w).alloc (Nat.le_refl _) _
 have hz1 : (w.alloc (.cells (madeCells #[.int .u8 0] (n + 9)) 5)).heap.size = w.heap.size + 1 := by simp
 have hs1 := h.below hb1
 obtain ⟨g, hg⟩ : ∃ g, w.heap.size = g := ⟨_, rfl⟩
 unfold LbOut
 rw [hg] at hL0 hb1 hz1 hmk ⊢
 rw [hl]
 generalize (w.alloc (.cells (madeCells #[.int .u8 0] (n + 9)) 5)) = w1 at *
 generalize madeCells #[.int .u8 0] (n + 9) = mc at *
 have HL0 := zH hL0
 have HB1 := zH hb1
 have HS1 := zH hs1
 have HG := zH hg
 have HZ := zH hz1
 have HL := zH hl
 have hmk' : (Instr.makeSlice 28 (.int .i64 ((n : Int) + 9)) (.int .i64 ((n : Int) + 9))).run prog w = .ok (.slice (some ⟨g, 0, none⟩) (n + 9) (n + 9)) w1 := hmk
 clear hL0 hb1 hs1 h a0 hmc hmk hg hz1 hl
 go_enter func17, ntmps17
 go_upto_region 2 with fail
 go_wp2_with (refine wpList_copy_lent2 rfl (.tmp 9) (.tmp 10) 28 rfl underlying28 info_u8 a (n + 9) n (n + 9) c (by omega) g rfl rfl (List.replicate (n + 9) 0) l HL0.out HS1.out (by simp) ?_)
 intro w2 hl2 hb2 hz2 hk2
 have hl2' : Lent w2 g (lentTo l 0) := by
  have e : lentTo l 0 = l ++ [0, 0, 0, 0, 0, 0, 0, 0, 0] := by simp [lentTo]
  rw [e]
  first
   | exact hl2
   | simpa [show n + 9 - n = 9 by omega] using hl2
 have HL2 := zH hl2'
 have HB2 := zH (HB1.out.trans hb2)
 have HZ2 := zH (hz2.trans HZ.out)
 clear hl2 hb2 hz2 hk2 hl2' hmk' HL0 HB1 HS1 HZ
 go_wp2_with fail
 go_loopw [4] (fun i wr => ∃ k : Nat, k <= 9 ∧ i = .int .i64 ((n : Int) + (k : Int)) ∧ Lent wr g (lentTo l k) ∧ Below g w wr ∧ wr.heap.size = g + 1) (fun i _ => n + 9 - (intOf i).toNat)
 case atStart => exact ⟨0, by omega, by simp, HL2.out, HB2.out, HZ2.out⟩
 obtain ⟨k, hk, rfl, hL, hB, hZ⟩ := hrel
 by_cases hlt : k < 9
 ·have hln : (n : Int) + (k : Int) < (n : Int) + 9 := by omega
  have hn0 : ¬ (n : Int) + (k : Int) < 0 := by omega
  have hcl := hL.cell (n + k) (by rw [lentTo_length l k hk, HL.out]; omega)
  have hfz := hL.frozen (n + k) (by rw [lentTo_length l k hk, HL.out]; omega)
  have hs := hL.set (n + k) (UInt8.ofNat (200 + k))
  have hset := lentTo_set l k hlt
  rw [HL.out] at hset
  rw [hset] at hs
  have e200 : ((UInt8.ofNat (200 + k)).toNat : Int) = 200 + (k : Int) := by rw [← markB_getD k hlt]; exact markB_toNat k hlt
  rw [e200] at hs
  have HS := zH hs
  have HBn := zH (hB.setCell (p := ⟨g, n + k, none⟩) (Nat.le_refl _) (.int .u8 (200 + (k : Int))))
  have HZn := zH hZ
  clear hL hs hset e200 hB hZ HL2 HB2 HZ2
  go_wp2_with fail
  rw [show (200 + ((n : Int) + (k : Int)) - (n : Int)) = 200 + (k : Int) from by omega]
  go_roundw
  case rel => exact ⟨k + 1, by omega, by congr 1, HS.out, HBn.out, by simpa using HZn.out⟩
  case measure => simp [intOf]; omega
 obtain rfl : k = 9 := by omega
 rw [lentTo_all] at hL
 have HLL := zH hL
 have HBB := zH hB
 have HZZ := zH hZ
 have hn9 : ¬ (n : Int) + 9 < (n : Int) + 9 := by omega
 clear hL hB hZ HL2 HB2 HZ2
 go_wp2_with fail
 go_ret
 exact ⟨rfl, HBB.out, HZZ.out, HLL.out⟩
theorem asLentB_any (w : World) (g n c : Nat) (l : List UInt8) (a : Option Addr) (hg : Lent w g (l ++ markB)) (h : BytesIn w a n c l) (hz : n <= 1048576) :
  Calls prog 21 #[.slice (some ⟨g, 0, none⟩) n (n + 9), .slice a n c] w fun e w' => e = .returned (.bool true) ∧ w.grownBy w' (some g) ∧ w'.heap.size = w.heap.size := by
 have hcc := h.cap
 have hcl := h.le
 unfold maxLen at hcc
 have hrl := h.len
 have hll : (l ++ markB).length = n + 9 := by rw [List.length_append, hrl]; rfl
 have hall := hg.bytes 0 n (n + 9) (by omega) (by omega) (by unfold maxLen; omega)
 rw [List.drop_zero, List.take_left' hrl] at hall
 have v1 := run_string_bytes (P := prog) w 28 9 5 underlying28 underlying5 underlying9 _ _ _ _ hall
 have v2 := run_string_bytes (P := prog) w 28 9 5 underlying28 underlying5 underlying9 _ _ _ _ h
 have HG := zH hg
 have HLL := zH hll
 have HRL := zH hrl
 clear h hall hg hll hrl
 go_enter func21, ntmps21
 go_wp2_with fail
 go_loopw [6, 7] (fun s6 s7 wr => ∃ (k : Nat) (L' : List UInt8), k <= n + 9 ∧ s6 = .bool true ∧ s7 = .int .i64 k ∧ Lent wr g L' ∧ L'.length = n + 9 ∧ (∀ j, k <= j -> L'.getD j 0 = (l ++ markB).getD j 0) ∧ w.grownBy wr (some g) ∧ wr.heap.size = w.heap.size) (fun _ s7 _ => n + 9 - (intOf s7).toNat)
 case atStart => exact ⟨0, _, by omega, by first | rfl | simp, rfl, HG.out, HLL.out, fun j _ => rfl, ⟨rfl, rfl, rfl, Nat.le_refl _, fun _ _ _ => rfl⟩, rfl⟩
 obtain ⟨k, L', hk, rfl, rfl, hl, hll, hsame, hgr, hzz⟩ := hrel
 by_cases hlt : k < n + 9
 ·have hc := hl.cell k (by omega)
  have hf := hl.frozen k (by omega)
  have hs := hl.set k 77
  have hs' : Lent (wr.setCell ⟨g, k, none⟩ (.int .u8 77)) g (L'.set k 77) := hs
  have hgr2 : w.grownBy (wr.setCell ⟨g, k, none⟩ (.int .u8 77)) (some g) := grown_trans hgr (setCell_grown wr g k _)
  have hkv := hsame k (Nat.le_refl _)
  have hsm : ∀ j, k + 1 <= j -> (L'.set k 77).getD j 0 = (l ++ markB).getD j 0 := fun j hj => by
   rw [List.getD_eq_getElem?_getD, List.getElem?_set_ne (by omega), ← List.getD_eq_getElem?_getD]
   exact hsame j (by omega)
  have HS := zH hs'
  have HGR := zH hgr2
  have HSM := zH hsm
  have HZ := zH hzz
  have HL' := zH hll
  have hklt : (k : Int) < (n : Int) + 9 := by omega
  rw [hkv] at hc
  by_cases hkn : k < n
  ·have hkn' : ¬ (n : Int) <= (k : Int) := by omega
   have hkd : decide ((n : Int) <= (k : Int)) = false := by simpa using hkn
   obtain ⟨y, hy⟩ : ∃ y, (((l ++ markB).getD k 0).toNat : Int) = y := ⟨_, rfl⟩
   rw [hy] at hc
   clear hl hs hs' hgr hgr2 hkv hsame hsm hll hy hzz v1 v2
   go_wp2_with fail
   go_roundw
   case rel => exact ⟨k + 1, _, by omega, rfl, by go_num, HS.out, by rw [List.length_set]; exact HL'.out, HSM.out, HGR.out, by simpa using HZ.out⟩
   case measure => simp [intOf]; omega
  ·obtain ⟨m, rfl⟩ : ∃ m, k = n + m := ⟨k - n, by omega⟩
   have hm : m < 9 := by omega
   have ev : (((l ++ markB).getD (n + m) 0).toNat : Int) = 200 + (m : Int) := by
    rw [← HRL.out, List.getD_eq_getElem?_getD, List.getElem?_append_right (by omega), show l.length + m - l.length = m by omega, ← List.getD_eq_getElem?_getD]
    exact markB_toNat m hm
   rw [ev] at hc
   have hkn' : (n : Int) <= ((n + m : Nat) : Int) := by omega
   clear hl hs hs' hgr hgr2 hkv hsame hsm hll ev hzz v1 v2
   go_wp2_with fail
   go_roundw
   case rel => exact ⟨n + m + 1, _, by omega, rfl, by go_num, HS.out, by rw [List.length_set]; exact HL'.out, HSM.out, HGR.out, by simpa using HZ.out⟩
   case measure => simp [intOf]; omega
 obtain rfl : k = n + 9 := by omega
 have HGR := zH hgr
 have HZ := zH hzz
 clear hl hgr hsame hll hzz v1 v2
 go_wp2_with fail
 go_ret
 exact ⟨rfl, HGR.out, HZ.out⟩

attribute [local go_sem] Oper.semAt_some

def turnR (l : List UInt8) : List UInt8 := l.reverse.map fun x => x ^^^ 1
theorem turnR_len (l : List UInt8) : (turnR l).length = l.length := by unfold turnR; rw [List.length_map, List.length_reverse]
theorem xor1_all : ∀ i : Fin 256, bits BinOp.xor IntKind.u8 (i.val : Int) 1 = (((UInt8.ofNat i.val ^^^ 1).toNat : Nat) : Int) := by decide +kernel
theorem xor1_u8 (y : UInt8) : bits BinOp.xor IntKind.u8 (y.toNat : Int) 1 = (((y ^^^ 1).toNat : Nat) : Int) := by
 have := xor1_all ⟨y.toNat, y.toNat_lt⟩
 simpa using this
theorem turnR_take (l : List UInt8) (k j : Nat) (h : j + k + 1 = l.length) : (turnR l).take (k + 1) = (turnR l).take k ++ [l.getD j 0 ^^^ 1] := by
 have hl : k < (turnR l).length := by rw [turnR_len]; omega
 rw [take_succ_getD _ _ hl]
 congr 2
 unfold turnR
 rw [List.getD_eq_getElem?_getD, List.getElem?_map, List.getElem?_reverse (by omega), show l.length - 1 - k = j by omega, List.getElem?_eq_getElem (by omega), List.getD_eq_getElem?_getD, List.getElem?_eq_getElem (by omega)]
 rfl
theorem turnedB_any (w : World) (a : Option Addr) (n c : Nat) (l : List UInt8) (h : BytesIn w a n c l) (hn : n <= 1048576) :
  Calls prog 19 #[.slice a n c] w fun e w' => ∃ v, e = .returned v ∧ OwnBytes w' w.heap.size 5 v (turnR l) ∧ Below w.heap.size w w' := by
 have hle := h.le
 have hcap := h.cap
 unfold maxLen at hcap
 have HH := zH h
 have HL := zH h.len
 have hn9 : (n : Int) <= 1048576 := by omega
 clear h
 go_enter func19, ntmps19
 go_wp2_with fail
 go_loopw [3, 4] (fun s3 s4 wr => ∃ (k : Nat) (i : Int), s4 = .int .i64 i ∧ Hid (i + k + 1 = n) ∧ -1 <= i ∧ i <= 1048576 ∧ OwnBytes wr w.heap.size 5 s3 ((turnR l).take k) ∧ Below w.heap.size w wr) (fun _ s4 _ => (intOf s4 + 1).toNat)
 case atStart => exact ⟨0, (n : Int) - 1, by go_num, zH (by omega), by omega, by omega, OwnBytes.nil _ _ _, Below.refl _ _⟩
 obtain ⟨k, i, rfl, HK, hi1, hi2, ho, hB⟩ := hrel
 by_cases hlt : 0 <= i
 ·obtain ⟨j, rfl⟩ : ∃ j : Nat, i = (j : Nat) := ⟨i.toNat, by omega⟩
  have hjn : (j : Int) < n := by have := HK.out; omega
  have h1 := HH.out.below hB
  obtain ⟨b, o, rfl, _, hc⟩ := h1.at_ (by omega)
  have hck := hc j (by omega)
  obtain ⟨y, hy⟩ : ∃ y, l.getD j 0 = y := ⟨_, rfl⟩
  rw [hy] at hck
  have hs := turnR_take l k j (by rw [HL.out]; have := HK.out; omega)
  rw [hy] at hs
  have HS := zH hs
  have HLO := zH (show ((turnR l).take k).length = k by rw [List.length_take, turnR_len, HL.out]; have := HK.out; omega)
  have HKB := zH (show k <= 1048576 by have := HK.out; omega)
  have hbs := hB.size
  clear h1 hc hy hs
  go_wp2_with (at_builtin; refine wpList_append_grew' rfl (.tmp 12) (.tmp 18) 28 rfl w.heap.size 5 underlying28 info_u8 _ ((turnR l).take k) (y ^^^ 1) _ rfl rfl ?hyv ho ?hlen ?hbase ?_)
  case hyv => rw [xor1_u8]
  case hlen => rw [HLO.out]; have := HKB.out; omega
  case hbase => exact hbs
  intro v' w' ho' hg' hf'
  have ho2 : OwnBytes w' w.heap.size 5 v' ((turnR l).take (k + 1)) := by rw [HS.out]; exact ho'
  have HO2 := zH ho2
  have hB2 := hB.grown hg' hB.size (fun k hk => (ho.row.lt k hk).1)
  clear ho2 ho' hg' hf' ho
  go_wp2_with fail
  go_roundw
  case rel => exact ⟨k + 1, (j : Int) - 1, by go_num, zH (by have := HK.out; omega), by omega, by omega, HO2.out, hB2⟩
  case measure => simp [intOf] <;> omega
 obtain rfl : i = -1 := by omega
 rw [List.take_of_length_le (by rw [turnR_len, HL.out]; have := HK.out; omega)] at ho
 have HO := zH ho
 clear ho
 go_wp2_with fail
 go_ret
 exact ⟨_, rfl, HO.out, hB⟩
theorem decoded_call (w : World) (x : V) (sx : Value) (hx : VIn w x sx) (pl ec : Int) (b : Value) (at_ : Int) (v : V) (tt f : Int)
  (hcal : ∀ W, Below w.heap.size w W -> Calls prog 40 #[b, .int .i64 at_] W fun e w' => RTo W (v, tt, f) e w') :
  Calls prog 20 #[.agg #[.int .i64 x.kind, .int .u64 x.num, .string x.text, sx, .int .i64 x.elem], .int .i64 pl, .int .i64 ec, b, .int .i64 at_] w fun e w' => e = .returned (.bool (decide (x = v) && (pl == tt && ec == f))) ∧ Below w.heap.size w w' := by
 obtain ⟨ps, cs, hs, _, _⟩ := hx.slice
 subst hs
 have HC := zH hcal
 have HX := zH hx
 obtain ⟨D, hD⟩ : ∃ D, (decide (x = v) && (pl == tt && ec == f)) = D := ⟨_, rfl⟩
 rw [hD]
 have HD := zH hD
 clear hcal hx hD
 go_enter func20, ntmps20
 go_upto_region 1 with fail
 have hb0 : Below w.heap.size w (w.alloc (.cells #[.int .i64 x.kind, .int .u64 x.num, .string x.text, .slice ps x.list.length cs, .int .i64 x.elem] 25)) := (Below.refl _ _).alloc (Nat.le_refl _) _
 have ox := zN w (.cells #[.int .i64 x.kind, .int .u64 x.num, .string x.text, .slice ps x.list.length cs, .int .i64 x.elem] 25)
 generalize (w.alloc (.cells #[.int .i64 x.kind, .int .u64 x.num, .string x.text, .slice ps x.list.length cs, .int .i64 x.elem] 25)) = w0 at *
 obtain ⟨y, hy⟩ : ∃ y, w.heap.size = y := ⟨_, rfl⟩
 rw [hy] at ox ⊢
 have HB0 := zH (And.intro hb0 (And.intro hy ox))
 clear hb0 ox hy
 go_wp2_with fail
 refine (HC.out w0 HB0.out.1).mono ?_
 rintro e w1 ⟨sv, Fv, rfl, hvv, hb1⟩
 try dsimp only at hvv ⊢
 obtain ⟨qs, ds, hst, _, _⟩ := hvv.slice
 subst hst
 go_upto_region 2 with (refine stV (.tmp 11) (.tmp 19) rfl rfl rfl rfl rfl (zN w1 _) rfl ?_)
 refine layW w1 ?_
 intro w2 hb2 ou
 obtain ⟨u, hu⟩ : ∃ u, w1.heap.size = u := ⟨_, rfl⟩
 rw [hu] at ou ⊢
 have hB2 := HB0.out.1.trans (hb1.mono HB0.out.1.size)
 have hB3 := hB2.trans (hb2.mono hB2.size)
 have oy2 : w2.heap[y]? = some (.cells #[.int .i64 x.kind, .int .u64 x.num, .string x.text, .slice ps x.list.length cs, .int .i64 x.elem] 25 (0, 0)) := (hb2.block y (Nat.lt_of_lt_of_le (gl HB0.out.2.2) hb1.size)).trans ((hb1.block y (gl HB0.out.2.2)).trans HB0.out.2.2)
 have HE := zH (requal_any x w2 _ v _ (HX.out.blw hB3) (hvv.vin.blw hb2))
 have HB3 := zH (And.intro hB3 (And.intro oy2 ou))
 clear hb1 hb2 ou hu hB2 hB3 oy2 hvv
 obtain ⟨x0, x1, x2, x3, x4⟩ := c5 HB3.out.2.1
 obtain ⟨u0, u1, u2, u3, u4⟩ := c5 HB3.out.2.2
 go_wp2_with fail
 refine HE.out.mono ?_
 rintro e w3 ⟨rfl, hb3⟩
 have HB4 := zH (HB3.out.1.trans (hb3.mono HB3.out.1.size))
 clear hb3 x0 x1 x2 x3 x4 u0 u1 u2 u3 u4
 generalize decide (x = v) = z1 at *
 obtain ⟨z2, hz2⟩ : ∃ z2, (pl == tt) = z2 := ⟨_, rfl⟩
 obtain ⟨z3, hz3⟩ : ∃ z3, (ec == f) = z3 := ⟨_, rfl⟩
 rw [hz2, hz3] at HD
 cases z1 with
 | false =>
  have hd : D = false := by rw [← HD.out]; rfl
  subst hd
  clear hz2 hz3
  go_wp2_with fail
  go_ret
  exact ⟨rfl, HB4.out⟩
 | true =>
  cases z2 with
  | false =>
   have hd : D = false := by rw [← HD.out]; rfl
   subst hd
   clear hz3
   go_wp2_with fail
   go_ret
   exact ⟨rfl, HB4.out⟩
  | true =>
   have hd : D = z3 := by rw [← HD.out]; rfl
   subst hd
   go_wp2_with fail
   go_ret
   exact ⟨by simp [hz3], HB4.out⟩
theorem decoded_any (w : World) (x : V) (sx : Value) (hx : VIn w x sx) (pl ec : Int) (p : Option Addr) (n cp : Nat) (B : List UInt8) (hB : BytesIn w p n cp B) (hT : Tabs w) (hn : n <= 140737488355328) (at_ : Int) (hA : (x, pl, ec) = decS B at_) :
  Calls prog 20 #[.agg #[.int .i64 x.kind, .int .u64 x.num, .string x.text, sx, .int .i64 x.elem], .int .i64 pl, .int .i64 ec, .slice p n cp, .int .i64 at_] w fun e w' => e = .returned (.bool true) ∧ Below w.heap.size w w' := by
 have q := decoded_call w x sx hx pl ec (.slice p n cp) at_ x pl ec (fun W hW => by
  have r := rdecode_any W p n cp B (hB.below hW) (hT.below hW) hn at_
  rw [← hA] at r
  exact r)
 rw [show (decide (x = x) && (pl == pl && ec == ec)) = true by simp] at q
 exact q

structure RvD where
 lo : Nat
 hi : Nat
 z : Nat
 v : V
 p : Option Addr
 c : Nat
 F : Nat -> Prop
def RvD.cells (r : RvD) : Array Value := #[.int .i64 r.v.kind, .int .u64 r.v.num, .string r.v.text, .slice r.p r.v.list.length r.c, .int .i64 r.v.elem]
structure Rv (w : World) (r : RvD) : Prop where
 row : w.heap[r.z]? = some (.cells r.cells 25 (0, 0))
 vo : VO w r.lo r.v (.slice r.p r.v.list.length r.c) r.F
 hlo : r.lo <= r.z
 hz : r.z < r.hi
 hF : ∀ b, r.F b -> b < r.hi
 hhi : r.hi <= w.heap.size
structure Se (w W : World) (lo0 : Nat) (rs : List RvD) : Prop where
 blw : Below w.heap.size w W
 el : ∀ r ∈ rs, Rv W r ∧ lo0 <= r.lo
 ch : rs.Pairwise (fun a b => a.hi <= b.lo)
section
variable {w W W' w1 : World} {lo0 : Nat} {rs : List RvD}
theorem Rv.keep {r : RvD} (h : Rv W r) (lo0 : Nat) (hl : lo0 <= r.lo) (hk : ∀ b, lo0 <= b -> b < W.heap.size -> W'.heap[b]? = W.heap[b]?) (hs : W.heap.size <= W'.heap.size) : Rv W' r :=
 ⟨(hk r.z (by have := h.hlo; omega) (by have := h.hz; have := h.hhi; omega)).trans h.row, h.vo.keep (fun b hb => hk b (by have := (h.vo.lt b hb).1; omega) (h.vo.lt b hb).2), h.hlo, h.hz, h.hF, by have := h.hhi; omega⟩
theorem Se.keep (h : Se w W lo0 rs) (hb : Below w.heap.size w W') (hk : ∀ b, lo0 <= b -> b < W.heap.size -> W'.heap[b]? = W.heap[b]?) (hs : W.heap.size <= W'.heap.size) : Se w W' lo0 rs :=
 ⟨hb, fun r hr => ⟨(h.el r hr).1.keep lo0 (h.el r hr).2 hk hs, (h.el r hr).2⟩, h.ch⟩
theorem Se.below (h : Se w W lo0 rs) (hb : Below W.heap.size W W') : Se w W' lo0 rs :=
 h.keep (h.blw.trans (hb.mono h.blw.size)) (fun b _ hlt => hb.block b hlt) hb.size
theorem Se.grown (h : Se w W lo0 rs) {g : Nat} (hg : W.grownBy W' (some g)) (hw : w.heap.size <= g) (hl : g < lo0) : Se w W' lo0 rs :=
 h.keep (h.blw.grown hg h.blw.size (fun k hk => by cases hk; exact hw)) (fun b hb hlt => hg.block b hlt (fun e => by cases e; omega)) hg.size
theorem Se.add (h : Se w W lo0 rs) (hl : lo0 <= W.heap.size) {v : V} {p : Option Addr} {c : Nat} {F : Nat -> Prop} (hv : VO w1 W.heap.size v (.slice p v.list.length c) F) (hb : Below W.heap.size W w1) :
  Se w ((w1.alloc (.cells zR 25)).setRow w1.heap.size (RvD.cells ⟨W.heap.size, w1.heap.size + 1, w1.heap.size, v, p, c, F⟩)) lo0 (rs ++ [⟨W.heap.size, w1.heap.size + 1, w1.heap.size, v, p, c, F⟩]) := by
 have hb2 : Below w1.heap.size w1 ((w1.alloc (.cells zR 25)).setRow w1.heap.size (RvD.cells ⟨W.heap.size, w1.heap.size + 1, w1.heap.size, v, p, c, F⟩)) := below_setRow ((Below.refl _ _).alloc (Nat.le_refl _) _) (Nat.le_refl _) _
 have hs := (h.below hb).below hb2
 refine ⟨hs.blw, fun r hr => ?_, ?_⟩
 ·rcases List.mem_append.1 hr with q | q
  ·exact hs.el r q
  ·simp only [List.mem_singleton] at q
   subst q
   exact ⟨⟨setRow_heap _ _ _ _ _ _ (zN w1 _), hv.blw hb2, hb.size, Nat.lt_succ_self _, fun b q => Nat.lt_succ_of_lt (hv.lt b q).2, by simp⟩, hl⟩
 ·rw [List.pairwise_append]
  exact ⟨h.ch, by simp, fun a ha b q => by simp only [List.mem_singleton] at q; subst q; exact (h.el a ha).1.hhi⟩
end
theorem VO.five {w : World} {B g : Nat} {a b c d e : V} {s1 s2 s3 s4 s5 : Value} {F1 F2 F3 F4 F5 : Nat -> Prop}
  (hg : w.heap[g]? = some (.cells (vcells a s1 ++ (vcells b s2 ++ (vcells c s3 ++ (vcells d s4 ++ (vcells e s5 ++ []))))).toArray 25 (0, 0)))
  (h1 : VO w B a s1 F1) (h2 : VO w B b s2 F2) (h3 : VO w B c s3 F3) (h4 : VO w B d s4 F4) (h5 : VO w B e s5 F5)
  (hd : ∀ i j, i < 5 -> j < 5 -> i ≠ j -> ∀ x, ([F1, F2, F3, F4, F5].getD i (fun _ => False)) x -> ¬ ([F1, F2, F3, F4, F5].getD j (fun _ => False)) x)
  (hn : ∀ i, i < 5 -> ¬ ([F1, F2, F3, F4, F5].getD i (fun _ => False)) g) (hB : B <= g) :
  VO w B (.mk 0 0 ⟨#[]⟩ [a, b, c, d, e] 0) (.slice (some ⟨g, 0, none⟩) 5 5) (fun j => j = g ∨ F1 j ∨ F2 j ∨ F3 j ∨ F4 j ∨ F5 j) := by
 have hl : (V.mk 0 0 ⟨#[]⟩ [a, b, c, d, e] 0).list = [a, b, c, d, e] := rfl
 have hwf : (V.mk 0 0 ⟨#[]⟩ [] 0).Wf := zero_wf
 refine .mk _ _ _ (fun i => [s1, s2, s3, s4, s5].getD i undef) (fun i => [F1, F2, F3, F4, F5].getD i (fun _ => False)) ⟨hwf.k, hwf.n, hwf.t, hwf.e⟩ ?_ ?_ ?_ ?_ ?_
 ·exact ⟨rfl, .inr ⟨g, 5, _, rfl, hB, hg, Nat.le_refl _, by unfold maxLen; omega, rfl, rfl⟩⟩
 ·intro i hi
  rw [hl] at hi
  match i, hi with
  | 0, _ => exact h1
  | 1, _ => exact h2
  | 2, _ => exact h3
  | 3, _ => exact h4
  | 4, _ => exact h5
 ·intro i j hi hj hij x hx hy
  rw [hl] at hi hj
  exact hd i j hi hj hij x hx hy
 ·intro g' hgs i hi hx
  rw [hl] at hi
  have e : g' = g := by simpa [Value.ownBlock] using hgs.symm
  subst e
  exact hn i hi hx
 ·intro x
  constructor
  ·rintro (q | q | q | q | q | q)
   ·exact .inl (by rw [q]; rfl)
   ·exact .inr ⟨0, by rw [hl]; simp, q⟩
   ·exact .inr ⟨1, by rw [hl]; simp, q⟩
   ·exact .inr ⟨2, by rw [hl]; simp, q⟩
   ·exact .inr ⟨3, by rw [hl]; simp, q⟩
   ·exact .inr ⟨4, by rw [hl]; simp, q⟩
  ·rintro (q | ⟨i, hi, q⟩)
   ·exact .inl (by simpa [Value.ownBlock] using q.symm)
   ·rw [hl] at hi
    match i, hi with
    | 0, _ => exact .inr (.inl q)
    | 1, _ => exact .inr (.inr (.inl q))
    | 2, _ => exact .inr (.inr (.inr (.inl q)))
    | 3, _ => exact .inr (.inr (.inr (.inr (.inl q))))
    | 4, _ => exact .inr (.inr (.inr (.inr (.inr q))))
theorem Se.five {w W : World} {lo0 : Nat} {r1 r2 r3 r4 r5 : RvD} (h : Se w W lo0 [r1, r2, r3, r4, r5]) {g : Nat} (hg : W.heap.size = g) {W' : World} (hb : Below W.heap.size W W')
  (hrow : W'.heap[g]? = some (.cells (r1.cells.toList ++ (r2.cells.toList ++ (r3.cells.toList ++ (r4.cells.toList ++ (r5.cells.toList ++ []))))).toArray 25 (0, 0))) (hl : lo0 <= g) :
  VO W' lo0 (.mk 0 0 ⟨#[]⟩ [r1.v, r2.v, r3.v, r4.v, r5.v] 0) (.slice (some ⟨g, 0, none⟩) 5 5) (fun j => j = g ∨ r1.F j ∨ r2.F j ∨ r3.F j ∨ r4.F j ∨ r5.F j) := by
 have hs := h.below hb
 have q1 := h.el r1 (by simp)
 have q2 := h.el r2 (by simp)
 have q3 := h.el r3 (by simp)
 have q4 := h.el r4 (by simp)
 have q5 := h.el r5 (by simp)
 have p1 := hs.el r1 (by simp)
 have p2 := hs.el r2 (by simp)
 have p3 := hs.el r3 (by simp)
 have p4 := hs.el r4 (by simp)
 have p5 := hs.el r5 (by simp)
 have hch := h.ch
 simp only [List.pairwise_cons, List.mem_cons, List.not_mem_nil, or_false, forall_eq_or_imp, forall_eq, List.Pairwise.nil, and_true, false_imp_iff, implies_true] at hch
 have key : ∀ i, i < 5 -> ∃ r ∈ [r1, r2, r3, r4, r5], ([r1.F, r2.F, r3.F, r4.F, r5.F].getD i (fun _ => False)) = r.F := by
  intro i hi
  match i, hi with
  | 0, _ => exact ⟨r1, by simp, rfl⟩
  | 1, _ => exact ⟨r2, by simp, rfl⟩
  | 2, _ => exact ⟨r3, by simp, rfl⟩
  | 3, _ => exact ⟨r4, by simp, rfl⟩
  | 4, _ => exact ⟨r5, by simp, rfl⟩
 have z1 := q1.1.hlo
 have z2 := q2.1.hlo
 have z3 := q3.1.hlo
 have z4 := q4.1.hlo
 have z5 := q5.1.hlo
 have y1 := q1.1.hz
 have y2 := q2.1.hz
 have y3 := q3.1.hz
 have y4 := q4.1.hz
 have y5 := q5.1.hz
 refine VO.five hrow (p1.1.vo.mono p1.2) (p2.1.vo.mono p2.2) (p3.1.vo.mono p3.2) (p4.1.vo.mono p4.2) (p5.1.vo.mono p5.2) ?_ ?_ hl
 ·intro i j hi hj hij x hx hy
  have b : ∀ k, k < 5 -> ([r1.F, r2.F, r3.F, r4.F, r5.F].getD k (fun _ => False)) x -> ([r1.lo, r2.lo, r3.lo, r4.lo, r5.lo].getD k 0) <= x ∧ x < ([r1.hi, r2.hi, r3.hi, r4.hi, r5.hi].getD k 0) := by
   intro k hk q
   match k, hk with
   | 0, _ => exact ⟨(q1.1.vo.lt x q).1, q1.1.hF x q⟩
   | 1, _ => exact ⟨(q2.1.vo.lt x q).1, q2.1.hF x q⟩
   | 2, _ => exact ⟨(q3.1.vo.lt x q).1, q3.1.hF x q⟩
   | 3, _ => exact ⟨(q4.1.vo.lt x q).1, q4.1.hF x q⟩
   | 4, _ => exact ⟨(q5.1.vo.lt x q).1, q5.1.hF x q⟩
  have b1 := b i hi hx
  have b2 := b j hj hy
  have hij2 : i = 0 ∨ i = 1 ∨ i = 2 ∨ i = 3 ∨ i = 4 := by omega
  have hjj2 : j = 0 ∨ j = 1 ∨ j = 2 ∨ j = 3 ∨ j = 4 := by omega
  rcases hij2 with rfl | rfl | rfl | rfl | rfl <;> rcases hjj2 with rfl | rfl | rfl | rfl | rfl <;> simp at b1 b2 hij <;> omega
 ·intro i hi q
  obtain ⟨r, hr, e⟩ := key i hi
  rw [e] at q
  have := ((h.el r hr).1.vo.lt g q).2
  omega
end Go.Proofs.YtnnnfhobbnjmfaaGreatDoor
