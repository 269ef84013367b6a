/-
  open: a link on which deliveries came, and of which both sides said something. Conditions: the lists lie in memory, they are not too great.
-/
import Derived.Test.YtcbjfakkikjbkaaKz
namespace Go.Proofs.Ytcbjfakkikjbkaa
open Go.RowKit Go.Maps
set_option linter.all false

theorem counts_cases (l : Lk) (tag : ByteArray) (b : Bool) : (∃ n, n ≠ 0 ∧ l.counts tag b = (l, n)) ∨ l.counts tag b = ({ l.goes 1 with wait := max 0 (l.wait - 1), all := if b = true then l.all else l.all ++ [(tag, zE)] }, 0) := by
  unfold Lk.counts
  by_cases h1 : tag.size = 0 ∨ 32 < tag.size
  · exact .inl ⟨122, by decide, if_pos h1⟩
  · rw [if_neg h1]
    by_cases h2 : (if l.rc = true then l.count = l.bound else l.credit = 0)
    · exact .inl ⟨140, by decide, if_pos h2⟩
    · rw [if_neg h2]
      by_cases h3 : tag ∈ tagsL l.all
      · exact .inl ⟨142, by decide, if_pos h3⟩
      · rw [if_neg h3]
        by_cases h4 : (b = true ∧ l.snd = 0) ∨ (b = false ∧ l.snd = 1)
        · exact .inl ⟨141, by decide, if_pos h4⟩
        · exact .inr (if_neg h4)
theorem counts_zero {l : Lk} {tag : ByteArray} (h : (l.counts tag false).2 = 0) : (l.counts tag false).1.rc = l.rc ∧ tag ∈ tagsL (l.counts tag false).1.all ∧ (l.counts tag false).1.all.length = l.all.length + 1 := by
  rcases counts_cases l tag false with ⟨n, hn, e⟩ | e
  · rw [e] at h; exact absurd h hn
  · rw [e]; exact ⟨rfl, by simp [tagsL], by simp⟩
theorem counts_other {l : Lk} {tag : ByteArray} (h : (l.counts tag false).2 ≠ 0) : (l.counts tag false).1 = l := by
  rcases counts_cases l tag false with ⟨n, hn, e⟩ | e
  · rw [e]
  · rw [e] at h; exact absurd rfl h
theorem entSet_len (a : List (ByteArray × Ent)) (k : ByteArray) (e : Ent) : (entSet a k e).length = a.length := by simp [entSet]
theorem own_rc {l : Lk} {tag : ByteArray} {s : St} (t : Sl) (h : tag ∈ tagsL l.all) : (l.ownL tag s false t).2 = 0 ∧ (l.ownL tag s false t).1.rc = l.rc ∧ (l.ownL tag s false t).1.all.length = l.all.length := by
  unfold Lk.ownL
  rw [if_neg (fun q => q h), if_neg (by simp), if_neg (by simp)]
  split
  · exact ⟨rfl, rfl, rfl⟩
  · exact ⟨rfl, rfl, by simp [entSet]⟩
theorem peer_rc {l : Lk} {tag : ByteArray} {s : St} (t : Sl) : (l.peerL tag s false t).1.rc = l.rc ∧ (l.peerL tag s false t).1.all.length = l.all.length := by
  unfold Lk.peerL
  split
  · exact ⟨rfl, rfl⟩
  · rw [if_neg (by simp), if_neg (by simp)]
    split
    · exact ⟨rfl, rfl⟩
    · exact ⟨rfl, by simp [entSet]⟩
/-- a link under way -/
structure OpS (w wr : World) (q m : Nat) (G : Nat → Prop) (l : Lk) (rc : Bool) (k : Nat) : Prop where
  lk : LkIn wr q m G l
  rc_ : l.rc = rc
  len : l.all.length ≤ k
  lq : w.heap.size ≤ q
  lm : w.heap.size ≤ m
  lg : ∀ b, G b → w.heap.size ≤ b
  blw : Below w.heap.size w wr
def OpenTo (w : World) (rc : Bool) (k : Nat) (e : Ending) (w' : World) : Prop := ∃ q m G l, e = .returned (.pointer (some ⟨q, 0, none⟩)) ∧ OpS w w' q m G l rc k
theorem OpS.mv {w wr w' : World} {q m : Nat} {G G' : Nat → Prop} {l l' : Lk} {rc : Bool} {k k' : Nat} (h : OpS w wr q m G l rc k) (h1 : LkIn w' q m G' l') (h2 : l'.rc = l.rc) (h3 : l'.all.length ≤ k') (h4 : ∀ b, G' b → G b ∨ wr.heap.size ≤ b) (h5 : LMv q m wr w') : OpS w w' q m G' l' rc k' :=
  ⟨h1, h2.trans h.rc_, h3, h.lq, h.lm, fun b hb => by
    rcases h4 b hb with q | q
    · exact h.lg b q
    · have := h.blw.size; omega, h.blw.trans (h5.below h.lq h.lm h.blw.size)⟩

set_option maxRecDepth 20000 in
set_option maxHeartbeats 16000000 in
theorem open_any (w : World) (rc : Bool) (p1 : Option Addr) (n1 c1 : Nat) (L1 : List Un) (p2 : Option Addr) (n2 c2 : Nat) (L2 : List Un) (h1 : UsIn w p1 n1 c1 L1) (h2 : UsIn w p2 n2 c2 L2) (k1 : Ok14 L1) (k2 : Ok14 L2) :
    Calls Try.prog 6 #[.bool rc, .slice p1 n1 c1, .slice p2 n2 c2] w (OpenTo w rc n1) := by
  have HU1 := Lib.hid (And.intro h1 k1)
  have HU2 := Lib.hid (And.intro h2 k2)
  have hle1 := h1.le
  have hle2 := h2.le
  have hcap1 := h1.cap
  have hcap2 := h2.cap
  have hp1 := h1.ptr
  have hp2 := h2.ptr
  have hn1 : n1 ≤ 100000 := by have := k1.1; have := h1.len; omega
  have HL1 := Lib.hid h1.len
  have HL2 := Lib.hid h2.len
  unfold maxLen at hcap1 hcap2
  clear h1 h2 k1 k2
  have hcfg : CfgOk ⟨#[]⟩ 2 0 0 0 := ⟨by decide, ⟨by omega, by omega⟩, ⟨by omega, by omega⟩, ⟨by omega, by omega⟩, ⟨by omega, by omega⟩⟩
  have HNEW := Lib.hid (new_ok w ⟨#[]⟩ rc 2 0 0 0 hcfg)
  clear hcfg
  go_enter Try.func6, Try.ntmps6
  go_wp2_with fail
  refine HNEW.out.mono ?_
  rintro e w1 ⟨q, m, hq, hm, rfl, hl1, hb1⟩
  cases rc
  · have hc := flow_sender w1 q m _ _ (perfC 19 0 0 0 2147483647 0 false) 0 2147483647 0 false hl1 rfl (perf_is _ _ _ _ _ _ _) ⟨by omega, by omega⟩ ⟨by omega, by omega⟩
    have HC := Lib.hid hc
    clear hc
    go_wp2_with (refine wpList_buildTo rfl 38 _ rfl (some 20) rfl (perfC 19 0 0 0 2147483647 0 false) (by kernel_rfl) ?_)
    refine HC.out.mono ?_
    rintro e w2 ⟨rfl, hl2, hm2⟩
    have h0 : OpS w w1 q m (fun _ => False) (newL ⟨#[]⟩ false 2 0 0 0) false 0 := ⟨hl1, rfl, Nat.zero_le _, hq, hm, fun b h => h.elim, hb1⟩
    have HINIT := Lib.hid (h0.mv (k' := 0) hl2 (by first | rfl | (unfold Lk.granted; split <;> rfl)) (by first | exact Nat.zero_le _ | (unfold Lk.granted; split <;> exact Nat.zero_le _)) (fun b h => .inl h) hm2)
    clear h0 hl1 hb1 hq hm hl2 hm2 HC
    go_wp2_with fail
    go_loopw [8, 9] (fun v8 v9 wr => ∃ (k : Nat) (G : Nat → Prop) (l : Lk), k ≤ n1 ∧ v9 = .int .i64 k ∧ OpS w wr q m G l false k) (fun _ v9 _ => n1 - (intOf v9).toNat)
    case atStart => exact ⟨0, _, _, Nat.zero_le _, rfl, HINIT.out⟩
    case round =>
      obtain ⟨k, G, l, hkn, rfl, hst⟩ := hrel
      have ST := Lib.hid hst
      clear hst
      by_cases hlt : (k : Int) < n1
      · have HLT := Lib.hid (show k < n1 by omega)
        have ka : k < L1.length := by rw [HL1.out]; omega
        obtain ⟨b1, o1, rfl⟩ := hp1 (by omega)
        obtain ⟨b, o, tk, ee, htk0, hik⟩ := HU1.out.1.at_ ka
        simp only [Option.some.injEq, Addr.mk.injEq, and_true] at ee
        obtain ⟨rfl, rfl⟩ := ee
        have hfw := HU1.out.2.2 _ (List.getElem_mem ka)
        obtain ⟨yk, hyk⟩ : ∃ yk, L1[k]'ka = yk := ⟨_, rfl⟩
        simp only [hyk] at htk0 hik hfw
        have HIK := Lib.hid (And.intro hik (And.intro hfw htk0))
        have HCW := Lib.hid (show ∀ V : World, Below w.heap.size w V → V.cell? ⟨b1, o1 + k * 20, none⟩ = some (.string yk.tag) from fun V hV => bs_cellV hV (by have := htk0 0 (.string yk.tag) rfl; rwa [Nat.add_zero] at this))
        have HRW := Lib.hid (show ∀ V : World, Below w.heap.size w V → V.rangeAt b1 (o1 + k * 20 + 1) (scells yk.st tk) from fun V hV j v hv => by
          have := bs_cellV hV (htk0 (1 + j) v (ucells_get yk tk j v hv))
          rwa [← Nat.add_assoc] at this)
        clear htk0 hik hfw hyk ka

        have c0 := HCW.out wr ST.out.blw
        have hct : l.send yk.tag false = l.counts yk.tag false := by unfold Lk.send; rw [ST.out.rc_]; rfl
        have hg := send_any wr q m G l yk.tag false ST.out.lk HIK.out.1.tag (by have := ST.out.len; unfold maxLen; omega)
        rw [hct] at hg
        have HG := Lib.hid hg
        clear hg hct
        go_wp2_with fail
        refine HG.out.mono ?_
        rintro e w3 ⟨rfl, hl3, hm3⟩
        by_cases hz : (l.counts yk.tag false).2 = 0
        · have hcz := counts_zero hz
          rw [hz]
          have ST3 := Lib.hid (ST.out.mv (k' := k + 1) hl3 hcz.1 (by have := ST.out.len; have := hcz.2.2; omega) (fun b h => .inl h) hm3)
          have HTG := Lib.hid hcz.2.1
          generalize (l.counts yk.tag false).1 = l3 at *
          clear hz hcz hl3 hm3 c0
          go_upto_region 17 with fail
          obtain ⟨S, hSd⟩ : ∃ S : Array Bool → World → Prop, ∀ L V, S L V ↔ (V.cell? ⟨b1, o1 + k * 20, none⟩ = some (.string yk.tag) ∧ V.rangeAt b1 (o1 + k * 20 + 1) (scells yk.st tk)) := ⟨_, fun _ _ => Iff.rfl⟩
          have HSD := Lib.hid hSd
          clear hSd
          refine wp_region_T S 13 rfl (by kernel_rfl) ?_
          have hS : ∀ L : Array Bool, S L w3.drew := fun L => (HSD.out _ _).2 ⟨HCW.out w3 ST3.out.blw, HRW.out w3 ST3.out.blw⟩
          refine takeT (i := 0) (v := .pointer (some ⟨q, 0, none⟩)) (some 47) [] rfl rfl (by kernel_rfl) (by kernel_rfl) (by kernel_rfl) (by kernel_rfl) (by kernel_rfl) (fun _ _ _ h => h) (fun m W _ _ h => (HSD.out _ _).2 ((HSD.out _ _).1 h)) (Or.inl ⟨by rfl, by rintro V ⟨m, hm, h9⟩; have h0 := (HSD.out _ _).1 h9; go_simp⟩) (hS _) ?_
          try simp only [Act.put, List.setIfInBounds_toArray, List.set_cons_zero, List.set_cons_succ]
          refine takeT (i := 1) (v := .slice (some ⟨b1, o1, none⟩) n1 c1) (some 48) [] rfl rfl (by kernel_rfl) (by kernel_rfl) (by kernel_rfl) (by kernel_rfl) (by kernel_rfl) (fun _ _ _ h => h) (fun m W _ _ h => (HSD.out _ _).2 ((HSD.out _ _).1 h)) (Or.inl ⟨by rfl, by rintro V ⟨m, hm, h9⟩; have h0 := (HSD.out _ _).1 h9; go_simp⟩) (hS _) ?_
          try simp only [Act.put, List.setIfInBounds_toArray, List.set_cons_zero, List.set_cons_succ]
          refine takeT (i := 2) (v := .int .i64 k) (some 49) [] rfl rfl (by kernel_rfl) (by kernel_rfl) (by kernel_rfl) (by kernel_rfl) (by kernel_rfl) (fun _ _ _ h => h) (fun m W _ _ h => (HSD.out _ _).2 ((HSD.out _ _).1 h)) (Or.inl ⟨by rfl, by rintro V ⟨m, hm, h9⟩; have h0 := (HSD.out _ _).1 h9; go_simp⟩) (hS _) ?_
          try simp only [Act.put, List.setIfInBounds_toArray, List.set_cons_zero, List.set_cons_succ]
          refine takeT (i := 3) (v := .pointer (some ⟨b1, o1 + k * 20, none⟩)) (some 50) [] rfl rfl (by kernel_rfl) (by kernel_rfl) (by kernel_rfl) (by kernel_rfl) (by kernel_rfl) (fun _ _ _ h => h) (fun m W _ _ h => (HSD.out _ _).2 ((HSD.out _ _).1 h)) (Or.inl ⟨by rfl, by rintro V ⟨m, hm, h9⟩; have h0 := (HSD.out _ _).1 h9; go_simp⟩) (hS _) ?_
          try simp only [Act.put, List.setIfInBounds_toArray, List.set_cons_zero, List.set_cons_succ]
          refine takeT (i := 4) (v := .pointer (some ⟨b1, o1 + k * 20, none⟩)) (some 51) [] rfl rfl (by kernel_rfl) (by kernel_rfl) (by kernel_rfl) (by kernel_rfl) (by kernel_rfl) (fun _ _ _ h => h) (fun m W _ _ h => (HSD.out _ _).2 ((HSD.out _ _).1 h)) (Or.inl ⟨by rfl, by rintro V ⟨m, hm, h9⟩; have h0 := (HSD.out _ _).1 h9; go_simp⟩) (hS _) ?_
          try simp only [Act.put, List.setIfInBounds_toArray, List.set_cons_zero, List.set_cons_succ]
          refine takeT (i := 5) (v := .string yk.tag) (some 52) [] rfl rfl (by kernel_rfl) (by kernel_rfl) (by kernel_rfl) (by kernel_rfl) (by kernel_rfl) (fun _ _ _ h => h) (fun m W _ _ h => (HSD.out _ _).2 ((HSD.out _ _).1 h)) (Or.inl ⟨by rfl, by rintro V ⟨m', hm, h9⟩; have h0 : V.cell? ⟨b1, o1 + k * 20, none⟩ = some (.string yk.tag) := ((HSD.out _ _).1 h9).1; go_simp⟩) (hS _) ?_
          try simp only [Act.put, List.setIfInBounds_toArray, List.set_cons_zero, List.set_cons_succ]
          refine takeT (i := 6) (v := .slice (some ⟨b1, o1, none⟩) n1 c1) (some 53) [] rfl rfl (by kernel_rfl) (by kernel_rfl) (by kernel_rfl) (by kernel_rfl) (by kernel_rfl) (fun _ _ _ h => h) (fun m W _ _ h => (HSD.out _ _).2 ((HSD.out _ _).1 h)) (Or.inl ⟨by rfl, by rintro V ⟨m, hm, h9⟩; have h0 := (HSD.out _ _).1 h9; go_simp⟩) (hS _) ?_
          try simp only [Act.put, List.setIfInBounds_toArray, List.set_cons_zero, List.set_cons_succ]
          refine takeT (i := 7) (v := .int .i64 k) (some 54) [] rfl rfl (by kernel_rfl) (by kernel_rfl) (by kernel_rfl) (by kernel_rfl) (by kernel_rfl) (fun _ _ _ h => h) (fun m W _ _ h => (HSD.out _ _).2 ((HSD.out _ _).1 h)) (Or.inl ⟨by rfl, by rintro V ⟨m, hm, h9⟩; have h0 := (HSD.out _ _).1 h9; go_simp⟩) (hS _) ?_
          try simp only [Act.put, List.setIfInBounds_toArray, List.set_cons_zero, List.set_cons_succ]
          refine takeT (i := 8) (v := .pointer (some ⟨b1, o1 + k * 20, none⟩)) (some 55) [] rfl rfl (by kernel_rfl) (by kernel_rfl) (by kernel_rfl) (by kernel_rfl) (by kernel_rfl) (fun _ _ _ h => h) (fun m W _ _ h => (HSD.out _ _).2 ((HSD.out _ _).1 h)) (Or.inl ⟨by rfl, by rintro V ⟨m, hm, h9⟩; have h0 := (HSD.out _ _).1 h9; go_simp⟩) (hS _) ?_
          try simp only [Act.put, List.setIfInBounds_toArray, List.set_cons_zero, List.set_cons_succ]
          refine takeT (i := 9) (v := .pointer (some ⟨b1, o1 + k * 20 + 1, none⟩)) (some 56) [] rfl rfl (by kernel_rfl) (by kernel_rfl) (by kernel_rfl) (by kernel_rfl) (by kernel_rfl) (fun _ _ _ h => h) (fun m W _ _ h => (HSD.out _ _).2 ((HSD.out _ _).1 h)) (Or.inl ⟨by rfl, by rintro V ⟨m, hm, h9⟩; have h0 := (HSD.out _ _).1 h9; go_simp⟩) (hS _) ?_
          try simp only [Act.put, List.setIfInBounds_toArray, List.set_cons_zero, List.set_cons_succ]
          refine takeT (i := 10) (v := .agg (sarr yk.st tk)) (some 57) [] rfl rfl (by kernel_rfl) (by kernel_rfl) (by kernel_rfl) (by kernel_rfl) (by kernel_rfl) (fun _ _ _ h => h) (fun m W _ _ h => (HSD.out _ _).2 ((HSD.out _ _).1 h)) (yieldsIf_load_mid (by rfl) 33 _ rfl b1 (o1 + k * 20 + 1) rfl (scells yk.st tk) _ (fun V h => by obtain ⟨m', _, h9⟩ := h; exact ((HSD.out _ _).1 h9).2) Try.underlying33 rfl size_state) (hS _) ?_
          try simp only [Act.put, List.setIfInBounds_toArray, List.set_cons_zero, List.set_cons_succ]

          refine wpAnyT_all (rs := [11]) (by kernel_rfl) (by simp) ?_
          intro i5 hi5
          simp only [List.mem_cons, List.not_mem_nil, or_false] at hi5
          subst hi5
          refine stepT (i := 11) rfl (by rfl) (fun K5 h5 => ?_)

          go_simp
          (with_reducible refine (own_any w3.drew q m G l3 yk.tag yk.st tk false (ST3.out.lk.blw (bdrew (Below.refl _ _))) HIK.out.1.tag (by have := ST3.out.len; unfold maxLen; omega) (HIK.out.1.st.blw (bdrew ST3.out.blw)) HIK.out.2.1.1 (by have := HIK.out.2.1.2; omega)).mono ?_)
          rintro e w4 ⟨t4, G4, rfl, hl4, hg4, hm4⟩
          have hor := own_rc (s := yk.st) default HTG.out
          have hor4 := own_rc (s := yk.st) t4 HTG.out
          rw [hor.1]
          have ST4 := Lib.hid (ST3.out.mv (k' := k + 1) hl4 hor4.2.1 (Nat.le_trans (Nat.le_of_eq hor4.2.2) ST3.out.len) hg4 (LMv.trans (LMv.of_below (bdrew (Below.refl _ _))) hm4))
          refine h5.out _ _ ((HSD.out _ _).2 ⟨HCW.out w4 ST4.out.blw, HRW.out w4 ST4.out.blw⟩) ?_
          clear h5 hl4 hg4 hm4 hor hor4
          try simp only [Act.put, List.setIfInBounds_toArray, List.set_cons_zero, List.set_cons_succ]
          refine wpAnyT_all (rs := [12]) (by kernel_rfl) (by simp) ?_
          intro i5 hi5
          simp only [List.mem_cons, List.not_mem_nil, or_false] at hi5
          subst hi5
          refine stepT (i := 12) rfl (by rfl) (fun K5 h5 => ?_)

          go_simp
          refine h5.out _ _ ((HSD.out _ _).2 ⟨HCW.out w4 ST4.out.blw, HRW.out w4 ST4.out.blw⟩) ?_
          clear h5
          try simp only [Act.put, List.setIfInBounds_toArray, List.set_cons_zero, List.set_cons_succ]
          refine wpAnyT_done (by kernel_rfl) ?_ _
          clear hS
          go_wp2_with fail
          go_roundw
          case rel => exact ⟨k + 1, _, _, HLT.out, by go_num, ST4.out⟩
          case measure => simp [intOf]; omega
        · have hcn := counts_other hz
          rw [hcn] at hl3
          have ST3 := Lib.hid (ST.out.mv (k' := k + 1) hl3 rfl (by have := ST.out.len; omega) (fun b h => .inl h) hm3)
          obtain ⟨e3, he3⟩ : ∃ e3, (l.counts yk.tag false).2 = e3 := ⟨_, rfl⟩
          rw [he3] at hz ⊢
          have ez : (e3 == 0) = false := by simpa using hz
          clear hcn hl3 hm3 he3 c0 hz
          go_wp2_with fail
          go_roundw
          case rel => exact ⟨k + 1, _, _, HLT.out, by go_num, ST3.out⟩
          case measure => simp [intOf]; omega
      · have hkn2 : k = n1 := by omega
        subst hkn2
        go_wp2_with fail
        go_loopw [10] (fun v10 wr => ∃ (j : Nat) (G : Nat → Prop) (l : Lk), j ≤ n2 ∧ v10 = .int .i64 j ∧ OpS w wr q m G l false k) (fun v10 _ => n2 - (intOf v10).toNat)
        case atStart => exact ⟨0, _, _, Nat.zero_le _, rfl, ST.out⟩
        case round =>
          obtain ⟨j, G, l, hjn, rfl, hst⟩ := hrel
          have SQ := Lib.hid hst
          clear hst
          by_cases hlt : (j : Int) < n2
          · have HLT := Lib.hid (show j < n2 by omega)
            have ka : j < L2.length := by rw [HL2.out]; omega
            obtain ⟨b1, o1, rfl⟩ := hp2 (by omega)
            obtain ⟨b, o, tk, ee, htk0, hik⟩ := HU2.out.1.at_ ka
            simp only [Option.some.injEq, Addr.mk.injEq, and_true] at ee
            obtain ⟨rfl, rfl⟩ := ee
            have hfw := HU2.out.2.2 _ (List.getElem_mem ka)
            obtain ⟨yk, hyk⟩ : ∃ yk, L2[j]'ka = yk := ⟨_, rfl⟩
            simp only [hyk] at htk0 hik hfw
            have HIK := Lib.hid (And.intro hik (And.intro hfw htk0))
            have HCW := Lib.hid (show ∀ V : World, Below w.heap.size w V → V.cell? ⟨b1, o1 + j * 20, none⟩ = some (.string yk.tag) from fun V hV => bs_cellV hV (by have := htk0 0 (.string yk.tag) rfl; rwa [Nat.add_zero] at this))
            have HRW := Lib.hid (show ∀ V : World, Below w.heap.size w V → V.rangeAt b1 (o1 + j * 20 + 1) (scells yk.st tk) from fun V hV j v hv => by
              have := bs_cellV hV (htk0 (1 + j) v (ucells_get yk tk j v hv))
              rwa [← Nat.add_assoc] at this)
            clear htk0 hik hfw hyk ka

            go_upto_region 23 with fail
            obtain ⟨S, hSd⟩ : ∃ S : Array Bool → World → Prop, ∀ L V, S L V ↔ (V.cell? ⟨b1, o1 + j * 20, none⟩ = some (.string yk.tag) ∧ V.rangeAt b1 (o1 + j * 20 + 1) (scells yk.st tk)) := ⟨_, fun _ _ => Iff.rfl⟩
            have HSD := Lib.hid hSd
            clear hSd
            refine wp_region_T S 12 rfl (by kernel_rfl) ?_
            have hS : ∀ L : Array Bool, S L wr.drew := fun L => (HSD.out _ _).2 ⟨HCW.out wr SQ.out.blw, HRW.out wr SQ.out.blw⟩
            refine takeT (i := 0) (v := .pointer (some ⟨q, 0, none⟩)) (some 67) [] rfl rfl (by kernel_rfl) (by kernel_rfl) (by kernel_rfl) (by kernel_rfl) (by kernel_rfl) (fun _ _ _ h => h) (fun m W _ _ h => (HSD.out _ _).2 ((HSD.out _ _).1 h)) (Or.inl ⟨by rfl, by rintro V ⟨m, hm, h9⟩; have h0 := (HSD.out _ _).1 h9; go_simp⟩) (hS _) ?_
            try simp only [Act.put, List.setIfInBounds_toArray, List.set_cons_zero, List.set_cons_succ]
            refine takeT (i := 1) (v := .slice (some ⟨b1, o1, none⟩) n2 c2) (some 68) [] rfl rfl (by kernel_rfl) (by kernel_rfl) (by kernel_rfl) (by kernel_rfl) (by kernel_rfl) (fun _ _ _ h => h) (fun m W _ _ h => (HSD.out _ _).2 ((HSD.out _ _).1 h)) (Or.inl ⟨by rfl, by rintro V ⟨m, hm, h9⟩; have h0 := (HSD.out _ _).1 h9; go_simp⟩) (hS _) ?_
            try simp only [Act.put, List.setIfInBounds_toArray, List.set_cons_zero, List.set_cons_succ]
            refine takeT (i := 2) (v := .int .i64 j) (some 69) [] rfl rfl (by kernel_rfl) (by kernel_rfl) (by kernel_rfl) (by kernel_rfl) (by kernel_rfl) (fun _ _ _ h => h) (fun m W _ _ h => (HSD.out _ _).2 ((HSD.out _ _).1 h)) (Or.inl ⟨by rfl, by rintro V ⟨m, hm, h9⟩; have h0 := (HSD.out _ _).1 h9; go_simp⟩) (hS _) ?_
            try simp only [Act.put, List.setIfInBounds_toArray, List.set_cons_zero, List.set_cons_succ]
            refine takeT (i := 3) (v := .pointer (some ⟨b1, o1 + j * 20, none⟩)) (some 70) [] rfl rfl (by kernel_rfl) (by kernel_rfl) (by kernel_rfl) (by kernel_rfl) (by kernel_rfl) (fun _ _ _ h => h) (fun m W _ _ h => (HSD.out _ _).2 ((HSD.out _ _).1 h)) (Or.inl ⟨by rfl, by rintro V ⟨m, hm, h9⟩; have h0 := (HSD.out _ _).1 h9; go_simp⟩) (hS _) ?_
            try simp only [Act.put, List.setIfInBounds_toArray, List.set_cons_zero, List.set_cons_succ]
            refine takeT (i := 4) (v := .pointer (some ⟨b1, o1 + j * 20, none⟩)) (some 71) [] rfl rfl (by kernel_rfl) (by kernel_rfl) (by kernel_rfl) (by kernel_rfl) (by kernel_rfl) (fun _ _ _ h => h) (fun m W _ _ h => (HSD.out _ _).2 ((HSD.out _ _).1 h)) (Or.inl ⟨by rfl, by rintro V ⟨m, hm, h9⟩; have h0 := (HSD.out _ _).1 h9; go_simp⟩) (hS _) ?_
            try simp only [Act.put, List.setIfInBounds_toArray, List.set_cons_zero, List.set_cons_succ]
            refine takeT (i := 5) (v := .string yk.tag) (some 72) [] rfl rfl (by kernel_rfl) (by kernel_rfl) (by kernel_rfl) (by kernel_rfl) (by kernel_rfl) (fun _ _ _ h => h) (fun m W _ _ h => (HSD.out _ _).2 ((HSD.out _ _).1 h)) (Or.inl ⟨by rfl, by rintro V ⟨m', hm, h9⟩; have h0 : V.cell? ⟨b1, o1 + j * 20, none⟩ = some (.string yk.tag) := ((HSD.out _ _).1 h9).1; go_simp⟩) (hS _) ?_
            try simp only [Act.put, List.setIfInBounds_toArray, List.set_cons_zero, List.set_cons_succ]
            refine takeT (i := 6) (v := .slice (some ⟨b1, o1, none⟩) n2 c2) (some 73) [] rfl rfl (by kernel_rfl) (by kernel_rfl) (by kernel_rfl) (by kernel_rfl) (by kernel_rfl) (fun _ _ _ h => h) (fun m W _ _ h => (HSD.out _ _).2 ((HSD.out _ _).1 h)) (Or.inl ⟨by rfl, by rintro V ⟨m, hm, h9⟩; have h0 := (HSD.out _ _).1 h9; go_simp⟩) (hS _) ?_
            try simp only [Act.put, List.setIfInBounds_toArray, List.set_cons_zero, List.set_cons_succ]
            refine takeT (i := 7) (v := .int .i64 j) (some 74) [] rfl rfl (by kernel_rfl) (by kernel_rfl) (by kernel_rfl) (by kernel_rfl) (by kernel_rfl) (fun _ _ _ h => h) (fun m W _ _ h => (HSD.out _ _).2 ((HSD.out _ _).1 h)) (Or.inl ⟨by rfl, by rintro V ⟨m, hm, h9⟩; have h0 := (HSD.out _ _).1 h9; go_simp⟩) (hS _) ?_
            try simp only [Act.put, List.setIfInBounds_toArray, List.set_cons_zero, List.set_cons_succ]
            refine takeT (i := 8) (v := .pointer (some ⟨b1, o1 + j * 20, none⟩)) (some 75) [] rfl rfl (by kernel_rfl) (by kernel_rfl) (by kernel_rfl) (by kernel_rfl) (by kernel_rfl) (fun _ _ _ h => h) (fun m W _ _ h => (HSD.out _ _).2 ((HSD.out _ _).1 h)) (Or.inl ⟨by rfl, by rintro V ⟨m, hm, h9⟩; have h0 := (HSD.out _ _).1 h9; go_simp⟩) (hS _) ?_
            try simp only [Act.put, List.setIfInBounds_toArray, List.set_cons_zero, List.set_cons_succ]
            refine takeT (i := 9) (v := .pointer (some ⟨b1, o1 + j * 20 + 1, none⟩)) (some 76) [] rfl rfl (by kernel_rfl) (by kernel_rfl) (by kernel_rfl) (by kernel_rfl) (by kernel_rfl) (fun _ _ _ h => h) (fun m W _ _ h => (HSD.out _ _).2 ((HSD.out _ _).1 h)) (Or.inl ⟨by rfl, by rintro V ⟨m, hm, h9⟩; have h0 := (HSD.out _ _).1 h9; go_simp⟩) (hS _) ?_
            try simp only [Act.put, List.setIfInBounds_toArray, List.set_cons_zero, List.set_cons_succ]
            refine takeT (i := 10) (v := .agg (sarr yk.st tk)) (some 77) [] rfl rfl (by kernel_rfl) (by kernel_rfl) (by kernel_rfl) (by kernel_rfl) (by kernel_rfl) (fun _ _ _ h => h) (fun m W _ _ h => (HSD.out _ _).2 ((HSD.out _ _).1 h)) (yieldsIf_load_mid (by rfl) 33 _ rfl b1 (o1 + j * 20 + 1) rfl (scells yk.st tk) _ (fun V h => by obtain ⟨m', _, h9⟩ := h; exact ((HSD.out _ _).1 h9).2) Try.underlying33 rfl size_state) (hS _) ?_
            try simp only [Act.put, List.setIfInBounds_toArray, List.set_cons_zero, List.set_cons_succ]

            refine wpAnyT_all (rs := [11]) (by kernel_rfl) (by simp) ?_
            intro i5 hi5
            simp only [List.mem_cons, List.not_mem_nil, or_false] at hi5
            subst hi5
            refine stepT (i := 11) rfl (by rfl) (fun K5 h5 => ?_)

            go_simp
            (with_reducible refine (peer_any wr.drew q m G l yk.tag yk.st tk false (SQ.out.lk.blw (bdrew (Below.refl _ _))) HIK.out.1.tag (by have := SQ.out.len; unfold maxLen; omega) (HIK.out.1.st.blw (bdrew SQ.out.blw)) HIK.out.2.1.1 (by have := HIK.out.2.1.2; omega)).mono ?_)
            rintro e w4 ⟨t4, G4, rfl, hl4, hg4, hm4⟩
            have hpr := peer_rc (l := l) (tag := yk.tag) (s := yk.st) t4
            have ST4 := Lib.hid (SQ.out.mv (k' := k) hl4 hpr.1 (Nat.le_trans (Nat.le_of_eq hpr.2) SQ.out.len) hg4 (LMv.trans (LMv.of_below (bdrew (Below.refl _ _))) hm4))
            refine h5.out _ _ ((HSD.out _ _).2 ⟨HCW.out w4 ST4.out.blw, HRW.out w4 ST4.out.blw⟩) ?_
            clear h5 hl4 hg4 hm4 hpr
            try simp only [Act.put, List.setIfInBounds_toArray, List.set_cons_zero, List.set_cons_succ]
            refine wpAnyT_done (by kernel_rfl) ?_ _
            clear hS
            go_wp2_with fail
            go_roundw
            case rel => exact ⟨j + 1, _, _, HLT.out, by go_num, ST4.out⟩
            case measure => simp [intOf]; omega
          · go_wp2_with fail
            go_ret
            exact ⟨q, m, G, l, rfl, SQ.out⟩
  · have hc := grant_ok w1 q m _ _ 2147483647 false hl1 rfl ⟨by omega, by omega⟩
    have HC := Lib.hid hc
    clear hc
    go_wp2_with fail
    refine HC.out.mono ?_
    rintro e w2 ⟨rfl, hl2, hm2⟩
    have h0 : OpS w w1 q m (fun _ => False) (newL ⟨#[]⟩ true 2 0 0 0) true 0 := ⟨hl1, rfl, Nat.zero_le _, hq, hm, fun b h => h.elim, hb1⟩
    have HINIT := Lib.hid (h0.mv (k' := 0) hl2 (by first | rfl | (unfold Lk.granted; split <;> rfl)) (by first | exact Nat.zero_le _ | (unfold Lk.granted; split <;> exact Nat.zero_le _)) (fun b h => .inl h) hm2)
    clear h0 hl1 hb1 hq hm hl2 hm2 HC
    go_wp2_with fail
    go_loopw [8, 9] (fun v8 v9 wr => ∃ (k : Nat) (G : Nat → Prop) (l : Lk), k ≤ n1 ∧ v9 = .int .i64 k ∧ OpS w wr q m G l true k) (fun _ v9 _ => n1 - (intOf v9).toNat)
    case atStart => exact ⟨0, _, _, Nat.zero_le _, rfl, HINIT.out⟩
    case round =>
      obtain ⟨k, G, l, hkn, rfl, hst⟩ := hrel
      have ST := Lib.hid hst
      clear hst
      by_cases hlt : (k : Int) < n1
      · have HLT := Lib.hid (show k < n1 by omega)
        have ka : k < L1.length := by rw [HL1.out]; omega
        obtain ⟨b1, o1, rfl⟩ := hp1 (by omega)
        obtain ⟨b, o, tk, ee, htk0, hik⟩ := HU1.out.1.at_ ka
        simp only [Option.some.injEq, Addr.mk.injEq, and_true] at ee
        obtain ⟨rfl, rfl⟩ := ee
        have hfw := HU1.out.2.2 _ (List.getElem_mem ka)
        obtain ⟨yk, hyk⟩ : ∃ yk, L1[k]'ka = yk := ⟨_, rfl⟩
        simp only [hyk] at htk0 hik hfw
        have HIK := Lib.hid (And.intro hik (And.intro hfw htk0))
        have HCW := Lib.hid (show ∀ V : World, Below w.heap.size w V → V.cell? ⟨b1, o1 + k * 20, none⟩ = some (.string yk.tag) from fun V hV => bs_cellV hV (by have := htk0 0 (.string yk.tag) rfl; rwa [Nat.add_zero] at this))
        have HRW := Lib.hid (show ∀ V : World, Below w.heap.size w V → V.rangeAt b1 (o1 + k * 20 + 1) (scells yk.st tk) from fun V hV j v hv => by
          have := bs_cellV hV (htk0 (1 + j) v (ucells_get yk tk j v hv))
          rwa [← Nat.add_assoc] at this)
        clear htk0 hik hfw hyk ka

        have c0 := HCW.out wr ST.out.blw
        have hct : l.got yk.tag false = l.counts yk.tag false := by unfold Lk.got; rw [ST.out.rc_]; rfl
        have hg := got_any wr q m G l yk.tag false ST.out.lk HIK.out.1.tag (by have := ST.out.len; unfold maxLen; omega)
        rw [hct] at hg
        have HG := Lib.hid hg
        clear hg hct
        go_wp2_with fail
        refine HG.out.mono ?_
        rintro e w3 ⟨rfl, hl3, hm3⟩
        by_cases hz : (l.counts yk.tag false).2 = 0
        · have hcz := counts_zero hz
          rw [hz]
          have ST3 := Lib.hid (ST.out.mv (k' := k + 1) hl3 hcz.1 (by have := ST.out.len; have := hcz.2.2; omega) (fun b h => .inl h) hm3)
          have HTG := Lib.hid hcz.2.1
          generalize (l.counts yk.tag false).1 = l3 at *
          clear hz hcz hl3 hm3 c0
          go_upto_region 17 with fail
          obtain ⟨S, hSd⟩ : ∃ S : Array Bool → World → Prop, ∀ L V, S L V ↔ (V.cell? ⟨b1, o1 + k * 20, none⟩ = some (.string yk.tag) ∧ V.rangeAt b1 (o1 + k * 20 + 1) (scells yk.st tk)) := ⟨_, fun _ _ => Iff.rfl⟩
          have HSD := Lib.hid hSd
          clear hSd
          refine wp_region_T S 13 rfl (by kernel_rfl) ?_
          have hS : ∀ L : Array Bool, S L w3.drew := fun L => (HSD.out _ _).2 ⟨HCW.out w3 ST3.out.blw, HRW.out w3 ST3.out.blw⟩
          refine takeT (i := 0) (v := .pointer (some ⟨q, 0, none⟩)) (some 47) [] rfl rfl (by kernel_rfl) (by kernel_rfl) (by kernel_rfl) (by kernel_rfl) (by kernel_rfl) (fun _ _ _ h => h) (fun m W _ _ h => (HSD.out _ _).2 ((HSD.out _ _).1 h)) (Or.inl ⟨by rfl, by rintro V ⟨m, hm, h9⟩; have h0 := (HSD.out _ _).1 h9; go_simp⟩) (hS _) ?_
          try simp only [Act.put, List.setIfInBounds_toArray, List.set_cons_zero, List.set_cons_succ]
          refine takeT (i := 1) (v := .slice (some ⟨b1, o1, none⟩) n1 c1) (some 48) [] rfl rfl (by kernel_rfl) (by kernel_rfl) (by kernel_rfl) (by kernel_rfl) (by kernel_rfl) (fun _ _ _ h => h) (fun m W _ _ h => (HSD.out _ _).2 ((HSD.out _ _).1 h)) (Or.inl ⟨by rfl, by rintro V ⟨m, hm, h9⟩; have h0 := (HSD.out _ _).1 h9; go_simp⟩) (hS _) ?_
          try simp only [Act.put, List.setIfInBounds_toArray, List.set_cons_zero, List.set_cons_succ]
          refine takeT (i := 2) (v := .int .i64 k) (some 49) [] rfl rfl (by kernel_rfl) (by kernel_rfl) (by kernel_rfl) (by kernel_rfl) (by kernel_rfl) (fun _ _ _ h => h) (fun m W _ _ h => (HSD.out _ _).2 ((HSD.out _ _).1 h)) (Or.inl ⟨by rfl, by rintro V ⟨m, hm, h9⟩; have h0 := (HSD.out _ _).1 h9; go_simp⟩) (hS _) ?_
          try simp only [Act.put, List.setIfInBounds_toArray, List.set_cons_zero, List.set_cons_succ]
          refine takeT (i := 3) (v := .pointer (some ⟨b1, o1 + k * 20, none⟩)) (some 50) [] rfl rfl (by kernel_rfl) (by kernel_rfl) (by kernel_rfl) (by kernel_rfl) (by kernel_rfl) (fun _ _ _ h => h) (fun m W _ _ h => (HSD.out _ _).2 ((HSD.out _ _).1 h)) (Or.inl ⟨by rfl, by rintro V ⟨m, hm, h9⟩; have h0 := (HSD.out _ _).1 h9; go_simp⟩) (hS _) ?_
          try simp only [Act.put, List.setIfInBounds_toArray, List.set_cons_zero, List.set_cons_succ]
          refine takeT (i := 4) (v := .pointer (some ⟨b1, o1 + k * 20, none⟩)) (some 51) [] rfl rfl (by kernel_rfl) (by kernel_rfl) (by kernel_rfl) (by kernel_rfl) (by kernel_rfl) (fun _ _ _ h => h) (fun m W _ _ h => (HSD.out _ _).2 ((HSD.out _ _).1 h)) (Or.inl ⟨by rfl, by rintro V ⟨m, hm, h9⟩; have h0 := (HSD.out _ _).1 h9; go_simp⟩) (hS _) ?_
          try simp only [Act.put, List.setIfInBounds_toArray, List.set_cons_zero, List.set_cons_succ]
          refine takeT (i := 5) (v := .string yk.tag) (some 52) [] rfl rfl (by kernel_rfl) (by kernel_rfl) (by kernel_rfl) (by kernel_rfl) (by kernel_rfl) (fun _ _ _ h => h) (fun m W _ _ h => (HSD.out _ _).2 ((HSD.out _ _).1 h)) (Or.inl ⟨by rfl, by rintro V ⟨m', hm, h9⟩; have h0 : V.cell? ⟨b1, o1 + k * 20, none⟩ = some (.string yk.tag) := ((HSD.out _ _).1 h9).1; go_simp⟩) (hS _) ?_
          try simp only [Act.put, List.setIfInBounds_toArray, List.set_cons_zero, List.set_cons_succ]
          refine takeT (i := 6) (v := .slice (some ⟨b1, o1, none⟩) n1 c1) (some 53) [] rfl rfl (by kernel_rfl) (by kernel_rfl) (by kernel_rfl) (by kernel_rfl) (by kernel_rfl) (fun _ _ _ h => h) (fun m W _ _ h => (HSD.out _ _).2 ((HSD.out _ _).1 h)) (Or.inl ⟨by rfl, by rintro V ⟨m, hm, h9⟩; have h0 := (HSD.out _ _).1 h9; go_simp⟩) (hS _) ?_
          try simp only [Act.put, List.setIfInBounds_toArray, List.set_cons_zero, List.set_cons_succ]
          refine takeT (i := 7) (v := .int .i64 k) (some 54) [] rfl rfl (by kernel_rfl) (by kernel_rfl) (by kernel_rfl) (by kernel_rfl) (by kernel_rfl) (fun _ _ _ h => h) (fun m W _ _ h => (HSD.out _ _).2 ((HSD.out _ _).1 h)) (Or.inl ⟨by rfl, by rintro V ⟨m, hm, h9⟩; have h0 := (HSD.out _ _).1 h9; go_simp⟩) (hS _) ?_
          try simp only [Act.put, List.setIfInBounds_toArray, List.set_cons_zero, List.set_cons_succ]
          refine takeT (i := 8) (v := .pointer (some ⟨b1, o1 + k * 20, none⟩)) (some 55) [] rfl rfl (by kernel_rfl) (by kernel_rfl) (by kernel_rfl) (by kernel_rfl) (by kernel_rfl) (fun _ _ _ h => h) (fun m W _ _ h => (HSD.out _ _).2 ((HSD.out _ _).1 h)) (Or.inl ⟨by rfl, by rintro V ⟨m, hm, h9⟩; have h0 := (HSD.out _ _).1 h9; go_simp⟩) (hS _) ?_
          try simp only [Act.put, List.setIfInBounds_toArray, List.set_cons_zero, List.set_cons_succ]
          refine takeT (i := 9) (v := .pointer (some ⟨b1, o1 + k * 20 + 1, none⟩)) (some 56) [] rfl rfl (by kernel_rfl) (by kernel_rfl) (by kernel_rfl) (by kernel_rfl) (by kernel_rfl) (fun _ _ _ h => h) (fun m W _ _ h => (HSD.out _ _).2 ((HSD.out _ _).1 h)) (Or.inl ⟨by rfl, by rintro V ⟨m, hm, h9⟩; have h0 := (HSD.out _ _).1 h9; go_simp⟩) (hS _) ?_
          try simp only [Act.put, List.setIfInBounds_toArray, List.set_cons_zero, List.set_cons_succ]
          refine takeT (i := 10) (v := .agg (sarr yk.st tk)) (some 57) [] rfl rfl (by kernel_rfl) (by kernel_rfl) (by kernel_rfl) (by kernel_rfl) (by kernel_rfl) (fun _ _ _ h => h) (fun m W _ _ h => (HSD.out _ _).2 ((HSD.out _ _).1 h)) (yieldsIf_load_mid (by rfl) 33 _ rfl b1 (o1 + k * 20 + 1) rfl (scells yk.st tk) _ (fun V h => by obtain ⟨m', _, h9⟩ := h; exact ((HSD.out _ _).1 h9).2) Try.underlying33 rfl size_state) (hS _) ?_
          try simp only [Act.put, List.setIfInBounds_toArray, List.set_cons_zero, List.set_cons_succ]

          refine wpAnyT_all (rs := [11]) (by kernel_rfl) (by simp) ?_
          intro i5 hi5
          simp only [List.mem_cons, List.not_mem_nil, or_false] at hi5
          subst hi5
          refine stepT (i := 11) rfl (by rfl) (fun K5 h5 => ?_)

          go_simp
          (with_reducible refine (own_any w3.drew q m G l3 yk.tag yk.st tk false (ST3.out.lk.blw (bdrew (Below.refl _ _))) HIK.out.1.tag (by have := ST3.out.len; unfold maxLen; omega) (HIK.out.1.st.blw (bdrew ST3.out.blw)) HIK.out.2.1.1 (by have := HIK.out.2.1.2; omega)).mono ?_)
          rintro e w4 ⟨t4, G4, rfl, hl4, hg4, hm4⟩
          have hor := own_rc (s := yk.st) default HTG.out
          have hor4 := own_rc (s := yk.st) t4 HTG.out
          rw [hor.1]
          have ST4 := Lib.hid (ST3.out.mv (k' := k + 1) hl4 hor4.2.1 (Nat.le_trans (Nat.le_of_eq hor4.2.2) ST3.out.len) hg4 (LMv.trans (LMv.of_below (bdrew (Below.refl _ _))) hm4))
          refine h5.out _ _ ((HSD.out _ _).2 ⟨HCW.out w4 ST4.out.blw, HRW.out w4 ST4.out.blw⟩) ?_
          clear h5 hl4 hg4 hm4 hor hor4
          try simp only [Act.put, List.setIfInBounds_toArray, List.set_cons_zero, List.set_cons_succ]
          refine wpAnyT_all (rs := [12]) (by kernel_rfl) (by simp) ?_
          intro i5 hi5
          simp only [List.mem_cons, List.not_mem_nil, or_false] at hi5
          subst hi5
          refine stepT (i := 12) rfl (by rfl) (fun K5 h5 => ?_)

          go_simp
          refine h5.out _ _ ((HSD.out _ _).2 ⟨HCW.out w4 ST4.out.blw, HRW.out w4 ST4.out.blw⟩) ?_
          clear h5
          try simp only [Act.put, List.setIfInBounds_toArray, List.set_cons_zero, List.set_cons_succ]
          refine wpAnyT_done (by kernel_rfl) ?_ _
          clear hS
          go_wp2_with fail
          go_roundw
          case rel => exact ⟨k + 1, _, _, HLT.out, by go_num, ST4.out⟩
          case measure => simp [intOf]; omega
        · have hcn := counts_other hz
          rw [hcn] at hl3
          have ST3 := Lib.hid (ST.out.mv (k' := k + 1) hl3 rfl (by have := ST.out.len; omega) (fun b h => .inl h) hm3)
          obtain ⟨e3, he3⟩ : ∃ e3, (l.counts yk.tag false).2 = e3 := ⟨_, rfl⟩
          rw [he3] at hz ⊢
          have ez : (e3 == 0) = false := by simpa using hz
          clear hcn hl3 hm3 he3 c0 hz
          go_wp2_with fail
          go_roundw
          case rel => exact ⟨k + 1, _, _, HLT.out, by go_num, ST3.out⟩
          case measure => simp [intOf]; omega
      · have hkn2 : k = n1 := by omega
        subst hkn2
        go_wp2_with fail
        go_loopw [10] (fun v10 wr => ∃ (j : Nat) (G : Nat → Prop) (l : Lk), j ≤ n2 ∧ v10 = .int .i64 j ∧ OpS w wr q m G l true k) (fun v10 _ => n2 - (intOf v10).toNat)
        case atStart => exact ⟨0, _, _, Nat.zero_le _, rfl, ST.out⟩
        case round =>
          obtain ⟨j, G, l, hjn, rfl, hst⟩ := hrel
          have SQ := Lib.hid hst
          clear hst
          by_cases hlt : (j : Int) < n2
          · have HLT := Lib.hid (show j < n2 by omega)
            have ka : j < L2.length := by rw [HL2.out]; omega
            obtain ⟨b1, o1, rfl⟩ := hp2 (by omega)
            obtain ⟨b, o, tk, ee, htk0, hik⟩ := HU2.out.1.at_ ka
            simp only [Option.some.injEq, Addr.mk.injEq, and_true] at ee
            obtain ⟨rfl, rfl⟩ := ee
            have hfw := HU2.out.2.2 _ (List.getElem_mem ka)
            obtain ⟨yk, hyk⟩ : ∃ yk, L2[j]'ka = yk := ⟨_, rfl⟩
            simp only [hyk] at htk0 hik hfw
            have HIK := Lib.hid (And.intro hik (And.intro hfw htk0))
            have HCW := Lib.hid (show ∀ V : World, Below w.heap.size w V → V.cell? ⟨b1, o1 + j * 20, none⟩ = some (.string yk.tag) from fun V hV => bs_cellV hV (by have := htk0 0 (.string yk.tag) rfl; rwa [Nat.add_zero] at this))
            have HRW := Lib.hid (show ∀ V : World, Below w.heap.size w V → V.rangeAt b1 (o1 + j * 20 + 1) (scells yk.st tk) from fun V hV j v hv => by
              have := bs_cellV hV (htk0 (1 + j) v (ucells_get yk tk j v hv))
              rwa [← Nat.add_assoc] at this)
            clear htk0 hik hfw hyk ka

            go_upto_region 23 with fail
            obtain ⟨S, hSd⟩ : ∃ S : Array Bool → World → Prop, ∀ L V, S L V ↔ (V.cell? ⟨b1, o1 + j * 20, none⟩ = some (.string yk.tag) ∧ V.rangeAt b1 (o1 + j * 20 + 1) (scells yk.st tk)) := ⟨_, fun _ _ => Iff.rfl⟩
            have HSD := Lib.hid hSd
            clear hSd
            refine wp_region_T S 12 rfl (by kernel_rfl) ?_
            have hS : ∀ L : Array Bool, S L wr.drew := fun L => (HSD.out _ _).2 ⟨HCW.out wr SQ.out.blw, HRW.out wr SQ.out.blw⟩
            refine takeT (i := 0) (v := .pointer (some ⟨q, 0, none⟩)) (some 67) [] rfl rfl (by kernel_rfl) (by kernel_rfl) (by kernel_rfl) (by kernel_rfl) (by kernel_rfl) (fun _ _ _ h => h) (fun m W _ _ h => (HSD.out _ _).2 ((HSD.out _ _).1 h)) (Or.inl ⟨by rfl, by rintro V ⟨m, hm, h9⟩; have h0 := (HSD.out _ _).1 h9; go_simp⟩) (hS _) ?_
            try simp only [Act.put, List.setIfInBounds_toArray, List.set_cons_zero, List.set_cons_succ]
            refine takeT (i := 1) (v := .slice (some ⟨b1, o1, none⟩) n2 c2) (some 68) [] rfl rfl (by kernel_rfl) (by kernel_rfl) (by kernel_rfl) (by kernel_rfl) (by kernel_rfl) (fun _ _ _ h => h) (fun m W _ _ h => (HSD.out _ _).2 ((HSD.out _ _).1 h)) (Or.inl ⟨by rfl, by rintro V ⟨m, hm, h9⟩; have h0 := (HSD.out _ _).1 h9; go_simp⟩) (hS _) ?_
            try simp only [Act.put, List.setIfInBounds_toArray, List.set_cons_zero, List.set_cons_succ]
            refine takeT (i := 2) (v := .int .i64 j) (some 69) [] rfl rfl (by kernel_rfl) (by kernel_rfl) (by kernel_rfl) (by kernel_rfl) (by kernel_rfl) (fun _ _ _ h => h) (fun m W _ _ h => (HSD.out _ _).2 ((HSD.out _ _).1 h)) (Or.inl ⟨by rfl, by rintro V ⟨m, hm, h9⟩; have h0 := (HSD.out _ _).1 h9; go_simp⟩) (hS _) ?_
            try simp only [Act.put, List.setIfInBounds_toArray, List.set_cons_zero, List.set_cons_succ]
            refine takeT (i := 3) (v := .pointer (some ⟨b1, o1 + j * 20, none⟩)) (some 70) [] rfl rfl (by kernel_rfl) (by kernel_rfl) (by kernel_rfl) (by kernel_rfl) (by kernel_rfl) (fun _ _ _ h => h) (fun m W _ _ h => (HSD.out _ _).2 ((HSD.out _ _).1 h)) (Or.inl ⟨by rfl, by rintro V ⟨m, hm, h9⟩; have h0 := (HSD.out _ _).1 h9; go_simp⟩) (hS _) ?_
            try simp only [Act.put, List.setIfInBounds_toArray, List.set_cons_zero, List.set_cons_succ]
            refine takeT (i := 4) (v := .pointer (some ⟨b1, o1 + j * 20, none⟩)) (some 71) [] rfl rfl (by kernel_rfl) (by kernel_rfl) (by kernel_rfl) (by kernel_rfl) (by kernel_rfl) (fun _ _ _ h => h) (fun m W _ _ h => (HSD.out _ _).2 ((HSD.out _ _).1 h)) (Or.inl ⟨by rfl, by rintro V ⟨m, hm, h9⟩; have h0 := (HSD.out _ _).1 h9; go_simp⟩) (hS _) ?_
            try simp only [Act.put, List.setIfInBounds_toArray, List.set_cons_zero, List.set_cons_succ]
            refine takeT (i := 5) (v := .string yk.tag) (some 72) [] rfl rfl (by kernel_rfl) (by kernel_rfl) (by kernel_rfl) (by kernel_rfl) (by kernel_rfl) (fun _ _ _ h => h) (fun m W _ _ h => (HSD.out _ _).2 ((HSD.out _ _).1 h)) (Or.inl ⟨by rfl, by rintro V ⟨m', hm, h9⟩; have h0 : V.cell? ⟨b1, o1 + j * 20, none⟩ = some (.string yk.tag) := ((HSD.out _ _).1 h9).1; go_simp⟩) (hS _) ?_
            try simp only [Act.put, List.setIfInBounds_toArray, List.set_cons_zero, List.set_cons_succ]
            refine takeT (i := 6) (v := .slice (some ⟨b1, o1, none⟩) n2 c2) (some 73) [] rfl rfl (by kernel_rfl) (by kernel_rfl) (by kernel_rfl) (by kernel_rfl) (by kernel_rfl) (fun _ _ _ h => h) (fun m W _ _ h => (HSD.out _ _).2 ((HSD.out _ _).1 h)) (Or.inl ⟨by rfl, by rintro V ⟨m, hm, h9⟩; have h0 := (HSD.out _ _).1 h9; go_simp⟩) (hS _) ?_
            try simp only [Act.put, List.setIfInBounds_toArray, List.set_cons_zero, List.set_cons_succ]
            refine takeT (i := 7) (v := .int .i64 j) (some 74) [] rfl rfl (by kernel_rfl) (by kernel_rfl) (by kernel_rfl) (by kernel_rfl) (by kernel_rfl) (fun _ _ _ h => h) (fun m W _ _ h => (HSD.out _ _).2 ((HSD.out _ _).1 h)) (Or.inl ⟨by rfl, by rintro V ⟨m, hm, h9⟩; have h0 := (HSD.out _ _).1 h9; go_simp⟩) (hS _) ?_
            try simp only [Act.put, List.setIfInBounds_toArray, List.set_cons_zero, List.set_cons_succ]
            refine takeT (i := 8) (v := .pointer (some ⟨b1, o1 + j * 20, none⟩)) (some 75) [] rfl rfl (by kernel_rfl) (by kernel_rfl) (by kernel_rfl) (by kernel_rfl) (by kernel_rfl) (fun _ _ _ h => h) (fun m W _ _ h => (HSD.out _ _).2 ((HSD.out _ _).1 h)) (Or.inl ⟨by rfl, by rintro V ⟨m, hm, h9⟩; have h0 := (HSD.out _ _).1 h9; go_simp⟩) (hS _) ?_
            try simp only [Act.put, List.setIfInBounds_toArray, List.set_cons_zero, List.set_cons_succ]
            refine takeT (i := 9) (v := .pointer (some ⟨b1, o1 + j * 20 + 1, none⟩)) (some 76) [] rfl rfl (by kernel_rfl) (by kernel_rfl) (by kernel_rfl) (by kernel_rfl) (by kernel_rfl) (fun _ _ _ h => h) (fun m W _ _ h => (HSD.out _ _).2 ((HSD.out _ _).1 h)) (Or.inl ⟨by rfl, by rintro V ⟨m, hm, h9⟩; have h0 := (HSD.out _ _).1 h9; go_simp⟩) (hS _) ?_
            try simp only [Act.put, List.setIfInBounds_toArray, List.set_cons_zero, List.set_cons_succ]
            refine takeT (i := 10) (v := .agg (sarr yk.st tk)) (some 77) [] rfl rfl (by kernel_rfl) (by kernel_rfl) (by kernel_rfl) (by kernel_rfl) (by kernel_rfl) (fun _ _ _ h => h) (fun m W _ _ h => (HSD.out _ _).2 ((HSD.out _ _).1 h)) (yieldsIf_load_mid (by rfl) 33 _ rfl b1 (o1 + j * 20 + 1) rfl (scells yk.st tk) _ (fun V h => by obtain ⟨m', _, h9⟩ := h; exact ((HSD.out _ _).1 h9).2) Try.underlying33 rfl size_state) (hS _) ?_
            try simp only [Act.put, List.setIfInBounds_toArray, List.set_cons_zero, List.set_cons_succ]

            refine wpAnyT_all (rs := [11]) (by kernel_rfl) (by simp) ?_
            intro i5 hi5
            simp only [List.mem_cons, List.not_mem_nil, or_false] at hi5
            subst hi5
            refine stepT (i := 11) rfl (by rfl) (fun K5 h5 => ?_)

            go_simp
            (with_reducible refine (peer_any wr.drew q m G l yk.tag yk.st tk false (SQ.out.lk.blw (bdrew (Below.refl _ _))) HIK.out.1.tag (by have := SQ.out.len; unfold maxLen; omega) (HIK.out.1.st.blw (bdrew SQ.out.blw)) HIK.out.2.1.1 (by have := HIK.out.2.1.2; omega)).mono ?_)
            rintro e w4 ⟨t4, G4, rfl, hl4, hg4, hm4⟩
            have hpr := peer_rc (l := l) (tag := yk.tag) (s := yk.st) t4
            have ST4 := Lib.hid (SQ.out.mv (k' := k) hl4 hpr.1 (Nat.le_trans (Nat.le_of_eq hpr.2) SQ.out.len) hg4 (LMv.trans (LMv.of_below (bdrew (Below.refl _ _))) hm4))
            refine h5.out _ _ ((HSD.out _ _).2 ⟨HCW.out w4 ST4.out.blw, HRW.out w4 ST4.out.blw⟩) ?_
            clear h5 hl4 hg4 hm4 hpr
            try simp only [Act.put, List.setIfInBounds_toArray, List.set_cons_zero, List.set_cons_succ]
            refine wpAnyT_done (by kernel_rfl) ?_ _
            clear hS
            go_wp2_with fail
            go_roundw
            case rel => exact ⟨j + 1, _, _, HLT.out, by go_num, ST4.out⟩
            case measure => simp [intOf]; omega
          · go_wp2_with fail
            go_ret
            exact ⟨q, m, G, l, rfl, SQ.out⟩
end Go.Proofs.Ytcbjfakkikjbkaa
