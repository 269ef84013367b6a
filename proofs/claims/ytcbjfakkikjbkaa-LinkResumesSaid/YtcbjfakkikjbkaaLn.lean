/-
  LinkResumes. Conditions: the lists lie in memory.
-/
import Derived.Test.YtcbjfakkikjbkaaLa
namespace Go.Proofs.Ytcbjfakkikjbkaa
open Go.RowKit Go.Maps
set_option linter.all false

theorem less_of_sorted {rs : List (ByteArray × Int)} (nd : (rs.map Prod.fst).Nodup) (hs : SortT (rs.map Prod.fst)) {i : Nat} (hi : i + 1 < rs.length) : Op.bytesLess rs[i].1.toList rs[i + 1].1.toList = true := by
  have h1 := hs i (i + 1) (by simp; omega) (by simpa using hi) (by omega)
  simp only [List.getElem_map] at h1
  have h2 : rs[i].1 ≠ rs[i + 1].1 := fun e => by
    have := (List.nodup_iff_pairwise_ne.1 nd)
    rw [List.pairwise_iff_getElem] at this
    exact this i (i + 1) (by simp; omega) (by simpa using hi) (by omega) (by simpa using e)
  rw [ByteArray.toList_eq, ByteArray.toList_eq, less_cmp]
  refine decide_eq_true ?_
  have h3 := cmpB_neg rs[i + 1].1.data.toList rs[i].1.data.toList
  have h4 : cmpT rs[i].1 rs[i + 1].1 ≠ 0 := fun e => h2 (cmpT_zero.1 e)
  unfold cmpT at h1 h4
  omega
theorem first_left {L : List Un} {a : List (ByteArray × (St × Sl))} {k : ByteArray} {r : Int} (hf : FirstOf L L.length a) (h : FirstAt L k r) : (r = -1 ∧ k ∉ ltags a) ∨ ∃ i : Nat, r = i ∧ ∃ hi : i < L.length, k ∈ ltags a ∧ L[i].st = (leftAt a k).1 := by
  by_cases hr : r = -1
  · refine .inl ⟨hr, fun hk => ?_⟩
    obtain ⟨p, hp, rfl⟩ := List.mem_map.1 hk
    obtain ⟨i, _, hi, h1, _⟩ := hf.el p hp
    exact h.no hr _ (List.getElem_mem hi) h1
  · obtain ⟨i, e, hi, h1, h2⟩ := h.yes hr
    have hk : k ∈ ltags a := by rw [← h1]; exact hf.all i hi hi
    refine .inr ⟨i, e, hi, hk, ?_⟩
    obtain ⟨j, _, hj, j1, j2, j3⟩ := hf.el _ (leftAt_mem hk)
    simp only at j1 j2 j3
    have : i = j := by
      rcases Nat.lt_trichotomy i j with q | q | q
      · exact absurd h1 (j3 i q)
      · exact q
      · exact absurd j1 (h2 j q)
    subst this
    exact j2

theorem wpList_buildToG {P : Program} {ops : Array Oper} {rest : List Oper} {o : Oper} {a : Act} {w : World} {Q : Exit → Act → World → Prop} (t : TypeId) (parts : Array (Nat × Operand)) (ho : o.op = .build t parts)
    (d : Option Tmp) (hd : o.dst = d) (cells : Array Value) (hw : Region.wanted o (yielded ops a.tmps) = true) (hf : P.built t (parts.map fun (i, x) => (i, a.eval x)).toList = some cells)
    (h : wpList P ops Q rest (a.put d (.agg cells)) w) : wpList P ops Q (o :: rest) a w := by
  subst hd
  refine wpList_step fun K hK => ?_
  rw [if_pos hw]
  exact wp_build t parts ho (by rw [hf]; rfl) (hK _ _ (by rw [hf]; exact h))

theorem RowOf.blw {α : Type} {w w' : World} {enc : α → List Value} {K : Nat} {v : Value} {l : List α} (h : RowOf w enc K v l) (hb : Below w.heap.size w w') : RowOf w' enc K v l := by
  obtain ⟨p, c, e, h1, h2, h3⟩ := h
  refine ⟨p, c, e, h1, h2, fun q => ?_⟩
  obtain ⟨g, e2, h4⟩ := h3 q
  exact ⟨g, e2, fun i hi j u hu => bs_cellV hb (h4 i hi j u hu)⟩
theorem tag_size {w : World} {p : Option Addr} {n c : Nat} {L : List Un} {a : List (ByteArray × (St × Sl))} {k : ByteArray} (h : UsIn w p n c L) (hf : FirstOf L L.length a) (hk : k ∈ ltags a) : k.size ≤ maxLen := by
  obtain ⟨x, hx, rfl⟩ := List.mem_map.1 hk
  obtain ⟨i, _, hi, h1, _⟩ := hf.el x hx
  obtain ⟨_, _, _, _, _, hu⟩ := h.at_ hi
  rw [← h1]
  exact hu.tag

set_option maxRecDepth 20000 in
set_option maxHeartbeats 16000000 in
theorem resumes_walk (w : World) (rc : Bool) (p1 : Option Addr) (n1 c1 : Nat) (L1 : List Un) (p2 : Option Addr) (n2 c2 : Nat) (L2 : List Un) (p3 : Option Addr) (n3 c3 : Nat) (L3 : List Un) (h1 : UsIn w p1 n1 c1 L1) (h2 : UsIn w p2 n2 c2 L2) (h3 : UsIn w p3 n3 c3 L3) :
    Calls Try.prog 3 #[.bool rc, .slice p1 n1 c1, .slice p2 n2 c2, .slice p3 n3 c3] w fun e w' => e = .returned (.bool true) ∧ Below w.heap.size w w' := by
  have HU1 := Lib.hid h1
  have HU2 := Lib.hid h2
  have HU3 := Lib.hid h3
  clear h1 h2 h3
  go_enter Try.func3, Try.ntmps3
  go_wp2_with fail
  refine (awake_any w).mono ?_
  rintro e w1 ⟨rfl, hb1⟩
  have HBw1 := Lib.hid hb1
  clear hb1
  have hu1 := HU1.out.far (fun b hb => HBw1.out.block b hb)
  have HG := Lib.hid (great14_any w1 _ _ _ L1 hu1)
  clear hu1
  go_wp2_with (refine wpList_buildTo rfl 40 _ rfl (some 29) rfl (opC (.slice p1 n1 c1)) (by kernel_rfl) ?_)
  refine HG.out.mono ?_
  rintro e w2 ⟨b1, rfl, hk1, hb1⟩
  have HBw2 := Lib.hid (HBw1.out.trans (hb1.mono HBw1.out.size))
  clear hb1 HG
  cases b1
  · have hu2 := HU2.out.far (fun b hb => HBw2.out.block b hb)
    have HG := Lib.hid (great14_any w2 _ _ _ L2 hu2)
    clear hu2
    go_wp2_with (refine wpList_buildToG 40 _ rfl (some 33) rfl (opC (.slice p2 n2 c2)) (by rfl) (by kernel_rfl) ?_)
    refine HG.out.mono ?_
    rintro e w3 ⟨b2, rfl, hk2, hb2⟩
    have HBw3 := Lib.hid (HBw2.out.trans (hb2.mono HBw2.out.size))
    clear hb2 HG
    cases b2
    · have hu3 := HU3.out.far (fun b hb => HBw3.out.block b hb)
      have HG := Lib.hid (great14_any w3 _ _ _ L3 hu3)
      clear hu3
      go_wp2_with (refine wpList_buildToG 40 _ rfl (some 38) rfl (opC (.slice p3 n3 c3)) (by rfl) (by kernel_rfl) ?_)
      refine HG.out.mono ?_
      rintro e w4 ⟨b3, rfl, hk3, hb3⟩
      have HBw4 := Lib.hid (HBw3.out.trans (hb3.mono HBw3.out.size))
      clear hb3 HG
      cases b3
      · have HK := Lib.hid (And.intro (hk1 (by first | rfl | trivial)) (And.intro (hk2 (by first | rfl | trivial)) (hk3 (by first | rfl | trivial))))
        clear hk1 hk2 hk3
        have HOP := Lib.hid (open_any w4 rc _ _ _ L1 _ _ _ L2 (HU1.out.far (fun b hb => HBw4.out.block b hb)) (HU2.out.far (fun b hb => HBw4.out.block b hb)) HK.out.1 HK.out.2.1)
        go_wp2_with fail
        refine HOP.out.mono ?_
        rintro e w5 ⟨q, m, G, l, rfl, hop⟩
        have HBw5 := Lib.hid (HBw4.out.trans (hop.blw.mono HBw4.out.size))
        have hn1 : n1 ≤ 100000 := by have := HK.out.1.1; have := HU1.out.len; omega
        have hn3 : n3 ≤ 100000 := by have := HK.out.2.2.1; have := HU3.out.len; omega
        have HLK := Lib.hid (And.intro hop.lk (And.intro hop.rc_ (show l.all.length ≤ 100000 by have := hop.len; omega)))
        have HRS := Lib.hid (resume_any w5 q m G l _ _ _ L3 hop.lk (by have := hop.len; omega) (HU3.out.far (fun b hb => HBw5.out.block b hb)) (by omega))
        clear hop HOP
        go_wp2_with fail
        refine HRS.out.mono ?_
        rintro e w6 ⟨v, rs, a, rfl, hrow, hfo, hri, hso, hrl, hb6⟩
        have HROWOF := Lib.hid hrow
        obtain ⟨p, c, rfl, hc1, hc2, hrow⟩ := hrow
        have HFO := Lib.hid hfo
        have HRI := Lib.hid hri
        have HSO := Lib.hid hso
        have HBw6 := Lib.hid (HBw5.out.trans (hb6.mono HBw5.out.size))
        have HLK6 := Lib.hid (HLK.out.1.blw hb6)
        obtain ⟨N, hN⟩ : ∃ N, rs.length = N := ⟨_, rfl⟩
        have HN := Lib.hid hN
        have HROW := Lib.hid (show 0 < N → ∃ g, p = some ⟨g, 0, none⟩ ∧ ∀ i (hi : i < rs.length), w6.rangeAt g (i * 2) (rcells rs[i]) from fun q => hrow (by omega))
        rw [hN] at hc1 hrl ⊢
        unfold maxLen at hc2
        have hNb : N ≤ 300000 := by have := HLK.out.2.2; have := HU3.out.len; omega
        clear hfo hri hso hb6 hN hrow hrl HRS
        go_wp2_with fail
        go_loopw [13] (fun v13 wr => ∃ i : Nat, i ≤ N ∧ v13 = .int .i64 i ∧ Below w6.heap.size w6 wr) (fun v13 _ => N - (intOf v13).toNat)
        case atStart => exact ⟨0, Nat.zero_le _, rfl, Below.refl _ _⟩
        case round =>
          obtain ⟨i, hin, rfl, hbw⟩ := hrel
          have HBr := Lib.hid hbw
          clear hbw
          by_cases hlt : (i : Int) < N
          · have HLT := Lib.hid (show i < N by omega)
            have ia : i < rs.length := by rw [HN.out]; omega
            obtain ⟨g, hpg, hrow⟩ := HROW.out (by omega)
            subst hpg
            have HRG := Lib.hid (show ∀ V : World, Below w6.heap.size w6 V → ∀ j (hj : j < rs.length), V.cell? ⟨g, j * 2, none⟩ = some (.string rs[j].1) ∧ V.cell? ⟨g, j * 2 + 1, none⟩ = some (.int .i64 rs[j].2) from fun V hV j hj => ⟨bs_cellV hV (by have := hrow j hj 0 (.string rs[j].1) rfl; rwa [Nat.add_zero] at this), bs_cellV hV (hrow j hj 1 (.int .i64 rs[j].2) rfl)⟩)
            clear hrow
            have hD := HRI.out.el _ (List.getElem_mem ia)
            have hcells := HRG.out wr HBr.out i ia
            have hless : ∀ j (hj : j + 1 = i), Op.bytesLess (rs[j]'(by omega)).1.toList rs[i].1.toList = true := fun j hj => by
              subst hj
              exact less_of_sorted HRI.out.nd HSO.out ia
            have hprev : ∀ j (hj : j + 1 = i), wr.cell? ⟨g, j * 2, none⟩ = some (.string (rs[j]'(by omega)).1) := fun j hj => (HRG.out wr HBr.out j (by omega)).1
            have HCE := Lib.hid (show ∀ V : World, Below w6.heap.size w6 V → V.cell? ⟨g, i * 2, none⟩ = some (.string rs[i].1) ∧ V.cell? ⟨g, i * 2 + 1, none⟩ = some (.int .i64 rs[i].2) from fun V hV => HRG.out V hV i ia)
            have HPV := Lib.hid (show ∀ j (hj : j + 1 = i), ∃ z : ByteArray, wr.cell? ⟨g, j * 2, none⟩ = some (.string z) ∧ Op.bytesLess z.toList rs[i].1.toList = true from fun j hj => ⟨_, hprev j hj, hless j hj⟩)
            obtain ⟨k, hk⟩ : ∃ k, rs[i].1 = k := ⟨_, rfl⟩
            obtain ⟨X, hX⟩ : ∃ X, rs[i].2 = X := ⟨_, rfl⟩
            simp only [hk, hX] at hD hcells HCE HPV
            have HD0 := Lib.hid hD.1
            have HX := Lib.hid hD.2.2.symm
            have c0 := hcells.1
            clear hD hcells hless hprev hk hX ia
            have REST : True := trivial
            by_cases hi0 : i = 0
            · have hg0 : decide ((0 : Int) < (i : Int)) = false := decide_eq_false (by omega)
              have hg1 : decide (0 < i) = false := decide_eq_false (by omega)
              have hg2 : ¬ 0 < i := by omega
              clear hi0
              go_upto_region 14 with fail
              go_quiet (fail)
              have HDN0 := Lib.hid (fun kk => below_drewN (Below.refl wr.heap.size wr) kk)
              generalize hWW : wr.drewN _ = W
              have HBW := Lib.hid (show Below w6.heap.size w6 W by rw [← hWW]; exact HBr.out.trans ((HDN0.out _).mono HBr.out.size))
              clear hWW HDN0 c0
              have c0 : W.cell? ⟨g, i * 2, none⟩ = some (.string k) := (HCE.out W HBW.out).1
              have hks : k.size ≤ maxLen := by
                rcases HD0.out with q | q
                · exact HLK6.out.map.key (by rw [keys_ents]; exact q)
                · exact tag_size HU3.out HFO.out q
              have hlook := look_any W q m G l k (HLK6.out.blw HBW.out) hks
              obtain ⟨EE, hEE⟩ : ∃ EE, entAt l.all k = EE := ⟨_, rfl⟩
              obtain ⟨is, his⟩ : ∃ is, decide (k ∈ tagsL l.all) = is := ⟨_, rfl⟩
              rw [hEE, his] at hlook
              have HLO := Lib.hid hlook
              have HEE := Lib.hid hEE
              have HIS := Lib.hid his
              clear hlook hEE his hks
              go_wp2_with fail
              refine HLO.out.mono ?_
              rintro e w7 ⟨t1, t2, rfl, hs1, hs2, hb7⟩
              obtain ⟨w0, x7, y7, e0, hx7, hy7, hz7, hb0, ox, oy⟩ := box2 w7 (sarr zS default) (sarr zS default) 33 33
              have hy1 : ((w7.alloc (.cells (sarr zS default) 33)).alloc (.cells (sarr zS default) 33)).heap[w7.heap.size]? = some (.cells (sarr zS default) 33 (0, 0)) := by rw [e0, hx7]; exact ox
              have hy2 : (((w7.alloc (.cells (sarr zS default) 33)).alloc (.cells (sarr zS default) 33)).setRow w7.heap.size (sarr EE.own t1)).heap[w7.heap.size + 1]? = some (.cells (sarr zS default) 33 (0, 0)) := (setRow_other _ _ _ _ (by omega)).trans (by rw [e0, hx7, hy7]; exact oy)
              have hbA : Below w7.heap.size w7 (((w7.alloc (.cells (sarr zS default) 33)).alloc (.cells (sarr zS default) 33)).setRow w7.heap.size (sarr EE.own t1)) := below_setRow (by rw [e0]; exact hb0) (Nat.le_refl _) _
              have HYY := Lib.hid (And.intro hy1 (And.intro hy2 hbA))
              have HO1 := Lib.hid (sarr_one hs1.sin)
              have HO2 := Lib.hid (sarr_one hs2.sin)
              have HB7 := Lib.hid (HBW.out.trans (hb7.mono HBW.out.size))
              clear hs1 hs2 hb7 e0 hx7 hy7 hz7 hb0 ox oy hy1 hy2 hbA
              go_upto_region 17 with (first
                | (refine wpList_store_rowTo rfl 33 (.tmp 14) (.tmp 81) rfl rfl w7.heap.size (sarr EE.own t1) rfl rfl 33 (sarr zS default) HYY.out.1 size_state rfl HO1.out ?_)
                | (refine wpList_store_rowTo rfl 33 (.tmp 15) (.tmp 82) rfl rfl (w7.heap.size + 1) (sarr EE.peer t2) rfl rfl 33 (sarr zS default) HYY.out.2.1 size_state rfl HO2.out ?_))
              have hrp := setRow_heap _ (w7.heap.size + 1) _ (sarr EE.peer t2) _ _ HYY.out.2.1
              have hbB := below_setRow HYY.out.2.2 (Nat.le_succ w7.heap.size) (sarr EE.peer t2)
              change Code.wp _ _ _ _ ((((w7.alloc (.cells (sarr zS default) 33)).alloc (.cells (sarr zS default) 33)).setRow w7.heap.size (sarr EE.own t1)).setRow (w7.heap.size + 1) (sarr EE.peer t2))
              generalize ((((w7.alloc (.cells (sarr zS default) 33)).alloc (.cells (sarr zS default) 33)).setRow w7.heap.size (sarr EE.own t1)).setRow (w7.heap.size + 1) (sarr EE.peer t2)) = w8a at *
              have HB8a := Lib.hid (HB7.out.trans (hbB.mono HB7.out.size))
              have HRPa := Lib.hid hrp
              clear hrp hbB c0
              have c0 : w8a.cell? ⟨g, i * 2, none⟩ = some (.string k) := (HCE.out w8a HB8a.out).1
              have HFI := Lib.hid (first_any w8a w _ _ _ L3 k HU3.out (HBw6.out.trans (HB8a.out.mono HBw6.out.size)))
              go_wp2_with fail
              refine HFI.out.mono ?_
              rintro e w8b ⟨r, rfl, hfa, rfl⟩
              have HRC := Lib.hid HLK.out.2.1
              rcases first_left HFO.out hfa with ⟨rfl, hkn⟩ | ⟨j8, rfl, hj8, hkl, hst8⟩
              · have HJN := Lib.hid hkn
                clear hfa hkn c0
                have HB8 := HB8a
                have cX : w8b.cell? ⟨g, i * 2 + 1, none⟩ = some (.int .i64 X) := (HCE.out w8b HB8.out).2
                have HRP := Lib.hid (range_of_row HRPa.out)
                cases is
                · exact absurd HD0.out (by
                    have h1 := of_decide_eq_false HIS.out
                    have h2 := HJN.out
                    rintro (q | q)
                    · exact h1 q
                    · exact h2 q)
                · cases rc
                  · go_wp2_with (refine wpList_load_midG 33 (.tmp 15) rfl (some 126) rfl (w7.heap.size + 1) 0 rfl (sarr EE.peer t2) _ (by rfl) HRP.out Try.underlying33 rfl size_state ?_)
                    refine (outcome14_any w8b EE.peer t2).mono ?_
                    rintro e w9 ⟨rfl, hb9⟩
                    have HB9 := Lib.hid (HB8.out.trans (hb9.mono HB8.out.size))
                    clear hb9 cX
                    have cX : w9.cell? ⟨g, i * 2 + 1, none⟩ = some (.int .i64 X) := (HCE.out w9 HB9.out).2
                    obtain ⟨so, hso⟩ : ∃ so, outK EE.peer.kind = so := ⟨_, rfl⟩
                    rw [hso]
                    have HSO := Lib.hid hso
                    clear hso
                    cases so
                    · have hX : X = 3 := by
                        have h := HX.out
                        unfold resF at h; rw [if_pos (of_decide_eq_true HIS.out), HRC.out, decide_eq_false HJN.out, HEE.out] at h; unfold becS at h; rw [HSO.out] at h; simpa using h.symm
                      subst hX
                      go_wp2_with fail
                      go_roundw
                      case rel => exact ⟨i + 1, HLT.out, by go_num, HB9.out⟩
                      case measure => simp [intOf]; omega
                    · have hX : X = 1 := by
                        have h := HX.out
                        unfold resF at h; rw [if_pos (of_decide_eq_true HIS.out), HRC.out, decide_eq_false HJN.out, HEE.out] at h; unfold becS at h; rw [HSO.out] at h; simpa using h.symm
                      subst hX
                      go_wp2_with fail
                      go_roundw
                      case rel => exact ⟨i + 1, HLT.out, by go_num, HB9.out⟩
                      case measure => simp [intOf]; omega
                  · have hX : X = 1 := by
                      have h := HX.out
                      unfold resF at h; rw [if_pos (of_decide_eq_true HIS.out), HRC.out, decide_eq_false HJN.out] at h; unfold becS at h; simpa using h.symm
                    subst hX
                    go_wp2_with fail
                    go_roundw
                    case rel => exact ⟨i + 1, HLT.out, by go_num, HB8.out⟩
                    case measure => simp [intOf]; omega
              · have HJK := Lib.hid hkl
                obtain ⟨b3, o3, tk8, hp8, htk8, hik8⟩ := HU3.out.at_ hj8
                have hn8 : (j8 : Int) < n3 := by have := HU3.out.len; omega
                have hcap3 := HU3.out.cap
                have hle3 := HU3.out.le
                unfold maxLen at hcap3
                subst hp8
                have HR8 := Lib.hid (show w8b.rangeAt b3 (o3 + j8 * 20 + 1) (sarr L3[j8].st tk8).toList from fun jj v hv => by
                  have := bs_cellV (HBw6.out.trans (HB8a.out.mono HBw6.out.size)) (htk8 (1 + jj) v (ucells_get L3[j8] tk8 jj v hv))
                  rwa [← Nat.add_assoc] at this)
                have hkd : L3[j8].st.kind = (leftAt a k).1.kind := by rw [hst8]
                generalize L3[j8].st = ys at *
                obtain ⟨dn, hdn⟩ : ∃ dn, outK ys.kind = dn := ⟨_, rfl⟩
                have HDN := Lib.hid (show outK (leftAt a k).1.kind = dn by rw [← hkd]; exact hdn)
                have HOC := Lib.hid (outcome14_any w8b ys tk8)
                clear hfa hkl hst8 htk8 hik8 hkd c0
                go_wp2_with (refine wpList_load_midG 33 (.tmp 97) rfl (some 98) rfl b3 (o3 + j8 * 20 + 1) rfl (sarr ys tk8) _ (by rfl) HR8.out Try.underlying33 rfl size_state ?_)
                refine HOC.out.mono ?_
                rintro e w8 ⟨rfl, hb8⟩
                rw [hdn]
                have HB8 := Lib.hid (HB8a.out.trans (hb8.mono HB8a.out.size))
                clear hb8 hdn
                have cX : w8.cell? ⟨g, i * 2 + 1, none⟩ = some (.int .i64 X) := (HCE.out w8 HB8.out).2
                cases rc
                · cases is
                  · have hX : X = 2 := by
                      have h := HX.out
                      unfold resF at h; rw [if_neg (of_decide_eq_false HIS.out), HRC.out] at h; simpa using h.symm
                    subst hX
                    go_wp2_with fail
                    go_roundw
                    case rel => exact ⟨i + 1, HLT.out, by go_num, HB8.out⟩
                    case measure => simp [intOf]; omega
                  · cases dn
                    · have hX : X = 3 := by
                        have h := HX.out
                        unfold resF at h; rw [if_pos (of_decide_eq_true HIS.out), HRC.out, decide_eq_true HJK.out] at h; unfold becS at h; rw [HDN.out] at h; simpa using h.symm
                      subst hX
                      go_wp2_with fail
                      go_roundw
                      case rel => exact ⟨i + 1, HLT.out, by go_num, HB8.out⟩
                      case measure => simp [intOf]; omega
                    · have hX : X = 2 := by
                        have h := HX.out
                        unfold resF at h; rw [if_pos (of_decide_eq_true HIS.out), HRC.out, decide_eq_true HJK.out] at h; unfold becS at h; rw [HDN.out] at h; simpa using h.symm
                      subst hX
                      go_wp2_with fail
                      go_roundw
                      case rel => exact ⟨i + 1, HLT.out, by go_num, HB8.out⟩
                      case measure => simp [intOf]; omega
                · have hX : X = 4 := by
                    have h := HX.out
                    unfold resF at h
                    rw [HRC.out, decide_eq_true HJK.out] at h
                    unfold becS at h
                    simpa using h.symm
                  subst hX
                  cases is
                  all_goals
                    go_wp2_with fail
                    go_roundw
                    case rel => exact ⟨i + 1, HLT.out, by go_num, HB8.out⟩
                    case measure => simp [intOf]; omega
            · obtain ⟨j, hj⟩ : ∃ j, j + 1 = i := ⟨i - 1, by omega⟩
              obtain ⟨zp, hzp, hzl⟩ := HPV.out j hj
              have ej : ((i : Nat) : Int) - 1 = (j : Nat) := by omega
              have ej2 : IntKind.i64.wrap (((i : Nat) : Int) - 1) = (j : Nat) := by rw [ej]; exact wrap_idI (by omega) (by omega)
              have hji : (j : Int) < N := by omega
              have hi1 : (0 : Int) < i := by omega
              have hi2 : 0 < i := by omega
              have hi3 : decide ((0 : Int) < (i : Int)) = true := decide_eq_true hi1
              have hee : (zp.toList == k.toList) = false := by
                rw [teq]
                refine decide_eq_false (fun e => ?_)
                rw [e, less_cmp] at hzl
                have h9 := of_decide_eq_true hzl
                have h8 : cmpT k k = 0 := cmpT_zero.2 rfl
                unfold cmpT at h8
                rw [ByteArray.toList_eq] at h9
                omega
              go_upto_region 14 with fail
              go_quiet (fail)
              have HDN0 := Lib.hid (fun kk => below_drewN (Below.refl wr.heap.size wr) kk)
              generalize hWW : wr.drewN _ = W
              have HBW := Lib.hid (show Below w6.heap.size w6 W by rw [← hWW]; exact HBr.out.trans ((HDN0.out _).mono HBr.out.size))
              clear hWW HDN0 c0
              have c0 : W.cell? ⟨g, i * 2, none⟩ = some (.string k) := (HCE.out W HBW.out).1
              have hks : k.size ≤ maxLen := by
                rcases HD0.out with q | q
                · exact HLK6.out.map.key (by rw [keys_ents]; exact q)
                · exact tag_size HU3.out HFO.out q
              have hlook := look_any W q m G l k (HLK6.out.blw HBW.out) hks
              obtain ⟨EE, hEE⟩ : ∃ EE, entAt l.all k = EE := ⟨_, rfl⟩
              obtain ⟨is, his⟩ : ∃ is, decide (k ∈ tagsL l.all) = is := ⟨_, rfl⟩
              rw [hEE, his] at hlook
              have HLO := Lib.hid hlook
              have HEE := Lib.hid hEE
              have HIS := Lib.hid his
              clear hlook hEE his hks
              go_wp2_with fail
              refine HLO.out.mono ?_
              rintro e w7 ⟨t1, t2, rfl, hs1, hs2, hb7⟩
              obtain ⟨w0, x7, y7, e0, hx7, hy7, hz7, hb0, ox, oy⟩ := box2 w7 (sarr zS default) (sarr zS default) 33 33
              have hy1 : ((w7.alloc (.cells (sarr zS default) 33)).alloc (.cells (sarr zS default) 33)).heap[w7.heap.size]? = some (.cells (sarr zS default) 33 (0, 0)) := by rw [e0, hx7]; exact ox
              have hy2 : (((w7.alloc (.cells (sarr zS default) 33)).alloc (.cells (sarr zS default) 33)).setRow w7.heap.size (sarr EE.own t1)).heap[w7.heap.size + 1]? = some (.cells (sarr zS default) 33 (0, 0)) := (setRow_other _ _ _ _ (by omega)).trans (by rw [e0, hx7, hy7]; exact oy)
              have hbA : Below w7.heap.size w7 (((w7.alloc (.cells (sarr zS default) 33)).alloc (.cells (sarr zS default) 33)).setRow w7.heap.size (sarr EE.own t1)) := below_setRow (by rw [e0]; exact hb0) (Nat.le_refl _) _
              have HYY := Lib.hid (And.intro hy1 (And.intro hy2 hbA))
              have HO1 := Lib.hid (sarr_one hs1.sin)
              have HO2 := Lib.hid (sarr_one hs2.sin)
              have HB7 := Lib.hid (HBW.out.trans (hb7.mono HBW.out.size))
              clear hs1 hs2 hb7 e0 hx7 hy7 hz7 hb0 ox oy hy1 hy2 hbA
              go_upto_region 17 with (first
                | (refine wpList_store_rowTo rfl 33 (.tmp 14) (.tmp 81) rfl rfl w7.heap.size (sarr EE.own t1) rfl rfl 33 (sarr zS default) HYY.out.1 size_state rfl HO1.out ?_)
                | (refine wpList_store_rowTo rfl 33 (.tmp 15) (.tmp 82) rfl rfl (w7.heap.size + 1) (sarr EE.peer t2) rfl rfl 33 (sarr zS default) HYY.out.2.1 size_state rfl HO2.out ?_))
              have hrp := setRow_heap _ (w7.heap.size + 1) _ (sarr EE.peer t2) _ _ HYY.out.2.1
              have hbB := below_setRow HYY.out.2.2 (Nat.le_succ w7.heap.size) (sarr EE.peer t2)
              change Code.wp _ _ _ _ ((((w7.alloc (.cells (sarr zS default) 33)).alloc (.cells (sarr zS default) 33)).setRow w7.heap.size (sarr EE.own t1)).setRow (w7.heap.size + 1) (sarr EE.peer t2))
              generalize ((((w7.alloc (.cells (sarr zS default) 33)).alloc (.cells (sarr zS default) 33)).setRow w7.heap.size (sarr EE.own t1)).setRow (w7.heap.size + 1) (sarr EE.peer t2)) = w8a at *
              have HB8a := Lib.hid (HB7.out.trans (hbB.mono HB7.out.size))
              have HRPa := Lib.hid hrp
              clear hrp hbB c0
              have c0 : w8a.cell? ⟨g, i * 2, none⟩ = some (.string k) := (HCE.out w8a HB8a.out).1
              have HFI := Lib.hid (first_any w8a w _ _ _ L3 k HU3.out (HBw6.out.trans (HB8a.out.mono HBw6.out.size)))
              go_wp2_with fail
              refine HFI.out.mono ?_
              rintro e w8b ⟨r, rfl, hfa, rfl⟩
              have HRC := Lib.hid HLK.out.2.1
              rcases first_left HFO.out hfa with ⟨rfl, hkn⟩ | ⟨j8, rfl, hj8, hkl, hst8⟩
              · have HJN := Lib.hid hkn
                clear hfa hkn c0
                have HB8 := HB8a
                have cX : w8b.cell? ⟨g, i * 2 + 1, none⟩ = some (.int .i64 X) := (HCE.out w8b HB8.out).2
                have HRP := Lib.hid (range_of_row HRPa.out)
                cases is
                · exact absurd HD0.out (by
                    have h1 := of_decide_eq_false HIS.out
                    have h2 := HJN.out
                    rintro (q | q)
                    · exact h1 q
                    · exact h2 q)
                · cases rc
                  · go_wp2_with (refine wpList_load_midG 33 (.tmp 15) rfl (some 126) rfl (w7.heap.size + 1) 0 rfl (sarr EE.peer t2) _ (by rfl) HRP.out Try.underlying33 rfl size_state ?_)
                    refine (outcome14_any w8b EE.peer t2).mono ?_
                    rintro e w9 ⟨rfl, hb9⟩
                    have HB9 := Lib.hid (HB8.out.trans (hb9.mono HB8.out.size))
                    clear hb9 cX
                    have cX : w9.cell? ⟨g, i * 2 + 1, none⟩ = some (.int .i64 X) := (HCE.out w9 HB9.out).2
                    obtain ⟨so, hso⟩ : ∃ so, outK EE.peer.kind = so := ⟨_, rfl⟩
                    rw [hso]
                    have HSO := Lib.hid hso
                    clear hso
                    cases so
                    · have hX : X = 3 := by
                        have h := HX.out
                        unfold resF at h; rw [if_pos (of_decide_eq_true HIS.out), HRC.out, decide_eq_false HJN.out, HEE.out] at h; unfold becS at h; rw [HSO.out] at h; simpa using h.symm
                      subst hX
                      go_wp2_with fail
                      go_roundw
                      case rel => exact ⟨i + 1, HLT.out, by go_num, HB9.out⟩
                      case measure => simp [intOf]; omega
                    · have hX : X = 1 := by
                        have h := HX.out
                        unfold resF at h; rw [if_pos (of_decide_eq_true HIS.out), HRC.out, decide_eq_false HJN.out, HEE.out] at h; unfold becS at h; rw [HSO.out] at h; simpa using h.symm
                      subst hX
                      go_wp2_with fail
                      go_roundw
                      case rel => exact ⟨i + 1, HLT.out, by go_num, HB9.out⟩
                      case measure => simp [intOf]; omega
                  · have hX : X = 1 := by
                      have h := HX.out
                      unfold resF at h; rw [if_pos (of_decide_eq_true HIS.out), HRC.out, decide_eq_false HJN.out] at h; unfold becS at h; simpa using h.symm
                    subst hX
                    go_wp2_with fail
                    go_roundw
                    case rel => exact ⟨i + 1, HLT.out, by go_num, HB8.out⟩
                    case measure => simp [intOf]; omega
              · have HJK := Lib.hid hkl
                obtain ⟨b3, o3, tk8, hp8, htk8, hik8⟩ := HU3.out.at_ hj8
                have hn8 : (j8 : Int) < n3 := by have := HU3.out.len; omega
                have hcap3 := HU3.out.cap
                have hle3 := HU3.out.le
                unfold maxLen at hcap3
                subst hp8
                have HR8 := Lib.hid (show w8b.rangeAt b3 (o3 + j8 * 20 + 1) (sarr L3[j8].st tk8).toList from fun jj v hv => by
                  have := bs_cellV (HBw6.out.trans (HB8a.out.mono HBw6.out.size)) (htk8 (1 + jj) v (ucells_get L3[j8] tk8 jj v hv))
                  rwa [← Nat.add_assoc] at this)
                have hkd : L3[j8].st.kind = (leftAt a k).1.kind := by rw [hst8]
                generalize L3[j8].st = ys at *
                obtain ⟨dn, hdn⟩ : ∃ dn, outK ys.kind = dn := ⟨_, rfl⟩
                have HDN := Lib.hid (show outK (leftAt a k).1.kind = dn by rw [← hkd]; exact hdn)
                have HOC := Lib.hid (outcome14_any w8b ys tk8)
                clear hfa hkl hst8 htk8 hik8 hkd c0
                go_wp2_with (refine wpList_load_midG 33 (.tmp 97) rfl (some 98) rfl b3 (o3 + j8 * 20 + 1) rfl (sarr ys tk8) _ (by rfl) HR8.out Try.underlying33 rfl size_state ?_)
                refine HOC.out.mono ?_
                rintro e w8 ⟨rfl, hb8⟩
                rw [hdn]
                have HB8 := Lib.hid (HB8a.out.trans (hb8.mono HB8a.out.size))
                clear hb8 hdn
                have cX : w8.cell? ⟨g, i * 2 + 1, none⟩ = some (.int .i64 X) := (HCE.out w8 HB8.out).2
                cases rc
                · cases is
                  · have hX : X = 2 := by
                      have h := HX.out
                      unfold resF at h; rw [if_neg (of_decide_eq_false HIS.out), HRC.out] at h; simpa using h.symm
                    subst hX
                    go_wp2_with fail
                    go_roundw
                    case rel => exact ⟨i + 1, HLT.out, by go_num, HB8.out⟩
                    case measure => simp [intOf]; omega
                  · cases dn
                    · have hX : X = 3 := by
                        have h := HX.out
                        unfold resF at h; rw [if_pos (of_decide_eq_true HIS.out), HRC.out, decide_eq_true HJK.out] at h; unfold becS at h; rw [HDN.out] at h; simpa using h.symm
                      subst hX
                      go_wp2_with fail
                      go_roundw
                      case rel => exact ⟨i + 1, HLT.out, by go_num, HB8.out⟩
                      case measure => simp [intOf]; omega
                    · have hX : X = 2 := by
                        have h := HX.out
                        unfold resF at h; rw [if_pos (of_decide_eq_true HIS.out), HRC.out, decide_eq_true HJK.out] at h; unfold becS at h; rw [HDN.out] at h; simpa using h.symm
                      subst hX
                      go_wp2_with fail
                      go_roundw
                      case rel => exact ⟨i + 1, HLT.out, by go_num, HB8.out⟩
                      case measure => simp [intOf]; omega
                · have hX : X = 4 := by
                    have h := HX.out
                    unfold resF at h
                    rw [HRC.out, decide_eq_true HJK.out] at h
                    unfold becS at h
                    simpa using h.symm
                  subst hX
                  cases is
                  all_goals
                    go_wp2_with fail
                    go_roundw
                    case rel => exact ⟨i + 1, HLT.out, by go_num, HB8.out⟩
                    case measure => simp [intOf]; omega
          · have hiN : i = N := by omega
            subst hiN
            have HUN := Lib.hid (unsettled_any wr q m G l (HLK6.out.blw HBr.out) (by have := HLK.out.2.2; omega))
            have HRO := Lib.hid (HROWOF.out.blw HBr.out)
            have HB6r := Lib.hid (HBw6.out.trans (HBr.out.mono HBw6.out.size))
            go_wp2_with fail
            refine HUN.out.mono ?_
            rintro e w7 ⟨v2, ps, rfl, hrow2, hps, hperm, _, hb7⟩
            obtain ⟨p2', c2', rfl, hd1, hd2, hrow2⟩ := hrow2
            obtain ⟨M, hM⟩ : ∃ M, ps.length = M := ⟨_, rfl⟩
            have HM := Lib.hid hM
            have HR2 := Lib.hid (show 0 < M → ∃ g, p2' = some ⟨g, 0, none⟩ ∧ ∀ i (hi : i < ps.length), w7.rangeAt g (i * 20) (encU ps[i]) from fun q => hrow2 (by omega))
            have HIN := Lib.hid (show ∀ i (hi : i < ps.length), ps[i].1.tag ∈ rs.map Prod.fst from fun i hi => by
              have h5 : ps[i].1.tag ∈ tagsL l.all := hperm.mem_iff.1 (List.mem_map.2 ⟨_, List.getElem_mem hi, rfl⟩)
              exact (HRI.out.all _ (.inl h5)).resolve_right (fun q => q))
            have HRO7 := Lib.hid (HRO.out.blw hb7)
            have HB7 := Lib.hid (HB6r.out.trans (hb7.mono HB6r.out.size))
            unfold maxLen at hd2
            rw [hM] at hd1 ⊢
            clear hrow2 hps hperm hb7 hM
            go_wp2_with fail
            go_loopw [21] (fun v21 wx => ∃ i : Nat, i ≤ M ∧ v21 = .int .i64 i ∧ wx = w7) (fun v21 _ => M - (intOf v21).toNat)
            case atStart => exact ⟨0, Nat.zero_le _, rfl, rfl⟩
            case round =>
              obtain ⟨i, hin, rfl, rfl⟩ := hrel
              by_cases hlt : (i : Int) < M
              · have HLT := Lib.hid (show i < M by omega)
                have ia : i < ps.length := by rw [HM.out]; omega
                obtain ⟨g, hpg, hr2⟩ := HR2.out (by omega)
                subst hpg
                obtain ⟨k, hk⟩ : ∃ k, ps[i].1.tag = k := ⟨_, rfl⟩
                have hin2 := HIN.out i ia
                have c0 : wr.cell? ⟨g, i * 20, none⟩ = some (.string k) := by
                  have := hr2 i ia 0 (.string ps[i].1.tag) rfl
                  rw [hk] at this
                  rwa [Nat.add_zero] at this
                rw [hk] at hin2
                have HK2 := Lib.hid hin2
                have HAM := Lib.hid (among_any wr _ rs k HRO7.out)
                clear hr2 hk hin2 ia
                rw [HN.out] at HAM
                go_wp2_with fail
                refine HAM.out.mono ?_
                rintro e w9 ⟨b, rfl, hb, rfl⟩
                obtain rfl : b = true := hb HK2.out
                clear c0 hb
                go_wp2_with fail
                go_roundw
                case rel => exact ⟨i + 1, HLT.out, by go_num, by first | rfl | trivial⟩
                case measure => simp [intOf]; omega
              · have hcap3 := HU3.out.cap
                have hle3 := HU3.out.le
                unfold maxLen at hcap3
                go_wp2_with fail
                go_loopw [23] (fun v23 wx => ∃ i : Nat, i ≤ n3 ∧ v23 = .int .i64 i ∧ wx = wr) (fun v23 _ => n3 - (intOf v23).toNat)
                case atStart => exact ⟨0, Nat.zero_le _, rfl, rfl⟩
                case round =>
                  obtain ⟨j, hjn, rfl, rfl⟩ := hrel
                  by_cases hlt : (j : Int) < n3
                  · have HLT := Lib.hid (show j < n3 by omega)
                    have ja : j < L3.length := by rw [HU3.out.len]; omega
                    obtain ⟨b3, o3, tk, hp3, htk, hik⟩ := HU3.out.at_ ja
                    subst hp3
                    obtain ⟨k, hk⟩ : ∃ k, (L3[j]'ja).tag = k := ⟨_, rfl⟩
                    have c0 : wr.cell? ⟨b3, o3 + j * 20, none⟩ = some (.string k) := by
                      have := bs_cellV HB7.out (htk 0 (.string L3[j].tag) rfl)
                      rw [hk] at this
                      rwa [Nat.add_zero] at this
                    have hin2 : k ∈ rs.map Prod.fst := by
                      rw [← hk]
                      exact (HRI.out.all _ (.inr (HFO.out.all j ja ja))).resolve_right (fun q => q)
                    have HK2 := Lib.hid hin2
                    have HAM := Lib.hid (among_any wr _ rs k HRO7.out)
                    clear htk hik hk hin2 ja
                    rw [HN.out] at HAM
                    go_wp2_with fail
                    refine HAM.out.mono ?_
                    rintro e w9 ⟨b, rfl, hb, rfl⟩
                    obtain rfl : b = true := hb HK2.out
                    clear c0 hb
                    go_wp2_with fail
                    go_roundw
                    case rel => exact ⟨j + 1, HLT.out, by go_num, by first | rfl | trivial⟩
                    case measure => simp [intOf]; omega
                  · go_wp2_with fail
                    go_ret
                    exact ⟨rfl, HB7.out⟩
      · go_wp2_with fail
        go_ret
        exact ⟨rfl, HBw4.out⟩
    · go_wp2_with fail
      go_ret
      exact ⟨rfl, HBw3.out⟩
  · go_wp2_with fail
    go_ret
    exact ⟨rfl, HBw2.out⟩
end Go.Proofs.Ytcbjfakkikjbkaa
