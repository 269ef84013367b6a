/-
  A link's deliveries: counted, sent, got. Conditions: the link lies in memory.
-/
import Derived.Test.YtcbjfakkikjbkaaKj
namespace Go.Proofs.Ytcbjfakkikjbkaa
open Go.RowKit Go.Maps
set_option linter.all false

theorem wpList_mapUpdate_to {P : Program} {ops : Array Oper} {rest : List Oper} {o : Oper} {a : Act} {w : World} {Q : Exit → Act → World → Prop} (hg : o.guard = none) (t : TypeId) (m k v : Operand) (ho : o.op = .mapUpdate t m k v) (hd : o.dst = none) (M K V : Value) (hm : a.eval m = M) (hk : a.eval k = K) (hv : a.eval v = V) (w' : World)
    (hr : (Instr.mapUpdate t M K V).run P w = .ok () w') (h : wpList P ops Q rest a w') : wpList P ops Q (o :: rest) a w := by
  refine wpList_plain hg fun K' hK' => ?_
  unfold Oper.wp
  simp [execOp, ho, hm, hk, hv, hr, Result.andThen]
  refine hK' _ _ ?_
  rw [hd]
  exact h
theorem zero_said (w : World) : (zeroValue 78).run Try.prog w = .ok zE.val w := by kernel_rfl
theorem size_said : (Try.prog.info? 78).map (·.size) = some 38 := by kernel_rfl
theorem MapOf.nd {w : World} {m : Nat} {l : List (ByteArray × Value)} (h : MapOf w m l) : (keysL l).Nodup := by obtain ⟨D, _, h2⟩ := h; exact h2.nd
theorem MapOf.key {w : World} {m : Nat} {l : List (ByteArray × Value)} (h : MapOf w m l) {k : ByteArray} (hk : k ∈ keysL l) : k.size ≤ maxLen := by obtain ⟨D, _, h2⟩ := h; exact h2.ok k hk
theorem LkIn.nd {w : World} {q m : Nat} {G : Nat → Prop} {l : Lk} (h : LkIn w q m G l) : (tagsL l.all).Nodup := by rw [← keys_ents]; exact h.map.nd
theorem SI.none {w : World} {s : St} {t : Sl} {G : Nat → Prop} (h : ∀ w, SIn w s t) : SI w G s t := fun w' _ => h w'
/-- what stands at a tag -/
theorem LkIn.at_ {w : World} {q m : Nat} {G : Nat → Prop} {l : Lk} (h : LkIn w q m G l) (tag : ByteArray) : SI w G (entAt l.all tag).own (entAt l.all tag).o ∧ SI w G (entAt l.all tag).peer (entAt l.all tag).p ∧ (entAt l.all tag).Ok := by
  by_cases ht : tag ∈ tagsL l.all
  · exact ⟨(h.sts _ (entAt_mem ht)).1, (h.sts _ (entAt_mem ht)).2, h.ok.ent _ (entAt_mem ht)⟩
  · rw [entAt_none ht]
    exact ⟨SI.none zS_in, SI.none zS_in, zE_ok⟩
/-- 'x, there := l.all[tag]' -/
theorem LkIn.look {w : World} {q m : Nat} {G : Nat → Prop} {l : Lk} (h : LkIn w q m G l) {tag : ByteArray} (ht : tag.size ≤ maxLen) :
    (Instr.lookup 74 (.map (some m)) (.string tag) true).run Try.prog w = .ok (.tuple #[(entAt l.all tag).val, .bool (decide (tag ∈ tagsL l.all))]) w := by
  obtain ⟨v, hr, hv⟩ := h.map.look Try.underlying74 (zero_said w) ht
  rw [hr]
  have hd : decide (tag ∈ keysL (ents l.all)) = decide (tag ∈ tagsL l.all) := by simp only [keys_ents]
  rw [hd]
  rcases hv with hv | ⟨hn, rfl⟩
  · obtain ⟨e, he, rfl⟩ := mem_ents hv
    rw [ent_unique h.nd he (entAt_mem (mem_tags he))]
  · rw [keys_ents] at hn
    rw [entAt_none hn]
theorem eval_size (e : Ent) : (sarr e.own e.o ++ sarr e.peer e.p).size = 38 := by rw [Array.size_append, sarr_size, sarr_size]
theorem ent_one {w : World} {e : Ent} (h1 : SIn w e.own e.o) (h2 : SIn w e.peer e.p) : (sarr e.own e.o ++ sarr e.peer e.p).all (·.oneCell') = true := by
  rw [Array.all_append, sarr_one h1, sarr_one h2]
  rfl

theorem below_drewN {n : Nat} {w w' : World} (h : Below n w w') (k : Nat) : Below n w (w'.drewN k) := ⟨h.os, h.tape, h.output, h.size, h.block⟩
set_option maxRecDepth 20000 in
set_option maxHeartbeats 4000000 in
theorem counts_any (w : World) (q m : Nat) (G : Nat → Prop) (l : Lk) (tag : ByteArray) (b : Bool) (h : LkIn w q m G l) (ht : tag.size ≤ maxLen) (hl : l.all.length < maxLen) :
    Calls Try.prog 32 #[.pointer (some ⟨q, 0, none⟩), .string tag, .bool b] w fun e w' => e = .returned (.int .i64 (l.counts tag b).2) ∧ LkIn w' q m G (l.counts tag b).1 ∧ LMv q m w w' := by
  obtain ⟨L, hL⟩ : ∃ L, l.counts tag b = L := ⟨_, rfl⟩
  rw [hL]
  have HLG := Lib.hid hL
  have HT := Lib.hid (And.intro ht hl)
  have hlook := h.look ht
  unfold Ent.val at hlook
  obtain ⟨s1, s2, s3⟩ := h.at_ tag
  have ho1 := ent_one s1.sin s2.sin
  obtain ⟨E, hE⟩ : ∃ E, sarr (entAt l.all tag).own (entAt l.all tag).o ++ sarr (entAt l.all tag).peer (entAt l.all tag).p = E := ⟨_, rfl⟩
  have hsz : E.size = 38 := by rw [← hE]; exact eval_size _
  rw [hE] at hlook ho1
  have HSZ := Lib.hid (show (Try.prog.info? 78).map (·.size) = some E.size by rw [hsz]; exact size_said)
  have HSZ2 := Lib.hid (show (sarr zS default ++ sarr zS default).size = E.size by rw [hsz]; rfl)
  have HO := Lib.hid ho1
  have c11 : w.cell? ⟨q, 11, none⟩ = some (.map (some m)) := h.cs 11 _ rfl
  have H := Lib.hid h
  obtain ⟨th, hth⟩ : ∃ th, decide (tag ∈ tagsL l.all) = th := ⟨_, rfl⟩
  rw [hth] at hlook
  have HTH := Lib.hid hth
  clear h hL ht hl s1 s2 s3 ho1 hE hsz hth
  go_enter Try.func32, Try.ntmps32
  go_upto_region 2 with (refine wpList_store_rowTo rfl 78 (.tmp 7) (.tmp 17) rfl rfl w.heap.size E rfl rfl 78 (sarr zS default ++ sarr zS default) (_root_.Go.heap_alloc_new w _) HSZ.out HSZ2.out HO.out ?_)
  have hb_w1 : Below w.heap.size w ((w.alloc (.cells (sarr zS default ++ sarr zS default) 78)).setRow w.heap.size E) := below_setRow ((Below.refl _ _).alloc (Nat.le_refl _) _) (Nat.le_refl _) _
  change Code.wp _ _ _ _ ((w.alloc (.cells (sarr zS default ++ sarr zS default) 78)).setRow w.heap.size E)
  generalize ((w.alloc (.cells (sarr zS default ++ sarr zS default) 78)).setRow w.heap.size E) = w1 at *
  have hh := H.out.blw hb_w1
  have c11 : w1.cell? ⟨q, 11, none⟩ = some (.map (some m)) := hh.cs 11 _ rfl
  have c1 : w1.cell? ⟨q, 1, none⟩ = some (.bool l.rc) := hh.cs 1 _ rfl
  have c2 : w1.cell? ⟨q, 2, none⟩ = some (.int .i64 l.snd) := hh.cs 2 _ rfl
  have c6 : w1.cell? ⟨q, 6, none⟩ = some (.int .i64 l.count) := hh.cs 6 _ rfl
  have c7 : w1.cell? ⟨q, 7, none⟩ = some (.int .i64 l.credit) := hh.cs 7 _ rfl
  have c8 : w1.cell? ⟨q, 8, none⟩ = some (.int .i64 l.bound) := hh.cs 8 _ rfl
  have HW := Lib.hid (And.intro hh (LMv.of_below (q := q) (m := m) hb_w1))
  clear hh hb_w1
  cases hrc : l.rc
  · rw [hrc] at c1
    have HRC := Lib.hid hrc
    obtain ⟨sp, hsp⟩ : ∃ sp, decide (l.credit = 0) = sp := ⟨_, rfl⟩
    have HSPE := Lib.hid hsp
    have esp : (l.credit == 0) = sp := by rw [← hsp]; rfl
    have H1 := Lib.hid HW.out
    clear hrc hsp
    go_upto_region 5 with fail
    generalize w1 = W at *
    by_cases h0 : tag = ⟨#[]⟩
    · have e0 : tag.toList = [] := by rw [h0, ByteArray.toList_eq]
      have e1 : tag.toList.isEmpty = true := by rw [e0]; rfl
      have hd : L = (l, 122) := by rw [← HLG.out]; unfold Lk.counts; rw [if_pos (.inl (by rw [h0]; rfl))]
      subst hd
      go_wp2_with fail
      all_goals
        go_ret
        exact ⟨rfl, H1.out.1, H1.out.2⟩
    · have e0 : ¬ tag.toList = [] := fun q => h0 (by cases tag with | mk d => rw [ByteArray.toList_eq] at q; rw [ByteArray.mk.injEq]; exact Array.toList_eq_nil_iff.1 q)
      have e1 : tag.toList.isEmpty = false := by simpa using e0
      have H0 := Lib.hid h0
      clear h0
      by_cases h32 : (32 : Int) < (tag.size : Int)
      · have hd : L = (l, 122) := by rw [← HLG.out]; unfold Lk.counts; rw [if_pos (.inr (by omega))]
        subst hd
        go_wp2_with fail
        all_goals
          go_ret
          exact ⟨rfl, H1.out.1, H1.out.2⟩
      · have HNT := Lib.hid (show ¬ (tag.size = 0 ∨ 32 < tag.size) from fun q => by
          rcases q with q | q
          · exact H0.out (by cases tag with | mk d => rw [ByteArray.mk.injEq]; exact Array.eq_empty_of_size_eq_zero q)
          · omega)
        cases sp
        · have HSP := Lib.hid (show ¬ (if l.rc = true then l.count = l.bound else l.credit = 0) by rw [HRC.out]; simpa using of_decide_eq_false HSPE.out)
          cases th
          · have HTN := Lib.hid (of_decide_eq_false HTH.out)
            cases b
            · by_cases hm : l.snd = 1
              · have em : (l.snd == 1) = true := by simpa using hm
                have hd : L = (l, 141) := by rw [← HLG.out]; unfold Lk.counts; rw [if_neg HNT.out, if_neg HSP.out, if_neg HTN.out, if_pos (.inr ⟨rfl, hm⟩)]
                subst hd
                go_wp2_with fail
                all_goals
                  go_ret
                  exact ⟨rfl, H1.out.1, H1.out.2⟩
              · have em : (l.snd == 1) = false := by simpa using hm
                have HMD := Lib.hid hm
                clear hm
                have hd : L = ({ l.goes 1 with wait := max 0 (l.wait - 1), all := l.all ++ [(tag, zE)] }, 0) := by rw [← HLG.out]; unfold Lk.counts; rw [if_neg HNT.out, if_neg HSP.out, if_neg HTN.out, if_neg (by simpa using HMD.out)]; rfl
                subst hd
                have hgo := goes_any W q m G l 1 H1.out.1 ⟨by omega, by omega⟩
                have HGO := Lib.hid hgo
                clear hgo
                go_wp2_with fail
                refine HGO.out.mono ?_
                rintro e w2 ⟨rfl, h2, hm2⟩
                have e9 : w2.cell? ⟨q, 9, none⟩ = some (.int .i64 l.wait) := h2.cs 9 _ rfl
                have y9 := h2.fz 9
                have hw1 := H.out.ok.wait.1
                have hw2 := H.out.ok.wait.2
                have hmx : (if 0 < l.wait - 1 then l.wait - 1 else 0) = max 0 (l.wait - 1) := by split <;> omega
                have hmx2 : (if 1 < l.wait then l.wait - 1 else 0) = max 0 (l.wait - 1) := by split <;> omega
                have h3 := h2.set1 (l' := { l.goes 1 with wait := max 0 (l.wait - 1) }) 9 (.int .i64 (max 0 (l.wait - 1))) rfl rfl (by have o := h2.ok; exact ⟨o.name, o.snd, o.rcv, o.ini, o.mx, o.count, o.credit, o.bound, ⟨by show 0 ≤ max 0 (l.wait - 1); omega, by show max 0 (l.wait - 1) ≤ _; omega⟩, o.ent⟩)
                have H3 := Lib.hid (And.intro h3 (H1.out.2.trans (hm2.cell (i := 9) (v := .int .i64 (max 0 (l.wait - 1))))))
                have e11 : w2.cell? ⟨q, 11, none⟩ = some (.map (some m)) := h2.cs 11 _ rfl
                obtain ⟨w4, hput, hm4, hg4⟩ := h3.map.put Try.underlying74 HT.out.1 (by rw [keys_ents]; exact HTN.out) (by rw [ents_len]; exact HT.out.2) zE.val
                have h4 := h3.turnM (a := l.all ++ [(tag, zE)]) (by rw [ents_put]; exact hm4) hg4 (fun p hp => by
                  rcases List.mem_append.1 hp with hp | hp
                  · exact h3.sts p hp
                  · obtain rfl : p = (tag, zE) := by simpa using hp
                    exact ⟨SI.none zS_in, SI.none zS_in⟩) (fun p hp => by
                  rcases List.mem_append.1 hp with hp | hp
                  · exact h3.ok.ent p hp
                  · obtain rfl : p = (tag, zE) := by simpa using hp
                    exact zE_ok)
                have H4 := Lib.hid (And.intro h4 (H3.out.2.trans (LMv.of_grown hg4)))
                have HPU := Lib.hid hput
                clear h2 hm2 h3 hm4 hg4 h4 hput
                go_wp2_with (refine wpList_mapUpdate_to rfl 74 (.tmp 86) (.tmp 87) (.tmp 88) rfl rfl (.map (some m)) (.string tag) zE.val rfl rfl rfl w4 HPU.out ?_)
                go_ret
                exact ⟨rfl, H4.out.1, H4.out.2⟩
            · by_cases hm : l.snd = 0
              · have em : (l.snd == 0) = true := by simpa using hm
                have hd : L = (l, 141) := by rw [← HLG.out]; unfold Lk.counts; rw [if_neg HNT.out, if_neg HSP.out, if_neg HTN.out, if_pos (.inl ⟨rfl, hm⟩)]
                subst hd
                go_wp2_with fail
                all_goals
                  go_ret
                  exact ⟨rfl, H1.out.1, H1.out.2⟩
              · have em : (l.snd == 0) = false := by simpa using hm
                have HMD := Lib.hid hm
                clear hm
                have hd : L = ({ l.goes 1 with wait := max 0 (l.wait - 1), all := l.all }, 0) := by rw [← HLG.out]; unfold Lk.counts; rw [if_neg HNT.out, if_neg HSP.out, if_neg HTN.out, if_neg (by simpa using HMD.out)]; rfl
                subst hd
                have hgo := goes_any W q m G l 1 H1.out.1 ⟨by omega, by omega⟩
                have HGO := Lib.hid hgo
                clear hgo
                go_wp2_with fail
                refine HGO.out.mono ?_
                rintro e w2 ⟨rfl, h2, hm2⟩
                have e9 : w2.cell? ⟨q, 9, none⟩ = some (.int .i64 l.wait) := h2.cs 9 _ rfl
                have y9 := h2.fz 9
                have hw1 := H.out.ok.wait.1
                have hw2 := H.out.ok.wait.2
                have hmx : (if 0 < l.wait - 1 then l.wait - 1 else 0) = max 0 (l.wait - 1) := by split <;> omega
                have hmx2 : (if 1 < l.wait then l.wait - 1 else 0) = max 0 (l.wait - 1) := by split <;> omega
                have h3 := h2.set1 (l' := { l.goes 1 with wait := max 0 (l.wait - 1) }) 9 (.int .i64 (max 0 (l.wait - 1))) rfl rfl (by have o := h2.ok; exact ⟨o.name, o.snd, o.rcv, o.ini, o.mx, o.count, o.credit, o.bound, ⟨by show 0 ≤ max 0 (l.wait - 1); omega, by show max 0 (l.wait - 1) ≤ _; omega⟩, o.ent⟩)
                have H3 := Lib.hid (And.intro h3 (H1.out.2.trans (hm2.cell (i := 9) (v := .int .i64 (max 0 (l.wait - 1))))))
                clear h2 hm2 h3
                go_wp2_with fail
                go_ret
                exact ⟨rfl, H3.out.1, H3.out.2⟩
          · have hd : L = (l, 142) := by rw [← HLG.out]; unfold Lk.counts; rw [if_neg HNT.out, if_neg HSP.out, if_pos (of_decide_eq_true HTH.out)]
            subst hd
            go_wp2_with fail
            all_goals
              go_ret
              exact ⟨rfl, H1.out.1, H1.out.2⟩
        · have hd : L = (l, 140) := by rw [← HLG.out]; unfold Lk.counts; rw [if_neg HNT.out, if_pos (by rw [HRC.out]; simpa using of_decide_eq_true HSPE.out)]
          subst hd
          go_wp2_with fail
          all_goals
            go_ret
            exact ⟨rfl, H1.out.1, H1.out.2⟩
  · rw [hrc] at c1
    have HRC := Lib.hid hrc
    obtain ⟨sp, hsp⟩ : ∃ sp, decide (l.count = l.bound) = sp := ⟨_, rfl⟩
    have HSPE := Lib.hid hsp
    have esp : (l.count == l.bound) = sp := by rw [← hsp]; rfl
    have H1w := Lib.hid HW.out
    clear hrc hsp
    go_upto_region 4 with fail
    go_quiet (fail)
    have HDN := Lib.hid (fun k => below_drewN (Below.refl w1.heap.size w1) k)
    have HW2 := Lib.hid (fun k => (And.intro (H1w.out.1.blw (HDN.out k)) (H1w.out.2.trans (LMv.of_below (q := q) (m := m) (HDN.out k)))))
    generalize hW : w1.drewN _ = W
    have H1 : Hid (LkIn W q m G l ∧ LMv q m w W) := Lib.hid (by rw [← hW]; exact HW2.out _)
    clear hW c1 c2 c6 c7 c8 c11
    have c11 : W.cell? ⟨q, 11, none⟩ = some (.map (some m)) := H1.out.1.cs 11 _ rfl
    have c2 : W.cell? ⟨q, 2, none⟩ = some (.int .i64 l.snd) := H1.out.1.cs 2 _ rfl
    by_cases h0 : tag = ⟨#[]⟩
    · have e0 : tag.toList = [] := by rw [h0, ByteArray.toList_eq]
      have e1 : tag.toList.isEmpty = true := by rw [e0]; rfl
      have hd : L = (l, 122) := by rw [← HLG.out]; unfold Lk.counts; rw [if_pos (.inl (by rw [h0]; rfl))]
      subst hd
      go_wp2_with fail
      all_goals
        go_ret
        exact ⟨rfl, H1.out.1, H1.out.2⟩
    · have e0 : ¬ tag.toList = [] := fun q => h0 (by cases tag with | mk d => rw [ByteArray.toList_eq] at q; rw [ByteArray.mk.injEq]; exact Array.toList_eq_nil_iff.1 q)
      have e1 : tag.toList.isEmpty = false := by simpa using e0
      have H0 := Lib.hid h0
      clear h0
      by_cases h32 : (32 : Int) < (tag.size : Int)
      · have hd : L = (l, 122) := by rw [← HLG.out]; unfold Lk.counts; rw [if_pos (.inr (by omega))]
        subst hd
        go_wp2_with fail
        all_goals
          go_ret
          exact ⟨rfl, H1.out.1, H1.out.2⟩
      · have HNT := Lib.hid (show ¬ (tag.size = 0 ∨ 32 < tag.size) from fun q => by
          rcases q with q | q
          · exact H0.out (by cases tag with | mk d => rw [ByteArray.mk.injEq]; exact Array.eq_empty_of_size_eq_zero q)
          · omega)
        cases sp
        · have HSP := Lib.hid (show ¬ (if l.rc = true then l.count = l.bound else l.credit = 0) by rw [HRC.out]; simpa using of_decide_eq_false HSPE.out)
          cases th
          · have HTN := Lib.hid (of_decide_eq_false HTH.out)
            cases b
            · by_cases hm : l.snd = 1
              · have em : (l.snd == 1) = true := by simpa using hm
                have hd : L = (l, 141) := by rw [← HLG.out]; unfold Lk.counts; rw [if_neg HNT.out, if_neg HSP.out, if_neg HTN.out, if_pos (.inr ⟨rfl, hm⟩)]
                subst hd
                go_wp2_with fail
                all_goals
                  go_ret
                  exact ⟨rfl, H1.out.1, H1.out.2⟩
              · have em : (l.snd == 1) = false := by simpa using hm
                have HMD := Lib.hid hm
                clear hm
                have hd : L = ({ l.goes 1 with wait := max 0 (l.wait - 1), all := l.all ++ [(tag, zE)] }, 0) := by rw [← HLG.out]; unfold Lk.counts; rw [if_neg HNT.out, if_neg HSP.out, if_neg HTN.out, if_neg (by simpa using HMD.out)]; rfl
                subst hd
                have hgo := goes_any W q m G l 1 H1.out.1 ⟨by omega, by omega⟩
                have HGO := Lib.hid hgo
                clear hgo
                go_wp2_with fail
                refine HGO.out.mono ?_
                rintro e w2 ⟨rfl, h2, hm2⟩
                have e9 : w2.cell? ⟨q, 9, none⟩ = some (.int .i64 l.wait) := h2.cs 9 _ rfl
                have y9 := h2.fz 9
                have hw1 := H.out.ok.wait.1
                have hw2 := H.out.ok.wait.2
                have hmx : (if 0 < l.wait - 1 then l.wait - 1 else 0) = max 0 (l.wait - 1) := by split <;> omega
                have hmx2 : (if 1 < l.wait then l.wait - 1 else 0) = max 0 (l.wait - 1) := by split <;> omega
                have h3 := h2.set1 (l' := { l.goes 1 with wait := max 0 (l.wait - 1) }) 9 (.int .i64 (max 0 (l.wait - 1))) rfl rfl (by have o := h2.ok; exact ⟨o.name, o.snd, o.rcv, o.ini, o.mx, o.count, o.credit, o.bound, ⟨by show 0 ≤ max 0 (l.wait - 1); omega, by show max 0 (l.wait - 1) ≤ _; omega⟩, o.ent⟩)
                have H3 := Lib.hid (And.intro h3 (H1.out.2.trans (hm2.cell (i := 9) (v := .int .i64 (max 0 (l.wait - 1))))))
                have e11 : w2.cell? ⟨q, 11, none⟩ = some (.map (some m)) := h2.cs 11 _ rfl
                obtain ⟨w4, hput, hm4, hg4⟩ := h3.map.put Try.underlying74 HT.out.1 (by rw [keys_ents]; exact HTN.out) (by rw [ents_len]; exact HT.out.2) zE.val
                have h4 := h3.turnM (a := l.all ++ [(tag, zE)]) (by rw [ents_put]; exact hm4) hg4 (fun p hp => by
                  rcases List.mem_append.1 hp with hp | hp
                  · exact h3.sts p hp
                  · obtain rfl : p = (tag, zE) := by simpa using hp
                    exact ⟨SI.none zS_in, SI.none zS_in⟩) (fun p hp => by
                  rcases List.mem_append.1 hp with hp | hp
                  · exact h3.ok.ent p hp
                  · obtain rfl : p = (tag, zE) := by simpa using hp
                    exact zE_ok)
                have H4 := Lib.hid (And.intro h4 (H3.out.2.trans (LMv.of_grown hg4)))
                have HPU := Lib.hid hput
                clear h2 hm2 h3 hm4 hg4 h4 hput
                go_wp2_with (refine wpList_mapUpdate_to rfl 74 (.tmp 86) (.tmp 87) (.tmp 88) rfl rfl (.map (some m)) (.string tag) zE.val rfl rfl rfl w4 HPU.out ?_)
                go_ret
                exact ⟨rfl, H4.out.1, H4.out.2⟩
            · by_cases hm : l.snd = 0
              · have em : (l.snd == 0) = true := by simpa using hm
                have hd : L = (l, 141) := by rw [← HLG.out]; unfold Lk.counts; rw [if_neg HNT.out, if_neg HSP.out, if_neg HTN.out, if_pos (.inl ⟨rfl, hm⟩)]
                subst hd
                go_wp2_with fail
                all_goals
                  go_ret
                  exact ⟨rfl, H1.out.1, H1.out.2⟩
              · have em : (l.snd == 0) = false := by simpa using hm
                have HMD := Lib.hid hm
                clear hm
                have hd : L = ({ l.goes 1 with wait := max 0 (l.wait - 1), all := l.all }, 0) := by rw [← HLG.out]; unfold Lk.counts; rw [if_neg HNT.out, if_neg HSP.out, if_neg HTN.out, if_neg (by simpa using HMD.out)]; rfl
                subst hd
                have hgo := goes_any W q m G l 1 H1.out.1 ⟨by omega, by omega⟩
                have HGO := Lib.hid hgo
                clear hgo
                go_wp2_with fail
                refine HGO.out.mono ?_
                rintro e w2 ⟨rfl, h2, hm2⟩
                have e9 : w2.cell? ⟨q, 9, none⟩ = some (.int .i64 l.wait) := h2.cs 9 _ rfl
                have y9 := h2.fz 9
                have hw1 := H.out.ok.wait.1
                have hw2 := H.out.ok.wait.2
                have hmx : (if 0 < l.wait - 1 then l.wait - 1 else 0) = max 0 (l.wait - 1) := by split <;> omega
                have hmx2 : (if 1 < l.wait then l.wait - 1 else 0) = max 0 (l.wait - 1) := by split <;> omega
                have h3 := h2.set1 (l' := { l.goes 1 with wait := max 0 (l.wait - 1) }) 9 (.int .i64 (max 0 (l.wait - 1))) rfl rfl (by have o := h2.ok; exact ⟨o.name, o.snd, o.rcv, o.ini, o.mx, o.count, o.credit, o.bound, ⟨by show 0 ≤ max 0 (l.wait - 1); omega, by show max 0 (l.wait - 1) ≤ _; omega⟩, o.ent⟩)
                have H3 := Lib.hid (And.intro h3 (H1.out.2.trans (hm2.cell (i := 9) (v := .int .i64 (max 0 (l.wait - 1))))))
                clear h2 hm2 h3
                go_wp2_with fail
                go_ret
                exact ⟨rfl, H3.out.1, H3.out.2⟩
          · have hd : L = (l, 142) := by rw [← HLG.out]; unfold Lk.counts; rw [if_neg HNT.out, if_neg HSP.out, if_pos (of_decide_eq_true HTH.out)]
            subst hd
            go_wp2_with fail
            all_goals
              go_ret
              exact ⟨rfl, H1.out.1, H1.out.2⟩
        · have hd : L = (l, 140) := by rw [← HLG.out]; unfold Lk.counts; rw [if_neg HNT.out, if_pos (by rw [HRC.out]; simpa using of_decide_eq_true HSPE.out)]
          subst hd
          go_wp2_with fail
          all_goals
            go_ret
            exact ⟨rfl, H1.out.1, H1.out.2⟩
end Go.Proofs.Ytcbjfakkikjbkaa
