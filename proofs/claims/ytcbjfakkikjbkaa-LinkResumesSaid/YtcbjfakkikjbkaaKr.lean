/-
  Unsettled: a link's deliveries are told. Conditions: the link lies in memory, its deliveries are not too many.
-/
import Derived.Test.YtcbjfakkikjbkaaKq
import Derived.Shelf.SlSortCmp.NoneTotal

namespace Go.Proofs.Ytcbjfakkikjbkaa
open Go.RowKit Go.Maps Go.Sort
set_option linter.all false

/-- what is told -/
def UnsTo (w : World) (l : Lk) (e : Ending) (w' : World) : Prop :=
  ∃ v ps, e = .returned v ∧ RowOf w' encU 20 v ps ∧ (∀ p ∈ ps, (∃ en, (p.1.tag, en) ∈ l.all ∧ p.1.st = en.own) ∧ SIn w' p.1.st p.2) ∧ (ps.map fun p => p.1.tag).Perm (tagsL l.all) ∧ SortT (ps.map fun p => p.1.tag) ∧ Below w.heap.size w w'
theorem perm_len {l : Lk} {ps : List (Un × Sl)} {todo : List ByteArray} (h : ((ps.map fun p => p.1.tag) ++ todo).Perm (tagsL l.all)) : ps.length + todo.length = l.all.length := by
  have := h.length_eq
  simpa [tagsL] using this

def sliceLen : Value → Nat | .slice _ n _ => n | _ => 0
set_option maxRecDepth 20000 in
set_option maxHeartbeats 8000000 in
theorem unsettled_any (w : World) (q m : Nat) (G : Nat → Prop) (l : Lk) (h : LkIn w q m G l) (hl : l.all.length ≤ 1000000) :
    Calls Try.prog 11 #[.pointer (some ⟨q, 0, none⟩)] w (UnsTo w l) := by
  have H := Lib.hid h
  have HL := Lib.hid hl
  obtain ⟨w0, hrange, hrg0, hg0, hz0⟩ := h.map.range Try.underlying74
  have c11 : w.cell? ⟨q, 11, none⟩ = some (.map (some m)) := h.cs 11 _ rfl
  have hml := h.lm
  obtain ⟨i0, hi, hzz0, hzz1, hzz2⟩ := info_parts3 info_un
  have HINIT := Lib.hid (show UnS w w0 q m w.heap.size l (tagsL l.all) [] (.slice none 0 0) from
    ⟨by rw [← keys_ents]; exact hrg0, World.ownsRow_nil _ _ _ _, fun p hp => by simp at hp, by simp, (Below.refl w.heap.size w).grown hg0 (Nat.le_refl _) (fun j hj => by cases hj), Nat.le_refl _, by simp [Value.ownBlock], fun _ => rfl⟩)
  clear h hl hrg0 hg0 hz0
  go_enter Try.func11, Try.ntmps11
  go_wp2_with fail
  clear hrange c11
  generalize hr : w.heap.size = r at HINIT ⊢
  go_loopw [3] (fun v3 wr => ∃ (todo : List ByteArray) (ps : List (Un × Sl)), UnS w wr q m r l todo ps v3) (fun v3 _ => l.all.length - sliceLen v3)
  case atStart => exact ⟨_, _, HINIT.out⟩
  case round =>
    obtain ⟨todo, ps, hst⟩ := hrel
    obtain ⟨vp, vc, hv, hvc1, hvc2, hv3⟩ := ownsRow_form hst.row
    subst hv
    have ST := Lib.hid hst
    have hlen := perm_len hst.perm
    have HN := Lib.hid hlen
    rcases hst.rng.next 0 with ⟨hnil, hrun⟩ | ⟨k, vv, w1, hkt, hkv, hrun, hrg, hg, hz, hen⟩
    · subst hnil
      clear hst
      by_cases h0 : ps = []
      · have hv := ST.out.nil h0
        rw [hv]
        have HS := Lib.hid (AnyF.slices_SortFunc_none Try.sortU none 0 (.func (.func 30) #[] #[]) wr)
        subst h0
        go_wp2_with fail
        refine HS.out.mono ?_
        rintro e w2 ⟨rfl, rfl⟩
        go_wp2_with fail
        go_ret
        refine ⟨_, [], rfl, ⟨none, 0, rfl, Nat.le_refl _, Nat.zero_le _, fun q => by simp at q⟩, fun p hp => by simp at hp, ?_, (fun i j hi => by simp at hi : SortT _), ?_⟩
        · have := ST.out.perm
          simpa using this
        · exact ST.out.blw
      · have hpos : 0 < ps.length := List.length_pos_iff.2 h0
        obtain ⟨g, rfl, hg1, hg2⟩ := hv3 hpos
        have HS := Lib.hid (sortU_any (fun p hp => encU_one (ST.out.els p hp).2.sin) ST.out.row (by have := HL.out; omega))
        clear h0
        go_wp2_with fail
        refine HS.out.mono ?_
        rintro e w2 ⟨rfl, l', hp, hs, hrr, hgr⟩
        have HR := Lib.hid (And.intro hp (And.intro hs (And.intro hrr hgr)))
        clear hp hs hrr hgr
        have hpl : l'.length = ps.length := HR.out.1.length_eq
        go_wp2_with fail
        go_ret
        refine ⟨_, l', rfl, ⟨some ⟨g, 0, none⟩, vc, by rw [hpl]; rfl, by rw [hpl]; exact hvc1, hvc2, fun _ => ⟨g, rfl, HR.out.2.2.1⟩⟩, fun p hp => ⟨(ST.out.els p (HR.out.1.mem_iff.1 hp)).1, ?_⟩, ?_, HR.out.2.1, ?_⟩
        · refine (ST.out.els p (HR.out.1.mem_iff.1 hp)).2 w2 (fun b q => HR.out.2.2.2.block b q.2.1 (fun e => q.2.2.2 ?_))
          simp only [Value.ownBlock]
          exact e.symm
        · refine (HR.out.1.map _).trans ?_
          have := ST.out.perm
          simpa using this
        · have hsz : w.heap.size ≤ wr.heap.size := ST.out.blw.size
          exact ST.out.blw.grown HR.out.2.2.2 hsz (fun j hj => by cases hj; exact hg1)
    · obtain ⟨en, hem, rfl⟩ := mem_ents hkv
      have hpn : ps.length < l.all.length := by
        have : 0 < todo.length := List.length_pos_of_mem hkt
        omega
      have hG := H.out.sts _ hem
      have hok := H.out.ok.ent _ hem
      have HEN := Lib.hid (And.intro hG hok)
      unfold Ent.val at hrun hen
      obtain ⟨E, hE⟩ : ∃ E, sarr en.own en.o ++ sarr en.peer en.p = E := ⟨_, rfl⟩
      have HE := Lib.hid hE
      rw [hE] at hrun hen
      have hsz : E.size = 38 := by rw [← hE]; exact eval_size _
      have HSZ := Lib.hid (show (Try.prog.info? 78).map (·.size) = some E.size by rw [hsz]; exact size_said)
      have HSZ2 := Lib.hid (show (sarr zS default ++ sarr zS default).size = E.size by rw [hsz]; rfl)
      have HO := Lib.hid (show E.all (·.oneCell') = true by rw [← hE]; exact ent_one hG.1.sin hG.2.sin)
      have HNX := Lib.hid (And.intro hkt (And.intro hem (And.intro hrg (And.intro hg hz))))
      clear hst hE hsz hG hok hkt hkv hem hrg hg hz hlen
      go_upto_region 5 with (refine wpList_store_rowTo rfl 78 (.tmp 5) (.tmp 15) rfl rfl w1.heap.size E rfl rfl 78 (sarr zS default ++ sarr zS default) (_root_.Go.heap_alloc_new w1 _) HSZ.out HSZ2.out HO.out ?_)
      have hb2 : Below w1.heap.size w1 ((w1.alloc (.cells (sarr zS default ++ sarr zS default) 78)).setRow w1.heap.size E) := below_setRow ((Below.refl _ _).alloc (Nat.le_refl _) _) (Nat.le_refl _) _
      have oz := setRow_heap (w1.alloc (.cells (sarr zS default ++ sarr zS default) 78)) w1.heap.size _ E _ _ (_root_.Go.heap_alloc_new w1 _)
      change Code.wp _ _ _ _ ((w1.alloc (.cells (sarr zS default ++ sarr zS default) 78)).setRow w1.heap.size E)
      generalize ((w1.alloc (.cells (sarr zS default ++ sarr zS default) 78)).setRow w1.heap.size E) = w2 at *
      obtain ⟨z, hz⟩ : ∃ z, w1.heap.size = z := ⟨_, rfl⟩
      rw [hz] at oz ⊢
      rw [← HE.out] at oz
      have HRZ := Lib.hid (said_fst oz)
      have HB2 := Lib.hid (And.intro hb2 (And.intro hz (Array.getElem?_eq_some_iff.1 oz).1))
      have hkk := kept_on en.own
      unfold keptOn at hkk
      have hsw : SIn w2 en.own en.o := by
        have hwr : w.heap.size ≤ wr.heap.size := ST.out.blw.size
        refine (HEN.out.1.1.keep (w' := w2) (fun b hb => ?_)).sin
        have hbl := H.out.gl b hb
        have h1 : w1.heap[b]? = wr.heap[b]? := HNX.out.2.2.2.1.block b (by omega) (fun e => by have := ST.out.lr; cases e; omega)
        exact (hb2.block b (by have := HNX.out.2.2.2.2; omega)).trans (h1.trans (ST.out.blw.block b hbl))
      have HKK := Lib.hid (hkk w2 en.o hsw HEN.out.2.of HEN.out.2.ow)
      have hbw2 : w.heap.size ≤ w1.heap.size := by have := HNX.out.2.2.2.2; have : w.heap.size ≤ wr.heap.size := ST.out.blw.size; omega
      clear hb2 oz hz hkk hsw hrun hen
      go_wp2_with (refine wpList_load_midTo rfl 33 (.tmp 18) rfl (some 19) rfl z 0 rfl (sarr en.own en.o) _ HRZ.out Try.underlying33 rfl size_state ?_)
      refine HKK.out.mono ?_
      rintro e w3 ⟨t, rfl, hsi3, hb3⟩
      have HT := Lib.hid (And.intro hsi3 hb3)
      have hrow3 : w3.ownsRow w.heap.size 52 20 (.slice vp ps.length vc) ps.length (flat encU ps) := ownsRow_keep ST.out.row (fun j hj => by
        have h1 := ST.out.row.lt j hj
        have h2 := HNX.out.2.2.2.2
        have h3 := HB2.out.1.size
        exact (hb3.block j (by omega)).trans ((HB2.out.1.block j (by omega)).trans (HNX.out.2.2.2.1.block j h1.2 (fun e => ST.out.offr (by cases e; exact hj)))))
      have hone3 : ∀ u ∈ ucells ⟨k, en.own⟩ t, u.oneCell' = true := encU_one (p := (⟨k, en.own⟩, t)) hsi3.sin
      have HROW := Lib.hid (ownsRow_keep hrow3 (w' := w3.alloc (.cells (ucells ⟨k, en.own⟩ t).toArray 52)) (fun j hj => Below.heap_alloc _ _ _ (by
        have h1 := ST.out.row.lt j hj
        have h2 := HNX.out.2.2.2.2
        have h3 := HB2.out.1.size
        have h4 := hb3.size
        omega)))
      have HNW := Lib.hid (show ∀ j u, (ucells ⟨k, en.own⟩ t)[j]? = some u → (w3.alloc (.cells (ucells ⟨k, en.own⟩ t).toArray 52)).cell? ((⟨w3.heap.size, 0, none⟩ : Addr).add j) = some u from fun j u hj => cell_of_newrow hj)
      have HONE := Lib.hid hone3
      have HPN := Lib.hid hpn
      have HBA := Lib.hid ((Below.refl w3.heap.size w3).alloc (Nat.le_refl _) (.cells (ucells ⟨k, en.own⟩ t).toArray 52))
      clear hsi3 hb3 hrow3 hone3
      go_wp2_with (first
        | (at_builtin; refine wpList_append_twoN _ rfl (some 23) rfl (.tmp 16) (.tmp 22) 22 rfl w.heap.size 52 i0 _ 20 248 Try.underlying22 hi hzz0 hzz1 hzz2 (encU_len _) _ _ _ rfl HROW.out ⟨w3.heap.size, 0, none⟩ 1 (ucells ⟨k, en.own⟩ t) rfl (encU_len (⟨k, en.own⟩, t)) HNW.out HONE.out (by have := HPN.out; have := HL.out; unfold maxLen; omega) (by have := HPN.out; have := HL.out; omega) ?_; intro v' w9 hA)
        | (refine wpList_buildTo rfl 52 _ rfl (some 21) rfl (ucells ⟨k, en.own⟩ t).toArray (by kernel_rfl) ?_)
        | (refine wpList_buildU rfl (some 22) rfl (.tmp 21) rfl k en.own t rfl ?_))
      have hbb : Below w1.heap.size w1 (w3.alloc (.cells (ucells ⟨k, en.own⟩ t).toArray 52)) := (HB2.out.1.trans (HT.out.2.mono HB2.out.1.size)).trans (HBA.out.mono (by have := HB2.out.1.size; have := HT.out.2.size; omega))
      have hpush := ST.out.push HNX.out.1 H.out.lm HNX.out.2.1 HNX.out.2.2.1 HNX.out.2.2.2.1 HNX.out.2.2.2.2 hbb ((HT.out.1.keep (fun b q => HBA.out.block b q.2)).wide (fun b q => ⟨by have := HB2.out.1.size; omega, by have := HBA.out.size; omega⟩)) hA
      have HPU := Lib.hid hpush
      obtain ⟨vp', vc', hv'⟩ := hA.slice
      have HV' := Lib.hid hv'
      clear hbb hpush hA hv'
      go_roundw
      case rel => exact ⟨_, _, HPU.out⟩
      case measure => rw [HV'.out]; simp only [sliceLen]; have := HPN.out; omega
end Go.Proofs.Ytcbjfakkikjbkaa
