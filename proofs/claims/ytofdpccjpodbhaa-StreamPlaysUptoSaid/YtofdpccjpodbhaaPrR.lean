/-
  A stream beside the document's: the round of ranges. Conditions: the stream has moved on and an item has come; the document's lags behind.
-/
import Derived.Test.YtofdpccjpodbhaaPrK
import Derived.Sort.CutIn
namespace Go.Proofs.Ytofdpccjpodbhaa
open Go.RowKit
set_option linter.unusedVariables false

attribute [local go_sem] Oper.semAt_some

/-- the temporaries at ranges' range -/
def tmV (gp gk gl go gn gv : Nat) (a0 a1 a2 a5 a6 a7 a8 a9 a11 a15 a16 a17 a18 a19 a20 a21 a22 a23 a24 a25 a26 a27 a28 a29 a30 a31 a32 a33 a34 a35 a36 a37 a38 a39 a40 a41 a42 a43 a44 a45 a46 a47 a48 a49 a50 a51 a52 a53 a54 a55 a56 a57 a58 a59 a60 a61 a62 a63 a64 a65 a66 a67 a68 a69 a70 a71 a72 a73 a74 a75 a76 a77 a78 a79 a80 a81 a82 a83 a84 a85 a86 a87 a88 a89 a90 a91 a92 a93 a94 a95 a96 a97 a98 a99 a100 a101 a102 a103 a104 a105 a106 a107 a108 a109 a110 a111 a112 a113 a114 a115 a116 a117 a118 a119 a120 a121 a122 a123 a124 a125 a126 a127 a128 a129 a130 a131 a132 a133 a134 a135 a136 : Value) : Array Value := #[a0, a1, a2, .pointer (some ⟨gp, 0, none⟩), .pointer (some ⟨go, 0, none⟩), a5, a6, a7, a8, a9, .pointer (some ⟨gk, 0, none⟩), a11, .pointer (some ⟨gl, 0, none⟩), .pointer (some ⟨gn, 0, none⟩), .pointer (some ⟨gv, 0, none⟩), a15, a16, a17, a18, a19, a20, a21, a22, a23, a24, a25, a26, a27, a28, a29, a30, a31, a32, a33, a34, a35, a36, a37, a38, a39, a40, a41, a42, a43, a44, a45, a46, a47, a48, a49, a50, a51, a52, a53, a54, a55, a56, a57, a58, a59, a60, a61, a62, a63, a64, a65, a66, a67, a68, a69, a70, a71, a72, a73, a74, a75, a76, a77, a78, a79, a80, a81, a82, a83, a84, a85, a86, a87, a88, a89, a90, a91, a92, a93, a94, a95, a96, a97, a98, a99, a100, a101, a102, a103, a104, a105, a106, a107, a108, a109, a110, a111, a112, a113, a114, a115, a116, a117, a118, a119, a120, a121, a122, a123, a124, a125, a126, a127, a128, a129, a130, a131, a132, a133, a134, a135, a136]

set_option maxRecDepth 20000 in
set_option maxHeartbeats 4000000 in
theorem round_V {D lp : Nat} (Kb : LoopBook D lp) (K : PK) (W : World) (gp gk gl go gn gv : Nat) (a0 a1 a2 a5 a6 a7 a8 a9 a11 a15 a16 a17 a18 a19 a20 a21 a22 a23 a24 a25 a26 a27 a28 a29 a30 a31 a32 a33 a34 a35 a36 a37 a38 a39 a40 a41 a42 a43 a44 a45 a46 a47 a48 a49 a50 a51 a52 a53 a54 a55 a56 a57 a58 a59 a60 a61 a62 a63 a64 a65 a66 a67 a68 a69 a70 a71 a72 a73 a74 a75 a76 a77 a78 a79 a80 a81 a82 a83 a84 a85 a86 a87 a88 a89 a90 a91 a92 a93 a94 a95 a96 a97 a98 a99 a100 a101 a102 a103 a104 a105 a106 a107 a108 a109 a110 a111 a112 a113 a114 a115 a116 a117 a118 a119 a120 a121 a122 a123 a124 a125 a126 a127 a128 a129 a130 a131 a132 a133 a134 a135 a136 : Value) (fr : Nat) (s' q : SM) (hv rv vc vd : Value) (L M : List (Itm × Value × Value)) (O : Nat → Prop) (it : Itm) (pe : Option Addr) (ce : Nat) (pb : Option Addr) (cb : Nat) (left : List UInt8) (pl : Option Addr) (nl cl m : Nat) (I : World → Prop) (Ix : Code → World → Prop) (asg bdy : Code) (hrf : (Try.f54.body.bind rfOf) = some (asg, bdy))
    (kd nn mm : Int) (da : Option Addr) (dn dc : Nat) (ma : Option Addr) (mn mc : Nat) (more : List UInt8) (c : Int) (hby : BytesIn W ma mn mc more) (hmz : mn ≤ 1048576) (hmlow : LowA K.B ma mc)
    (hrd : Kb.rdy W) (N : Nat) (hat : AtI K N gp gk gl fr s' q hv rv vc vd L M O it (.slice pe it.ext.length ce) (.slice pb it.body.length cb) left pl nl cl m W) (hlp : ¬ O lp ∧ lp ≠ K.b ∧ hv.ownBlock ≠ some lp ∧ lp ≠ gp ∧ lp ≠ gk ∧ lp ≠ gl ∧ (Value.slice pe it.ext.length ce).ownBlock ≠ some lp ∧ (Value.slice pb it.body.length cb).ownBlock ≠ some lp ∧ K.B ≤ lp) (hlpg : lp ≠ gn ∧ lp ≠ gv ∧ lp < N) (hDn : ¬ O D ∧ D ≠ gk ∧ D ≠ gl ∧ D ≠ gn ∧ D ≠ gv ∧ D ≠ K.b ∧ hv.ownBlock ≠ some D ∧ D < N)
    (hoff : OffR K N lp gp gk gl go gn gv hv O) (hgo : W.heap[go]? = some (.cells #[.int .i64 kd, .int .i64 nn, .int .i64 mm, .slice da dn dc, .slice ma mn mc] 64 (0, 0))) (hgn : W.heap[gn]? = some (.cells #[.int .i64 c] 3 (0, 0))) (hgv : W.heap[gv]? = some (.cells #[.bool true] 4 (0, 0)))
    (hI : ∀ Wb W3 c' s2, W.grownBy Wb (some lp) → EndR K N gp gk gl go gn gv hv O #[.int .i64 kd, .int .i64 nn, .int .i64 mm, .slice da dn dc, .slice ma mn mc] (.slice (if cl = m then pl else Option.map (fun x => x.add m) pl) (nl - m) (cl - m)) (L.length + 1 + mn) Wb c' true s2 W3 → Kb.busy W3 → I W3)
    (hX : ∀ Wb W3 c' s2, W.grownBy Wb (some lp) → EndR K N gp gk gl go gn gv hv O #[.int .i64 kd, .int .i64 nn, .int .i64 mm, .slice da dn dc, .slice ma mn mc] (.slice (if cl = m then pl else Option.map (fun x => x.add m) pl) (nl - m) (cl - m)) (L.length + 1 + mn) Wb c' false s2 W3 → Kb.busy W3 → Ix (.exit 2) W3) (hLM : L.map Prod.fst = M.map Prod.fst) (hL : L.length + 1 + mn ≤ 549755813888) :
    RoundOf Try.prog Kb (tmV gp gk gl go gn gv a0 a1 a2 a5 a6 a7 a8 a9 a11 a15 a16 a17 a18 a19 a20 a21 a22 a23 a24 a25 a26 a27 a28 a29 a30 a31 a32 a33 a34 a35 a36 a37 a38 a39 a40 a41 a42 a43 a44 a45 a46 a47 a48 a49 a50 a51 a52 a53 a54 a55 a56 a57 a58 a59 a60 a61 a62 a63 a64 a65 a66 a67 a68 a69 a70 a71 a72 a73 a74 a75 a76 a77 a78 a79 a80 a81 a82 a83 a84 a85 a86 a87 a88 a89 a90 a91 a92 a93 a94 a95 a96 a97 a98 a99 a100 a101 a102 a103 a104 a105 a106 a107 a108 a109 a110 a111 a112 a113 a114 a115 a116 a117 a118 a119 a120 a121 a122 a123 a124 a125 a126 a127 a128 a129 a130 a131 a132 a133 a134 a135 a136) #[47] asg bdy #[.agg #[.int .i64 it.kind, .int .i64 it.proto, .int .i64 it.T, .int .i64 it.ch, .slice pe it.ext.length ce, .slice pb it.body.length cb]] W I Ix := by
  simp only [Try.f54, Option.bind_some, rfOf, Option.some.injEq, Prod.mk.injEq] at hrf
  obtain ⟨rfl, rfl⟩ := hrf
  unfold RoundOf tmV
  have HAT := Lib.hid hat
  have HLM := Lib.hid hLM
  have HOFF := Lib.hid hoff
  have HMORE := Lib.hid (And.intro hby hmlow)
  have HROWS := Lib.hid (And.intro hgo (And.intro hgn hgv))
  have HIX := Lib.hid (And.intro hI hX)
  have HKL := Lib.hid hlp.2.2.2.2.2.2.2.2
  clear hat hLM hoff hby hmlow hgo hgn hgv hI hX
  refine wpIn_mono (Q := MidI #[a0, a1, a2, .pointer (some ⟨gp, 0, none⟩), .pointer (some ⟨go, 0, none⟩), a5, a6, a7, a8, a9, .pointer (some ⟨gk, 0, none⟩), a11, .pointer (some ⟨gl, 0, none⟩), .pointer (some ⟨gn, 0, none⟩), .pointer (some ⟨gv, 0, none⟩), .pointer (some ⟨W.heap.size, 0, none⟩), a16, a17, a18, a19, a20, a21, a22, a23, a24, a25, a26, a27, a28, a29, a30, a31, a32, a33, a34, a35, a36, a37, a38, a39, a40, a41, a42, a43, a44, a45, a46, .agg #[.int .i64 it.kind, .int .i64 it.proto, .int .i64 it.T, .int .i64 it.ch, .slice pe it.ext.length ce, .slice pb it.body.length cb], a48, a49, a50, a51, a52, a53, a54, a55, a56, a57, a58, a59, a60, a61, a62, a63, a64, a65, a66, a67, a68, a69, a70, a71, a72, a73, a74, a75, a76, a77, a78, a79, a80, a81, a82, a83, a84, a85, a86, a87, a88, a89, a90, a91, a92, a93, a94, a95, a96, a97, a98, a99, a100, a101, a102, a103, a104, a105, a106, a107, a108, a109, a110, a111, a112, a113, a114, a115, a116, a117, a118, a119, a120, a121, a122, a123, a124, a125, a126, a127, a128, a129, a130, a131, a132, a133, a134, a135, a136] W it pe ce pb cb) ?_ ?_
  · gi_wp2
    exact ⟨rfl, rfl, grown_alloc _ _ _, heap_alloc_new _ _⟩
  · rintro e a' Wa ⟨rfl, rfl, hg, hi⟩
    obtain ⟨⟨oD, hD, hDc⟩, ⟨ol, hl, hlc⟩⟩ := Kb.rdyN W hrd
    have hDlt := (Array.getElem?_eq_some_iff.1 hD).1
    have hllt := (Array.getElem?_eq_some_iff.1 hl).1
    refine ⟨Kb.keepR W Wa hrd (hg.block D hDlt (by simp)) (hg.block lp hllt (by simp)), ?_⟩
    intro Wb ht hb
    have hz1 := hg.size
    have hz2 := ht.1.size
    have hbW := HAT.out.pair.bb.2.2
    obtain ⟨x, hx⟩ : ∃ x, W.heap.size = x := ⟨_, rfl⟩
    have hatb : AtI K N gp gk gl fr s' q hv rv vc vd L M O it (.slice pe it.ext.length ce) (.slice pb it.body.length cb) left pl nl cl m Wb :=
      HAT.out.keep (Nat.le_trans hz1 hz2) lp (fun j h1 h2 => (ht.1.block j (Nat.lt_of_lt_of_le h1 hz1) (fun e => h2 (Option.some.inj e))).trans (hg.block j h1 (by simp))) hlp
    have hib : Wb.heap[x]? = some (.cells #[.int .i64 it.kind, .int .i64 it.proto, .int .i64 it.T, .int .i64 it.ch, .slice pe it.ext.length ce, .slice pb it.body.length cb] 71 (0, 0)) := by
      rw [← hx]
      exact (ht.1.block W.heap.size (Array.getElem?_eq_some_iff.1 hi).1 (fun h => by have := Option.some.inj h; omega)).trans hi
    have hxlt : ∀ j, (O j ∨ j = K.b ∨ hv.ownBlock = some j) ∨ (j = gp ∨ j = gk ∨ j = gl) ∨ (Value.slice pe it.ext.length ce).ownBlock = some j ∨ (Value.slice pb it.body.length cb).ownBlock = some j → j < x := by
      rintro j (hj | (rfl | rfl | rfl) | hj | hj)
      · have := HAT.out.pair.blt j hj; omega
      · have := (Array.getElem?_eq_some_iff.1 HAT.out.cp).1; omega
      · have := (Array.getElem?_eq_some_iff.1 HAT.out.ck).1; omega
      · have := (Array.getElem?_eq_some_iff.1 HAT.out.cel).1; omega
      · have := (HAT.out.ne.own.row.lt j hj).2; omega
      · have := (HAT.out.nb.own.row.lt j hj).2; omega
    have HA := Lib.hid hatb
    have HI := Lib.hid hib
    have HG := Lib.hid hg
    have HT := Lib.hid ht
    have HB := Lib.hid hb
    have HX := Lib.hid hx
    have HXO : Hid (¬ O x ∧ x ≠ K.b ∧ hv.ownBlock ≠ some x ∧ K.B ≤ x) := Lib.hid ⟨fun e => by have := hxlt x (.inl (.inl e)); omega, fun e => by have := hxlt x (.inl (.inr (.inl e))); omega, fun e => by have := hxlt x (.inl (.inr (.inr e))); omega, by omega⟩
    have HXLT := Lib.hid hxlt
    have p0 : Wb.cell? ⟨gp, 0, none⟩ = some (.pointer (some ⟨K.pb, 0, none⟩)) := (cell_of_row _ _ 0 _ _ _ hatb.cp).trans rfl
    have r1 : Wb.cell? ⟨K.pb, 1, none⟩ = some (.pointer (some ⟨K.r, 0, none⟩)) := (cell_of_row _ _ 1 _ _ _ hatb.pair.cell).trans rfl
    have l0 : Wb.cell? ⟨gl, 0, none⟩ = some (.slice pl nl cl) := (cell_of_row _ _ 0 _ _ _ hatb.cel).trans rfl
    clear hatb hib hg ht hb hi hD hl hDc hlc hrd hz1 hz2 hbW hxlt
    rw [hx]
    clear hx
    gi_upto_region 15 with fail
    dsimp only
    have HC : Hid (∀ V0, Below Wb.heap.size Wb V0 → Calls Try.prog 67 #[.pointer (some ⟨K.r, 0, none⟩), .slice pl nl cl] V0 (TookI K N gp gk gl x s' hv rv vc vd L M O it (.slice pe it.ext.length ce) (.slice pb it.body.length cb) pl nl cl m Wb V0)) := Lib.hid (fun V0 hV => by
      have hp := HA.out.pair.below hV
      have hl := Low.of_below (K := K) HA.out.pair.bb.2.2 hV
      have h := rtake_any V0 K.r K.Br fr q rv pl nl cl left hp.re hp.okq hp.rel (HA.out.by_.low hl.1 hl.2 HA.out.low) (fun hc0 a ha => by
        have h1 := HA.out.low hc0 a ha
        have h2 := (hp.ow _ hp.oo.2.1).1
        exact ⟨by omega, fun e => by have := (hp.ow _ (hp.oo.2.2 _ e)).1; omega⟩)
      unfold RTPost at h
      rw [HA.out.take] at h
      simp only at h
      refine h.mono ?_
      rintro e V ⟨fr', rv', we, wb, rfl, hin, hrel, hok, hm, hit, ha1, ha2⟩
      exact ⟨fr', rv', we, wb, rfl, HA.out.took HI.out HXO.out hV hm hin hrel hok hit ha1 ha2, hm, hit.ext.bytes, hit.body.bytes, hit.ext.row.lt, hit.body.row.lt⟩)
    have HDR : Hid (Below Wb.heap.size Wb Wb.drew) := Lib.hid ⟨rfl, rfl, rfl, Nat.le_refl _, fun _ _ => rfl⟩
    gi_cut [16, 17] from 48 (fun s16 s17 wx => s17 = .int .i64 m ∧ ∃ y fr' rv' qe de qb db, s16 = .pointer (some ⟨y, 0, none⟩) ∧ AtJ K N Wb O gp gk gl x fr' s' hv rv' vc vd L M (fun j => O j ∨ rv'.ownBlock = some j) it (.slice pe it.ext.length ce) (.slice pb it.body.length cb) (.slice qe it.ext.length de) (.slice qb it.body.length db) pl nl cl wx ∧ ItAt wx y it (.slice qe it.ext.length de) (.slice qb it.body.length db) ∧ (¬ (O y ∨ rv'.ownBlock = some y) ∧ y ≠ K.b ∧ hv.ownBlock ≠ some y ∧ K.B ≤ y ∧ y ≠ gp ∧ y ≠ gk ∧ y ≠ gl ∧ y ≠ x))
    case first =>
      rename_i JJ hJJ KK hKK
      refine wpIn_region_of_held (fun V => V.cell? ⟨gp, 0, none⟩ = some (.pointer (some ⟨K.pb, 0, none⟩)) ∧ V.cell? ⟨K.pb, 1, none⟩ = some (.pointer (some ⟨K.r, 0, none⟩)) ∧ V.cell? ⟨gl, 0, none⟩ = some (.slice pl nl cl)) 12 rfl (by kernel_rfl) (by kernel_rfl) (by rintro ⟨_, _, h⟩; exact h) ?_
      have hS : Wb.drew.cell? ⟨gp, 0, none⟩ = some (.pointer (some ⟨K.pb, 0, none⟩)) ∧ Wb.drew.cell? ⟨K.pb, 1, none⟩ = some (.pointer (some ⟨K.r, 0, none⟩)) ∧ Wb.drew.cell? ⟨gl, 0, none⟩ = some (.slice pl nl cl) := ⟨p0, r1, l0⟩
      refine takeD (i := 0) (v := .pointer (some ⟨K.pb, 0, none⟩)) (some 49) rfl rfl (by kernel_rfl) (by kernel_rfl) (by kernel_rfl) (fun _ _ _ h => h) (Or.inl ⟨by rfl, by rintro V ⟨h1, h2, h3⟩; go_simp⟩) hS ?_
      simp only [Act.put, List.setIfInBounds_toArray, List.set_cons_zero, List.set_cons_succ]
      refine takeD (i := 1) (v := .pointer (some ⟨K.pb, 0, none⟩)) (some 50) rfl rfl (by kernel_rfl) (by kernel_rfl) (by kernel_rfl) (fun _ _ _ h => h) (Or.inl ⟨by rfl, by rintro V ⟨h1, h2, h3⟩; go_simp⟩) hS ?_
      simp only [Act.put, List.setIfInBounds_toArray, List.set_cons_zero, List.set_cons_succ]
      refine takeD (i := 2) (v := .pointer (some ⟨K.pb, 1, none⟩)) (some 51) rfl rfl (by kernel_rfl) (by kernel_rfl) (by kernel_rfl) (fun _ _ _ h => h) (Or.inl ⟨by rfl, by rintro V ⟨h1, h2, h3⟩; go_simp⟩) hS ?_
      simp only [Act.put, List.setIfInBounds_toArray, List.set_cons_zero, List.set_cons_succ]
      refine takeD (i := 3) (v := .pointer (some ⟨K.r, 0, none⟩)) (some 52) rfl rfl (by kernel_rfl) (by kernel_rfl) (by kernel_rfl) (fun _ _ _ h => h) (Or.inl ⟨by rfl, by rintro V ⟨h1, h2, h3⟩; go_simp⟩) hS ?_
      simp only [Act.put, List.setIfInBounds_toArray, List.set_cons_zero, List.set_cons_succ]
      refine takeD (i := 4) (v := .slice pl nl cl) (some 53) rfl rfl (by kernel_rfl) (by kernel_rfl) (by kernel_rfl) (fun _ _ _ h => h) (Or.inl ⟨by rfl, by rintro V ⟨h1, h2, h3⟩; go_simp⟩) hS ?_
      simp only [Act.put, List.setIfInBounds_toArray, List.set_cons_zero, List.set_cons_succ]
      refine wpAnyH_all (rs := [5, 9]) (by kernel_rfl) (by simp) ?_
      intro i hi
      simp only [List.mem_cons, List.not_mem_nil, or_false] at hi
      rcases hi with rfl | rfl
      · refine stepD (i := 5) rfl (by rfl) (fun K5 h5 => ?_)
        go_simp
        (with_reducible refine (HC.out _ HDR.out).mono ?_)
        rintro e V ⟨fr', rv', we, wb, rfl, hj, hm, ⟨qe, de, rfl, _⟩, ⟨qb, db, rfl, _⟩, hwe, hwb⟩
        have HJ := Lib.hid hj
        simp only [Itm.val]
        refine h5.out _ _ ⟨(cell_of_row _ _ 0 _ _ _ HJ.out.cp).trans rfl, (cell_of_row _ _ 1 _ _ _ HJ.out.pair.cell).trans rfl, (cell_of_row _ _ 0 _ _ _ HJ.out.cel).trans rfl⟩ ?_
        clear h5 hS
        have hS : V.cell? ⟨gp, 0, none⟩ = some (.pointer (some ⟨K.pb, 0, none⟩)) ∧ V.cell? ⟨K.pb, 1, none⟩ = some (.pointer (some ⟨K.r, 0, none⟩)) ∧ V.cell? ⟨gl, 0, none⟩ = some (.slice pl nl cl) := ⟨(cell_of_row _ _ 0 _ _ _ HJ.out.cp).trans rfl, (cell_of_row _ _ 1 _ _ _ HJ.out.pair.cell).trans rfl, (cell_of_row _ _ 0 _ _ _ HJ.out.cel).trans rfl⟩
        try simp only [Act.put, List.setIfInBounds_toArray, List.set_cons_zero, List.set_cons_succ]
        clear hj hm hwe hwb
        refine takeD (i := 6) (v := .tuple #[.agg #[.int .i64 it.kind, .int .i64 it.proto, .int .i64 it.T, .int .i64 it.ch, .slice qe it.ext.length de, .slice qb it.body.length db], .int .i64 m]) (some 48) rfl rfl (by kernel_rfl) (by kernel_rfl) (by kernel_rfl) (fun _ _ _ h => h) (Or.inl ⟨by rfl, by rintro V ⟨h1, h2, h3⟩; go_simp⟩) hS ?_
        simp only [Act.put, List.setIfInBounds_toArray, List.set_cons_zero, List.set_cons_succ]
        refine takeD (i := 7) (v := .agg #[.int .i64 it.kind, .int .i64 it.proto, .int .i64 it.T, .int .i64 it.ch, .slice qe it.ext.length de, .slice qb it.body.length db]) (some 55) rfl rfl (by kernel_rfl) (by kernel_rfl) (by kernel_rfl) (fun _ _ _ h => h) (Or.inl ⟨by rfl, by rintro V ⟨h1, h2, h3⟩; go_simp⟩) hS ?_
        simp only [Act.put, List.setIfInBounds_toArray, List.set_cons_zero, List.set_cons_succ]
        refine takeD (i := 8) (v := .int .i64 m) (some 56) rfl rfl (by kernel_rfl) (by kernel_rfl) (by kernel_rfl) (fun _ _ _ h => h) (Or.inl ⟨by rfl, by rintro V ⟨h1, h2, h3⟩; go_simp⟩) hS ?_
        simp only [Act.put, List.setIfInBounds_toArray, List.set_cons_zero, List.set_cons_succ]
        refine wpAnyH_all (rs := [9]) (by kernel_rfl) (by simp) ?_
        intro i hi
        simp only [List.mem_cons, List.not_mem_nil, or_false] at hi
        subst hi
        refine stepD (i := 9) rfl (by rfl) (fun K9 h9 => ?_)
        go_simp
        have hb1 : Below V.heap.size V (V.alloc (.cells #[.int .i64 0, .int .i64 0, .int .i64 0, .int .i64 0, .slice none 0 0, .slice none 0 0] 71)) := (Below.refl _ V).alloc (Nat.le_refl _) _
        have hzr : (V.alloc (.cells #[.int .i64 0, .int .i64 0, .int .i64 0, .int .i64 0, .slice none 0 0, .slice none 0 0] 71)).heap[V.heap.size]? = some (.cells #[.int .i64 0, .int .i64 0, .int .i64 0, .int .i64 0, .slice none 0 0, .slice none 0 0] 71 (0, 0)) := heap_alloc_new _ _
        have hj1 := HJ.out.below hb1
        have hlt := HJ.out.lts V.heap.size (Nat.le_refl _)
        have HLT := Lib.hid hlt
        have HBB := Lib.hid (Nat.le_trans HJ.out.pair.bb.2.2 (Nat.le_refl _))
        have HJ1 := Lib.hid hj1
        refine h9.out _ _ ⟨(cell_of_row _ _ 0 _ _ _ HJ1.out.cp).trans rfl, (cell_of_row _ _ 1 _ _ _ HJ1.out.pair.cell).trans rfl, (cell_of_row _ _ 0 _ _ _ HJ1.out.cel).trans rfl⟩ ?_
        clear h9 hS hb1 hj1 hlt
        have hS : (V.alloc (.cells #[.int .i64 0, .int .i64 0, .int .i64 0, .int .i64 0, .slice none 0 0, .slice none 0 0] 71)).cell? ⟨gp, 0, none⟩ = some (.pointer (some ⟨K.pb, 0, none⟩)) ∧ (V.alloc (.cells #[.int .i64 0, .int .i64 0, .int .i64 0, .int .i64 0, .slice none 0 0, .slice none 0 0] 71)).cell? ⟨K.pb, 1, none⟩ = some (.pointer (some ⟨K.r, 0, none⟩)) ∧ (V.alloc (.cells #[.int .i64 0, .int .i64 0, .int .i64 0, .int .i64 0, .slice none 0 0, .slice none 0 0] 71)).cell? ⟨gl, 0, none⟩ = some (.slice pl nl cl) := ⟨(cell_of_row _ _ 0 _ _ _ HJ1.out.cp).trans rfl, (cell_of_row _ _ 1 _ _ _ HJ1.out.pair.cell).trans rfl, (cell_of_row _ _ 0 _ _ _ HJ1.out.cel).trans rfl⟩
        try simp only [Act.put, List.setIfInBounds_toArray, List.set_cons_zero, List.set_cons_succ]
        obtain ⟨y, hy⟩ : ∃ y, V.heap.size = y := ⟨_, rfl⟩
        rw [hy] at HLT HBB
        generalize (V.alloc (.cells #[.int .i64 0, .int .i64 0, .int .i64 0, .int .i64 0, .slice none 0 0, .slice none 0 0] 71)) = V1 at *
        rw [hy] at hzr ⊢
        refine wpAnyH_all (rs := [10]) (by kernel_rfl) (by simp) ?_
        intro i hi
        simp only [List.mem_cons, List.not_mem_nil, or_false] at hi
        subst hi
        refine stepD (i := 10) rfl (by rfl) (fun K10 h10 => ?_)
        refine wp_store_row 71 (.tmp 16) (.tmp 55) rfl y #[.int .i64 it.kind, .int .i64 it.proto, .int .i64 it.T, .int .i64 it.ch, .slice qe it.ext.length de, .slice qb it.body.length db] rfl rfl 71 _ hzr (by as_aux_lemma => kernel_rfl) (by as_aux_lemma => kernel_rfl) (by as_aux_lemma => kernel_rfl) ?_
        have HJ3 := Lib.hid (HJ1.out.turn y (setRow_grown V1 y #[.int .i64 it.kind, .int .i64 it.proto, .int .i64 it.T, .int .i64 it.ch, .slice qe it.ext.length de, .slice qb it.body.length db]) HLT.out (.inl (by have := HJ.out.keep.size; omega)))
        have HIY : Hid (ItAt (V1.setRow y #[.int .i64 it.kind, .int .i64 it.proto, .int .i64 it.T, .int .i64 it.ch, .slice qe it.ext.length de, .slice qb it.body.length db]) y it (.slice qe it.ext.length de) (.slice qb it.body.length db)) := Lib.hid (setRow_heap V1 y _ #[.int .i64 it.kind, .int .i64 it.proto, .int .i64 it.T, .int .i64 it.ch, .slice qe it.ext.length de, .slice qb it.body.length db] _ _ hzr)
        have HYO := Lib.hid (⟨HLT.out.1, HLT.out.2.1, HLT.out.2.2.1, HBB.out, HLT.out.2.2.2.1, HLT.out.2.2.2.2.1, HLT.out.2.2.2.2.2.1, HLT.out.2.2.2.2.2.2.1⟩ : ¬ (O y ∨ rv'.ownBlock = some y) ∧ y ≠ K.b ∧ hv.ownBlock ≠ some y ∧ K.B ≤ y ∧ y ≠ gp ∧ y ≠ gk ∧ y ≠ gl ∧ y ≠ x)
        refine h10.out _ _ ⟨(cell_of_row _ _ 0 _ _ _ HJ3.out.cp).trans rfl, (cell_of_row _ _ 1 _ _ _ HJ3.out.pair.cell).trans rfl, (cell_of_row _ _ 0 _ _ _ HJ3.out.cel).trans rfl⟩ ?_
        clear h10 hS hzr
        have hS : (V1.setRow y #[.int .i64 it.kind, .int .i64 it.proto, .int .i64 it.T, .int .i64 it.ch, .slice qe it.ext.length de, .slice qb it.body.length db]).cell? ⟨gp, 0, none⟩ = some (.pointer (some ⟨K.pb, 0, none⟩)) ∧ (V1.setRow y #[.int .i64 it.kind, .int .i64 it.proto, .int .i64 it.T, .int .i64 it.ch, .slice qe it.ext.length de, .slice qb it.body.length db]).cell? ⟨K.pb, 1, none⟩ = some (.pointer (some ⟨K.r, 0, none⟩)) ∧ (V1.setRow y #[.int .i64 it.kind, .int .i64 it.proto, .int .i64 it.T, .int .i64 it.ch, .slice qe it.ext.length de, .slice qb it.body.length db]).cell? ⟨gl, 0, none⟩ = some (.slice pl nl cl) := ⟨(cell_of_row _ _ 0 _ _ _ HJ3.out.cp).trans rfl, (cell_of_row _ _ 1 _ _ _ HJ3.out.pair.cell).trans rfl, (cell_of_row _ _ 0 _ _ _ HJ3.out.cel).trans rfl⟩
        try simp only [Act.put, List.setIfInBounds_toArray]
        refine wpAnyH_all (rs := [11]) (by kernel_rfl) (by simp) ?_
        intro i hi
        simp only [List.mem_cons, List.not_mem_nil, or_false] at hi
        subst hi
        refine stepD (i := 11) rfl (by rfl) (fun K11 h11 => ?_)
        go_simp
        refine h11.out _ _ hS ?_
        clear h11
        refine wpAnyH_done (by kernel_rfl) ?_ _
        clear hS
        refine Met.intro ?_
        refine hKK _ _ (KK _ _ ?_)
        (repeat apply Exists.intro)
        refine ⟨?_, rfl⟩
        exact ⟨rfl, y, fr', rv', qe, de, qb, db, rfl, HJ3.out, HIY.out, HYO.out⟩
      · refine stepD (i := 9) rfl (by rfl) (fun K9 h9 => ?_)
        go_simp
        have hb1 : Below Wb.heap.size Wb ((Wb.alloc (.cells #[.int .i64 0, .int .i64 0, .int .i64 0, .int .i64 0, .slice none 0 0, .slice none 0 0] 71)).drew) := (let h := (Below.refl Wb.heap.size Wb).alloc (Nat.le_refl _) _; ⟨h.os, h.tape, h.output, h.size, h.block⟩)
        have hzr : (Wb.alloc (.cells #[.int .i64 0, .int .i64 0, .int .i64 0, .int .i64 0, .slice none 0 0, .slice none 0 0] 71)).drew.heap[Wb.heap.size]? = some (.cells #[.int .i64 0, .int .i64 0, .int .i64 0, .int .i64 0, .slice none 0 0, .slice none 0 0] 71 (0, 0)) := heap_alloc_new Wb _
        have hzs : Wb.heap.size < (Wb.alloc (.cells #[.int .i64 0, .int .i64 0, .int .i64 0, .int .i64 0, .slice none 0 0, .slice none 0 0] 71)).drew.heap.size := by show _ < (Wb.alloc _).heap.size; simp
        have HB1 := Lib.hid hb1
        have hab := HA.out.keep hb1.size Wb.heap.size (fun j h1 _ => hb1.block j h1) ⟨fun e => by have := HA.out.pair.blt _ (.inl e); omega, fun e => by have := HA.out.pair.blt _ (.inr (.inl e)); omega, fun e => by have := HA.out.pair.blt _ (.inr (.inr e)); omega, fun e => by have := (Array.getElem?_eq_some_iff.1 HA.out.cp).1; omega, fun e => by have := (Array.getElem?_eq_some_iff.1 HA.out.ck).1; omega, fun e => by have := (Array.getElem?_eq_some_iff.1 HA.out.cel).1; omega, fun e => by have := (HA.out.ne.own.row.lt _ e).2; omega, fun e => by have := (HA.out.nb.own.row.lt _ e).2; omega, HA.out.pair.bb.2.2⟩
        have HAB := Lib.hid hab
        refine h9.out _ _ ⟨(cell_of_row _ _ 0 _ _ _ HAB.out.cp).trans rfl, (cell_of_row _ _ 1 _ _ _ HAB.out.pair.cell).trans rfl, (cell_of_row _ _ 0 _ _ _ HAB.out.cel).trans rfl⟩ ?_
        clear h9 hS hb1 hab
        have hS : (Wb.alloc (.cells #[.int .i64 0, .int .i64 0, .int .i64 0, .int .i64 0, .slice none 0 0, .slice none 0 0] 71)).drew.cell? ⟨gp, 0, none⟩ = some (.pointer (some ⟨K.pb, 0, none⟩)) ∧ (Wb.alloc (.cells #[.int .i64 0, .int .i64 0, .int .i64 0, .int .i64 0, .slice none 0 0, .slice none 0 0] 71)).drew.cell? ⟨K.pb, 1, none⟩ = some (.pointer (some ⟨K.r, 0, none⟩)) ∧ (Wb.alloc (.cells #[.int .i64 0, .int .i64 0, .int .i64 0, .int .i64 0, .slice none 0 0, .slice none 0 0] 71)).drew.cell? ⟨gl, 0, none⟩ = some (.slice pl nl cl) := ⟨(cell_of_row _ _ 0 _ _ _ HAB.out.cp).trans rfl, (cell_of_row _ _ 1 _ _ _ HAB.out.pair.cell).trans rfl, (cell_of_row _ _ 0 _ _ _ HAB.out.cel).trans rfl⟩
        try simp only [Act.put, List.setIfInBounds_toArray, List.set_cons_zero, List.set_cons_succ]
        obtain ⟨y, hy⟩ : ∃ y, Wb.heap.size = y := ⟨_, rfl⟩
        generalize (Wb.alloc (.cells #[.int .i64 0, .int .i64 0, .int .i64 0, .int .i64 0, .slice none 0 0, .slice none 0 0] 71)).drew = V0 at *
        rw [hy] at hzr hzs ⊢
        refine wpAnyH_all (rs := [5]) (by kernel_rfl) (by simp) ?_
        intro i hi
        simp only [List.mem_cons, List.not_mem_nil, or_false] at hi
        subst hi
        refine stepD (i := 5) rfl (by rfl) (fun K5 h5 => ?_)
        go_simp
        (with_reducible refine (HC.out _ HB1.out).mono ?_)
        rintro e V ⟨fr', rv', we, wb, rfl, hj, hm, ⟨qe, de, rfl, _⟩, ⟨qb, db, rfl, _⟩, hwe, hwb⟩
        have HJ := Lib.hid hj
        simp only [Itm.val]
        refine h5.out _ _ ⟨(cell_of_row _ _ 0 _ _ _ HJ.out.cp).trans rfl, (cell_of_row _ _ 1 _ _ _ HJ.out.pair.cell).trans rfl, (cell_of_row _ _ 0 _ _ _ HJ.out.cel).trans rfl⟩ ?_
        clear h5 hS
        have hS : V.cell? ⟨gp, 0, none⟩ = some (.pointer (some ⟨K.pb, 0, none⟩)) ∧ V.cell? ⟨K.pb, 1, none⟩ = some (.pointer (some ⟨K.r, 0, none⟩)) ∧ V.cell? ⟨gl, 0, none⟩ = some (.slice pl nl cl) := ⟨(cell_of_row _ _ 0 _ _ _ HJ.out.cp).trans rfl, (cell_of_row _ _ 1 _ _ _ HJ.out.pair.cell).trans rfl, (cell_of_row _ _ 0 _ _ _ HJ.out.cel).trans rfl⟩
        try simp only [Act.put, List.setIfInBounds_toArray, List.set_cons_zero, List.set_cons_succ]
        have hlt : ¬ (O y ∨ rv'.ownBlock = some y) ∧ y ≠ K.b ∧ hv.ownBlock ≠ some y ∧ y ≠ gp ∧ y ≠ gk ∧ y ≠ gl ∧ y ≠ x ∧ (Value.slice pe it.ext.length ce).ownBlock ≠ some y ∧ (Value.slice pb it.body.length cb).ownBlock ≠ some y ∧ (Value.slice qe it.ext.length de).ownBlock ≠ some y ∧ (Value.slice qb it.body.length db).ownBlock ≠ some y := by
          refine ⟨fun ho => ?_, fun e => by have := HA.out.pair.blt _ (.inr (.inl e)); omega, fun e => by have := HA.out.pair.blt _ (.inr (.inr e)); omega, fun e => by have := (Array.getElem?_eq_some_iff.1 HA.out.cp).1; omega, fun e => by have := (Array.getElem?_eq_some_iff.1 HA.out.ck).1; omega, fun e => by have := (Array.getElem?_eq_some_iff.1 HA.out.cel).1; omega, fun e => by have := (Array.getElem?_eq_some_iff.1 HI.out).1; omega, fun e => by have := (HA.out.ne.own.row.lt _ e).2; omega, fun e => by have := (HA.out.nb.own.row.lt _ e).2; omega, fun e => by have := (hwe _ e).1; omega, fun e => by have := (hwb _ e).1; omega⟩
          rcases ho with ho | ho
          · have := HA.out.pair.blt _ (.inl ho); omega
          · rcases hm.hv with h3 | h3 | ⟨g, h3, h4⟩
            · rw [h3] at ho; simp at ho
            · have := HA.out.pair.blt _ (.inl (HA.out.pair.oo.2.2 y (h3 ▸ ho))); omega
            · rw [h3] at ho
              have := Option.some.inj ho
              omega
        have hzr := (hm.block y hzs (fun e => hlt.1 (.inl (e ▸ HA.out.pair.oo.2.1))) (fun e => hlt.1 (.inl (HA.out.pair.oo.2.2 y e)))).trans hzr
        have HLT := Lib.hid hlt
        have HBB : Hid (K.B ≤ y) := Lib.hid (by have := HA.out.pair.bb.2.2; omega)
        clear hj hm hwe hwb hlt
        refine takeD (i := 6) (v := .tuple #[.agg #[.int .i64 it.kind, .int .i64 it.proto, .int .i64 it.T, .int .i64 it.ch, .slice qe it.ext.length de, .slice qb it.body.length db], .int .i64 m]) (some 48) rfl rfl (by kernel_rfl) (by kernel_rfl) (by kernel_rfl) (fun _ _ _ h => h) (Or.inl ⟨by rfl, by rintro V ⟨h1, h2, h3⟩; go_simp⟩) hS ?_
        simp only [Act.put, List.setIfInBounds_toArray, List.set_cons_zero, List.set_cons_succ]
        refine takeD (i := 7) (v := .agg #[.int .i64 it.kind, .int .i64 it.proto, .int .i64 it.T, .int .i64 it.ch, .slice qe it.ext.length de, .slice qb it.body.length db]) (some 55) rfl rfl (by kernel_rfl) (by kernel_rfl) (by kernel_rfl) (fun _ _ _ h => h) (Or.inl ⟨by rfl, by rintro V ⟨h1, h2, h3⟩; go_simp⟩) hS ?_
        simp only [Act.put, List.setIfInBounds_toArray, List.set_cons_zero, List.set_cons_succ]
        refine takeD (i := 8) (v := .int .i64 m) (some 56) rfl rfl (by kernel_rfl) (by kernel_rfl) (by kernel_rfl) (fun _ _ _ h => h) (Or.inl ⟨by rfl, by rintro V ⟨h1, h2, h3⟩; go_simp⟩) hS ?_
        simp only [Act.put, List.setIfInBounds_toArray, List.set_cons_zero, List.set_cons_succ]
        refine wpAnyH_all (rs := [10]) (by kernel_rfl) (by simp) ?_
        intro i hi
        simp only [List.mem_cons, List.not_mem_nil, or_false] at hi
        subst hi
        refine stepD (i := 10) rfl (by rfl) (fun K10 h10 => ?_)
        refine wp_store_row 71 (.tmp 16) (.tmp 55) rfl y #[.int .i64 it.kind, .int .i64 it.proto, .int .i64 it.T, .int .i64 it.ch, .slice qe it.ext.length de, .slice qb it.body.length db] rfl rfl 71 _ hzr (by as_aux_lemma => kernel_rfl) (by as_aux_lemma => kernel_rfl) (by as_aux_lemma => kernel_rfl) ?_
        have HJ3 := Lib.hid (HJ.out.turn y (setRow_grown V y #[.int .i64 it.kind, .int .i64 it.proto, .int .i64 it.T, .int .i64 it.ch, .slice qe it.ext.length de, .slice qb it.body.length db]) HLT.out (.inl (by omega)))
        have HIY : Hid (ItAt (V.setRow y #[.int .i64 it.kind, .int .i64 it.proto, .int .i64 it.T, .int .i64 it.ch, .slice qe it.ext.length de, .slice qb it.body.length db]) y it (.slice qe it.ext.length de) (.slice qb it.body.length db)) := Lib.hid (setRow_heap V y _ #[.int .i64 it.kind, .int .i64 it.proto, .int .i64 it.T, .int .i64 it.ch, .slice qe it.ext.length de, .slice qb it.body.length db] _ _ hzr)
        have HYO := Lib.hid (⟨HLT.out.1, HLT.out.2.1, HLT.out.2.2.1, HBB.out, HLT.out.2.2.2.1, HLT.out.2.2.2.2.1, HLT.out.2.2.2.2.2.1, HLT.out.2.2.2.2.2.2.1⟩ : ¬ (O y ∨ rv'.ownBlock = some y) ∧ y ≠ K.b ∧ hv.ownBlock ≠ some y ∧ K.B ≤ y ∧ y ≠ gp ∧ y ≠ gk ∧ y ≠ gl ∧ y ≠ x)
        refine h10.out _ _ ⟨(cell_of_row _ _ 0 _ _ _ HJ3.out.cp).trans rfl, (cell_of_row _ _ 1 _ _ _ HJ3.out.pair.cell).trans rfl, (cell_of_row _ _ 0 _ _ _ HJ3.out.cel).trans rfl⟩ ?_
        clear h10 hS hzr
        have hS : (V.setRow y #[.int .i64 it.kind, .int .i64 it.proto, .int .i64 it.T, .int .i64 it.ch, .slice qe it.ext.length de, .slice qb it.body.length db]).cell? ⟨gp, 0, none⟩ = some (.pointer (some ⟨K.pb, 0, none⟩)) ∧ (V.setRow y #[.int .i64 it.kind, .int .i64 it.proto, .int .i64 it.T, .int .i64 it.ch, .slice qe it.ext.length de, .slice qb it.body.length db]).cell? ⟨K.pb, 1, none⟩ = some (.pointer (some ⟨K.r, 0, none⟩)) ∧ (V.setRow y #[.int .i64 it.kind, .int .i64 it.proto, .int .i64 it.T, .int .i64 it.ch, .slice qe it.ext.length de, .slice qb it.body.length db]).cell? ⟨gl, 0, none⟩ = some (.slice pl nl cl) := ⟨(cell_of_row _ _ 0 _ _ _ HJ3.out.cp).trans rfl, (cell_of_row _ _ 1 _ _ _ HJ3.out.pair.cell).trans rfl, (cell_of_row _ _ 0 _ _ _ HJ3.out.cel).trans rfl⟩
        try simp only [Act.put, List.setIfInBounds_toArray]
        refine wpAnyH_all (rs := [11]) (by kernel_rfl) (by simp) ?_
        intro i hi
        simp only [List.mem_cons, List.not_mem_nil, or_false] at hi
        subst hi
        refine stepD (i := 11) rfl (by rfl) (fun K11 h11 => ?_)
        go_simp
        refine h11.out _ _ hS ?_
        clear h11
        refine wpAnyH_done (by kernel_rfl) ?_ _
        clear hS
        refine Met.intro ?_
        refine hKK _ _ (KK _ _ ?_)
        (repeat apply Exists.intro)
        refine ⟨?_, rfl⟩
        exact ⟨rfl, y, fr', rv', qe, de, qb, db, rfl, HJ3.out, HIY.out, HYO.out⟩
    case rest =>
      obtain ⟨rfl, y, fr', rv', qe, de, qb, db, rfl, hj, hiy, hyo⟩ := hcut
      obtain ⟨w4, hw4⟩ : ∃ w4, w4 = wc := ⟨_, rfl⟩
      subst hw4
      have l0' : w4.cell? ⟨gl, 0, none⟩ = some (.slice pl nl cl) := (cell_of_row _ _ 0 _ _ _ hj.cel).trans rfl
      have lf' : w4.frozen? ⟨gl, 0, none⟩ = false := by simp [World.frozen?, hj.cel]
      have hle := HA.out.le
      have hcl := HA.out.by_.le
      have hcap := HA.out.by_.cap
      unfold maxLen at hcap
      have hm1 : (m : Int) ≤ nl := by omega
      have hm2 : (m : Int) ≤ cl := by omega
      have hm3 : (nl : Int) ≤ cl := by omega
      have hm4 : (0 : Int) ≤ m := by omega
      have HJ4 := Lib.hid hj
      have HIY4 := Lib.hid hiy
      have HYO4 := Lib.hid hyo
      clear hj hiy hyo p0 r1 l0
      gi_upto_region 17 with fail
      have hj5 := HJ4.out.setL (pl' := if cl = m then pl else Option.map (fun x => x.add m) pl) (nl' := nl - m) (cl' := cl - m)
      have hiy5 : ItAt (w4.setCell ⟨gl, 0, none⟩ (.slice (if cl = m then pl else Option.map (fun x => x.add m) pl) (nl - m) (cl - m))) y it (.slice qe it.ext.length de) (.slice qb it.body.length db) := ((setCell_grown w4 gl 0 _).block y (Array.getElem?_eq_some_iff.1 HIY4.out).1 (fun e => HYO4.out.2.2.2.2.2.2.1 (Option.some.inj e))).trans HIY4.out
      generalize (w4.setCell ⟨gl, 0, none⟩ (.slice (if cl = m then pl else Option.map (fun x => x.add m) pl) (nl - m) (cl - m))) = w5 at *
      obtain ⟨pt, hpt⟩ : ∃ pt, (if cl = m then pl else Option.map (fun x => x.add m) pl) = pt := ⟨_, rfl⟩
      rw [hpt] at hj5 ⊢
      obtain ⟨pc, cc, rfl⟩ := hj5.pair.came.slice
      obtain ⟨pd, cd, rfl⟩ := hj5.pair.want.slice
      have p0 : w5.cell? ⟨gp, 0, none⟩ = some (.pointer (some ⟨K.pb, 0, none⟩)) := (cell_of_row _ _ 0 _ _ _ hj5.cp).trans rfl
      have x0 : w5.heap[x]? = some (.cells #[.int .i64 it.kind, .int .i64 it.proto, .int .i64 it.T, .int .i64 it.ch, .slice pe it.ext.length ce, .slice pb it.body.length cb] 71 (0, 0)) := hj5.ix
      have c2 : w5.cell? ⟨K.pb, 2, none⟩ = some (.slice pc L.length cc) := (cell_of_row _ _ 2 _ _ _ hj5.pair.cell).trans rfl
      have c2' : (w5.alloc (.cells #[.int .i64 it.kind, .int .i64 it.proto, .int .i64 it.T, .int .i64 it.ch, .slice pe it.ext.length ce, .slice pb it.body.length cb] 71)).cell? ⟨K.pb, 2, none⟩ = some (.slice pc L.length cc) := (World.cell?_of_block (heap_alloc_old w5 _ (cell_lt c2))).trans c2
      have HPT := Lib.hid hpt
      have HJ5 := Lib.hid hj5
      have HIY5 := Lib.hid hiy5
      have HR5 := Lib.hid hj5.pair.came.row
      have HC5 := Lib.hid hj5.pair.cell
      have hB6 := hj5.pair.bb.2.2
      have hpn : (Value.slice pc L.length cc).ownBlock ≠ some K.pb := fun e => by
        obtain ⟨cs', f', h4⟩ := ownsRow_block hj5.pair.came.row _ e
        exact cells_ne h4 hj5.pair.cell (by decide) rfl
      have HPN := Lib.hid hpn
      have HNL : Hid (some gp ≠ (Value.slice pc L.length cc).ownBlock ∧ some x ≠ (Value.slice pc L.length cc).ownBlock) := Lib.hid ⟨fun e => (hj5.off gp (.inl rfl)).1 (hj5.pair.came.vo _ e.symm), fun e => (hj5.off x (.inr (.inr (.inr rfl)))).1 (hj5.pair.came.vo _ e.symm)⟩
      have HNLp : Hid (gp ≠ K.pb ∧ x ≠ K.pb) := Lib.hid ⟨fun e => (hj5.off gp (.inl rfl)).1 (e ▸ hj5.pair.oo.1), fun e => (hj5.off x (.inr (.inr (.inr rfl)))).1 (e ▸ hj5.pair.oo.1)⟩
      clear hj5 hiy5 hpn hpt l0' lf' HJ4 HIY4
      gi_cut [17] from 48 (fun s17 wx => s17 = .int .i64 m ∧ ∃ vc', Put K 2 (.slice pc L.length cc) vc' L.length (itRow L) (itCells (it, .slice pe it.ext.length ce, .slice pb it.body.length cb)) w5 wx)
      case first =>
        rename_i JJ hJJ KK hKK
        refine wpIn_region_of_held (fun V => V.cell? ⟨gp, 0, none⟩ = some (.pointer (some ⟨K.pb, 0, none⟩)) ∧ V.heap[x]? = some (.cells #[.int .i64 it.kind, .int .i64 it.proto, .int .i64 it.T, .int .i64 it.ch, .slice pe it.ext.length ce, .slice pb it.body.length cb] 71 (0, 0))) 11 rfl (by kernel_rfl) (by kernel_rfl) (by rintro ⟨_, _, h⟩; exact h) ?_
        have hS : w5.drew.cell? ⟨gp, 0, none⟩ = some (.pointer (some ⟨K.pb, 0, none⟩)) ∧ w5.drew.heap[x]? = some (.cells #[.int .i64 it.kind, .int .i64 it.proto, .int .i64 it.T, .int .i64 it.ch, .slice pe it.ext.length ce, .slice pb it.body.length cb] 71 (0, 0)) := ⟨p0, x0⟩
        refine takeD (i := 0) (v := .pointer (some ⟨K.pb, 0, none⟩)) (some 60) rfl rfl (by kernel_rfl) (by kernel_rfl) (by kernel_rfl) (fun _ _ _ h => h) (Or.inl ⟨by rfl, by rintro V ⟨h1, h2⟩; go_simp⟩) hS ?_
        simp only [Act.put, List.setIfInBounds_toArray, List.set_cons_zero, List.set_cons_succ]
        refine takeD (i := 1) (v := .pointer (some ⟨K.pb, 0, none⟩)) (some 61) rfl rfl (by kernel_rfl) (by kernel_rfl) (by kernel_rfl) (fun _ _ _ h => h) (Or.inl ⟨by rfl, by rintro V ⟨h1, h2⟩; go_simp⟩) hS ?_
        simp only [Act.put, List.setIfInBounds_toArray, List.set_cons_zero, List.set_cons_succ]
        refine takeD (i := 2) (v := .pointer (some ⟨K.pb, 0, none⟩)) (some 62) rfl rfl (by kernel_rfl) (by kernel_rfl) (by kernel_rfl) (fun _ _ _ h => h) (Or.inl ⟨by rfl, by rintro V ⟨h1, h2⟩; go_simp⟩) hS ?_
        simp only [Act.put, List.setIfInBounds_toArray, List.set_cons_zero, List.set_cons_succ]
        refine takeD (i := 3) (v := .pointer (some ⟨K.pb, 2, none⟩)) (some 63) rfl rfl (by kernel_rfl) (by kernel_rfl) (by kernel_rfl) (fun _ _ _ h => h) (Or.inl ⟨by rfl, by rintro V ⟨h1, h2⟩; go_simp⟩) hS ?_
        simp only [Act.put, List.setIfInBounds_toArray, List.set_cons_zero, List.set_cons_succ]
        refine takeD (i := 5) (v := .agg #[.int .i64 it.kind, .int .i64 it.proto, .int .i64 it.T, .int .i64 it.ch, .slice pe it.ext.length ce, .slice pb it.body.length cb]) (some 65) rfl rfl (by kernel_rfl) (by kernel_rfl) (by kernel_rfl) (fun _ _ _ h => h) (yieldsIf_load_row 71 _ rfl (by rfl) x rfl 71 _ (0, 0) _ (fun V hV => hV.2) Try.underlying71 rfl (by kernel_rfl)) hS ?_
        simp only [Act.put, List.setIfInBounds_toArray, List.set_cons_zero, List.set_cons_succ]
        refine wpAnyH_all (rs := [4, 6]) (by kernel_rfl) (by simp) ?_
        intro i hi
        simp only [List.mem_cons, List.not_mem_nil, or_false] at hi
        rcases hi with rfl | rfl
        · refine stepD (i := 4) rfl (by rfl) (fun K4 h4 => ?_)
          go_simp
          refine h4.out _ _ hS ?_
          clear h4
          try simp only [Act.put, List.setIfInBounds_toArray, List.set_cons_zero, List.set_cons_succ]
          refine wpAnyH_all (rs := [6]) (by kernel_rfl) (by simp) ?_
          intro i hi
          simp only [List.mem_cons, List.not_mem_nil, or_false] at hi
          subst hi
          refine stepD (i := 6) rfl (by rfl) (fun K6 h6 => ?_)
          go_simp
          refine h6.out _ _ ⟨(World.cell?_of_block (heap_alloc_old w5 _ (cell_lt p0))).trans p0, (heap_alloc_old w5 _ (Array.getElem?_eq_some_iff.1 x0).1).trans x0⟩ ?_
          clear h6 hS
          have hS : (w5.alloc (.cells #[.int .i64 it.kind, .int .i64 it.proto, .int .i64 it.T, .int .i64 it.ch, .slice pe it.ext.length ce, .slice pb it.body.length cb] 71)).drew.cell? ⟨gp, 0, none⟩ = some (.pointer (some ⟨K.pb, 0, none⟩)) ∧ (w5.alloc (.cells #[.int .i64 it.kind, .int .i64 it.proto, .int .i64 it.T, .int .i64 it.ch, .slice pe it.ext.length ce, .slice pb it.body.length cb] 71)).drew.heap[x]? = some (.cells #[.int .i64 it.kind, .int .i64 it.proto, .int .i64 it.T, .int .i64 it.ch, .slice pe it.ext.length ce, .slice pb it.body.length cb] 71 (0, 0)) := ⟨(World.cell?_of_block (heap_alloc_old w5 _ (cell_lt p0))).trans p0, (heap_alloc_old w5 _ (Array.getElem?_eq_some_iff.1 x0).1).trans x0⟩
          try simp only [Act.put, List.setIfInBounds_toArray, List.set_cons_zero, List.set_cons_succ]
          refine wpAnyH_all (rs := [7]) (by kernel_rfl) (by simp) ?_
          intro i hi
          simp only [List.mem_cons, List.not_mem_nil, or_false] at hi
          subst hi
          refine stepD (i := 7) rfl (by rfl) (fun K7 h7 => ?_)
          refine oper_append_struct (wr := w5) (.tmp 64) (.tmp 66) 47 rfl K.B 71 _ 6 80 Try.underlying47 info_item rfl (by decide) (.slice pc L.length cc) L.length (itRow L) (itCells (it, .slice pe it.ext.length ce, .slice pb it.body.length cb)) rfl (by intro u hu; simp only [itCells, List.mem_cons, List.not_mem_nil, or_false] at hu; rcases hu with rfl | rfl | rfl | rfl | rfl | rfl <;> rfl) rfl (by simp [Act.eval]) (by simp [Act.eval]) HR5.out (by unfold maxLen; omega) (by omega) hB6 ?_
          intro v8 w8 h81 h82 h83
          have hc8 := (h82.block K.pb (Array.getElem?_eq_some_iff.1 HC5.out).1 (fun e => HPN.out e.symm)).trans HC5.out
          have c8 : w8.cell? ⟨K.pb, 2, none⟩ = some ((.slice pc L.length cc)) := (cell_of_row _ _ 2 _ _ _ hc8).trans rfl
          have f8 : w8.frozen? ⟨K.pb, 2, none⟩ = false := by simp [World.frozen?, hc8]
          have hs8 : ∃ p' n' c', v8 = .slice p' n' c' := by
            rcases h81.2 with ⟨rfl, _⟩ | ⟨g, cap, cur, rfl, _⟩
            · exact ⟨_, _, _, rfl⟩
            · exact ⟨_, _, _, rfl⟩
          obtain ⟨p', n', c', rfl⟩ := hs8
          have hput : Put K 2 ((.slice pc L.length cc)) (.slice p' n' c') L.length (itRow L) (itCells (it, .slice pe it.ext.length ce, .slice pb it.body.length cb)) w5 (w8.setCell ⟨K.pb, 2, none⟩ (.slice p' n' c')) := ⟨w8, h81, h82, h83, rfl⟩
          have HPUT := Lib.hid hput
          have hS8 : w8.cell? ⟨gp, 0, none⟩ = some (.pointer (some ⟨K.pb, 0, none⟩)) ∧ w8.heap[x]? = some (.cells #[.int .i64 it.kind, .int .i64 it.proto, .int .i64 it.T, .int .i64 it.ch, .slice pe it.ext.length ce, .slice pb it.body.length cb] 71 (0, 0)) := ⟨(World.cell?_of_block (h82.block gp (cell_lt p0) (HNL.out.1))).trans p0, (h82.block x (Array.getElem?_eq_some_iff.1 x0).1 (HNL.out.2)).trans x0⟩
          refine h7.out _ _ hS8 ?_
          clear h7 hS hc8 h81 h82 h83 hput
          have hS := hS8
          try simp only [Act.put, List.setIfInBounds_toArray]
          refine takeD (i := 8) (v := .pointer (some ⟨K.pb, 0, none⟩)) (some 68) rfl rfl (by kernel_rfl) (by kernel_rfl) (by kernel_rfl) (fun _ _ _ h => h) (Or.inl ⟨by rfl, by rintro V ⟨h1, h2⟩; go_simp⟩) hS ?_
          simp only [Act.put]
          refine takeD (i := 9) (v := .pointer (some ⟨K.pb, 2, none⟩)) (some 69) rfl rfl (by kernel_rfl) (by kernel_rfl) (by kernel_rfl) (fun _ _ _ h => h) (Or.inl ⟨by rfl, by rintro V ⟨h1, h2⟩; go_simp⟩) hS ?_
          simp only [Act.put]
          refine wpAnyH_all (rs := [10]) (by kernel_rfl) (by simp) ?_
          intro i hi
          simp only [List.mem_cons, List.not_mem_nil, or_false] at hi
          subst hi
          refine stepD (i := 10) rfl (by rfl) (fun K10 h10 => ?_)
          go_simp
          have hS10 : (w8.setCell ⟨K.pb, 2, none⟩ (.slice p' n' c')).cell? ⟨gp, 0, none⟩ = some (.pointer (some ⟨K.pb, 0, none⟩)) ∧ (w8.setCell ⟨K.pb, 2, none⟩ (.slice p' n' c')).heap[x]? = some (.cells #[.int .i64 it.kind, .int .i64 it.proto, .int .i64 it.T, .int .i64 it.ch, .slice pe it.ext.length ce, .slice pb it.body.length cb] 71 (0, 0)) := ⟨(World.cell?_of_block ((setCell_grown w8 K.pb 2 _).block gp (cell_lt hS8.1) (fun e => HNLp.out.1 (Option.some.inj e)))).trans hS8.1, ((setCell_grown w8 K.pb 2 _).block x (Array.getElem?_eq_some_iff.1 hS8.2).1 (fun e => HNLp.out.2 (Option.some.inj e))).trans hS8.2⟩
          refine h10.out _ _ hS10 ?_
          clear h10
          refine wpAnyH_done (by kernel_rfl) ?_ _
          clear hS hS8 hS10
          refine Met.intro ?_
          refine hKK _ _ (KK _ _ ?_)
          (repeat apply Exists.intro)
          refine ⟨?_, rfl⟩
          exact ⟨rfl, _, HPUT.out⟩
        · refine stepD (i := 6) rfl (by rfl) (fun K6 h6 => ?_)
          go_simp
          refine h6.out _ _ ⟨(World.cell?_of_block (heap_alloc_old w5 _ (cell_lt p0))).trans p0, (heap_alloc_old w5 _ (Array.getElem?_eq_some_iff.1 x0).1).trans x0⟩ ?_
          clear h6 hS
          have hS : (w5.alloc (.cells #[.int .i64 it.kind, .int .i64 it.proto, .int .i64 it.T, .int .i64 it.ch, .slice pe it.ext.length ce, .slice pb it.body.length cb] 71)).drew.cell? ⟨gp, 0, none⟩ = some (.pointer (some ⟨K.pb, 0, none⟩)) ∧ (w5.alloc (.cells #[.int .i64 it.kind, .int .i64 it.proto, .int .i64 it.T, .int .i64 it.ch, .slice pe it.ext.length ce, .slice pb it.body.length cb] 71)).drew.heap[x]? = some (.cells #[.int .i64 it.kind, .int .i64 it.proto, .int .i64 it.T, .int .i64 it.ch, .slice pe it.ext.length ce, .slice pb it.body.length cb] 71 (0, 0)) := ⟨(World.cell?_of_block (heap_alloc_old w5 _ (cell_lt p0))).trans p0, (heap_alloc_old w5 _ (Array.getElem?_eq_some_iff.1 x0).1).trans x0⟩
          try simp only [Act.put, List.setIfInBounds_toArray, List.set_cons_zero, List.set_cons_succ]
          refine wpAnyH_all (rs := [4]) (by kernel_rfl) (by simp) ?_
          intro i hi
          simp only [List.mem_cons, List.not_mem_nil, or_false] at hi
          subst hi
          refine stepD (i := 4) rfl (by rfl) (fun K4 h4 => ?_)
          go_simp
          refine h4.out _ _ hS ?_
          clear h4
          try simp only [Act.put, List.setIfInBounds_toArray, List.set_cons_zero, List.set_cons_succ]
          refine wpAnyH_all (rs := [7]) (by kernel_rfl) (by simp) ?_
          intro i hi
          simp only [List.mem_cons, List.not_mem_nil, or_false] at hi
          subst hi
          refine stepD (i := 7) rfl (by rfl) (fun K7 h7 => ?_)
          refine oper_append_struct (wr := w5) (.tmp 64) (.tmp 66) 47 rfl K.B 71 _ 6 80 Try.underlying47 info_item rfl (by decide) (.slice pc L.length cc) L.length (itRow L) (itCells (it, .slice pe it.ext.length ce, .slice pb it.body.length cb)) rfl (by intro u hu; simp only [itCells, List.mem_cons, List.not_mem_nil, or_false] at hu; rcases hu with rfl | rfl | rfl | rfl | rfl | rfl <;> rfl) rfl (by simp [Act.eval]) (by simp [Act.eval]) HR5.out (by unfold maxLen; omega) (by omega) hB6 ?_
          intro v8 w8 h81 h82 h83
          have hc8 := (h82.block K.pb (Array.getElem?_eq_some_iff.1 HC5.out).1 (fun e => HPN.out e.symm)).trans HC5.out
          have c8 : w8.cell? ⟨K.pb, 2, none⟩ = some ((.slice pc L.length cc)) := (cell_of_row _ _ 2 _ _ _ hc8).trans rfl
          have f8 : w8.frozen? ⟨K.pb, 2, none⟩ = false := by simp [World.frozen?, hc8]
          have hs8 : ∃ p' n' c', v8 = .slice p' n' c' := by
            rcases h81.2 with ⟨rfl, _⟩ | ⟨g, cap, cur, rfl, _⟩
            · exact ⟨_, _, _, rfl⟩
            · exact ⟨_, _, _, rfl⟩
          obtain ⟨p', n', c', rfl⟩ := hs8
          have hput : Put K 2 ((.slice pc L.length cc)) (.slice p' n' c') L.length (itRow L) (itCells (it, .slice pe it.ext.length ce, .slice pb it.body.length cb)) w5 (w8.setCell ⟨K.pb, 2, none⟩ (.slice p' n' c')) := ⟨w8, h81, h82, h83, rfl⟩
          have HPUT := Lib.hid hput
          have hS8 : w8.cell? ⟨gp, 0, none⟩ = some (.pointer (some ⟨K.pb, 0, none⟩)) ∧ w8.heap[x]? = some (.cells #[.int .i64 it.kind, .int .i64 it.proto, .int .i64 it.T, .int .i64 it.ch, .slice pe it.ext.length ce, .slice pb it.body.length cb] 71 (0, 0)) := ⟨(World.cell?_of_block (h82.block gp (cell_lt p0) (HNL.out.1))).trans p0, (h82.block x (Array.getElem?_eq_some_iff.1 x0).1 (HNL.out.2)).trans x0⟩
          refine h7.out _ _ hS8 ?_
          clear h7 hS hc8 h81 h82 h83 hput
          have hS := hS8
          try simp only [Act.put, List.setIfInBounds_toArray]
          refine takeD (i := 8) (v := .pointer (some ⟨K.pb, 0, none⟩)) (some 68) rfl rfl (by kernel_rfl) (by kernel_rfl) (by kernel_rfl) (fun _ _ _ h => h) (Or.inl ⟨by rfl, by rintro V ⟨h1, h2⟩; go_simp⟩) hS ?_
          simp only [Act.put]
          refine takeD (i := 9) (v := .pointer (some ⟨K.pb, 2, none⟩)) (some 69) rfl rfl (by kernel_rfl) (by kernel_rfl) (by kernel_rfl) (fun _ _ _ h => h) (Or.inl ⟨by rfl, by rintro V ⟨h1, h2⟩; go_simp⟩) hS ?_
          simp only [Act.put]
          refine wpAnyH_all (rs := [10]) (by kernel_rfl) (by simp) ?_
          intro i hi
          simp only [List.mem_cons, List.not_mem_nil, or_false] at hi
          subst hi
          refine stepD (i := 10) rfl (by rfl) (fun K10 h10 => ?_)
          go_simp
          have hS10 : (w8.setCell ⟨K.pb, 2, none⟩ (.slice p' n' c')).cell? ⟨gp, 0, none⟩ = some (.pointer (some ⟨K.pb, 0, none⟩)) ∧ (w8.setCell ⟨K.pb, 2, none⟩ (.slice p' n' c')).heap[x]? = some (.cells #[.int .i64 it.kind, .int .i64 it.proto, .int .i64 it.T, .int .i64 it.ch, .slice pe it.ext.length ce, .slice pb it.body.length cb] 71 (0, 0)) := ⟨(World.cell?_of_block ((setCell_grown w8 K.pb 2 _).block gp (cell_lt hS8.1) (fun e => HNLp.out.1 (Option.some.inj e)))).trans hS8.1, ((setCell_grown w8 K.pb 2 _).block x (Array.getElem?_eq_some_iff.1 hS8.2).1 (fun e => HNLp.out.2 (Option.some.inj e))).trans hS8.2⟩
          refine h10.out _ _ hS10 ?_
          clear h10
          refine wpAnyH_done (by kernel_rfl) ?_ _
          clear hS hS8 hS10
          refine Met.intro ?_
          refine hKK _ _ (KK _ _ ?_)
          (repeat apply Exists.intro)
          refine ⟨?_, rfl⟩
          exact ⟨rfl, _, HPUT.out⟩
      case rest =>
        obtain ⟨rfl, vc', hput⟩ := hcut
        obtain ⟨w6, hw6⟩ : ∃ w6, w6 = wc := ⟨_, rfl⟩
        subst hw6
        obtain ⟨hp6, hwe6, hwb6, hcells, hkeep6, hvn6, hz6, hown6⟩ := HJ5.out.putC hput
        have cp6 := hcells HJ5.out.cp (.inl rfl)
        have ck6 := hcells HJ5.out.ck (.inr (.inl rfl))
        have ce6 := hcells HJ5.out.cel (.inr (.inr (.inl rfl)))
        have ix6 : ItAt w6 x it (.slice pe it.ext.length ce) (.slice pb it.body.length cb) := hcells HJ5.out.ix (.inr (.inr (.inr (.inl rfl))))
        have iy6 : ItAt w6 y it (.slice qe it.ext.length de) (.slice qb it.body.length db) := hcells HIY5.out (.inr (.inr (.inr (.inr HYO4.out.1))))
        have p0 : w6.cell? ⟨gp, 0, none⟩ = some (.pointer (some ⟨K.pb, 0, none⟩)) := (cell_of_row _ _ 0 _ _ _ cp6).trans rfl
        have x0 : w6.heap[y]? = some (.cells #[.int .i64 it.kind, .int .i64 it.proto, .int .i64 it.T, .int .i64 it.ch, .slice qe it.ext.length de, .slice qb it.body.length db] 71 (0, 0)) := iy6
        have c3 : w6.cell? ⟨K.pb, 3, none⟩ = some (.slice pd M.length cd) := (cell_of_row _ _ 3 _ _ _ hp6.cell).trans rfl
        have c3' : (w6.alloc (.cells #[.int .i64 it.kind, .int .i64 it.proto, .int .i64 it.T, .int .i64 it.ch, .slice qe it.ext.length de, .slice qb it.body.length db] 71)).cell? ⟨K.pb, 3, none⟩ = some (.slice pd M.length cd) := (World.cell?_of_block (heap_alloc_old w6 _ (cell_lt c3))).trans c3
        have HP6 := Lib.hid hp6
        have HW6 := Lib.hid (And.intro hwe6 hwb6)
        have HK6 := Lib.hid (And.intro hkeep6 hown6)
        have HCL6 := Lib.hid (And.intro cp6 (And.intro ck6 (And.intro ce6 (And.intro ix6 iy6))))
        have HR6 := Lib.hid hp6.want.row
        have HC6 := Lib.hid hp6.cell
        have hB6 := hp6.bb.2.2
        have hML : M.length + 1 ≤ 549755813888 := by have := congrArg List.length HLM.out; rw [List.length_map, List.length_map] at this; omega
        have hpn : (Value.slice pd M.length cd).ownBlock ≠ some K.pb := fun e => by
          obtain ⟨cs', f', h4⟩ := ownsRow_block hp6.want.row _ e
          exact cells_ne h4 hp6.cell (by decide) rfl
        have HPN6 := Lib.hid hpn
        have HNM : Hid (some gp ≠ (Value.slice pd M.length cd).ownBlock ∧ some y ≠ (Value.slice pd M.length cd).ownBlock) := Lib.hid ⟨fun e => (HJ5.out.off gp (.inl rfl)).1 (HJ5.out.pair.want.vo _ e.symm), fun e => HYO4.out.1 (HJ5.out.pair.want.vo _ e.symm)⟩
        have HNMp : Hid (gp ≠ K.pb ∧ y ≠ K.pb) := Lib.hid ⟨fun e => (HJ5.out.off gp (.inl rfl)).1 (e ▸ HJ5.out.pair.oo.1), fun e => HYO4.out.1 (e ▸ HJ5.out.pair.oo.1)⟩
        clear hp6 hwe6 hwb6 hcells hkeep6 hvn6 hz6 hown6 cp6 ck6 ce6 ix6 iy6 hpn c2 c2' hput HIY5 HR5 HC5 HPN HNL HNLp
        gi_upto_region 18 with fail
        gi_cut [17] from 48 (fun s17 wx => s17 = .int .i64 m ∧ ∃ vd', Put K 3 (.slice pd M.length cd) vd' M.length (itRow M) (itCells (it, .slice qe it.ext.length de, .slice qb it.body.length db)) w6 wx)
        case first =>
          rename_i JJ hJJ KK hKK
          refine wpIn_region_of_held (fun V => V.cell? ⟨gp, 0, none⟩ = some (.pointer (some ⟨K.pb, 0, none⟩)) ∧ V.heap[y]? = some (.cells #[.int .i64 it.kind, .int .i64 it.proto, .int .i64 it.T, .int .i64 it.ch, .slice qe it.ext.length de, .slice qb it.body.length db] 71 (0, 0))) 11 rfl (by kernel_rfl) (by kernel_rfl) (by rintro ⟨_, _, h⟩; exact h) ?_
          have hS : w6.drew.cell? ⟨gp, 0, none⟩ = some (.pointer (some ⟨K.pb, 0, none⟩)) ∧ w6.drew.heap[y]? = some (.cells #[.int .i64 it.kind, .int .i64 it.proto, .int .i64 it.T, .int .i64 it.ch, .slice qe it.ext.length de, .slice qb it.body.length db] 71 (0, 0)) := ⟨p0, x0⟩
          refine takeD (i := 0) (v := .pointer (some ⟨K.pb, 0, none⟩)) (some 70) rfl rfl (by kernel_rfl) (by kernel_rfl) (by kernel_rfl) (fun _ _ _ h => h) (Or.inl ⟨by rfl, by rintro V ⟨h1, h2⟩; go_simp⟩) hS ?_
          simp only [Act.put, List.setIfInBounds_toArray, List.set_cons_zero, List.set_cons_succ]
          refine takeD (i := 1) (v := .pointer (some ⟨K.pb, 0, none⟩)) (some 71) rfl rfl (by kernel_rfl) (by kernel_rfl) (by kernel_rfl) (fun _ _ _ h => h) (Or.inl ⟨by rfl, by rintro V ⟨h1, h2⟩; go_simp⟩) hS ?_
          simp only [Act.put, List.setIfInBounds_toArray, List.set_cons_zero, List.set_cons_succ]
          refine takeD (i := 2) (v := .pointer (some ⟨K.pb, 0, none⟩)) (some 72) rfl rfl (by kernel_rfl) (by kernel_rfl) (by kernel_rfl) (fun _ _ _ h => h) (Or.inl ⟨by rfl, by rintro V ⟨h1, h2⟩; go_simp⟩) hS ?_
          simp only [Act.put, List.setIfInBounds_toArray, List.set_cons_zero, List.set_cons_succ]
          refine takeD (i := 3) (v := .pointer (some ⟨K.pb, 3, none⟩)) (some 73) rfl rfl (by kernel_rfl) (by kernel_rfl) (by kernel_rfl) (fun _ _ _ h => h) (Or.inl ⟨by rfl, by rintro V ⟨h1, h2⟩; go_simp⟩) hS ?_
          simp only [Act.put, List.setIfInBounds_toArray, List.set_cons_zero, List.set_cons_succ]
          refine takeD (i := 5) (v := .agg #[.int .i64 it.kind, .int .i64 it.proto, .int .i64 it.T, .int .i64 it.ch, .slice qe it.ext.length de, .slice qb it.body.length db]) (some 75) rfl rfl (by kernel_rfl) (by kernel_rfl) (by kernel_rfl) (fun _ _ _ h => h) (yieldsIf_load_row 71 _ rfl (by rfl) y rfl 71 _ (0, 0) _ (fun V hV => hV.2) Try.underlying71 rfl (by kernel_rfl)) hS ?_
          simp only [Act.put, List.setIfInBounds_toArray, List.set_cons_zero, List.set_cons_succ]
          refine wpAnyH_all (rs := [4, 6]) (by kernel_rfl) (by simp) ?_
          intro i hi
          simp only [List.mem_cons, List.not_mem_nil, or_false] at hi
          rcases hi with rfl | rfl
          · refine stepD (i := 4) rfl (by rfl) (fun K4 h4 => ?_)
            go_simp
            refine h4.out _ _ hS ?_
            clear h4
            try simp only [Act.put, List.setIfInBounds_toArray, List.set_cons_zero, List.set_cons_succ]
            refine wpAnyH_all (rs := [6]) (by kernel_rfl) (by simp) ?_
            intro i hi
            simp only [List.mem_cons, List.not_mem_nil, or_false] at hi
            subst hi
            refine stepD (i := 6) rfl (by rfl) (fun K6 h6 => ?_)
            go_simp
            refine h6.out _ _ ⟨(World.cell?_of_block (heap_alloc_old w6 _ (cell_lt p0))).trans p0, (heap_alloc_old w6 _ (Array.getElem?_eq_some_iff.1 x0).1).trans x0⟩ ?_
            clear h6 hS
            have hS : (w6.alloc (.cells #[.int .i64 it.kind, .int .i64 it.proto, .int .i64 it.T, .int .i64 it.ch, .slice qe it.ext.length de, .slice qb it.body.length db] 71)).drew.cell? ⟨gp, 0, none⟩ = some (.pointer (some ⟨K.pb, 0, none⟩)) ∧ (w6.alloc (.cells #[.int .i64 it.kind, .int .i64 it.proto, .int .i64 it.T, .int .i64 it.ch, .slice qe it.ext.length de, .slice qb it.body.length db] 71)).drew.heap[y]? = some (.cells #[.int .i64 it.kind, .int .i64 it.proto, .int .i64 it.T, .int .i64 it.ch, .slice qe it.ext.length de, .slice qb it.body.length db] 71 (0, 0)) := ⟨(World.cell?_of_block (heap_alloc_old w6 _ (cell_lt p0))).trans p0, (heap_alloc_old w6 _ (Array.getElem?_eq_some_iff.1 x0).1).trans x0⟩
            try simp only [Act.put, List.setIfInBounds_toArray, List.set_cons_zero, List.set_cons_succ]
            refine wpAnyH_all (rs := [7]) (by kernel_rfl) (by simp) ?_
            intro i hi
            simp only [List.mem_cons, List.not_mem_nil, or_false] at hi
            subst hi
            refine stepD (i := 7) rfl (by rfl) (fun K7 h7 => ?_)
            refine oper_append_struct (wr := w6) (.tmp 74) (.tmp 76) 47 rfl K.B 71 _ 6 80 Try.underlying47 info_item rfl (by decide) (.slice pd M.length cd) M.length (itRow M) (itCells (it, .slice qe it.ext.length de, .slice qb it.body.length db)) rfl (by intro u hu; simp only [itCells, List.mem_cons, List.not_mem_nil, or_false] at hu; rcases hu with rfl | rfl | rfl | rfl | rfl | rfl <;> rfl) rfl (by simp [Act.eval]) (by simp [Act.eval]) HR6.out (by unfold maxLen; omega) (by omega) hB6 ?_
            intro v8 w8 h81 h82 h83
            have hc8 := (h82.block K.pb (Array.getElem?_eq_some_iff.1 HC6.out).1 (fun e => HPN6.out e.symm)).trans HC6.out
            have c8 : w8.cell? ⟨K.pb, 3, none⟩ = some ((.slice pd M.length cd)) := (cell_of_row _ _ 3 _ _ _ hc8).trans rfl
            have f8 : w8.frozen? ⟨K.pb, 3, none⟩ = false := by simp [World.frozen?, hc8]
            have hs8 : ∃ p' n' c', v8 = .slice p' n' c' := by
              rcases h81.2 with ⟨rfl, _⟩ | ⟨g, cap, cur, rfl, _⟩
              · exact ⟨_, _, _, rfl⟩
              · exact ⟨_, _, _, rfl⟩
            obtain ⟨p', n', c', rfl⟩ := hs8
            have hput : Put K 3 ((.slice pd M.length cd)) (.slice p' n' c') M.length (itRow M) (itCells (it, .slice qe it.ext.length de, .slice qb it.body.length db)) w6 (w8.setCell ⟨K.pb, 3, none⟩ (.slice p' n' c')) := ⟨w8, h81, h82, h83, rfl⟩
            have HPUT := Lib.hid hput
            have hS8 : w8.cell? ⟨gp, 0, none⟩ = some (.pointer (some ⟨K.pb, 0, none⟩)) ∧ w8.heap[y]? = some (.cells #[.int .i64 it.kind, .int .i64 it.proto, .int .i64 it.T, .int .i64 it.ch, .slice qe it.ext.length de, .slice qb it.body.length db] 71 (0, 0)) := ⟨(World.cell?_of_block (h82.block gp (cell_lt p0) (HNM.out.1))).trans p0, (h82.block y (Array.getElem?_eq_some_iff.1 x0).1 (HNM.out.2)).trans x0⟩
            refine h7.out _ _ hS8 ?_
            clear h7 hS hc8 h81 h82 h83 hput
            have hS := hS8
            try simp only [Act.put, List.setIfInBounds_toArray]
            refine takeD (i := 8) (v := .pointer (some ⟨K.pb, 0, none⟩)) (some 78) rfl rfl (by kernel_rfl) (by kernel_rfl) (by kernel_rfl) (fun _ _ _ h => h) (Or.inl ⟨by rfl, by rintro V ⟨h1, h2⟩; go_simp⟩) hS ?_
            simp only [Act.put]
            refine takeD (i := 9) (v := .pointer (some ⟨K.pb, 3, none⟩)) (some 79) rfl rfl (by kernel_rfl) (by kernel_rfl) (by kernel_rfl) (fun _ _ _ h => h) (Or.inl ⟨by rfl, by rintro V ⟨h1, h2⟩; go_simp⟩) hS ?_
            simp only [Act.put]
            refine wpAnyH_all (rs := [10]) (by kernel_rfl) (by simp) ?_
            intro i hi
            simp only [List.mem_cons, List.not_mem_nil, or_false] at hi
            subst hi
            refine stepD (i := 10) rfl (by rfl) (fun K10 h10 => ?_)
            go_simp
            have hS10 : (w8.setCell ⟨K.pb, 3, none⟩ (.slice p' n' c')).cell? ⟨gp, 0, none⟩ = some (.pointer (some ⟨K.pb, 0, none⟩)) ∧ (w8.setCell ⟨K.pb, 3, none⟩ (.slice p' n' c')).heap[y]? = some (.cells #[.int .i64 it.kind, .int .i64 it.proto, .int .i64 it.T, .int .i64 it.ch, .slice qe it.ext.length de, .slice qb it.body.length db] 71 (0, 0)) := ⟨(World.cell?_of_block ((setCell_grown w8 K.pb 3 _).block gp (cell_lt hS8.1) (fun e => HNMp.out.1 (Option.some.inj e)))).trans hS8.1, ((setCell_grown w8 K.pb 3 _).block y (Array.getElem?_eq_some_iff.1 hS8.2).1 (fun e => HNMp.out.2 (Option.some.inj e))).trans hS8.2⟩
            refine h10.out _ _ hS10 ?_
            clear h10
            refine wpAnyH_done (by kernel_rfl) ?_ _
            clear hS hS8 hS10
            refine Met.intro ?_
            refine hKK _ _ (KK _ _ ?_)
            (repeat apply Exists.intro)
            refine ⟨?_, rfl⟩
            exact ⟨rfl, _, HPUT.out⟩
          · refine stepD (i := 6) rfl (by rfl) (fun K6 h6 => ?_)
            go_simp
            refine h6.out _ _ ⟨(World.cell?_of_block (heap_alloc_old w6 _ (cell_lt p0))).trans p0, (heap_alloc_old w6 _ (Array.getElem?_eq_some_iff.1 x0).1).trans x0⟩ ?_
            clear h6 hS
            have hS : (w6.alloc (.cells #[.int .i64 it.kind, .int .i64 it.proto, .int .i64 it.T, .int .i64 it.ch, .slice qe it.ext.length de, .slice qb it.body.length db] 71)).drew.cell? ⟨gp, 0, none⟩ = some (.pointer (some ⟨K.pb, 0, none⟩)) ∧ (w6.alloc (.cells #[.int .i64 it.kind, .int .i64 it.proto, .int .i64 it.T, .int .i64 it.ch, .slice qe it.ext.length de, .slice qb it.body.length db] 71)).drew.heap[y]? = some (.cells #[.int .i64 it.kind, .int .i64 it.proto, .int .i64 it.T, .int .i64 it.ch, .slice qe it.ext.length de, .slice qb it.body.length db] 71 (0, 0)) := ⟨(World.cell?_of_block (heap_alloc_old w6 _ (cell_lt p0))).trans p0, (heap_alloc_old w6 _ (Array.getElem?_eq_some_iff.1 x0).1).trans x0⟩
            try simp only [Act.put, List.setIfInBounds_toArray, List.set_cons_zero, List.set_cons_succ]
            refine wpAnyH_all (rs := [4]) (by kernel_rfl) (by simp) ?_
            intro i hi
            simp only [List.mem_cons, List.not_mem_nil, or_false] at hi
            subst hi
            refine stepD (i := 4) rfl (by rfl) (fun K4 h4 => ?_)
            go_simp
            refine h4.out _ _ hS ?_
            clear h4
            try simp only [Act.put, List.setIfInBounds_toArray, List.set_cons_zero, List.set_cons_succ]
            refine wpAnyH_all (rs := [7]) (by kernel_rfl) (by simp) ?_
            intro i hi
            simp only [List.mem_cons, List.not_mem_nil, or_false] at hi
            subst hi
            refine stepD (i := 7) rfl (by rfl) (fun K7 h7 => ?_)
            refine oper_append_struct (wr := w6) (.tmp 74) (.tmp 76) 47 rfl K.B 71 _ 6 80 Try.underlying47 info_item rfl (by decide) (.slice pd M.length cd) M.length (itRow M) (itCells (it, .slice qe it.ext.length de, .slice qb it.body.length db)) rfl (by intro u hu; simp only [itCells, List.mem_cons, List.not_mem_nil, or_false] at hu; rcases hu with rfl | rfl | rfl | rfl | rfl | rfl <;> rfl) rfl (by simp [Act.eval]) (by simp [Act.eval]) HR6.out (by unfold maxLen; omega) (by omega) hB6 ?_
            intro v8 w8 h81 h82 h83
            have hc8 := (h82.block K.pb (Array.getElem?_eq_some_iff.1 HC6.out).1 (fun e => HPN6.out e.symm)).trans HC6.out
            have c8 : w8.cell? ⟨K.pb, 3, none⟩ = some ((.slice pd M.length cd)) := (cell_of_row _ _ 3 _ _ _ hc8).trans rfl
            have f8 : w8.frozen? ⟨K.pb, 3, none⟩ = false := by simp [World.frozen?, hc8]
            have hs8 : ∃ p' n' c', v8 = .slice p' n' c' := by
              rcases h81.2 with ⟨rfl, _⟩ | ⟨g, cap, cur, rfl, _⟩
              · exact ⟨_, _, _, rfl⟩
              · exact ⟨_, _, _, rfl⟩
            obtain ⟨p', n', c', rfl⟩ := hs8
            have hput : Put K 3 ((.slice pd M.length cd)) (.slice p' n' c') M.length (itRow M) (itCells (it, .slice qe it.ext.length de, .slice qb it.body.length db)) w6 (w8.setCell ⟨K.pb, 3, none⟩ (.slice p' n' c')) := ⟨w8, h81, h82, h83, rfl⟩
            have HPUT := Lib.hid hput
            have hS8 : w8.cell? ⟨gp, 0, none⟩ = some (.pointer (some ⟨K.pb, 0, none⟩)) ∧ w8.heap[y]? = some (.cells #[.int .i64 it.kind, .int .i64 it.proto, .int .i64 it.T, .int .i64 it.ch, .slice qe it.ext.length de, .slice qb it.body.length db] 71 (0, 0)) := ⟨(World.cell?_of_block (h82.block gp (cell_lt p0) (HNM.out.1))).trans p0, (h82.block y (Array.getElem?_eq_some_iff.1 x0).1 (HNM.out.2)).trans x0⟩
            refine h7.out _ _ hS8 ?_
            clear h7 hS hc8 h81 h82 h83 hput
            have hS := hS8
            try simp only [Act.put, List.setIfInBounds_toArray]
            refine takeD (i := 8) (v := .pointer (some ⟨K.pb, 0, none⟩)) (some 78) rfl rfl (by kernel_rfl) (by kernel_rfl) (by kernel_rfl) (fun _ _ _ h => h) (Or.inl ⟨by rfl, by rintro V ⟨h1, h2⟩; go_simp⟩) hS ?_
            simp only [Act.put]
            refine takeD (i := 9) (v := .pointer (some ⟨K.pb, 3, none⟩)) (some 79) rfl rfl (by kernel_rfl) (by kernel_rfl) (by kernel_rfl) (fun _ _ _ h => h) (Or.inl ⟨by rfl, by rintro V ⟨h1, h2⟩; go_simp⟩) hS ?_
            simp only [Act.put]
            refine wpAnyH_all (rs := [10]) (by kernel_rfl) (by simp) ?_
            intro i hi
            simp only [List.mem_cons, List.not_mem_nil, or_false] at hi
            subst hi
            refine stepD (i := 10) rfl (by rfl) (fun K10 h10 => ?_)
            go_simp
            have hS10 : (w8.setCell ⟨K.pb, 3, none⟩ (.slice p' n' c')).cell? ⟨gp, 0, none⟩ = some (.pointer (some ⟨K.pb, 0, none⟩)) ∧ (w8.setCell ⟨K.pb, 3, none⟩ (.slice p' n' c')).heap[y]? = some (.cells #[.int .i64 it.kind, .int .i64 it.proto, .int .i64 it.T, .int .i64 it.ch, .slice qe it.ext.length de, .slice qb it.body.length db] 71 (0, 0)) := ⟨(World.cell?_of_block ((setCell_grown w8 K.pb 3 _).block gp (cell_lt hS8.1) (fun e => HNMp.out.1 (Option.some.inj e)))).trans hS8.1, ((setCell_grown w8 K.pb 3 _).block y (Array.getElem?_eq_some_iff.1 hS8.2).1 (fun e => HNMp.out.2 (Option.some.inj e))).trans hS8.2⟩
            refine h10.out _ _ hS10 ?_
            clear h10
            refine wpAnyH_done (by kernel_rfl) ?_ _
            clear hS hS8 hS10
            refine Met.intro ?_
            refine hKK _ _ (KK _ _ ?_)
            (repeat apply Exists.intro)
            refine ⟨?_, rfl⟩
            exact ⟨rfl, _, HPUT.out⟩
        case rest =>
          obtain ⟨rfl, vd', hput⟩ := hcut
          obtain ⟨w7, hw7⟩ : ∃ w7, w7 = wc := ⟨_, rfl⟩
          subst hw7
          obtain ⟨f1, f2, f3, f4, f5, f6⟩ := hput.facts HR6.out HC6.out
          have hp7 := HP6.out.putD hput HW6.out.1 HW6.out.2
          have hk7 := putD_keep HP6.out hput HK6.out.1 HK6.out.2 HJ5.out.nz HJ5.out.o0 (fun j h => HJ5.out.vN j (.inr (.inl h))) HJ5.out.eN.2
          have hst : ∀ {j : Nat} {cs : Array Value} {T : Nat} {f : Nat × Nat}, w6.heap[j]? = some (.cells cs T f) → ¬ (O j ∨ rv'.ownBlock = some j) → w7.heap[j]? = some (.cells cs T f) := fun hj ho => (f3 _ (Array.getElem?_eq_some_iff.1 hj).1 (fun e => ho (e ▸ HJ5.out.pair.oo.1)) (fun e => ho (HJ5.out.pair.want.vo _ e))).trans hj
          have cp7 := hst HCL6.out.1 (HJ5.out.off _ (.inl rfl)).1
          have ck7 := hst HCL6.out.2.1 (HJ5.out.off _ (.inr (.inl rfl))).1
          have ce7 := hst HCL6.out.2.2.1 (HJ5.out.off _ (.inr (.inr (.inl rfl)))).1
          have ix7 := hst HCL6.out.2.2.2.1 (HJ5.out.off _ (.inr (.inr (.inr rfl)))).1
          have iy7 := hst HCL6.out.2.2.2.2 HYO4.out.1
          have b1 := hp7.came.its (it, .slice pe it.ext.length ce, .slice pb it.body.length cb) (by simp)
          have b2 := hp7.want.its (it, .slice qe it.ext.length de, .slice qb it.body.length db) (by simp)
          have hcall := same6_eq w7 it pe qe pb qb _ ce _ cb _ de _ db b1.1.slice.2 b1.2.1.slice.2 b2.1.slice.2 b2.2.1.slice.2
          unfold Itm.val at hcall
          have HP7 := Lib.hid hp7
          have HK7 := Lib.hid hk7
          have HCL7 := Lib.hid (And.intro cp7 (And.intro ck7 ce7))
          have g0 : w7.cell? ⟨x, 0, none⟩ = some (.int .i64 it.kind) := (cell_of_row _ _ 0 _ _ _ ix7).trans rfl
          have g1 : w7.cell? ⟨x, 1, none⟩ = some (.int .i64 it.proto) := (cell_of_row _ _ 1 _ _ _ ix7).trans rfl
          have g2 : w7.cell? ⟨x, 2, none⟩ = some (.int .i64 it.T) := (cell_of_row _ _ 2 _ _ _ ix7).trans rfl
          have g3 : w7.cell? ⟨x, 3, none⟩ = some (.int .i64 it.ch) := (cell_of_row _ _ 3 _ _ _ ix7).trans rfl
          have g4 : w7.cell? ⟨x, 4, none⟩ = some (.slice pe it.ext.length ce) := (cell_of_row _ _ 4 _ _ _ ix7).trans rfl
          have g5 : w7.cell? ⟨x, 5, none⟩ = some (.slice pb it.body.length cb) := (cell_of_row _ _ 5 _ _ _ ix7).trans rfl
          have t0 : w7.cell? ⟨y, 0, none⟩ = some (.int .i64 it.kind) := (cell_of_row _ _ 0 _ _ _ iy7).trans rfl
          have t1 : w7.cell? ⟨y, 1, none⟩ = some (.int .i64 it.proto) := (cell_of_row _ _ 1 _ _ _ iy7).trans rfl
          have t2 : w7.cell? ⟨y, 2, none⟩ = some (.int .i64 it.T) := (cell_of_row _ _ 2 _ _ _ iy7).trans rfl
          have t3 : w7.cell? ⟨y, 3, none⟩ = some (.int .i64 it.ch) := (cell_of_row _ _ 3 _ _ _ iy7).trans rfl
          have t4 : w7.cell? ⟨y, 4, none⟩ = some (.slice qe it.ext.length de) := (cell_of_row _ _ 4 _ _ _ iy7).trans rfl
          have t5 : w7.cell? ⟨y, 5, none⟩ = some (.slice qb it.body.length db) := (cell_of_row _ _ 5 _ _ _ iy7).trans rfl
          clear hput f1 f2 f3 f4 f5 f6 hp7 hk7 hst cp7 ck7 ce7 ix7 iy7 b1 b2 c3 c3' p0 x0 HP6 HW6 HK6 HCL6 HR6 HC6 HPN6 HNM HNMp
          gi_wp2_with fail
          refine ⟨trivial, (CallsIn.inRound lp (callsIn_wide.2 hcall)).mono ?_⟩
          clear hcall g0 g1 g2 g3 g4 g5 t0 t1 t2 t3 t4 t5
          rintro e w8 ⟨rfl, hb8⟩
          obtain ⟨hgo, hgn, hgv⟩ := HROWS.out
          have hWb : W.grownBy Wb (some lp) := grown_trans (grownBy_none HG.out lp) HT.out.1
          have on_ : ∀ {j : Nat} {cs : Array Value} {T : Nat} {f : Nat × Nat}, W.heap[j]? = some (.cells cs T f) → (j = gp ∨ j = gk ∨ j = gl ∨ j = go ∨ j = gn ∨ j = gv) → Wb.heap[j]? = some (.cells cs T f) := fun hj hg => (hWb.block _ (Array.getElem?_eq_some_iff.1 hj).1 (fun e => (HOFF.out.off _ hg).2.2.2.2.2 (Option.some.inj e))).trans hj
          have hNb : N ≤ Wb.heap.size := Nat.le_trans HAT.out.nz hWb.size
          have e8 : EndR K N gp gk gl go gn gv hv O #[.int .i64 kd, .int .i64 nn, .int .i64 mm, .slice da dn dc, .slice ma mn mc] (.slice (if cl = m then pl else Option.map (fun x => x.add m) pl) (nl - m) (cl - m)) (L.length + 1) Wb c true s' w8 := endR_of HOFF.out HP7.out HK7.out.1 HK7.out.2 HCL7.out.1 HCL7.out.2.1 (by rw [HPT.out]; exact HCL7.out.2.2) (on_ hgo (.inr (.inr (.inr (.inl rfl))))) (on_ hgn (.inr (.inr (.inr (.inr (.inl rfl)))))) (on_ hgv (.inr (.inr (.inr (.inr (.inr rfl))))))
            ⟨cells_ne hgo HAT.out.ck (by decide), cells_ne hgo HAT.out.cel (by decide), cells_ne hgn HAT.out.ck (by decide), cells_ne hgn HAT.out.cel (by decide), cells_ne hgv HAT.out.cel (by decide)⟩ hNb (by rw [List.map_append, List.map_append, HLM.out]; rfl) (by rw [List.length_append]; simp) hb8
          have p8 : w8.cell? ⟨gp, 0, none⟩ = some (.pointer (some ⟨K.pb, 0, none⟩)) := (cell_of_row _ _ 0 _ _ _ e8.cells.cp).trans rfl
          obtain ⟨hv8, fr8, rv8, vc8, vd8, L8, M8, O8, hp8, hrest8⟩ := e8.st
          have hst8 := pstate_any w8 K fr8 s' hv8 rv8 vc8 vd8 L8 M8 O8 hp8
          have E8 := Lib.hid e8
          have HWB := Lib.hid hWb
          have HNB := Lib.hid hNb
          clear hb8 e8 hp8 hrest8 on_ hWb hNb hgo hgn hgv HP7 HK7 HCL7
          gi_wp2_with fail
          refine ⟨trivial, (CallsIn.inRound lp (callsIn_wide.2 hst8)).mono ?_⟩
          clear hst8 p8
          rintro e w9 ⟨rfl, hb9⟩
          have e9 := E8.out.below HNB.out hb9
          have k9 : w9.cell? ⟨gk, 0, none⟩ = some (.bool true) := (cell_of_row _ _ 0 _ _ _ e9.cells.ck).trans rfl
          have fk9 : w9.frozen? ⟨gk, 0, none⟩ = false := by simp [World.frozen?, e9.cells.ck]
          have E9 := Lib.hid e9
          clear hb9 e9 E8
          gi_upto_region 22 with fail
          have e10 := E9.out.setK HOFF.out HNB.out
          generalize (w9.setCell ⟨gk, 0, none⟩ (.bool true)) = w10 at *
          have p10 : w10.cell? ⟨gp, 0, none⟩ = some (.pointer (some ⟨K.pb, 0, none⟩)) := (cell_of_row _ _ 0 _ _ _ e10.cells.cp).trans rfl
          have n10 : w10.cell? ⟨gn, 0, none⟩ = some (.int .i64 c) := (cell_of_row _ _ 0 _ _ _ e10.cells.cn).trans rfl
          have nf10 : w10.frozen? ⟨gn, 0, none⟩ = false := by simp [World.frozen?, e10.cells.cn]
          have o0 : w10.cell? ⟨go, 0, none⟩ = some (.int .i64 kd) := (cell_of_row _ _ 0 _ _ _ e10.cells.co).trans rfl
          have o1 : w10.cell? ⟨go, 1, none⟩ = some (.int .i64 nn) := (cell_of_row _ _ 1 _ _ _ e10.cells.co).trans rfl
          have E10 := Lib.hid e10
          clear E9 e10 k9 fk9
          have hDl := And.intro hDn (And.intro hlp.1 (And.intro hlp.2.2.2.2.1 (And.intro hlp.2.2.2.2.2.1 (And.intro hlpg.1 (And.intro hlpg.2.1 (And.intro hlp.2.1 (And.intro hlp.2.2.1 hlpg.2.2)))))))
          have HDL := Lib.hid hDl
          clear hDl hDn hlp hlpg
          have ITAIL : ∀ (W3 : World) (c' : Int) (s3 : SM), EndR K N gp gk gl go gn gv hv O #[.int .i64 kd, .int .i64 nn, .int .i64 mm, .slice da dn dc, .slice ma mn mc] (.slice (if cl = m then pl else Option.map (fun x => x.add m) pl) (nl - m) (cl - m)) (L.length + 1 + mn) Wb c' true s3 W3 → Kb.busy W3 ∧ I W3 := fun _ _ _ h =>
            have hb := h.busy HB.out HDL.out.1 HDL.out.2
            ⟨hb, HIX.out.1 _ _ _ _ HWB.out h hb⟩
          have XTAIL : ∀ (W3 : World) (c' : Int) (s3 : SM), EndR K N gp gk gl go gn gv hv O #[.int .i64 kd, .int .i64 nn, .int .i64 mm, .slice da dn dc, .slice ma mn mc] (.slice (if cl = m then pl else Option.map (fun x => x.add m) pl) (nl - m) (cl - m)) (L.length + 1 + mn) Wb c' false s3 W3 → Kb.busy W3 ∧ Ix (.exit 2) W3 := fun _ _ _ h =>
            have hb := h.busy HB.out HDL.out.1 HDL.out.2
            ⟨hb, HIX.out.2 _ _ _ _ HWB.out h hb⟩
          have HIT := Lib.hid ITAIL
          have HXT := Lib.hid XTAIL
          clear ITAIL XTAIL
          by_cases hkd : kd = 5
          · subst hkd
            gi_upto_if 101 with fail
            by_cases hh : (c == nn.tmod 3) = true
            · rw [hh]
              have hby10 := E10.out.bytes HOFF.out (fun j hj => (HAT.out.pair.ow j hj).1) HAT.out.pair.bb.1 HAT.out.pair.bb.2.1 HWB.out HKL.out HAT.out.nz HMORE.out.1 HMORE.out.2
              obtain ⟨hv10, fr10, rv10, vc10, vd10, L10, M10, O10, hp10, hm10, hl10, hown10, hheld10⟩ := E10.out.st
              have hin := pinner_any w10 K (L.length + 1) s' O10 hv10 5 nn mm da dn dc ma mn mc more ⟨fr10, rv10, vc10, vd10, L10, M10, hp10, hm10, hl10⟩ hL hby10 hmz HMORE.out.2
              have HOW := Lib.hid (And.intro hown10 hheld10)
              have o2 : w10.cell? ⟨go, 2, none⟩ = some (.int .i64 mm) := (cell_of_row _ _ 2 _ _ _ E10.out.cells.co).trans rfl
              have o3 : w10.cell? ⟨go, 3, none⟩ = some (.slice da dn dc) := (cell_of_row _ _ 3 _ _ _ E10.out.cells.co).trans rfl
              have o4 : w10.cell? ⟨go, 4, none⟩ = some (.slice ma mn mc) := (cell_of_row _ _ 4 _ _ _ E10.out.cells.co).trans rfl
              clear hby10 hp10 hm10 hl10 hown10 hheld10
              gi_wp2_with fail
              refine ⟨trivial, (CallsIn.inRound lp (callsIn_wide.2 hin)).mono ?_⟩
              clear hin p10 n10 nf10 o0 o1 o2 o3 o4
              rintro e w11 hE
              obtain ⟨rfl, s3, e11⟩ := EndR.inner HOFF.out HNB.out E10.out.cells E10.out.frame E10.out.os HOW.out.1 HOW.out.2 hE (Nat.le_refl _)
              clear hE
              have k11 : w11.cell? ⟨gk, 0, none⟩ = some (.bool true) := (cell_of_row _ _ 0 _ _ _ e11.cells.ck).trans rfl
              have fk11 : w11.frozen? ⟨gk, 0, none⟩ = false := by simp [World.frozen?, e11.cells.ck]
              have E11 := Lib.hid e11
              clear e11
              gi_upto_region 25 with fail
              have e12 := E11.out.setK HOFF.out HNB.out
              generalize (w11.setCell ⟨gk, 0, none⟩ (.bool true)) = w12 at *
              have n12 : w12.cell? ⟨gn, 0, none⟩ = some (.int .i64 c) := (cell_of_row _ _ 0 _ _ _ e12.cells.cn).trans rfl
              have nf12 : w12.frozen? ⟨gn, 0, none⟩ = false := by simp [World.frozen?, e12.cells.cn]
              have E12 := Lib.hid e12
              clear e12 k11 fk11
              gi_upto_region 26 with fail
              have e13 := E12.out.setN HOFF.out HNB.out (wrap64 (c + 1))
              generalize (w12.setCell ⟨gn, 0, none⟩ (.int .i64 (wrap64 (c + 1)))) = w13 at *
              have n13 : w13.cell? ⟨gn, 0, none⟩ = some (.int .i64 (wrap64 (c + 1))) := (cell_of_row _ _ 0 _ _ _ e13.cells.cn).trans rfl
              have o0 : w13.cell? ⟨go, 0, none⟩ = some (.int .i64 5) := (cell_of_row _ _ 0 _ _ _ e13.cells.co).trans rfl
              have o1 : w13.cell? ⟨go, 1, none⟩ = some (.int .i64 nn) := (cell_of_row _ _ 1 _ _ _ e13.cells.co).trans rfl
              have E13 := Lib.hid e13
              clear e13 n12 nf12
              gi_wp2
              exact HIT.out _ _ _ E13.out
            · have hh2 : (c == nn.tmod 3) = false := by simpa using hh
              rw [hh2]
              gi_upto_region 25 with fail
              gi_upto_region 26 with fail
              have e13 := (E10.out.setN HOFF.out HNB.out (wrap64 (c + 1))).le (Nat.le_add_right _ mn)
              generalize (w10.setCell ⟨gn, 0, none⟩ (.int .i64 (wrap64 (c + 1)))) = w13 at *
              have n13 : w13.cell? ⟨gn, 0, none⟩ = some (.int .i64 (wrap64 (c + 1))) := (cell_of_row _ _ 0 _ _ _ e13.cells.cn).trans rfl
              have o0 : w13.cell? ⟨go, 0, none⟩ = some (.int .i64 5) := (cell_of_row _ _ 0 _ _ _ e13.cells.co).trans rfl
              have o1 : w13.cell? ⟨go, 1, none⟩ = some (.int .i64 nn) := (cell_of_row _ _ 1 _ _ _ e13.cells.co).trans rfl
              have E13 := Lib.hid e13
              clear e13 n10 nf10
              gi_wp2
              exact HIT.out _ _ _ E13.out
          · have hk5 : (kd == 5) = false := by simp; omega
            have hk5n : (kd != 5) = true := by simp; omega
            gi_upto_region 26 with fail
            have e13 := (E10.out.setN HOFF.out HNB.out (wrap64 (c + 1))).le (Nat.le_add_right _ mn)
            generalize (w10.setCell ⟨gn, 0, none⟩ (.int .i64 (wrap64 (c + 1)))) = w13 at *
            have n13 : w13.cell? ⟨gn, 0, none⟩ = some (.int .i64 (wrap64 (c + 1))) := (cell_of_row _ _ 0 _ _ _ e13.cells.cn).trans rfl
            have o0 : w13.cell? ⟨go, 0, none⟩ = some (.int .i64 kd) := (cell_of_row _ _ 0 _ _ _ e13.cells.co).trans rfl
            have o1 : w13.cell? ⟨go, 1, none⟩ = some (.int .i64 nn) := (cell_of_row _ _ 1 _ _ _ e13.cells.co).trans rfl
            have v13 : w13.cell? ⟨gv, 0, none⟩ = some (.bool true) := (cell_of_row _ _ 0 _ _ _ e13.cells.cv).trans rfl
            have vf13 : w13.frozen? ⟨gv, 0, none⟩ = false := by simp [World.frozen?, e13.cells.cv]
            have E13 := Lib.hid e13
            clear e13 n10 nf10
            gi_upto_if 119 with fail
            by_cases hh : (wrap64 (c + 1) == nn) = true
            · rw [hh]
              gi_wp2
              exact HXT.out _ _ _ (E13.out.setV HOFF.out HNB.out false)
            · have hh2 : (wrap64 (c + 1) == nn) = false := by simpa using hh
              rw [hh2]
              gi_wp2
              exact HIT.out _ _ _ E13.out
end Go.Proofs.Ytofdpccjpodbhaa
