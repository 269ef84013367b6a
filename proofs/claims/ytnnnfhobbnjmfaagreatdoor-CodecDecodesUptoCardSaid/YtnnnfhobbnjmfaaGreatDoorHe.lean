/-
  Lemmas on the codec. Conditions: as each says.
-/
import Derived.Test.YtnnnfhobbnjmfaaGreatDoorMg24
namespace Go.Proofs.YtnnnfhobbnjmfaaGreatDoor
open Go.RowKit Go.Proofs.Tryz
set_option linter.all false
set_option maxHeartbeats 40000000
set_option maxRecDepth 20000

attribute [local go_sem] Oper.semAt_some

theorem results_rfixed (tmps : Array Value) (w : World) (x : Nat) (cs : Array Value) (hx : tmps.getD 6 undef = .pointer (some ⟨x, 0, none⟩)) (rx : w.heap[x]? = some (.cells cs 25 (0, 0))) (hs : cs.size = 5) :
  (results Tryz.f115 tmps).run prog w = .ok (.tuple #[.agg cs, tmps.getD 7 undef, tmps.getD 8 undef]) w := by
 have hx' : tmps[6]?.getD undef = .pointer (some ⟨x, 0, none⟩) := by simpa using hx
 have h1 := run_loadVar_row (P := prog) w x 25 25 cs (0, 0) _ rx underlying25 rfl (by rw [hs]; as_aux_lemma => kernel_rfl)
 simp [results, results115, hx', asAddr, h1]
theorem rfixed_short (w : World) (p : Option Addr) (n cp at_ en : Nat) (sz own : Int) (B : List UInt8) (h : PIn w p n cp at_ en B) (c wd : Nat) (K : Int) (hc : c < 256) (hk : 0 <= kindC c) (h0 : c ≠ 0) (hwd : widR c = (wd : Nat)) (hK : kindC c = K) (hs : en - at_ < wd) :
  Calls prog 115 #[.agg #[.slice p n cp, .int .i64 (en : Nat), .int .i64 sz], .int .i64 (c : Int), .int .i64 (at_ : Nat)] w fun e w' => RTo w (zeroV, shP n sz, shC sz) e w' := by
 have HW := zH (show ∀ W, Calls prog 94 #[.int .i64 (c : Int)] W fun e w' => e = .returned (.int .i64 ((wd : Nat) : Int)) ∧ W = w' from fun W => by have := rwidth_any c W hk h0; rw [hwd] at this; exact this)
 have HSH := zH (fun W => rshort_any W p n cp en sz)
 have hha := h.ha
 have hhe := h.hen
 have hhn := h.hn
 have dsub : IntKind.i64.wrap ((en : Int) - (at_ : Nat)) = ((en - at_ : Nat) : Int) := by rw [IntWalk.i64_in _ (by omega)]; omega
 have d1 : ((en - at_ : Nat) : Int) < (wd : Nat) := by omega
 clear hs hc hk h0 hwd hK
 go_enter func115, ntmps115
 go_upto_region 1 with fail
 have hf0 : Fr w ((w.alloc (.cells #[.slice p n cp, .int .i64 (en : Nat), .int .i64 sz] 94)).alloc (.cells zR 25)) w.heap.size (w.heap.size + 1) #[.slice p n cp, .int .i64 (en : Nat), .int .i64 sz] := Fr.start w _
 generalize ((w.alloc (.cells #[.slice p n cp, .int .i64 (en : Nat), .int .i64 sz] 94)).alloc (.cells zR 25)) = w0 at *
 obtain ⟨x, hx⟩ : ∃ x, w.heap.size = x := ⟨_, rfl⟩
 rw [hx] at hf0 ⊢
 obtain ⟨y, hy⟩ : ∃ y, x + 1 = y := ⟨_, rfl⟩
 rw [hy] at hf0 ⊢
 have HXY := zH (And.intro hx hy)
 have HF0 := zH hf0
 obtain ⟨x0, x1, x2⟩ := c3 HF0.out.part
 clear hx hy hf0
 go_wp2_with fail
 refine (HW.out _).mono ?_
 rintro e w1 ⟨rfl, rfl⟩
 go_wp2_with fail
 refine (HSH.out _).mono ?_
 rintro e w2 ⟨rfl, hb2⟩
 have HF2 := zH (HF0.out.next hb2)
 clear hb2
 go_wp2_with (refine stV (.tmp 6) (.tmp 28) rfl rfl rfl rfl rfl (HF2.out.res) rfl ?_)
 refine bodyPost_ret (results_rfixed _ _ y zR rfl (HF2.out.row _) rfl) rfl ?_
 exact RTo.zero HF2.out _ _ rfl
theorem Fr.setz {w wk : World} {x y z : Nat} {px : Array Value} (h : Fr w wk x y px) (hz : y < z) (i : Nat) (v : Value) : Fr w (wk.setCell ⟨z, i, none⟩ v) x y px :=
 ⟨h.blw.setCell (p := ⟨z, i, none⟩) (show w.heap.size <= z by have := h.hx; have := h.hxy; omega) _, (set_farV (by have := h.hxy; omega)).trans h.part, (set_farV (by omega)).trans h.res, h.hx, h.hxy⟩
theorem wf_num {K m : Int} (hK : IsI64 K) (hm : IsU64 m) : (V.mk K m ⟨#[]⟩ [] 0).Wf := ⟨hK, hm, Nat.zero_le _, ⟨by show (-9223372036854775808 : Int) <= 0; omega, by show (0 : Int) <= 9223372036854775807; omega⟩⟩
theorem mrg_rfixed_plain (w : World) (p : Option Addr) : (∀ (n cp at_ en : Nat) (sz own : Int) (B : List UInt8) (h : PIn w p n cp at_ en B) (c wd : Nat) (K : Int) (hc : c < 256) (hk : 0 <= kindC c) (h0 : c ≠ 0) (hwd : widR c = (wd : Nat)) (hK : kindC c = K) (hca : ¬ cp = at_) (hs : ¬ en - at_ < wd) (h8 : wd <= 8) (hKi : IsI64 K) (hmu : IsU64 (nAt B at_ wd)) (hsk : sgnK K = false) (n1 : ((c : Int) == 65) = false) (n2 : ((c : Int) == 86) = false) (n3 : ((c : Int) == 115) = false) (n4 : ((c : Int) == 148) = false) (n5 : ((c : Int) == 152) = false), Calls prog 115 #[.agg #[.slice p n cp, .int .i64 (en : Nat), .int .i64 sz], .int .i64 (c : Int), .int .i64 (at_ : Nat)] w fun e w' => RTo w (.mk K (nAt B at_ wd : Nat) ⟨#[]⟩ [] 0, (at_ + wd : Nat), 0) e w') ∧
  (∀ (n at_ en : Nat) (sz own : Int) (B : List UInt8) (h : PIn w p n at_ at_ en B) (c wd : Nat) (K : Int) (hc : c < 256) (hk : 0 <= kindC c) (h0 : c ≠ 0) (hwd : widR c = (wd : Nat)) (hK : kindC c = K) (hs : ¬ en - at_ < wd) (h8 : wd <= 8) (hKi : IsI64 K) (hmu : IsU64 (nAt B at_ wd)) (hsk : sgnK K = false) (n1 : ((c : Int) == 65) = false) (n2 : ((c : Int) == 86) = false) (n3 : ((c : Int) == 115) = false) (n4 : ((c : Int) == 148) = false) (n5 : ((c : Int) == 152) = false), Calls prog 115 #[.agg #[.slice p n at_, .int .i64 (en : Nat), .int .i64 sz], .int .i64 (c : Int), .int .i64 (at_ : Nat)] w fun e w' => RTo w (.mk K (nAt B at_ wd : Nat) ⟨#[]⟩ [] 0, (at_ + wd : Nat), 0) e w') ∧
  (∀ (n cp at_ en : Nat) (sz own : Int) (B : List UInt8) (h : PIn w p n cp at_ en B) (c wd : Nat) (K : Int) (hc : c < 256) (hk : 0 <= kindC c) (h0 : c ≠ 0) (hwd : widR c = (wd : Nat)) (hK : kindC c = K) (hca : ¬ cp = at_) (hs : ¬ en - at_ < wd) (h8 : wd <= 8) (hKi : IsI64 K) (hmu : IsU64 (nAt B at_ wd)) (hsw : wd = 1 ∨ wd = 2 ∨ wd = 4 ∨ wd = 8) (hm2 : IsU64 (sgnX wd (nAt B at_ wd))) (hsk : sgnK K = true) (n1 : ((c : Int) == 65) = false) (n2 : ((c : Int) == 86) = false) (n3 : ((c : Int) == 115) = false) (n4 : ((c : Int) == 148) = false) (n5 : ((c : Int) == 152) = false), Calls prog 115 #[.agg #[.slice p n cp, .int .i64 (en : Nat), .int .i64 sz], .int .i64 (c : Int), .int .i64 (at_ : Nat)] w fun e w' => RTo w (.mk K (sgnX wd (nAt B at_ wd)) ⟨#[]⟩ [] 0, (at_ + wd : Nat), 0) e w') ∧
  (∀ (n cp at_ en : Nat) (sz own : Int) (B : List UInt8) (h : PIn w p n cp at_ en B) (c wd : Nat) (K : Int) (hc : c < 256) (hk : 0 <= kindC c) (h0 : c ≠ 0) (hwd : widR c = (wd : Nat)) (hK : kindC c = K) (hca : ¬ cp = at_) (hs : ¬ en - at_ < wd) (h8 : wd <= 8) (hKi : IsI64 K) (hmu : IsU64 (nAt B at_ wd)) (hsk : sgnK K = false) (n1 : ((c : Int) == 65) = true), Calls prog 115 #[.agg #[.slice p n cp, .int .i64 (en : Nat), .int .i64 sz], .int .i64 (c : Int), .int .i64 (at_ : Nat)] w fun e w' => RTo w (.mk K 1 ⟨#[]⟩ [] 0, (at_ + wd : Nat), 0) e w') ∧
  (∀ (n at_ en : Nat) (sz own : Int) (B : List UInt8) (h : PIn w p n at_ at_ en B) (c wd : Nat) (K : Int) (hc : c < 256) (hk : 0 <= kindC c) (h0 : c ≠ 0) (hwd : widR c = (wd : Nat)) (hK : kindC c = K) (hs : ¬ en - at_ < wd) (h8 : wd <= 8) (hKi : IsI64 K) (hmu : IsU64 (nAt B at_ wd)) (hsk : sgnK K = false) (n1 : ((c : Int) == 65) = true), Calls prog 115 #[.agg #[.slice p n at_, .int .i64 (en : Nat), .int .i64 sz], .int .i64 (c : Int), .int .i64 (at_ : Nat)] w fun e w' => RTo w (.mk K 1 ⟨#[]⟩ [] 0, (at_ + wd : Nat), 0) e w') ∧
  (∀ (n cp at_ en : Nat) (sz own : Int) (B : List UInt8) (h : PIn w p n cp at_ en B) (c wd : Nat) (K : Int) (hc : c < 256) (hk : 0 <= kindC c) (h0 : c ≠ 0) (hwd : widR c = (wd : Nat)) (hK : kindC c = K) (hca : ¬ cp = at_) (hs : ¬ en - at_ < wd) (h8 : wd <= 8) (hKi : IsI64 K) (hmu : IsU64 (nAt B at_ wd)) (hsk : sgnK K = false) (n1 : ((c : Int) == 65) = false) (n2 : ((c : Int) == 86) = true) (dm : ¬ (1 : Int) < (nAt B at_ wd : Nat)), Calls prog 115 #[.agg #[.slice p n cp, .int .i64 (en : Nat), .int .i64 sz], .int .i64 (c : Int), .int .i64 (at_ : Nat)] w fun e w' => RTo w (.mk K (nAt B at_ wd : Nat) ⟨#[]⟩ [] 0, (at_ + wd : Nat), 0) e w') ∧
  (∀ (n cp at_ en : Nat) (sz own : Int) (B : List UInt8) (h : PIn w p n cp at_ en B) (c wd : Nat) (K : Int) (hc : c < 256) (hk : 0 <= kindC c) (h0 : c ≠ 0) (hwd : widR c = (wd : Nat)) (hK : kindC c = K) (hca : ¬ cp = at_) (hs : ¬ en - at_ < wd) (h8 : wd <= 8) (hKi : IsI64 K) (hmu : IsU64 (nAt B at_ wd)) (hsk : sgnK K = false) (n1 : ((c : Int) == 65) = false) (n2 : ((c : Int) == 86) = true) (dm : (1 : Int) < (nAt B at_ wd : Nat)), Calls prog 115 #[.agg #[.slice p n cp, .int .i64 (en : Nat), .int .i64 sz], .int .i64 (c : Int), .int .i64 (at_ : Nat)] w fun e w' => RTo w (zeroV, (at_ : Nat), 31) e w') ∧
  (∀ (n cp at_ en : Nat) (sz own : Int) (B : List UInt8) (h : PIn w p n cp at_ en B) (c wd : Nat) (K : Int) (hc : c < 256) (hk : 0 <= kindC c) (h0 : c ≠ 0) (hwd : widR c = (wd : Nat)) (hK : kindC c = K) (hca : ¬ cp = at_) (hs : ¬ en - at_ < wd) (h8 : wd <= 8) (hKi : IsI64 K) (hmu : IsU64 (nAt B at_ wd)) (hsk : sgnK K = false) (n1 : ((c : Int) == 65) = false) (n2 : ((c : Int) == 86) = false) (n3 : ((c : Int) == 115) = true) (dm : isCh (nAt B at_ wd) = true), Calls prog 115 #[.agg #[.slice p n cp, .int .i64 (en : Nat), .int .i64 sz], .int .i64 (c : Int), .int .i64 (at_ : Nat)] w fun e w' => RTo w (.mk K (nAt B at_ wd : Nat) ⟨#[]⟩ [] 0, (at_ + wd : Nat), 0) e w') := by
 refine ⟨?_, ?_, ?_, ?_, ?_, ?_, ?_, ?_⟩
 intro n cp at_ en sz own B h c wd K hc hk h0 hwd hK hca hs h8 hKi hmu hsk n1 n2 n3 n4 n5
 have HWF := zH (wf_num hKi hmu)
 clear hKi hmu
 rotate_left
 intro n at_ en sz own B h c wd K hc hk h0 hwd hK hs h8 hKi hmu hsk n1 n2 n3 n4 n5
 have HWF := zH (wf_num hKi hmu)
 clear hKi hmu
 rotate_left
 intro n cp at_ en sz own B h c wd K hc hk h0 hwd hK hca hs h8 hKi hmu hsw hm2 hsk n1 n2 n3 n4 n5
 have HWF := zH (wf_num hKi hm2)
 clear hKi hmu hm2
 rotate_left
 intro n cp at_ en sz own B h c wd K hc hk h0 hwd hK hca hs h8 hKi hmu hsk n1
 have HWF := zH (wf_num (m := 1) hKi ⟨by omega, by omega⟩)
 clear hKi hmu
 rotate_left
 intro n at_ en sz own B h c wd K hc hk h0 hwd hK hs h8 hKi hmu hsk n1
 have HWF := zH (wf_num (m := 1) hKi ⟨by omega, by omega⟩)
 clear hKi hmu
 rotate_left
 intro n cp at_ en sz own B h c wd K hc hk h0 hwd hK hca hs h8 hKi hmu hsk n1 n2 dm
 have HWF := zH (wf_num hKi hmu)
 clear hKi hmu
 rotate_left
 intro n cp at_ en sz own B h c wd K hc hk h0 hwd hK hca hs h8 hKi hmu hsk n1 n2 dm
 clear hKi hmu
 rotate_left
 intro n cp at_ en sz own B h c wd K hc hk h0 hwd hK hca hs h8 hKi hmu hsk n1 n2 n3 dm
 have HWF := zH (wf_num hKi hmu)
 have HC := zH (show ∀ W, Calls prog 133 #[.int .u64 (nAt B at_ wd : Nat)] W fun e w' => e = .returned (.bool true) ∧ W = w' from fun W => by have := rchar_any (nAt B at_ wd) W (by have := hmu.2; omega); rw [dm] at this; exact this)
 clear hKi hmu dm
 rotate_left
 all_goals
  have HW := zH (show ∀ W, Calls prog 94 #[.int .i64 (c : Int)] W fun e w' => e = .returned (.int .i64 ((wd : Nat) : Int)) ∧ W = w' from fun W => by have := rwidth_any c W hk h0; rw [hwd] at this; exact this)
  have HK := zH (show ∀ W, Calls prog 86 #[.int .i64 (c : Int)] W fun e w' => e = .returned (.int .i64 K) ∧ Below W.heap.size W w' from fun W => by have := rkind_any c W hc; rw [hK] at this; exact this)
  have hha := h.ha
  have hhe := h.hen
  have hhn := h.hn
  have dsub : IntKind.i64.wrap ((en : Int) - (at_ : Nat)) = ((en - at_ : Nat) : Int) := by rw [IntWalk.i64_in _ (by omega)]; omega
  have d1 : ¬ ((en - at_ : Nat) : Int) < (wd : Nat) := by omega
  have hle := h.bytes.le
  have ib1 : (0 : Int) <= (at_ : Nat) := by omega
  obtain ⟨a2, ha2⟩ : ∃ a2, at_ + wd = a2 := ⟨_, rfl⟩
  have hadd : IntKind.i64.wrap ((at_ : Int) + (wd : Nat)) = (a2 : Nat) := by rw [IntWalk.i64_in _ (by omega)]; omega
  have ib2 : ((at_ : Nat) : Int) <= (a2 : Nat) := by omega
 have ib3 : ((a2 : Nat) : Int) <= (cp : Nat) := by omega
 rotate_left
 have ib3 : ((a2 : Nat) : Int) <= (at_ : Nat) := by omega
 rotate_left
 have ib3 : ((a2 : Nat) : Int) <= (cp : Nat) := by omega
 rotate_left
 have ib3 : ((a2 : Nat) : Int) <= (cp : Nat) := by omega
 rotate_left
 have ib3 : ((a2 : Nat) : Int) <= (at_ : Nat) := by omega
 rotate_left
 have ib3 : ((a2 : Nat) : Int) <= (cp : Nat) := by omega
 rotate_left
 have ib3 : ((a2 : Nat) : Int) <= (cp : Nat) := by omega
 rotate_left
 have ib3 : ((a2 : Nat) : Int) <= (cp : Nat) := by omega
 rotate_left
 all_goals
  have ib4 : ((a2 : Nat) : Int) <= 140737488355328 := by omega
  have ib5 : a2 - at_ = wd := by omega
  try rw [ha2]
 have HS := zH (show ∀ W, Calls prog 96 #[.int .i64 K] W fun e w' => e = .returned (.bool false) ∧ W = w' from fun W => by have := rsigned_kind K W; rw [hsk] at this; exact this)
 have HN := zH (show ∀ W, PIn W p n cp at_ en B -> Calls prog 95 #[(.slice (p.map (fun x => x.add at_)) wd (cp - at_))] W fun e w' => e = .returned (.int .u64 (nAt B at_ wd : Nat)) ∧ W = w' from fun W hW => rnumber_any W _ _ _ _ (by have hb := hW.bytes.part at_ wd (by omega); rw [if_neg hca] at hb; exact hb) h8)
 rotate_left
 have HS := zH (show ∀ W, Calls prog 96 #[.int .i64 K] W fun e w' => e = .returned (.bool false) ∧ W = w' from fun W => by have := rsigned_kind K W; rw [hsk] at this; exact this)
 have HN := zH (show ∀ W, PIn W p n at_ at_ en B -> Calls prog 95 #[(.slice p wd 0)] W fun e w' => e = .returned (.int .u64 (nAt B at_ wd : Nat)) ∧ W = w' from fun W hW => rnumber_any W _ _ _ _ (by have hb := hW.bytes.part at_ wd (by omega); rw [if_pos rfl, Nat.sub_self] at hb; exact hb) h8)
 rotate_left
 have HS := zH (show ∀ W, Calls prog 96 #[.int .i64 K] W fun e w' => e = .returned (.bool true) ∧ W = w' from fun W => by have := rsigned_kind K W; rw [hsk] at this; exact this)
 have HN := zH (show ∀ W, PIn W p n cp at_ en B -> Calls prog 95 #[(.slice (p.map (fun x => x.add at_)) wd (cp - at_))] W fun e w' => e = .returned (.int .u64 (nAt B at_ wd : Nat)) ∧ W = w' from fun W hW => rnumber_any W _ _ _ _ (by have hb := hW.bytes.part at_ wd (by omega); rw [if_neg hca] at hb; exact hb) h8)
 have HSG := zH (show ∀ W, PIn W p n cp at_ en B -> Calls prog 97 #[(.slice (p.map (fun x => x.add at_)) wd (cp - at_))] W fun e w' => e = .returned (.int .u64 (sgnX wd (nAt B at_ wd))) ∧ W = w' from fun W hW => rsigned_any W _ _ _ _ (by have hb := hW.bytes.part at_ wd (by omega); rw [if_neg hca] at hb; exact hb) hsw)
 rotate_left
 have HS := zH (show ∀ W, Calls prog 96 #[.int .i64 K] W fun e w' => e = .returned (.bool false) ∧ W = w' from fun W => by have := rsigned_kind K W; rw [hsk] at this; exact this)
 have HN := zH (show ∀ W, PIn W p n cp at_ en B -> Calls prog 95 #[(.slice (p.map (fun x => x.add at_)) wd (cp - at_))] W fun e w' => e = .returned (.int .u64 (nAt B at_ wd : Nat)) ∧ W = w' from fun W hW => rnumber_any W _ _ _ _ (by have hb := hW.bytes.part at_ wd (by omega); rw [if_neg hca] at hb; exact hb) h8)
 rotate_left
 have HS := zH (show ∀ W, Calls prog 96 #[.int .i64 K] W fun e w' => e = .returned (.bool false) ∧ W = w' from fun W => by have := rsigned_kind K W; rw [hsk] at this; exact this)
 have HN := zH (show ∀ W, PIn W p n at_ at_ en B -> Calls prog 95 #[(.slice p wd 0)] W fun e w' => e = .returned (.int .u64 (nAt B at_ wd : Nat)) ∧ W = w' from fun W hW => rnumber_any W _ _ _ _ (by have hb := hW.bytes.part at_ wd (by omega); rw [if_pos rfl, Nat.sub_self] at hb; exact hb) h8)
 rotate_left
 have HS := zH (show ∀ W, Calls prog 96 #[.int .i64 K] W fun e w' => e = .returned (.bool false) ∧ W = w' from fun W => by have := rsigned_kind K W; rw [hsk] at this; exact this)
 have HN := zH (show ∀ W, PIn W p n cp at_ en B -> Calls prog 95 #[(.slice (p.map (fun x => x.add at_)) wd (cp - at_))] W fun e w' => e = .returned (.int .u64 (nAt B at_ wd : Nat)) ∧ W = w' from fun W hW => rnumber_any W _ _ _ _ (by have hb := hW.bytes.part at_ wd (by omega); rw [if_neg hca] at hb; exact hb) h8)
 rotate_left
 have HS := zH (show ∀ W, Calls prog 96 #[.int .i64 K] W fun e w' => e = .returned (.bool false) ∧ W = w' from fun W => by have := rsigned_kind K W; rw [hsk] at this; exact this)
 have HN := zH (show ∀ W, PIn W p n cp at_ en B -> Calls prog 95 #[(.slice (p.map (fun x => x.add at_)) wd (cp - at_))] W fun e w' => e = .returned (.int .u64 (nAt B at_ wd : Nat)) ∧ W = w' from fun W hW => rnumber_any W _ _ _ _ (by have hb := hW.bytes.part at_ wd (by omega); rw [if_neg hca] at hb; exact hb) h8)
 rotate_left
 have HS := zH (show ∀ W, Calls prog 96 #[.int .i64 K] W fun e w' => e = .returned (.bool false) ∧ W = w' from fun W => by have := rsigned_kind K W; rw [hsk] at this; exact this)
 have HN := zH (show ∀ W, PIn W p n cp at_ en B -> Calls prog 95 #[(.slice (p.map (fun x => x.add at_)) wd (cp - at_))] W fun e w' => e = .returned (.int .u64 (nAt B at_ wd : Nat)) ∧ W = w' from fun W hW => rnumber_any W _ _ _ _ (by have hb := hW.bytes.part at_ wd (by omega); rw [if_neg hca] at hb; exact hb) h8)
 rotate_left
 all_goals
  have HP := zH h
  clear hs hc hk h0 hwd hK hle h hsk hha hhe hhn ha2
  generalize nAt B at_ wd = m at *
  clear h8
 rotate_left 2
 focus
  generalize sgnX wd m = m2 at *
  clear hsw
 rotate_left 6
 all_goals
  go_enter func115, ntmps115
  go_upto_region 1 with fail
 focus
  have hf0 : Fr w ((w.alloc (.cells #[.slice p n cp, .int .i64 (en : Nat), .int .i64 sz] 94)).alloc (.cells zR 25)) w.heap.size (w.heap.size + 1) #[.slice p n cp, .int .i64 (en : Nat), .int .i64 sz] := Fr.start w _
  generalize ((w.alloc (.cells #[.slice p n cp, .int .i64 (en : Nat), .int .i64 sz] 94)).alloc (.cells zR 25)) = w0 at *
 rotate_left
 focus
  have hf0 : Fr w ((w.alloc (.cells #[.slice p n at_, .int .i64 (en : Nat), .int .i64 sz] 94)).alloc (.cells zR 25)) w.heap.size (w.heap.size + 1) #[.slice p n at_, .int .i64 (en : Nat), .int .i64 sz] := Fr.start w _
  generalize ((w.alloc (.cells #[.slice p n at_, .int .i64 (en : Nat), .int .i64 sz] 94)).alloc (.cells zR 25)) = w0 at *
 rotate_left
 focus
  have hf0 : Fr w ((w.alloc (.cells #[.slice p n cp, .int .i64 (en : Nat), .int .i64 sz] 94)).alloc (.cells zR 25)) w.heap.size (w.heap.size + 1) #[.slice p n cp, .int .i64 (en : Nat), .int .i64 sz] := Fr.start w _
  generalize ((w.alloc (.cells #[.slice p n cp, .int .i64 (en : Nat), .int .i64 sz] 94)).alloc (.cells zR 25)) = w0 at *
 rotate_left
 focus
  have hf0 : Fr w ((w.alloc (.cells #[.slice p n cp, .int .i64 (en : Nat), .int .i64 sz] 94)).alloc (.cells zR 25)) w.heap.size (w.heap.size + 1) #[.slice p n cp, .int .i64 (en : Nat), .int .i64 sz] := Fr.start w _
  generalize ((w.alloc (.cells #[.slice p n cp, .int .i64 (en : Nat), .int .i64 sz] 94)).alloc (.cells zR 25)) = w0 at *
 rotate_left
 focus
  have hf0 : Fr w ((w.alloc (.cells #[.slice p n at_, .int .i64 (en : Nat), .int .i64 sz] 94)).alloc (.cells zR 25)) w.heap.size (w.heap.size + 1) #[.slice p n at_, .int .i64 (en : Nat), .int .i64 sz] := Fr.start w _
  generalize ((w.alloc (.cells #[.slice p n at_, .int .i64 (en : Nat), .int .i64 sz] 94)).alloc (.cells zR 25)) = w0 at *
 rotate_left
 focus
  have hf0 : Fr w ((w.alloc (.cells #[.slice p n cp, .int .i64 (en : Nat), .int .i64 sz] 94)).alloc (.cells zR 25)) w.heap.size (w.heap.size + 1) #[.slice p n cp, .int .i64 (en : Nat), .int .i64 sz] := Fr.start w _
  generalize ((w.alloc (.cells #[.slice p n cp, .int .i64 (en : Nat), .int .i64 sz] 94)).alloc (.cells zR 25)) = w0 at *
 rotate_left
 focus
  have hf0 : Fr w ((w.alloc (.cells #[.slice p n cp, .int .i64 (en : Nat), .int .i64 sz] 94)).alloc (.cells zR 25)) w.heap.size (w.heap.size + 1) #[.slice p n cp, .int .i64 (en : Nat), .int .i64 sz] := Fr.start w _
  generalize ((w.alloc (.cells #[.slice p n cp, .int .i64 (en : Nat), .int .i64 sz] 94)).alloc (.cells zR 25)) = w0 at *
 rotate_left
 focus
  have hf0 : Fr w ((w.alloc (.cells #[.slice p n cp, .int .i64 (en : Nat), .int .i64 sz] 94)).alloc (.cells zR 25)) w.heap.size (w.heap.size + 1) #[.slice p n cp, .int .i64 (en : Nat), .int .i64 sz] := Fr.start w _
  generalize ((w.alloc (.cells #[.slice p n cp, .int .i64 (en : Nat), .int .i64 sz] 94)).alloc (.cells zR 25)) = w0 at *
 rotate_left
 all_goals
  obtain ⟨x, hx⟩ : ∃ x, w.heap.size = x := ⟨_, rfl⟩
  rw [hx] at hf0 ⊢
  obtain ⟨y, hy⟩ : ∃ y, x + 1 = y := ⟨_, rfl⟩
  rw [hy] at hf0 ⊢
  have HXY := zH (And.intro hx hy)
  have HF0 := zH hf0
  obtain ⟨x0, x1, x2⟩ := c3 HF0.out.part
  clear hx hy hf0
  go_wp2_with fail
  refine (HW.out _).mono ?_
  rintro e w1 ⟨rfl, rfl⟩
  go_wp2_with fail
  refine (HK.out _).mono ?_
  rintro e w2 ⟨rfl, hb2⟩
  have HF2 := zH (HF0.out.next hb2)
  clear hb2
  go_wp2_with fail
  refine (HN.out _ (HP.out.blw HF2.out.blw)).mono ?_
  rintro e w3 ⟨rfl, rfl⟩
  go_upto_region 7 with (refine stV (.tmp 13) (.tmp 42) rfl rfl rfl rfl rfl (zN w2 _) rfl ?_)
  refine layW w2 ?_
  intro w4 hb4 oz
  have hyz := HF2.out.lt
  have HF4 := zH (HF2.out.next hb4)
  obtain ⟨z, hz⟩ : ∃ z, w2.heap.size = z := ⟨_, rfl⟩
  rw [hz] at oz hyz ⊢
  have HZ := zH (And.intro hyz oz)
  clear hb4 hz hyz
  obtain ⟨z0, z1, z2, z3, z4⟩ := c5 oz
  clear oz
  go_wp2_with fail
  refine (HS.out _).mono ?_
  rintro e w5 ⟨rfl, rfl⟩
 ·go_wp2_with (refine stV (.tmp 6) (.tmp 76) rfl rfl rfl rfl rfl (HF4.out.res) rfl ?_)
  refine bodyPost_ret (results_rfixed _ _ y #[.int .i64 K, .int .u64 m, .string ⟨#[]⟩, .slice none 0 0, .int .i64 0] rfl (HF4.out.row _) rfl) rfl ?_
  exact RTo.val (v := .mk K m ⟨#[]⟩ [] 0) HF4.out (VO.nil _ _ HWF.out rfl) (Nat.le_refl _) (fun b hb => hb.elim) _ _ rfl
 ·go_wp2_with (refine stV (.tmp 6) (.tmp 76) rfl rfl rfl rfl rfl (HF4.out.res) rfl ?_)
  refine bodyPost_ret (results_rfixed _ _ y #[.int .i64 K, .int .u64 m, .string ⟨#[]⟩, .slice none 0 0, .int .i64 0] rfl (HF4.out.row _) rfl) rfl ?_
  exact RTo.val (v := .mk K m ⟨#[]⟩ [] 0) HF4.out (VO.nil _ _ HWF.out rfl) (Nat.le_refl _) (fun b hb => hb.elim) _ _ rfl
 ·have fz : w4.frozen? ⟨z, 1, none⟩ = false := by simp [World.frozen?, HZ.out.2]
  go_wp2_with fail
  refine (HSG.out _ (HP.out.blw HF4.out.blw)).mono ?_
  rintro e w5 ⟨rfl, rfl⟩
  go_upto_region 9 with fail
  have oz := heap_setCell_same w4 z 1 _ _ (.int .u64 m2) HZ.out.2
  have hf6 : Fr w (w4.setCell ⟨z, 1, none⟩ (.int .u64 m2)) x y #[.slice p n cp, .int .i64 (en : Nat), .int .i64 sz] := HF4.out.setz HZ.out.1 1 (.int .u64 m2)
  have hyz := HZ.out.1
  clear z0 z1 z2 z3 z4 fz HZ
  change Code.wp _ _ _ _ (w4.setCell ⟨z, 1, none⟩ (.int .u64 m2))
  generalize (w4.setCell ⟨z, 1, none⟩ (.int .u64 m2)) = w6 at *
  replace oz : w6.heap[z]? = some (.cells #[.int .i64 K, .int .u64 m2, .string ⟨#[]⟩, .slice none 0 0, .int .i64 0] 25 (0, 0)) := oz
  have HF6 := zH hf6
  have HZ := zH (And.intro hyz oz)
  obtain ⟨z0, z1, z2, z3, z4⟩ := c5 oz
  clear oz hf6 hyz
  go_wp2_with (refine stV (.tmp 6) (.tmp 76) rfl rfl rfl rfl rfl (HF6.out.res) rfl ?_)
  refine bodyPost_ret (results_rfixed _ _ y #[.int .i64 K, .int .u64 m2, .string ⟨#[]⟩, .slice none 0 0, .int .i64 0] rfl (HF6.out.row _) rfl) rfl ?_
  exact RTo.val (v := .mk K m2 ⟨#[]⟩ [] 0) HF6.out (VO.nil _ _ HWF.out rfl) (Nat.le_refl _) (fun b hb => hb.elim) _ _ rfl
 ·have fz : w4.frozen? ⟨z, 1, none⟩ = false := by simp [World.frozen?, HZ.out.2]
  go_upto_region 23 with fail
  have oz := heap_setCell_same w4 z 1 _ _ (.int .u64 1) HZ.out.2
  have hf6 : Fr w (w4.setCell ⟨z, 1, none⟩ (.int .u64 1)) x y #[.slice p n cp, .int .i64 (en : Nat), .int .i64 sz] := HF4.out.setz HZ.out.1 1 (.int .u64 1)
  have hyz := HZ.out.1
  clear z0 z1 z2 z3 z4 fz HZ
  change Code.wp _ _ _ _ (w4.setCell ⟨z, 1, none⟩ (.int .u64 1))
  generalize (w4.setCell ⟨z, 1, none⟩ (.int .u64 1)) = w6 at *
  replace oz : w6.heap[z]? = some (.cells #[.int .i64 K, .int .u64 1, .string ⟨#[]⟩, .slice none 0 0, .int .i64 0] 25 (0, 0)) := oz
  have HF6 := zH hf6
  have HZ := zH (And.intro hyz oz)
  obtain ⟨z0, z1, z2, z3, z4⟩ := c5 oz
  clear oz hf6 hyz
  go_wp2_with (refine stV (.tmp 6) (.tmp 76) rfl rfl rfl rfl rfl (HF6.out.res) rfl ?_)
  refine bodyPost_ret (results_rfixed _ _ y #[.int .i64 K, .int .u64 1, .string ⟨#[]⟩, .slice none 0 0, .int .i64 0] rfl (HF6.out.row _) rfl) rfl ?_
  exact RTo.val (v := .mk K 1 ⟨#[]⟩ [] 0) HF6.out (VO.nil _ _ HWF.out rfl) (Nat.le_refl _) (fun b hb => hb.elim) _ _ rfl
 ·have fz : w4.frozen? ⟨z, 1, none⟩ = false := by simp [World.frozen?, HZ.out.2]
  go_upto_region 23 with fail
  have oz := heap_setCell_same w4 z 1 _ _ (.int .u64 1) HZ.out.2
  have hf6 : Fr w (w4.setCell ⟨z, 1, none⟩ (.int .u64 1)) x y #[.slice p n at_, .int .i64 (en : Nat), .int .i64 sz] := HF4.out.setz HZ.out.1 1 (.int .u64 1)
  have hyz := HZ.out.1
  clear z0 z1 z2 z3 z4 fz HZ
  change Code.wp _ _ _ _ (w4.setCell ⟨z, 1, none⟩ (.int .u64 1))
  generalize (w4.setCell ⟨z, 1, none⟩ (.int .u64 1)) = w6 at *
  replace oz : w6.heap[z]? = some (.cells #[.int .i64 K, .int .u64 1, .string ⟨#[]⟩, .slice none 0 0, .int .i64 0] 25 (0, 0)) := oz
  have HF6 := zH hf6
  have HZ := zH (And.intro hyz oz)
  obtain ⟨z0, z1, z2, z3, z4⟩ := c5 oz
  clear oz hf6 hyz
  go_wp2_with (refine stV (.tmp 6) (.tmp 76) rfl rfl rfl rfl rfl (HF6.out.res) rfl ?_)
  refine bodyPost_ret (results_rfixed _ _ y #[.int .i64 K, .int .u64 1, .string ⟨#[]⟩, .slice none 0 0, .int .i64 0] rfl (HF6.out.row _) rfl) rfl ?_
  exact RTo.val (v := .mk K 1 ⟨#[]⟩ [] 0) HF6.out (VO.nil _ _ HWF.out rfl) (Nat.le_refl _) (fun b hb => hb.elim) _ _ rfl
 ·go_wp2_with (refine stV (.tmp 6) (.tmp 76) rfl rfl rfl rfl rfl (HF4.out.res) rfl ?_)
  refine bodyPost_ret (results_rfixed _ _ y #[.int .i64 K, .int .u64 m, .string ⟨#[]⟩, .slice none 0 0, .int .i64 0] rfl (HF4.out.row _) rfl) rfl ?_
  exact RTo.val (v := .mk K m ⟨#[]⟩ [] 0) HF4.out (VO.nil _ _ HWF.out rfl) (Nat.le_refl _) (fun b hb => hb.elim) _ _ rfl
 ·go_wp2_with (refine stV (.tmp 6) (.tmp 58) rfl rfl rfl rfl rfl (HF4.out.res) rfl ?_)
  refine bodyPost_ret (results_rfixed _ _ y zR rfl (HF4.out.row _) rfl) rfl ?_
  exact RTo.zero HF4.out _ _ rfl
 go_wp2_with fail
 refine (HC.out _).mono ?_
 rintro e w5 ⟨rfl, rfl⟩
 go_wp2_with (refine stV (.tmp 6) (.tmp 76) rfl rfl rfl rfl rfl (HF4.out.res) rfl ?_)
 refine bodyPost_ret (results_rfixed _ _ y #[.int .i64 K, .int .u64 m, .string ⟨#[]⟩, .slice none 0 0, .int .i64 0] rfl (HF4.out.row _) rfl) rfl ?_
 exact RTo.val (v := .mk K m ⟨#[]⟩ [] 0) HF4.out (VO.nil _ _ HWF.out rfl) (Nat.le_refl _) (fun b hb => hb.elim) _ _ rfl
def rfixed_plain := fun w p => (mrg_rfixed_plain w p).1
def rfixed_plain0 := fun w p => (mrg_rfixed_plain w p).2.1
def rfixed_sgn := fun w p => (mrg_rfixed_plain w p).2.2.1
def rfixed_one := fun w p => (mrg_rfixed_plain w p).2.2.2.1
def rfixed_one0 := fun w p => (mrg_rfixed_plain w p).2.2.2.2.1
def rfixed_bool := fun w p => (mrg_rfixed_plain w p).2.2.2.2.2.1
def rfixed_boolx := fun w p => (mrg_rfixed_plain w p).2.2.2.2.2.2.1
def rfixed_char := fun w p => (mrg_rfixed_plain w p).2.2.2.2.2.2.2
theorem rfixed_charx (w : World) (p : Option Addr) (n cp at_ en : Nat) (sz own : Int) (B : List UInt8) (h : PIn w p n cp at_ en B) (c wd : Nat) (K : Int) (hc : c < 256) (hk : 0 <= kindC c) (h0 : c ≠ 0) (hwd : widR c = (wd : Nat)) (hK : kindC c = K) (hca : ¬ cp = at_) (hs : ¬ en - at_ < wd) (h8 : wd <= 8) (hKi : IsI64 K) (hmu : IsU64 (nAt B at_ wd)) (hsk : sgnK K = false) (n1 : ((c : Int) == 65) = false) (n2 : ((c : Int) == 86) = false) (n3 : ((c : Int) == 115) = true) (dm : isCh (nAt B at_ wd) = false) :
  Calls prog 115 #[.agg #[.slice p n cp, .int .i64 (en : Nat), .int .i64 sz], .int .i64 (c : Int), .int .i64 (at_ : Nat)] w fun e w' => RTo w (zeroV, (at_ : Nat), 31) e w' := by
 have HC := zH (show ∀ W, Calls prog 133 #[.int .u64 (nAt B at_ wd : Nat)] W fun e w' => e = .returned (.bool false) ∧ W = w' from fun W => by have := rchar_any (nAt B at_ wd) W (by have := hmu.2; omega); rw [dm] at this; exact this)
 clear hKi hmu dm
 have HW := zH (show ∀ W, Calls prog 94 #[.int .i64 (c : Int)] W fun e w' => e = .returned (.int .i64 ((wd : Nat) : Int)) ∧ W = w' from fun W => by have := rwidth_any c W hk h0; rw [hwd] at this; exact this)
 have HK := zH (show ∀ W, Calls prog 86 #[.int .i64 (c : Int)] W fun e w' => e = .returned (.int .i64 K) ∧ Below W.heap.size W w' from fun W => by have := rkind_any c W hc; rw [hK] at this; exact this)
 have hha := h.ha
 have hhe := h.hen
 have hhn := h.hn
 have dsub : IntKind.i64.wrap ((en : Int) - (at_ : Nat)) = ((en - at_ : Nat) : Int) := by rw [IntWalk.i64_in _ (by omega)]; omega
 have d1 : ¬ ((en - at_ : Nat) : Int) < (wd : Nat) := by omega
 have hle := h.bytes.le
 have ib1 : (0 : Int) <= (at_ : Nat) := by omega
 obtain ⟨a2, ha2⟩ : ∃ a2, at_ + wd = a2 := ⟨_, rfl⟩
 have hadd : IntKind.i64.wrap ((at_ : Int) + (wd : Nat)) = (a2 : Nat) := by rw [IntWalk.i64_in _ (by omega)]; omega
 have ib2 : ((at_ : Nat) : Int) <= (a2 : Nat) := by omega
 have ib3 : ((a2 : Nat) : Int) <= (cp : Nat) := by omega
 have ib4 : ((a2 : Nat) : Int) <= 140737488355328 := by omega
 have ib5 : a2 - at_ = wd := by omega
 try rw [ha2]
 have HS := zH (show ∀ W, Calls prog 96 #[.int .i64 K] W fun e w' => e = .returned (.bool false) ∧ W = w' from fun W => by have := rsigned_kind K W; rw [hsk] at this; exact this)
 have HN := zH (show ∀ W, PIn W p n cp at_ en B -> Calls prog 95 #[(.slice (p.map (fun x => x.add at_)) wd (cp - at_))] W fun e w' => e = .returned (.int .u64 (nAt B at_ wd : Nat)) ∧ W = w' from fun W hW => rnumber_any W _ _ _ _ (by have hb := hW.bytes.part at_ wd (by omega); rw [if_neg hca] at hb; exact hb) h8)
 have HP := zH h
 clear hs hc hk h0 hwd hK hle h hsk hha hhe hhn ha2
 generalize nAt B at_ wd = m at *
 clear h8
 go_enter func115, ntmps115
 go_upto_region 1 with fail
 have hf0 : Fr w ((w.alloc (.cells #[.slice p n cp, .int .i64 (en : Nat), .int .i64 sz] 94)).alloc (.cells zR 25)) w.heap.size (w.heap.size + 1) #[.slice p n cp, .int .i64 (en : Nat), .int .i64 sz] := Fr.start w _
 generalize ((w.alloc (.cells #[.slice p n cp, .int .i64 (en : Nat), .int .i64 sz] 94)).alloc (.cells zR 25)) = w0 at *
 obtain ⟨x, hx⟩ : ∃ x, w.heap.size = x := ⟨_, rfl⟩
 rw [hx] at hf0 ⊢
 obtain ⟨y, hy⟩ : ∃ y, x + 1 = y := ⟨_, rfl⟩
 rw [hy] at hf0 ⊢
 have HXY := zH (And.intro hx hy)
 have HF0 := zH hf0
 obtain ⟨x0, x1, x2⟩ := c3 HF0.out.part
 clear hx hy hf0
 go_wp2_with fail
 refine (HW.out _).mono ?_
 rintro e w1 ⟨rfl, rfl⟩
 go_wp2_with fail
 refine (HK.out _).mono ?_
 rintro e w2 ⟨rfl, hb2⟩
 have HF2 := zH (HF0.out.next hb2)
 clear hb2
 go_wp2_with fail
 refine (HN.out _ (HP.out.blw HF2.out.blw)).mono ?_
 rintro e w3 ⟨rfl, rfl⟩
 go_upto_region 7 with (refine stV (.tmp 13) (.tmp 42) rfl rfl rfl rfl rfl (zN w2 _) rfl ?_)
 refine layW w2 ?_
 intro w4 hb4 oz
 have hyz := HF2.out.lt
 have HF4 := zH (HF2.out.next hb4)
 obtain ⟨z, hz⟩ : ∃ z, w2.heap.size = z := ⟨_, rfl⟩
 rw [hz] at oz hyz ⊢
 have HZ := zH (And.intro hyz oz)
 clear hb4 hz hyz
 obtain ⟨z0, z1, z2, z3, z4⟩ := c5 oz
 clear oz
 go_wp2_with fail
 refine (HS.out _).mono ?_
 rintro e w5 ⟨rfl, rfl⟩
 go_wp2_with fail
 refine (HC.out _).mono ?_
 rintro e w5 ⟨rfl, rfl⟩
 go_wp2_with (refine stV (.tmp 6) (.tmp 67) rfl rfl rfl rfl rfl (HF4.out.res) rfl ?_)
 refine bodyPost_ret (results_rfixed _ _ y zR rfl (HF4.out.row _) rfl) rfl ?_
 exact RTo.zero HF4.out _ _ rfl
theorem mrg_rfixed_raw148 (w : World) (p : Option Addr) (n cp at_ en : Nat) (sz own : Int) (B : List UInt8) (h : PIn w p n cp at_ en B) (c wd : Nat) (K : Int) (hc : c < 256) (hk : 0 <= kindC c) (h0 : c ≠ 0) (hwd : widR c = (wd : Nat)) (hK : kindC c = K) (hca : ¬ cp = at_) (hs : ¬ en - at_ < wd) (hKw : (V.mk K 0 ⟨((B.drop at_).take wd).toArray⟩ [] 0).Wf) (hsk : sgnK K = false) (n1 : ((c : Int) == 65) = false) (n2 : ((c : Int) == 86) = false) (n3 : ((c : Int) == 115) = false) : (∀ (n4 : ((c : Int) == 148) = true), Calls prog 115 #[.agg #[.slice p n cp, .int .i64 (en : Nat), .int .i64 sz], .int .i64 (c : Int), .int .i64 (at_ : Nat)] w fun e w' => RTo w (.mk K 0 ⟨((B.drop at_).take wd).toArray⟩ [] 0, (at_ + wd : Nat), 0) e w') ∧
  (∀ (n4 : ((c : Int) == 148) = false) (n5 : ((c : Int) == 152) = true), Calls prog 115 #[.agg #[.slice p n cp, .int .i64 (en : Nat), .int .i64 sz], .int .i64 (c : Int), .int .i64 (at_ : Nat)] w fun e w' => RTo w (.mk K 0 ⟨((B.drop at_).take wd).toArray⟩ [] 0, (at_ + wd : Nat), 0) e w') := by
 refine ⟨?_, ?_⟩
 intro n4
 rotate_left
 intro n4 n5
 rotate_left
 all_goals
  have HWF := zH hKw
  clear hKw
  have HW := zH (show ∀ W, Calls prog 94 #[.int .i64 (c : Int)] W fun e w' => e = .returned (.int .i64 ((wd : Nat) : Int)) ∧ W = w' from fun W => by have := rwidth_any c W hk h0; rw [hwd] at this; exact this)
  have HK := zH (show ∀ W, Calls prog 86 #[.int .i64 (c : Int)] W fun e w' => e = .returned (.int .i64 K) ∧ Below W.heap.size W w' from fun W => by have := rkind_any c W hc; rw [hK] at this; exact this)
  have hha := h.ha
  have hhe := h.hen
  have hhn := h.hn
  have dsub : IntKind.i64.wrap ((en : Int) - (at_ : Nat)) = ((en - at_ : Nat) : Int) := by rw [IntWalk.i64_in _ (by omega)]; omega
  have d1 : ¬ ((en - at_ : Nat) : Int) < (wd : Nat) := by omega
  have hle := h.bytes.le
  have ib1 : (0 : Int) <= (at_ : Nat) := by omega
  obtain ⟨a2, ha2⟩ : ∃ a2, at_ + wd = a2 := ⟨_, rfl⟩
  have hadd : IntKind.i64.wrap ((at_ : Int) + (wd : Nat)) = (a2 : Nat) := by rw [IntWalk.i64_in _ (by omega)]; omega
  have ib2 : ((at_ : Nat) : Int) <= (a2 : Nat) := by omega
  have ib3 : ((a2 : Nat) : Int) <= (cp : Nat) := by omega
  have ib4 : ((a2 : Nat) : Int) <= 140737488355328 := by omega
  have ib5 : a2 - at_ = wd := by omega
  try rw [ha2]
  have HS := zH (show ∀ W, Calls prog 96 #[.int .i64 K] W fun e w' => e = .returned (.bool false) ∧ W = w' from fun W => by have := rsigned_kind K W; rw [hsk] at this; exact this)
  have HN := zH (show ∀ W, PIn W p n cp at_ en B -> Calls prog 95 #[(.slice (p.map (fun x => x.add at_)) wd (cp - at_))] W fun e w' => (∃ m : Int, e = .returned (.int .u64 m)) ∧ W = w' from fun W hW => rnumber_some W _ _ _ _ (by have hb := hW.bytes.part at_ wd (by omega); rw [if_neg hca] at hb; exact hb))
  have HV := zH (show ∀ W, PIn W p n cp at_ en B -> (convert 28 9 (.slice (p.map (fun x => x.add at_)) wd (cp - at_))).run prog W = .ok (.string ⟨((B.drop at_).take wd).toArray⟩) W from fun W hW => run_string_bytes W _ _ 5 underlying28 underlying5 underlying9 _ _ _ _ (by have hb := hW.bytes.part at_ wd (by omega); rw [if_neg hca] at hb; exact hb))
  have HP := zH h
  clear hs hc hk h0 hwd hK hle h hsk hha hhe hhn ha2
  go_enter func115, ntmps115
  go_upto_region 1 with fail
  have hf0 : Fr w ((w.alloc (.cells #[.slice p n cp, .int .i64 (en : Nat), .int .i64 sz] 94)).alloc (.cells zR 25)) w.heap.size (w.heap.size + 1) #[.slice p n cp, .int .i64 (en : Nat), .int .i64 sz] := Fr.start w _
  generalize ((w.alloc (.cells #[.slice p n cp, .int .i64 (en : Nat), .int .i64 sz] 94)).alloc (.cells zR 25)) = w0 at *
  obtain ⟨x, hx⟩ : ∃ x, w.heap.size = x := ⟨_, rfl⟩
  rw [hx] at hf0 ⊢
  obtain ⟨y, hy⟩ : ∃ y, x + 1 = y := ⟨_, rfl⟩
  rw [hy] at hf0 ⊢
  have HXY := zH (And.intro hx hy)
  have HF0 := zH hf0
  obtain ⟨x0, x1, x2⟩ := c3 HF0.out.part
  clear hx hy hf0
  go_wp2_with fail
  refine (HW.out _).mono ?_
  rintro e w1 ⟨rfl, rfl⟩
  go_wp2_with fail
  refine (HK.out _).mono ?_
  rintro e w2 ⟨rfl, hb2⟩
  have HF2 := zH (HF0.out.next hb2)
  clear hb2
  go_wp2_with fail
  refine (HN.out _ (HP.out.blw HF2.out.blw)).mono ?_
  rintro e w3 ⟨⟨m, rfl⟩, rfl⟩
  go_upto_region 7 with (refine stV (.tmp 13) (.tmp 42) rfl rfl rfl rfl rfl (zN w2 _) rfl ?_)
  refine layW w2 ?_
  intro w4 hb4 oz
  have hyz := HF2.out.lt
  have HF4 := zH (HF2.out.next hb4)
  obtain ⟨z, hz⟩ : ∃ z, w2.heap.size = z := ⟨_, rfl⟩
  rw [hz] at oz hyz ⊢
  have HZ := zH (And.intro hyz oz)
  clear hb4 hz hyz
  obtain ⟨z0, z1, z2, z3, z4⟩ := c5 oz
  clear oz
  go_wp2_with fail
  refine (HS.out _).mono ?_
  rintro e w5 ⟨rfl, rfl⟩
  have fz : w4.frozen? ⟨z, 1, none⟩ = false := by simp [World.frozen?, HZ.out.2]
  go_upto_region 22 with fail
  have oz := heap_setCell_same w4 z 1 _ _ (.int .u64 0) HZ.out.2
  have hf6 : Fr w (w4.setCell ⟨z, 1, none⟩ (.int .u64 0)) x y #[.slice p n cp, .int .i64 (en : Nat), .int .i64 sz] := HF4.out.setz HZ.out.1 1 (.int .u64 0)
  have hyz := HZ.out.1
  clear z0 z1 z2 z3 z4 fz HZ
  change Code.wp _ _ _ _ (w4.setCell ⟨z, 1, none⟩ (.int .u64 0))
  generalize (w4.setCell ⟨z, 1, none⟩ (.int .u64 0)) = w6 at *
  replace oz : w6.heap[z]? = some (.cells #[.int .i64 K, .int .u64 0, .string ⟨#[]⟩, .slice none 0 0, .int .i64 0] 25 (0, 0)) := oz
  have HF6 := zH hf6
  have HZ := zH (And.intro hyz oz)
  obtain ⟨z0, z1, z2, z3, z4⟩ := c5 oz
  clear oz hf6 hyz
  have hV := HV.out w6 (HP.out.blw HF6.out.blw)
  have fz : w6.frozen? ⟨z, 2, none⟩ = false := by simp [World.frozen?, HZ.out.2]
  go_upto_region 23 with fail
  have oz := heap_setCell_same w6 z 2 _ _ (.string ⟨((B.drop at_).take wd).toArray⟩) HZ.out.2
  have hf6 : Fr w (w6.setCell ⟨z, 2, none⟩ (.string ⟨((B.drop at_).take wd).toArray⟩)) x y #[.slice p n cp, .int .i64 (en : Nat), .int .i64 sz] := HF6.out.setz HZ.out.1 2 (.string ⟨((B.drop at_).take wd).toArray⟩)
  have hyz := HZ.out.1
  clear z0 z1 z2 z3 z4 fz HZ
  change Code.wp _ _ _ _ (w6.setCell ⟨z, 2, none⟩ (.string ⟨((B.drop at_).take wd).toArray⟩))
  generalize (w6.setCell ⟨z, 2, none⟩ (.string ⟨((B.drop at_).take wd).toArray⟩)) = w7 at *
  replace oz : w7.heap[z]? = some (.cells #[.int .i64 K, .int .u64 0, .string ⟨((B.drop at_).take wd).toArray⟩, .slice none 0 0, .int .i64 0] 25 (0, 0)) := oz
  have HF7 := zH hf6
  have HZ := zH (And.intro hyz oz)
  obtain ⟨z0, z1, z2, z3, z4⟩ := c5 oz
  clear oz hf6 hyz
  go_wp2_with (refine stV (.tmp 6) (.tmp 76) rfl rfl rfl rfl rfl (HF7.out.res) rfl ?_)
  refine bodyPost_ret (results_rfixed _ _ y #[.int .i64 K, .int .u64 0, .string ⟨((B.drop at_).take wd).toArray⟩, .slice none 0 0, .int .i64 0] rfl (HF7.out.row _) rfl) rfl ?_
  exact RTo.val (v := .mk K 0 ⟨((B.drop at_).take wd).toArray⟩ [] 0) HF7.out (VO.nil _ _ HWF.out rfl) (Nat.le_refl _) (fun b hb => hb.elim) _ _ rfl
def rfixed_raw148 := fun w p n cp at_ en sz own B h c wd K hc hk h0 hwd hK hca hs hKw hsk n1 n2 n3 => (mrg_rfixed_raw148 w p n cp at_ en sz own B h c wd K hc hk h0 hwd hK hca hs hKw hsk n1 n2 n3).1
def rfixed_raw152 := fun w p n cp at_ en sz own B h c wd K hc hk h0 hwd hK hca hs hKw hsk n1 n2 n3 => (mrg_rfixed_raw148 w p n cp at_ en sz own B h c wd K hc hk h0 hwd hK hca hs hKw hsk n1 n2 n3).2
end Go.Proofs.YtnnnfhobbnjmfaaGreatDoor
