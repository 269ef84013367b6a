/-
  The stream's iterator over a chunk: its walk. Conditions: the stream lies in a block of its own; the chunk lies elsewhere.
-/
import Derived.Test.YtofdpccjpodbhaaStr6
namespace Go.Proofs.Ytofdpccjpodbhaa
open Go.RowKit
set_option linter.unusedVariables false

/-- an item as a value -/
def Itm.val (it : Itm) (ve vb : Value) : Value := .agg #[.int .i64 it.kind, .int .i64 it.proto, .int .i64 it.T, .int .i64 it.ch, ve, vb]

/-- the stream stands, between two bytes -/
structure StS (w : World) (b B : Nat) (s : SM) (hv : Value) : Prop where
  ins : InS w b B s hv .no (.slice none 0 0) (.slice none 0 0)
  ok : Ok s

/-- what the iterator asks of its caller's invariant J: it abides the stream's own moves, and each yield -/
structure Rides (l b B gS : Nat) (pa : Option Addr) (n c : Nat) (ch : List UInt8) (J : Nat → SM → Value → World → Prop) (Jx : World → Prop) : Prop where
  reads : ∀ k s hv W, J k s hv W → W.cell? ⟨gS, 0, none⟩ = some (.pointer (some ⟨b, 0, none⟩)) ∧ BytesIn W pa n c ch ∧ gS ≠ b ∧ hv.ownBlock ≠ some gS
  quiet : ∀ k s hv W hv' W', k < n → J k s hv W → StS W b B s hv → s.err = 0 → (step s (ch.getD k 0)).2 = .no → Mv b hv W hv' W' → StS W' b B (step s (ch.getD k 0)).1 hv' → J (k + 1) (step s (ch.getD k 0)).1 hv' W'
  yields : ∀ k s hv W hv' W' ve vb, k < n → J k s hv W → StS W b B s hv → s.err = 0 → (step s (ch.getD k 0)).2.kind ≠ 0 → Mv b hv W hv' W' → StS W' b B (step s (ch.getD k 0)).1 hv' →
    ItO W.heap.size W' (step s (ch.getD k 0)).2 ve vb → Apart ve hv' → Apart vb hv' →
    YieldAt Fence.wide 3 Try.prog l #[.int .i64 ((k : Int) + 1), (step s (ch.getD k 0)).2.val ve vb] W' fun e W2 =>
      (e = .returned (.bool true) ∧ ∃ s2 hv2, StS W2 b B s2 hv2 ∧ J (k + 1) s2 hv2 W2) ∨ (e = .returned (.bool false) ∧ Jx W2)

/-- the phases' methods, as the walk calls them -/
theorem enter_fn (k : Nat) : ∀ args w, (callFunc (fnOf k) args).run Try.prog w = .ok (.enter (fnOf k) args) w := by
  intro args w
  match k with
  | 0 => exact enters_of Try.func51 (by kernel_rfl) rfl args w
  | 1 => exact enters_of Try.func71 (by kernel_rfl) rfl args w
  | 2 => exact enters_of Try.func73 (by kernel_rfl) rfl args w
  | 3 => exact enters_of Try.func76 (by kernel_rfl) rfl args w
  | _ + 4 => exact enters_of Try.func78 (by kernel_rfl) rfl args w

theorem cell_lt {w : World} {a : Addr} {v : Value} (h : w.cell? a = some v) : a.block < w.heap.size := by
  by_cases hq : a.block < w.heap.size
  · exact hq
  · rw [World.cell?, Array.getElem?_eq_none (by omega)] at h
    simp at h

theorem ItO.move {n n' : Nat} {w w' : World} {it : Itm} {ve vb : Value} {row : Option Nat} (h : ItO n w it ve vb) (hn : n' ≤ n) (hg : w.grownBy w' row) (hr : ∀ k, row = some k → k < n) : ItO n' w' it ve vb := by
  have key : ∀ {v : Value} {l : List UInt8}, OwnBytes w n 5 v l → OwnBytes w' n' 5 v l := by
    intro v l ho
    refine ⟨row_mono5 (ho.kept hg ?_).row hn⟩
    cases row with
    | none =>
      rcases ho.row.2 with ⟨rfl, _⟩ | ⟨g, cap, cur, rfl, hg', _⟩
      · exact .inl rfl
      · exact .inr (by simp [Value.ownBlock])
    | some k => exact ho.off' (hr k rfl)
  exact ⟨h.nil, key h.ext, key h.body, h.apart⟩

theorem ItO.apart_old {n : Nat} {w : World} {it : Itm} {ve vb hv : Value} (h : ItO n w it ve vb) (ho : hv = .slice none 0 0 ∨ ∀ g, hv.ownBlock = some g → g < n) : Apart ve hv ∧ Apart vb hv := by
  have key : ∀ {v : Value} {l : List UInt8}, OwnBytes w n 5 v l → Apart v hv := by
    intro v l hl
    rcases ho with rfl | ho
    · exact .inr (.inl rfl)
    · have h1 := hl.row
      rcases h1.2 with ⟨rfl, _⟩ | ⟨g, cap, cur, rfl, hg, _⟩
      · exact .inl rfl
      · refine .inr (.inr fun hq => ?_)
        have := ho g (by rw [← hq]; rfl)
        omega
  exact ⟨key h.ext, key h.body⟩

/-- the byte is laid into held -/
def Laid1 (wr : World) (b B : Nat) (s : SM) (hv : Value) (y : UInt8) (wx : World) : Prop :=
  ∃ p8 d8 w8, wx.heap[b]? = some (.cells #[nextF b (fnOf s.ph), .slice p8 (s.held.length + 1) d8, .int .i64 s.taken, .int .i64 s.at_, .int .i64 s.most, .int .i64 s.size, .bool s.hdr, .int .i64 s.kind, .int .i64 s.err, .int .i64 Itm.no.kind, .int .i64 Itm.no.proto, .int .i64 Itm.no.T, .int .i64 Itm.no.ch, .slice none 0 0, .slice none 0 0] 91 (0, 0)) ∧
    OwnBytes wx B 5 (.slice p8 (s.held.length + 1) d8) (s.held ++ [y]) ∧ wr.grownBy w8 hv.ownBlock ∧ Grew wr w8 hv (.slice p8 (s.held.length + 1) d8) ∧ w8.grownBy wx (some b)

/-- what the iterator leaves -/
def ItEnd (b B n : Nat) (J : Nat → SM → Value → World → Prop) (Jx : World → Prop) (e : Ending) (W : World) : Prop :=
  (∃ v, e = .returned v) ∧ ((∃ k s' hv', k ≤ n ∧ (k = n ∨ s'.err ≠ 0) ∧ J k s' hv' W ∧ StS W b B s' hv') ∨ Jx W)

set_option maxHeartbeats 1000000 in
theorem items1_in (w : World) (l b B gS gC : Nat) (pa : Option Addr) (n c : Nat) (ch : List UInt8) (J : Nat → SM → Value → World → Prop) (Jx : World → Prop) (hR : Rides l b B gS pa n c ch J Jx)
    (s : SM) (hv : Value) (h0 : J 0 s hv w) (hS : StS w b B s hv) (hC : w.cell? ⟨gC, 0, none⟩ = some (.slice pa n c)) :
    Calls Try.prog 70 #[.func (.yield l) #[] #[], .pointer (some ⟨gC, 0, none⟩), .pointer (some ⟨gS, 0, none⟩)] w (ItEnd b B n J Jx) := by
  have hcap := (hR.reads 0 s hv w h0).2.1.cap
  have hle := (hR.reads 0 s hv w h0).2.1.le
  unfold maxLen at hcap
  have HR := Lib.hid hR
  have HJ := Lib.hid h0
  have HS := Lib.hid hS
  clear h0 hS hR
  go_enter Try.func70, Try.ntmps70
  go_wp2_with fail
  go_loopw [9] (fun i wr => ∃ (k : Nat) (s : SM) (hv : Value), k ≤ n ∧ i = .int .i64 k ∧ J k s hv wr ∧ StS wr b B s hv)
    (fun i _ => n - (intOf i).toNat)
  case atStart =>
    exact ⟨0, s, hv, Nat.zero_le _, rfl, HJ.out, HS.out⟩
  case round =>
    obtain ⟨k, s, hv, hkn, rfl, hJ, hS⟩ := hrel
    by_cases hk : (k : Int) < n
    · have hk' : k < n := by omega
      obtain ⟨hcS, hby, hgb, hgh⟩ := HR.out.reads k s hv wr hJ
      obtain ⟨g, o, rfl, hgl, hcell⟩ := hby.at_ (by omega)
      have hck := hcell k hk'
      obtain ⟨y, hy⟩ : ∃ y, ch.getD k 0 = y := ⟨_, rfl⟩
      rw [hy] at hck
      have HY := Lib.hid hy
      clear hy
      have hk0 : ¬ (k : Int) < 0 := by omega
      have hrow := hS.ins.row
      have c8 : wr.cell? ⟨b, 8, none⟩ = some (.int .i64 s.err) := (cell_of_row _ _ 8 _ _ _ hrow).trans rfl
      have HJ2 := Lib.hid hJ
      have HS2 := Lib.hid hS
      clear hrow hJ hS hby hcell HJ HS
      by_cases he : s.err = 0
      · have he' : (s.err != 0) = false := by simp [he]
        have HE := Lib.hid he
        clear he
        go_upto_region 4 with fail
        have ho := HS2.out.ins.held
        have hlb := HS2.out.ok.pre HE.out y
        have hll : s.held.length + 1 ≤ 140737488355328 := by
          have h1 := hlb.len
          have h2 := hlb.size
          simp only [SM.take1, List.length_append, List.length_singleton] at h1 h2
          omega
        have hbs := HS2.out.ins.le
        have hrow := HS2.out.ins.row
        obtain ⟨p1, d1, rfl, hb1⟩ := ho.bytes
        have c1 : wr.cell? ⟨b, 1, none⟩ = some (.slice p1 s.held.length d1) := (cell_of_row _ _ 1 _ _ _ hrow).trans rfl
        have hcS' : (wr.alloc (.cells #[.int .u8 (y.toNat : Int)] 5)).cell? ⟨gS, 0, none⟩ = some (.pointer (some ⟨b, 0, none⟩)) := ((Below.refl wr.heap.size wr).alloc (Nat.le_refl _) _).cell (p := ⟨gS, 0, none⟩) (cell_lt hcS) |>.trans hcS
        have c1' : (wr.alloc (.cells #[.int .u8 (y.toNat : Int)] 5)).cell? ⟨b, 1, none⟩ = some (.slice p1 s.held.length d1) := ((Below.refl wr.heap.size wr).alloc (Nat.le_refl _) _).cell (p := ⟨b, 1, none⟩) (cell_lt c1) |>.trans c1
        have HO := Lib.hid ho
        have HLL := Lib.hid hll
        have HBS := Lib.hid hbs
        have HROW := Lib.hid hrow
        have HOF : Hid (some b ≠ (Value.slice p1 s.held.length d1).ownBlock ∧ some gS ≠ (Value.slice p1 s.held.length d1).ownBlock) := by
          refine Lib.hid ⟨fun h => ?_, fun h => hgh h.symm⟩
          rcases ho.off' HS2.out.ins.lt with h1 | h1
          · rw [h1] at h; simp at h
          · exact h1 h.symm
        clear hlb ho hll hbs hrow hb1 c8 hgh
        go_cut [19] from 19 to 28 (fun s19 wx => s19 = .pointer (some ⟨b, 0, none⟩) ∧ Laid1 wr b B s (.slice p1 s.held.length d1) y wx)
        case first =>
          go_region_law (first
            | (refine step_append_grew2 (wr := wr) rfl (.tmp 23) (.tmp 25) 22 rfl B 5 Try.underlying22 info_u8 (.slice p1 s.held.length d1) s.held y rfl (by simp [Act.eval]) (by simp [Act.eval]) HO.out HLL.out HBS.out ?_
               intro v8 w8 ho8 hg8 hf8
               obtain ⟨p8, d8, rfl, _⟩ := ho8.bytes
               have hl8 : (s.held ++ [y]).length = s.held.length + 1 := by simp
               rw [hl8] at hf8 ho8
               have hb8 : w8.heap[b]? = some (.cells #[nextF b (fnOf s.ph), .slice p1 s.held.length d1, .int .i64 s.taken, .int .i64 s.at_, .int .i64 s.most, .int .i64 s.size, .bool s.hdr, .int .i64 s.kind, .int .i64 s.err, .int .i64 Itm.no.kind, .int .i64 Itm.no.proto, .int .i64 Itm.no.T, .int .i64 Itm.no.ch, .slice none 0 0, .slice none 0 0] 91 (0, 0)) :=
                 (hg8.block b (Array.getElem?_eq_some_iff.1 HROW.out).1 HOF.out.1).trans HROW.out
               have c8 : w8.cell? ⟨b, 1, none⟩ = some (.slice p1 s.held.length d1) := (cell_of_row _ _ 1 _ _ _ hb8).trans rfl
               have f8 : w8.frozen? ⟨b, 1, none⟩ = false := by simp [World.frozen?, hb8]
               have hcS8 : w8.cell? ⟨gS, 0, none⟩ = some (.pointer (some ⟨b, 0, none⟩)) := (World.cell?_of_block (hg8.block gS (cell_lt hcS) HOF.out.2)).trans hcS
               have HB8 := Lib.hid hb8
               have HG8 := Lib.hid hg8
               have HF8 := Lib.hid hf8
               have HO8 := Lib.hid ho8
               clear hb8 hg8 hf8 ho8)
            | fail)
          all_goals
            go_wp2_with fail
            go_meet
            have s9 := heap_setCell_same w8 b 1 _ _ (.slice p8 (s.held.length + 1) d8) HB8.out
            refine ⟨rfl, p8, d8, w8, s9, HO8.out.kept (setCell_grown w8 b 1 _) (HO8.out.off' HS2.out.ins.lt), HG8.out, HF8.out, setCell_grown w8 b 1 _⟩
        case rest =>
          obtain ⟨rfl, hL1⟩ := hcut
          obtain ⟨p8, d8, w8, hr8, ho8, hg8, hf8, hg8'⟩ := hL1
          have hcS8 : wc.cell? ⟨gS, 0, none⟩ = some (.pointer (some ⟨b, 0, none⟩)) := by
            rw [World.cell?_of_block (hg8'.block gS (Nat.lt_of_lt_of_le (cell_lt hcS) hg8.size) (fun h => hgb (Option.some.inj h))), World.cell?_of_block (hg8.block gS (cell_lt hcS) HOF.out.2)]
            exact hcS
          have c2 : wc.cell? ⟨b, 2, none⟩ = some (.int .i64 s.taken) := (cell_of_row _ _ 2 _ _ _ hr8).trans rfl
          have f2 : wc.frozen? ⟨b, 2, none⟩ = false := by simp [World.frozen?, hr8]
          have hlt := HS2.out.ins.lt
          have HP8 : Hid (∀ g, (Value.slice p8 (s.held.length + 1) d8).ownBlock = some g → g < wc.heap.size) := by
            refine Lib.hid fun g hq => ?_
            rcases ho8.row.2 with ⟨hz, _⟩ | ⟨g', cap, cur, hz, _, hh, _⟩
            · rw [hz] at hq; simp [Value.ownBlock] at hq
            · rw [hz] at hq
              simp only [Value.ownBlock, Option.some.injEq] at hq
              subst hq
              exact (Array.getElem?_eq_some_iff.1 hh).1
          have HZ8 : Hid (wr.heap.size ≤ wc.heap.size) := Lib.hid (Nat.le_trans hg8.size hg8'.size)
          have HR8 := Lib.hid hr8
          have HO8 := Lib.hid ho8
          have HG8 := Lib.hid hg8
          have HF8 := Lib.hid hf8
          have HG8' := Lib.hid hg8'
          clear hr8 ho8 hg8 hf8 hg8' c1 c1' hcS'
          go_upto_region 6 with fail
          have s10 := heap_setCell_same wc b 2 _ _ (.int .i64 (wrap64 (s.taken + 1))) HR8.out
          simp only [List.setIfInBounds_toArray, List.set] at s10
          have o10 : OwnBytes (wc.setCell ⟨b, 2, none⟩ (.int .i64 (wrap64 (s.taken + 1)))) B 5 (.slice p8 (s.held.length + 1) d8) (s.held ++ [y]) := HO8.out.kept (setCell_grown wc b 2 _) (HO8.out.off' hlt)
          have g10 := grown_trans HG8'.out (setCell_grown wc b 2 (.int .i64 (wrap64 (s.taken + 1))))
          have hcS10 : (wc.setCell ⟨b, 2, none⟩ (.int .i64 (wrap64 (s.taken + 1)))).cell? ⟨gS, 0, none⟩ = some (.pointer (some ⟨b, 0, none⟩)) := by
            rw [World.cell?_of_block ((setCell_grown wc b 2 _).block gS (cell_lt hcS8) (fun h => hgb (Option.some.inj h)))]
            exact hcS8
          have z10 : B ≤ (wc.setCell ⟨b, 2, none⟩ (.int .i64 (wrap64 (s.taken + 1)))).heap.size := Nat.le_trans HBS.out (Nat.le_trans HG8.out.size g10.size)
          have HP10 : Hid (∀ g, (Value.slice p8 (s.held.length + 1) d8).ownBlock = some g → g < (wc.setCell ⟨b, 2, none⟩ (.int .i64 (wrap64 (s.taken + 1)))).heap.size) := Lib.hid fun g hq => Nat.lt_of_lt_of_le (HP8.out g hq) (setCell_grown wc b 2 _).size
          have HZ10 : Hid (wr.heap.size ≤ (wc.setCell ⟨b, 2, none⟩ (.int .i64 (wrap64 (s.taken + 1)))).heap.size) := Lib.hid (Nat.le_trans HZ8.out (setCell_grown wc b 2 _).size)
          have HB10 : Hid (b < (wc.setCell ⟨b, 2, none⟩ (.int .i64 (wrap64 (s.taken + 1)))).heap.size) := Lib.hid (Nat.lt_of_lt_of_le hlt z10)
          clear HP8 HZ8
          generalize (wc.setCell ⟨b, 2, none⟩ (.int .i64 (wrap64 (s.taken + 1)))) = w10 at *
          have hcall := meth_any w10 b B (s.take1 y) (.slice p8 (s.held.length + 1) d8) ⟨s10, o10, hlt, z10⟩ (HS2.out.ok.pre HE.out y)
          have eg := enter_fn s.ph
          have c0 : w10.cell? ⟨b, 0, none⟩ = some (.func (.func (fnOf s.ph)) #[.pointer (some ⟨b, 0, none⟩)] #[]) := (cell_of_row _ _ 0 _ _ _ s10).trans rfl
          rw [show (s.take1 y).ph = s.ph from rfl] at hcall
          generalize fnOf s.ph = f at hcall eg c0
          have G10 := Lib.hid g10
          clear s10 o10 g10 z10 hcS8 c2 f2 HR8 HO8 HG8'
          go_wp2_with fail
          refine hcall.mono ?_
          clear hcall eg c0
          rintro e w11 ⟨rfl, hv', ve, vb, hin, hg11, hcond, hit⟩
          rw [show next1 (s.take1 y) = step s y from rfl] at hin hit
          obtain ⟨s', it, hst⟩ : ∃ s' it, step s y = (s', it) := ⟨_, _, rfl⟩
          rw [hst] at hin hit
          have hok : Ok s' := by have := HS2.out.ok.step HE.out y; rwa [hst] at this
          have HST := Lib.hid hst
          have hcS11 : w11.cell? ⟨gS, 0, none⟩ = some (.pointer (some ⟨b, 0, none⟩)) := by
            rw [World.cell?_of_block (hg11.block gS (cell_lt hcS10) (fun h => hgb (Option.some.inj h)))]
            exact hcS10
          obtain ⟨pe, ce, hve, _⟩ := hit.ext.bytes
          obtain ⟨pb, cb, hvb, _⟩ := hit.body.bytes
          obtain ⟨ne, hne⟩ : ∃ ne, it.ext.length = ne := ⟨_, rfl⟩
          obtain ⟨nb, hnb⟩ : ∃ nb, it.body.length = nb := ⟨_, rfl⟩
          rw [hne] at hve
          rw [hnb] at hvb
          subst hve hvb
          obtain ⟨ik, ip, iT, ic, iE, iB⟩ := it
          have r11 := hin.row
          simp only at r11
          have m9 : w11.cell? ⟨b, 9, none⟩ = some (.int .i64 ik) := (cell_of_row _ _ 9 _ _ _ r11).trans rfl
          have m10 : w11.cell? ⟨b, 10, none⟩ = some (.int .i64 ip) := (cell_of_row _ _ 10 _ _ _ r11).trans rfl
          have m11 : w11.cell? ⟨b, 11, none⟩ = some (.int .i64 iT) := (cell_of_row _ _ 11 _ _ _ r11).trans rfl
          have m12 : w11.cell? ⟨b, 12, none⟩ = some (.int .i64 ic) := (cell_of_row _ _ 12 _ _ _ r11).trans rfl
          have m13 : w11.cell? ⟨b, 13, none⟩ = some (.slice pe ne ce) := (cell_of_row _ _ 13 _ _ _ r11).trans rfl
          have m14 : w11.cell? ⟨b, 14, none⟩ = some (.slice pb nb cb) := (cell_of_row _ _ 14 _ _ _ r11).trans rfl
          have G11 := Lib.hid (grown_trans G10.out hg11)
          have HC11 := Lib.hid hcond
          have HI11 := Lib.hid hin
          have HT11 := Lib.hid hit
          have Z11 := Lib.hid hg11.size
          clear r11 hin hit hst hg11 hcond hcS10 hne hnb G10
          have hw12 : StS (w11.alloc (.cells #[.int .i64 ik, .int .i64 ip, .int .i64 iT, .int .i64 ic, .slice pe ne ce, .slice pb nb cb] 71)) b B s' hv' ∨ ik ≠ 0 := by
            by_cases h : ik = 0
            · obtain ⟨h1, h2, h3⟩ := HT11.out.nil h
              have hi := HI11.out
              rw [h1, h2, h3] at hi
              exact .inl ⟨⟨(heap_alloc_old w11 _ (Array.getElem?_eq_some_iff.1 hi.row).1).trans hi.row, hi.held.kept (grown_alloc w11 _ (some b)) (hi.held.off' hi.lt), hi.lt, Nat.le_trans hi.le (by simp)⟩, hok⟩
            · exact .inr h
          have HW12 := Lib.hid hw12
          clear hw12
          go_upto_region 8 with fail
          by_cases hik : ik = 0
          · have hn0 : (step s (ch.getD k 0)).2 = .no := by rw [HY.out, HST.out]; exact (HT11.out.nil hik).1
            have hs1 : (step s (ch.getD k 0)).1 = s' := by rw [HY.out, HST.out]
            have hq := HR.out.quiet k s _ wr hv' (w11.alloc (.cells #[.int .i64 ik, .int .i64 ip, .int .i64 iT, .int .i64 ic, .slice pe ne ce, .slice pb nb cb] 71)) hk' HJ2.out HS2.out HE.out hn0
              (mv_of HG8.out HF8.out (grown_trans G11.out (grown_alloc _ _ _)) HC11.out) (by rw [hs1]; exact HW12.out.resolve_right (fun h => h hik))
            rw [hs1] at hq
            have HQ := Lib.hid (And.intro hq (HW12.out.resolve_right (fun h => h hik)))
            have HN := Lib.hid hn0
            clear hq hn0 hs1
            subst hik
            go_wp2_with fail
            go_roundw
            case rel => exact ⟨k + 1, s', hv', by omega, by go_num, HQ.out.1, HQ.out.2⟩
            case measure => simp [intOf]; omega
          · have hik' : (ik != 0) = true := by simpa using hik
            have HK := Lib.hid hik
            clear hik
            go_upto_region 9 with fail
            have hin := HI11.out
            have hlt11 := (Array.getElem?_eq_some_iff.1 hin.row).1
            have s12 := (heap_alloc_old w11 (.cells #[.int .i64 ik, .int .i64 ip, .int .i64 iT, .int .i64 ic, .slice pe ne ce, .slice pb nb cb] 71) hlt11).trans hin.row
            have a12 : (w11.alloc (.cells #[.int .i64 ik, .int .i64 ip, .int .i64 iT, .int .i64 ic, .slice pe ne ce, .slice pb nb cb] 71)).heap[w11.heap.size]? = some (.cells #[.int .i64 ik, .int .i64 ip, .int .i64 iT, .int .i64 ic, .slice pe ne ce, .slice pb nb cb] 71 (0, 0)) := heap_alloc_new _ _
            have g12 : w8.grownBy (w11.alloc (.cells #[.int .i64 ik, .int .i64 ip, .int .i64 iT, .int .i64 ic, .slice pe ne ce, .slice pb nb cb] 71)) (some b) := grown_trans G11.out (grown_alloc _ _ _)
            have t12 := HT11.out.move (Nat.le_refl _) (grown_alloc w11 (.cells #[.int .i64 ik, .int .i64 ip, .int .i64 iT, .int .i64 ic, .slice pe ne ce, .slice pb nb cb] 71) none) (by simp)
            have o12 := hin.held.kept (grown_alloc w11 (.cells #[.int .i64 ik, .int .i64 ip, .int .i64 iT, .int .i64 ic, .slice pe ne ce, .slice pb nb cb] 71) (some b)) (hin.held.off' hin.lt)
            have hcS12 : (w11.alloc (.cells #[.int .i64 ik, .int .i64 ip, .int .i64 iT, .int .i64 ic, .slice pe ne ce, .slice pb nb cb] 71)).cell? ⟨gS, 0, none⟩ = some (.pointer (some ⟨b, 0, none⟩)) := (World.cell?_of_block (heap_alloc_old w11 _ (cell_lt hcS11))).trans hcS11
            have z12 : B ≤ (w11.alloc (.cells #[.int .i64 ik, .int .i64 ip, .int .i64 iT, .int .i64 ic, .slice pe ne ce, .slice pb nb cb] 71)).heap.size := Nat.le_trans hin.le (by simp)
            have zI : w11.heap.size < (w11.alloc (.cells #[.int .i64 ik, .int .i64 ip, .int .i64 iT, .int .i64 ic, .slice pe ne ce, .slice pb nb cb] 71)).heap.size := by simp
            clear hcS11 m9 m10 m11 m12 m13 m14 HW12 HI11 hin G11
            generalize (w11.alloc (.cells #[.int .i64 ik, .int .i64 ip, .int .i64 iT, .int .i64 ic, .slice pe ne ce, .slice pb nb cb] 71)) = w12 at *
            obtain ⟨gI, hgI⟩ : ∃ gI, w11.heap.size = gI := ⟨_, rfl⟩
            rw [hgI] at a12 hlt11 zI ⊢
            clear hgI Z11
            have m9 : w12.cell? ⟨b, 9, none⟩ = some (.int .i64 ik) := (cell_of_row _ _ 9 _ _ _ s12).trans rfl
            have m10 : w12.cell? ⟨b, 10, none⟩ = some (.int .i64 ip) := (cell_of_row _ _ 10 _ _ _ s12).trans rfl
            have m11 : w12.cell? ⟨b, 11, none⟩ = some (.int .i64 iT) := (cell_of_row _ _ 11 _ _ _ s12).trans rfl
            have m12 : w12.cell? ⟨b, 12, none⟩ = some (.int .i64 ic) := (cell_of_row _ _ 12 _ _ _ s12).trans rfl
            have m13 : w12.cell? ⟨b, 13, none⟩ = some (.slice pe ne ce) := (cell_of_row _ _ 13 _ _ _ s12).trans rfl
            have m14 : w12.cell? ⟨b, 14, none⟩ = some (.slice pb nb cb) := (cell_of_row _ _ 14 _ _ _ s12).trans rfl
            have fz : ∀ k, w12.frozen? ⟨b, k, none⟩ = false := fun k => by simp [World.frozen?, s12]
            have S12 := Lib.hid s12
            have A12' := Lib.hid a12
            have G12 := Lib.hid g12
            have T12 := Lib.hid t12
            have O12 := Lib.hid o12
            have Z12 := Lib.hid z12
            clear s12 a12 g12 t12 o12 z12
            go_upto_region 10 with fail
            clear m9 m10 m11 m12 m13 m14 fz
            have s13 := set6_heap (j0 := .int .i64 0) (j1 := .int .i64 0) (j2 := .int .i64 0) (j3 := .int .i64 0) (j4 := .slice none 0 0) (j5 := .slice none 0 0) S12.out
            have q13 := set6_grown (w := w12) (b := b) (j0 := .int .i64 0) (j1 := .int .i64 0) (j2 := .int .i64 0) (j3 := .int .i64 0) (j4 := .slice none 0 0) (j5 := .slice none 0 0)
            generalize ((((((w12.setCell ⟨b, 9, none⟩ (.int .i64 0)).setCell ⟨b, 10, none⟩ (.int .i64 0)).setCell ⟨b, 11, none⟩ (.int .i64 0)).setCell ⟨b, 12, none⟩ (.int .i64 0)).setCell ⟨b, 13, none⟩ (.slice none 0 0)).setCell ⟨b, 14, none⟩ (.slice none 0 0)) = w13 at *
            have a13 := (q13.block gI zI (fun h => Nat.ne_of_lt hlt11 (Option.some.inj h).symm)).trans A12'.out
            have n0 : w13.cell? ⟨gI, 0, none⟩ = some (.int .i64 ik) := (cell_of_row _ _ 0 _ _ _ a13).trans rfl
            have n1 : w13.cell? ⟨gI, 1, none⟩ = some (.int .i64 ip) := (cell_of_row _ _ 1 _ _ _ a13).trans rfl
            have n2 : w13.cell? ⟨gI, 2, none⟩ = some (.int .i64 iT) := (cell_of_row _ _ 2 _ _ _ a13).trans rfl
            have n3 : w13.cell? ⟨gI, 3, none⟩ = some (.int .i64 ic) := (cell_of_row _ _ 3 _ _ _ a13).trans rfl
            have n4 : w13.cell? ⟨gI, 4, none⟩ = some (.slice pe ne ce) := (cell_of_row _ _ 4 _ _ _ a13).trans rfl
            have n5 : w13.cell? ⟨gI, 5, none⟩ = some (.slice pb nb cb) := (cell_of_row _ _ 5 _ _ _ a13).trans rfl
            have hst13 : StS w13 b B s' hv' := ⟨⟨s13, O12.out.kept q13 (O12.out.off' hlt), hlt, Nat.le_trans Z12.out q13.size⟩, hok⟩
            have hap := HT11.out.apart_old (hv := hv') (HC11.out.imp id (fun h g hq => HP10.out g (h.symm.trans hq)))
            have hyl := HR.out.yields k s _ wr hv' w13 (.slice pe ne ce) (.slice pb nb cb) hk' HJ2.out HS2.out HE.out (by rw [HY.out, HST.out]; exact HK.out)
              (mv_of HG8.out HF8.out (grown_trans G12.out q13) HC11.out) (by rw [HY.out, HST.out]; exact hst13) (by rw [HY.out, HST.out]; exact T12.out.move HZ10.out q13 (fun k hk => by cases hk; exact HB10.out)) hap.1 hap.2
            rw [HY.out, HST.out] at hyl
            simp only [Itm.val] at hyl
            obtain ⟨fn, tmps, assign, body, hyy, hRd⟩ := hyl
            have HRd := Lib.hid hRd
            clear a13 s13 q13 hst13 hap S12 A12' G12 T12 O12 Z12 hRd hcS12 zI hlt11
            refine (wpIn_wide (n := 4)).1 ?_
            gi_wp2
            refine HRd.out.mono ?_
            rintro e W2 (⟨rfl, s2, hv2, hst2, hj2⟩ | ⟨rfl, hjx⟩)
            · have HQ := Lib.hid (And.intro hj2 hst2)
              clear hj2 hst2
              gi_wp2
              go_wp2_with fail
              go_roundw
              case rel => exact ⟨k + 1, s2, hv2, by omega, by go_num, HQ.out.1, HQ.out.2⟩
              case measure => simp [intOf]; omega
            · have HQ := Lib.hid hjx
              clear hjx
              gi_wp2
              go_wp2_with fail
              refine bodyPost_ret (v := .tuple #[]) (results_none (by kernel_rfl) _ _ _) rfl ?_
              exact ⟨⟨_, rfl⟩, .inr HQ.out⟩
      · have he' : (s.err != 0) = true := by simpa using he
        have HE := Lib.hid he
        clear he
        go_wp2_with fail
        refine bodyPost_ret (v := .tuple #[]) (results_none (by kernel_rfl) _ _ _) rfl ?_
        exact ⟨⟨_, rfl⟩, .inl ⟨k, s, hv, hkn, .inr HE.out, HJ2.out, HS2.out⟩⟩
    · have hk' : k = n := by omega
      have HJ2 := Lib.hid hJ
      have HS2 := Lib.hid hS
      clear hJ hS HJ HS
      go_wp2_with fail
      go_end0
      exact ⟨⟨_, rfl⟩, .inl ⟨k, s, hv, hkn, .inl hk', HJ2.out, HS2.out⟩⟩
end Go.Proofs.Ytofdpccjpodbhaa
