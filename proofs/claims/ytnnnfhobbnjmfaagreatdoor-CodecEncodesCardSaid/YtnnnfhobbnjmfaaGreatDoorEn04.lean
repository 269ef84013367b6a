/-
  Lemmas on the codec. Conditions: as each says.
-/
import Derived.Test.YtnnnfhobbnjmfaaGreatDoorEn02
import Derived.Test.YtnnnfhobbnjmfaaGreatDoorEn03
import Derived.WalkLawsBesides
namespace Go.Proofs.YtnnnfhobbnjmfaaGreatDoor
open Go.RowKit
set_option linter.all false

def byteS (s : ByteArray) (k : Nat) : Nat := if h : k < s.size then s[k].toNat else 0
theorem byteS_in (s : ByteArray) (k : Nat) (h : k < s.size) : byteS s k = s[k].toNat := by simp [byteS, h]
theorem byteS_lt (s : ByteArray) (k : Nat) : byteS s k < 256 := by
  unfold byteS; split
  · exact UInt8.toNat_lt _
  · omega

def asciiF (s : ByteArray) : Nat → Nat → Int
  | 0, _ => -1
  | f + 1, k => if 128 ≤ byteS s k then (k : Int) else asciiF s f (k + 1)
def asciiS (s : ByteArray) : Int := asciiF s s.size 0

theorem ret_i64 {a b : Int} (h : a = b) : Ending.returned (.int .i64 a) = .returned (.int .i64 b) := by rw [h]
theorem ascii_any (s : ByteArray) (w : World) (hs : s.size ≤ 9223372036854775807) :
    Calls Tryz.prog 101 #[.string s] w fun e w' => e = .returned (.int .i64 (asciiS s)) ∧ w = w' := by
  go_enter Tryz.func101, Tryz.ntmps101
  go_wp2
  go_loop [6] (fun i => ∃ k : Nat, k ≤ s.size ∧ i = .int .i64 k ∧ Hid (asciiS s = asciiF s (s.size - k) k)) (fun i => s.size - (intOf i).toNat)
  case atStart => exact ⟨0, by omega, rfl, Lib.hid rfl⟩
  case round =>
    obtain ⟨k, hk, rfl, H⟩ := hrel
    by_cases hlt : k < s.size
    · have hb := byteS_in s k hlt
      have hx := byteS_lt s k
      have hf : s.size - k = (s.size - (k + 1)) + 1 := by omega
      by_cases h128 : 128 ≤ s[k].toNat
      · have HE := Lib.hid (show asciiS s = (k : Int) by rw [H.out, hf, asciiF, hb, if_pos h128])
        clear hb hf hx
        have h128' : (128 : Int) ≤ (s[k].toNat : Int) := by omega
        go_wp2
        go_ret
        exact ⟨ret_i64 HE.out.symm, rfl⟩
      · have HE := Lib.hid (show asciiS s = asciiF s (s.size - (k + 1)) (k + 1) by rw [H.out, hf, asciiF, hb, if_neg h128])
        clear hb hf hx
        have h128' : ¬ (128 : Int) ≤ (s[k].toNat : Int) := by omega
        go_wp2
        go_round
        case rel => exact ⟨k + 1, by omega, by go_num, HE⟩
        case measure => simp [intOf]; omega
    · have HE := Lib.hid (show asciiS s = -1 by rw [H.out, show s.size - k = 0 by omega, asciiF])
      go_wp2
      go_ret
      exact ⟨ret_i64 HE.out.symm, rfl⟩

def Tabs (w : World) : Prop := Lib.Utf8Tabs 0 1 w
theorem Tabs.below {w w' : World} (h : Tabs w) (hb : Below w.heap.size w w') : Tabs w' := by
  obtain ⟨h1, h2⟩ := h
  refine ⟨fun c hc => ?_, fun i hi => ?_⟩
  · exact (hb.cell (World.block_lt_of_cell? w _ (h1 c hc))).trans (h1 c hc)
  · obtain ⟨e1, e2⟩ := h2 i hi
    exact ⟨(hb.cell (World.block_lt_of_cell? w _ e1)).trans e1, (hb.cell (World.block_lt_of_cell? w _ e2)).trans e2⟩

def utf8F (s : ByteArray) : Nat → Nat → Int
  | 0, _ => -1
  | f + 1, k => if k < s.size then (if (Lib.decodeGo (s.extract k s.size)).1 = 65533 ∧ (Lib.decodeGo (s.extract k s.size)).2 = 1 then (k : Int) else utf8F s f (k + (Lib.decodeGo (s.extract k s.size)).2)) else -1
def utf8S (s : ByteArray) : Int := utf8F s s.size 0

theorem tabs_decode (s : ByteArray) (k : Nat) (w : World) (hT : Tabs w) :
    Calls Tryz.prog 119 #[.string (s.extract k s.size)] w fun e w' =>
      e = .returned (.tuple #[.int .i32 (Lib.decodeGo (s.extract k s.size)).1, .int .i64 (Lib.decodeGo (s.extract k s.size)).2]) ∧ Below w.heap.size w w' :=
  Tryz.utf8_DecodeRuneInString _ w hT

theorem decodeGo_bd (s : ByteArray) (k : Nat) (h : k < s.size) : 1 ≤ (Lib.decodeGo (s.extract k s.size)).2 ∧ (Lib.decodeGo (s.extract k s.size)).2 ≤ s.size - k ∧ (Lib.decodeGo (s.extract k s.size)).1 ≤ 1114111 := by
  have hsz : (s.extract k s.size).size = s.size - k := by simp
  unfold Lib.decodeGo
  rw [if_neg (by omega), Lib.decode_at, hsz]
  have hb : ∀ x : UInt8, x.toNat < 256 := fun x => x.toNat_lt
  have h0 := hb ((s.extract k s.size).get! 0)
  generalize ((s.extract k s.size).get! 0).toNat = b0 at *
  generalize ((s.extract k s.size).get! (0 + 1)).toNat = b1
  generalize ((s.extract k s.size).get! (0 + 2)).toNat = b2
  generalize ((s.extract k s.size).get! (0 + 3)).toNat = b3
  generalize hn : s.size - k = n
  have hn1 : 1 ≤ n := by omega
  clear hb hsz
  unfold Lib.decodeN
  repeat' split
  all_goals first | (simp only; omega) | omega

set_option maxHeartbeats 2000000 in
theorem utf8_any (s : ByteArray) (w : World) (hs : s.size ≤ 9223372036854775800) (hT : Tabs w) :
    Calls Tryz.prog 100 #[.string s] w fun e w' => e = .returned (.int .i64 (utf8S s)) ∧ Below w.heap.size w w' := by
  go_enter Tryz.func100, Tryz.ntmps100
  go_wp2
  go_loopw [3] (fun i wr => ∃ k f : Nat, k ≤ s.size ∧ s.size - k ≤ f ∧ i = .int .i64 k ∧ Hid (utf8S s = utf8F s f k) ∧ Below w.heap.size w wr) (fun i _ => s.size - (intOf i).toNat)
  case atStart => exact ⟨0, s.size, by omega, by omega, rfl, Lib.hid rfl, Below.refl _ _⟩
  case round =>
    obtain ⟨k, f, hk, hf, rfl, H, hB⟩ := hrel
    by_cases hlt : k < s.size
    · obtain ⟨f, rfl⟩ : ∃ f', f = f' + 1 := ⟨f - 1, by omega⟩
      obtain ⟨hd1, hd2, hd3⟩ := decodeGo_bd s k hlt
      have hs1 := H.out
      rw [utf8F, if_pos hlt] at hs1
      have hc := tabs_decode s k wr (hT.below hB)
      obtain ⟨r, hr⟩ : ∃ r, (Lib.decodeGo (s.extract k s.size)).1 = r := ⟨_, rfl⟩
      obtain ⟨m, hm⟩ : ∃ m, (Lib.decodeGo (s.extract k s.size)).2 = m := ⟨_, rfl⟩
      rw [hr, hm] at hs1 hc
      rw [hr] at hd3
      rw [hm] at hd1 hd2
      clear hr hm H hT
      have HC := Lib.hid hc
      clear hc
      by_cases c1 : r = 65533
      · by_cases c2 : m = 1
        · subst c1; subst c2
          have HE := Lib.hid (show utf8S s = (k : Int) by rw [hs1, if_pos ⟨rfl, rfl⟩])
          clear hs1
          go_wp2_with fail
          refine HC.out.mono ?_
          rintro e w' ⟨rfl, hb'⟩
          go_wp2_with fail
          go_ret
          exact ⟨ret_i64 HE.out.symm, hB.trans (hb'.mono hB.size)⟩
        · subst c1
          have HE := Lib.hid (show utf8S s = utf8F s f (k + m) by rw [hs1, if_neg (fun h => c2 h.2)])
          clear hs1
          have c2' : ((m : Int) == 1) = false := by simp; omega
          go_wp2_with fail
          refine HC.out.mono ?_
          rintro e w' ⟨rfl, hb'⟩
          go_wp2_with fail
          go_roundw
          case rel => exact ⟨k + m, f, by omega, by omega, by go_num, HE, hB.trans (hb'.mono hB.size)⟩
          case measure => simp [intOf]; omega
      · have HE := Lib.hid (show utf8S s = utf8F s f (k + m) by rw [hs1, if_neg (fun h => c1 h.1)])
        clear hs1
        have c1' : ((r : Int) == 65533) = false := by simp; omega
        go_wp2_with fail
        refine HC.out.mono ?_
        rintro e w' ⟨rfl, hb'⟩
        go_wp2_with fail
        go_roundw
        case rel => exact ⟨k + m, f, by omega, by omega, by go_num, HE, hB.trans (hb'.mono hB.size)⟩
        case measure => simp [intOf]; omega
    · have HE := Lib.hid (show utf8S s = -1 by rw [H.out]; cases f <;> simp [utf8F, hlt])
      go_wp2
      go_ret
      exact ⟨ret_i64 HE.out.symm, hB⟩

theorem emp_t (s : ByteArray) : (s.toList == []) = decide (s = ⟨#[]⟩) := by
  rw [ByteArray.toList_eq, Bool.eq_iff_iff]
  simp only [beq_iff_eq, decide_eq_true_eq]
  exact ⟨fun h => by cases s; congr 1; exact Array.toList_inj.1 h, fun h => by rw [h]⟩
def extraV (v : V) : Bool := (!hasN v.kind && !decide (v.num = 0)) || (!hasT v.kind && !decide (v.text = ⟨#[]⟩)) || (!hasP v.kind && decide (0 < v.list.length)) || (!decide (v.kind = 23) && !decide (v.elem = 0))

set_option maxRecDepth 20000 in
set_option maxHeartbeats 4000000 in
theorem extra_any (v : V) (w : World) (s : Value) (h : VIn w v s) :
    Calls Tryz.prog 70 #[.agg #[.int .i64 v.kind, .int .u64 v.num, .string v.text, s, .int .i64 v.elem]] w fun e w' => e = .returned (.bool (extraV v)) ∧ Below w.heap.size w w' := by
  obtain ⟨p, c, hs, h1, h2, h3⟩ := h.slice
  obtain ⟨N, hN⟩ : ∃ N, v.list.length = N := ⟨_, rfl⟩
  rw [hN] at hs h1 h3
  subst hs
  unfold maxLen at h2
  obtain ⟨D, hD⟩ : ∃ D, extraV v = D := ⟨_, rfl⟩
  rw [hD]
  have hh := fun W => has_any v.kind W
  unfold extraV at hD
  rw [hN] at hD
  obtain ⟨b1, hb1⟩ : ∃ b, hasN v.kind = b := ⟨_, rfl⟩
  obtain ⟨b2, hb2⟩ : ∃ b, hasT v.kind = b := ⟨_, rfl⟩
  obtain ⟨b3, hb3⟩ : ∃ b, hasP v.kind = b := ⟨_, rfl⟩
  rw [hb1, hb2, hb3] at hh hD
  obtain ⟨z1, hz1⟩ : ∃ b, decide (v.num = 0) = b := ⟨_, rfl⟩
  obtain ⟨z2, hz2⟩ : ∃ b, decide (v.text = ⟨#[]⟩) = b := ⟨_, rfl⟩
  obtain ⟨z3, hz3⟩ : ∃ b, decide (0 < N) = b := ⟨_, rfl⟩
  obtain ⟨z4, hz4⟩ : ∃ b, decide (v.kind = 23) = b := ⟨_, rfl⟩
  obtain ⟨z5, hz5⟩ : ∃ b, decide (v.elem = 0) = b := ⟨_, rfl⟩
  rw [hz1, hz2, hz3, hz4, hz5] at hD
  have f1 : (v.num == 0) = z1 := by rw [← hz1]; rfl
  have f2 : (v.text.toList == []) = z2 := by rw [emp_t]; exact hz2
  have f3 : decide ((0 : Int) < N) = z3 := by rw [← hz3, decide_eq_decide]; omega
  have f3n : decide (0 < N) = z3 := hz3
  have f4 : (v.kind == 23) = z4 := by rw [← hz4]; rfl
  have f5 : (v.elem == 0) = z5 := by rw [← hz5]; rfl
  have g1 : (v.num != 0) = !z1 := by rw [← f1]; rfl
  have g2 : (v.text.toList != []) = !z2 := by rw [← f2]; rfl
  have g4 : (v.kind != 23) = !z4 := by rw [← f4]; rfl
  have g5 : (v.elem != 0) = !z5 := by rw [← f5]; rfl
  have HH := Lib.hid hh
  have HF := Lib.hid (And.intro f1 (And.intro f2 (And.intro f3 (And.intro f4 (And.intro f5 (And.intro g1 (And.intro g2 (And.intro g4 (And.intro g5 f3n)))))))))
  have HD := Lib.hid hD
  clear hh hD hb1 hb2 hb3 h hN hz1 hz2 hz3 hz4 hz5 f1 f2 f3 f4 f5 g1 g2 g4 g5 f3n
  go_enter Tryz.func70, Tryz.ntmps70
  go_upto_region 1 with fail
  have hb0 : Below w.heap.size w (w.alloc (.cells #[.int .i64 v.kind, .int .u64 v.num, .string v.text, (.slice p N c), .int .i64 v.elem] 25)) := ((Below.refl _ _).alloc (Nat.le_refl _) _)
  have ox := _root_.Go.heap_alloc_new w (.cells #[.int .i64 v.kind, .int .u64 v.num, .string v.text, (.slice p N c), .int .i64 v.elem] 25)
  generalize (w.alloc (.cells #[.int .i64 v.kind, .int .u64 v.num, .string v.text, (.slice p N c), .int .i64 v.elem] 25)) = w0 at *
  obtain ⟨x, hx⟩ : ∃ x, w.heap.size = x := ⟨_, rfl⟩
  rw [hx] at ox ⊢
  have HB0 := Lib.hid hb0
  have HOx := Lib.hid ox
  clear hb0 ox hx
  have x0 : w0.cell? ⟨x, 0, none⟩ = some (.int .i64 v.kind) := (cell_of_row _ _ 0 _ _ _ HOx.out).trans rfl
  have x1 : w0.cell? ⟨x, 1, none⟩ = some (.int .u64 v.num) := (cell_of_row _ _ 1 _ _ _ HOx.out).trans rfl
  have x2 : w0.cell? ⟨x, 2, none⟩ = some (.string v.text) := (cell_of_row _ _ 2 _ _ _ HOx.out).trans rfl
  have x3 : w0.cell? ⟨x, 3, none⟩ = some (.slice p N c) := (cell_of_row _ _ 3 _ _ _ HOx.out).trans rfl
  have x4 : w0.cell? ⟨x, 4, none⟩ = some (.int .i64 v.elem) := (cell_of_row _ _ 4 _ _ _ HOx.out).trans rfl
  have hh := HH.out w0
  go_wp2_with fail
  refine hh.mono ?_
  clear hh
  rintro e w1 ⟨rfl, rfl⟩
  obtain ⟨f1, f2, f3, f4, f5, g1, g2, g4, g5, f3n⟩ := HF.out
  have HD2 := HD.out
  cases b1
  · cases z1
    ·
      simp only [Bool.not_false, Bool.true_or, Bool.and_self] at HD2
      subst HD2
      try simp only [Bool.not_false] at g1
      try simp only [Bool.not_true, Bool.not_false] at g2
      try simp only [Bool.not_true, Bool.not_false] at g4
      try simp only [Bool.not_true, Bool.not_false] at g5
      go_wp2_with fail
      all_goals
        go_ret
        exact ⟨rfl, HB0.out⟩
    ·
      cases b2
      · cases z2
        ·
          simp only [Bool.not_true, Bool.not_false, Bool.or_true, Bool.true_or, Bool.and_false, Bool.and_self] at HD2
          subst HD2
          try simp only [Bool.not_true] at g1
          try simp only [Bool.not_false] at g2
          try simp only [Bool.not_true, Bool.not_false] at g4
          try simp only [Bool.not_true, Bool.not_false] at g5
          go_wp2_with fail
          all_goals
            go_ret
            exact ⟨rfl, HB0.out⟩
        ·
          cases b3
          · cases z3
            ·
              cases z4
              · cases z5
                ·
                  simp only [Bool.not_true, Bool.not_false, Bool.or_true, Bool.and_false, Bool.or_self, Bool.and_self] at HD2
                  subst HD2
                  try simp only [Bool.not_true] at g1
                  try simp only [Bool.not_true] at g2
                  try simp only [Bool.not_false] at g4
                  try simp only [Bool.not_false] at g5
                  go_wp2_with fail
                  all_goals
                    go_ret
                    exact ⟨rfl, HB0.out⟩
                ·
                  simp only [Bool.not_true, Bool.not_false, Bool.and_false, Bool.or_self] at HD2
                  subst HD2
                  try simp only [Bool.not_true] at g1
                  try simp only [Bool.not_true] at g2
                  try simp only [Bool.not_false] at g4
                  try simp only [Bool.not_true] at g5
                  go_wp2_with fail
                  all_goals
                    go_ret
                    exact ⟨rfl, HB0.out⟩
              ·
                simp only [Bool.not_true, Bool.not_false, Bool.false_and, Bool.and_false, Bool.or_self] at HD2
                subst HD2
                try simp only [Bool.not_true] at g1
                try simp only [Bool.not_true] at g2
                try simp only [Bool.not_true] at g4
                try simp only [Bool.not_true, Bool.not_false] at g5
                go_wp2_with fail
                all_goals
                  go_ret
                  exact ⟨rfl, HB0.out⟩
            ·
              simp only [Bool.not_true, Bool.not_false, Bool.or_true, Bool.true_or, Bool.and_false, Bool.or_self, Bool.and_self] at HD2
              subst HD2
              try simp only [Bool.not_true] at g1
              try simp only [Bool.not_true] at g2
              try simp only [Bool.not_true, Bool.not_false] at g4
              try simp only [Bool.not_true, Bool.not_false] at g5
              go_wp2_with fail
              all_goals
                go_ret
                exact ⟨rfl, HB0.out⟩
          ·
            cases z4
            · cases z5
              ·
                simp only [Bool.not_true, Bool.not_false, Bool.false_and, Bool.or_true, Bool.and_false, Bool.or_self, Bool.and_self] at HD2
                subst HD2
                try simp only [Bool.not_true] at g1
                try simp only [Bool.not_true] at g2
                try simp only [Bool.not_false] at g4
                try simp only [Bool.not_false] at g5
                go_wp2_with fail
                all_goals
                  go_ret
                  exact ⟨rfl, HB0.out⟩
              ·
                simp only [Bool.not_true, Bool.not_false, Bool.false_and, Bool.and_false, Bool.or_self] at HD2
                subst HD2
                try simp only [Bool.not_true] at g1
                try simp only [Bool.not_true] at g2
                try simp only [Bool.not_false] at g4
                try simp only [Bool.not_true] at g5
                go_wp2_with fail
                all_goals
                  go_ret
                  exact ⟨rfl, HB0.out⟩
            ·
              simp only [Bool.not_true, Bool.not_false, Bool.false_and, Bool.and_false, Bool.or_self] at HD2
              subst HD2
              try simp only [Bool.not_true] at g1
              try simp only [Bool.not_true] at g2
              try simp only [Bool.not_true] at g4
              try simp only [Bool.not_true, Bool.not_false] at g5
              go_wp2_with fail
              all_goals
                go_ret
                exact ⟨rfl, HB0.out⟩
      ·
        cases b3
        · cases z3
          ·
            cases z4
            · cases z5
              ·
                simp only [Bool.not_true, Bool.not_false, Bool.false_and, Bool.or_true, Bool.and_false, Bool.or_self, Bool.and_self] at HD2
                subst HD2
                try simp only [Bool.not_true] at g1
                try simp only [Bool.not_true, Bool.not_false] at g2
                try simp only [Bool.not_false] at g4
                try simp only [Bool.not_false] at g5
                go_wp2_with fail
                all_goals
                  go_ret
                  exact ⟨rfl, HB0.out⟩
              ·
                simp only [Bool.not_true, Bool.not_false, Bool.false_and, Bool.and_false, Bool.or_self] at HD2
                subst HD2
                try simp only [Bool.not_true] at g1
                try simp only [Bool.not_true, Bool.not_false] at g2
                try simp only [Bool.not_false] at g4
                try simp only [Bool.not_true] at g5
                go_wp2_with fail
                all_goals
                  go_ret
                  exact ⟨rfl, HB0.out⟩
            ·
              simp only [Bool.not_true, Bool.not_false, Bool.false_and, Bool.and_false, Bool.or_self] at HD2
              subst HD2
              try simp only [Bool.not_true] at g1
              try simp only [Bool.not_true, Bool.not_false] at g2
              try simp only [Bool.not_true] at g4
              try simp only [Bool.not_true, Bool.not_false] at g5
              go_wp2_with fail
              all_goals
                go_ret
                exact ⟨rfl, HB0.out⟩
          ·
            simp only [Bool.not_true, Bool.not_false, Bool.false_and, Bool.or_true, Bool.true_or, Bool.and_false, Bool.or_self, Bool.and_self] at HD2
            subst HD2
            try simp only [Bool.not_true] at g1
            try simp only [Bool.not_true, Bool.not_false] at g2
            try simp only [Bool.not_true, Bool.not_false] at g4
            try simp only [Bool.not_true, Bool.not_false] at g5
            go_wp2_with fail
            all_goals
              go_ret
              exact ⟨rfl, HB0.out⟩
        ·
          cases z4
          · cases z5
            ·
              simp only [Bool.not_true, Bool.not_false, Bool.false_and, Bool.or_true, Bool.and_false, Bool.or_self, Bool.and_self] at HD2
              subst HD2
              try simp only [Bool.not_true] at g1
              try simp only [Bool.not_true, Bool.not_false] at g2
              try simp only [Bool.not_false] at g4
              try simp only [Bool.not_false] at g5
              go_wp2_with fail
              all_goals
                go_ret
                exact ⟨rfl, HB0.out⟩
            ·
              simp only [Bool.not_true, Bool.not_false, Bool.false_and, Bool.and_false, Bool.or_self] at HD2
              subst HD2
              try simp only [Bool.not_true] at g1
              try simp only [Bool.not_true, Bool.not_false] at g2
              try simp only [Bool.not_false] at g4
              try simp only [Bool.not_true] at g5
              go_wp2_with fail
              all_goals
                go_ret
                exact ⟨rfl, HB0.out⟩
          ·
            simp only [Bool.not_true, Bool.not_false, Bool.false_and, Bool.and_false, Bool.or_self] at HD2
            subst HD2
            try simp only [Bool.not_true] at g1
            try simp only [Bool.not_true, Bool.not_false] at g2
            try simp only [Bool.not_true] at g4
            try simp only [Bool.not_true, Bool.not_false] at g5
            go_wp2_with fail
            all_goals
              go_ret
              exact ⟨rfl, HB0.out⟩
  ·
    cases b2
    · cases z2
      ·
        simp only [Bool.not_true, Bool.not_false, Bool.false_and, Bool.or_true, Bool.true_or, Bool.and_self] at HD2
        subst HD2
        try simp only [Bool.not_true, Bool.not_false] at g1
        try simp only [Bool.not_false] at g2
        try simp only [Bool.not_true, Bool.not_false] at g4
        try simp only [Bool.not_true, Bool.not_false] at g5
        go_wp2_with fail
        all_goals
          go_ret
          exact ⟨rfl, HB0.out⟩
      ·
        cases b3
        · cases z3
          ·
            cases z4
            · cases z5
              ·
                simp only [Bool.not_true, Bool.not_false, Bool.false_and, Bool.or_true, Bool.and_false, Bool.or_self, Bool.and_self] at HD2
                subst HD2
                try simp only [Bool.not_true, Bool.not_false] at g1
                try simp only [Bool.not_true] at g2
                try simp only [Bool.not_false] at g4
                try simp only [Bool.not_false] at g5
                go_wp2_with fail
                all_goals
                  go_ret
                  exact ⟨rfl, HB0.out⟩
              ·
                simp only [Bool.not_true, Bool.not_false, Bool.false_and, Bool.and_false, Bool.or_self] at HD2
                subst HD2
                try simp only [Bool.not_true, Bool.not_false] at g1
                try simp only [Bool.not_true] at g2
                try simp only [Bool.not_false] at g4
                try simp only [Bool.not_true] at g5
                go_wp2_with fail
                all_goals
                  go_ret
                  exact ⟨rfl, HB0.out⟩
            ·
              simp only [Bool.not_true, Bool.not_false, Bool.false_and, Bool.and_false, Bool.or_self] at HD2
              subst HD2
              try simp only [Bool.not_true, Bool.not_false] at g1
              try simp only [Bool.not_true] at g2
              try simp only [Bool.not_true] at g4
              try simp only [Bool.not_true, Bool.not_false] at g5
              go_wp2_with fail
              all_goals
                go_ret
                exact ⟨rfl, HB0.out⟩
          ·
            simp only [Bool.not_true, Bool.not_false, Bool.false_and, Bool.or_true, Bool.true_or, Bool.and_false, Bool.or_self, Bool.and_self] at HD2
            subst HD2
            try simp only [Bool.not_true, Bool.not_false] at g1
            try simp only [Bool.not_true] at g2
            try simp only [Bool.not_true, Bool.not_false] at g4
            try simp only [Bool.not_true, Bool.not_false] at g5
            go_wp2_with fail
            all_goals
              go_ret
              exact ⟨rfl, HB0.out⟩
        ·
          cases z4
          · cases z5
            ·
              simp only [Bool.not_true, Bool.not_false, Bool.false_and, Bool.or_true, Bool.and_false, Bool.or_self, Bool.and_self] at HD2
              subst HD2
              try simp only [Bool.not_true, Bool.not_false] at g1
              try simp only [Bool.not_true] at g2
              try simp only [Bool.not_false] at g4
              try simp only [Bool.not_false] at g5
              go_wp2_with fail
              all_goals
                go_ret
                exact ⟨rfl, HB0.out⟩
            ·
              simp only [Bool.not_true, Bool.not_false, Bool.false_and, Bool.and_false, Bool.or_self] at HD2
              subst HD2
              try simp only [Bool.not_true, Bool.not_false] at g1
              try simp only [Bool.not_true] at g2
              try simp only [Bool.not_false] at g4
              try simp only [Bool.not_true] at g5
              go_wp2_with fail
              all_goals
                go_ret
                exact ⟨rfl, HB0.out⟩
          ·
            simp only [Bool.not_true, Bool.not_false, Bool.false_and, Bool.and_false, Bool.or_self] at HD2
            subst HD2
            try simp only [Bool.not_true, Bool.not_false] at g1
            try simp only [Bool.not_true] at g2
            try simp only [Bool.not_true] at g4
            try simp only [Bool.not_true, Bool.not_false] at g5
            go_wp2_with fail
            all_goals
              go_ret
              exact ⟨rfl, HB0.out⟩
    ·
      cases b3
      · cases z3
        ·
          cases z4
          · cases z5
            ·
              simp only [Bool.not_true, Bool.not_false, Bool.false_and, Bool.or_true, Bool.and_false, Bool.or_self, Bool.and_self] at HD2
              subst HD2
              try simp only [Bool.not_true, Bool.not_false] at g1
              try simp only [Bool.not_true, Bool.not_false] at g2
              try simp only [Bool.not_false] at g4
              try simp only [Bool.not_false] at g5
              go_wp2_with fail
              all_goals
                go_ret
                exact ⟨rfl, HB0.out⟩
            ·
              simp only [Bool.not_true, Bool.not_false, Bool.false_and, Bool.and_false, Bool.or_self] at HD2
              subst HD2
              try simp only [Bool.not_true, Bool.not_false] at g1
              try simp only [Bool.not_true, Bool.not_false] at g2
              try simp only [Bool.not_false] at g4
              try simp only [Bool.not_true] at g5
              go_wp2_with fail
              all_goals
                go_ret
                exact ⟨rfl, HB0.out⟩
          ·
            simp only [Bool.not_true, Bool.not_false, Bool.false_and, Bool.and_false, Bool.or_self] at HD2
            subst HD2
            try simp only [Bool.not_true, Bool.not_false] at g1
            try simp only [Bool.not_true, Bool.not_false] at g2
            try simp only [Bool.not_true] at g4
            try simp only [Bool.not_true, Bool.not_false] at g5
            go_wp2_with fail
            all_goals
              go_ret
              exact ⟨rfl, HB0.out⟩
        ·
          simp only [Bool.not_true, Bool.not_false, Bool.false_and, Bool.or_true, Bool.true_or, Bool.or_self, Bool.and_self] at HD2
          subst HD2
          try simp only [Bool.not_true, Bool.not_false] at g1
          try simp only [Bool.not_true, Bool.not_false] at g2
          try simp only [Bool.not_true, Bool.not_false] at g4
          try simp only [Bool.not_true, Bool.not_false] at g5
          go_wp2_with fail
          all_goals
            go_ret
            exact ⟨rfl, HB0.out⟩
      ·
        cases z4
        · cases z5
          ·
            simp only [Bool.not_true, Bool.not_false, Bool.false_and, Bool.or_true, Bool.or_self, Bool.and_self] at HD2
            subst HD2
            try simp only [Bool.not_true, Bool.not_false] at g1
            try simp only [Bool.not_true, Bool.not_false] at g2
            try simp only [Bool.not_false] at g4
            try simp only [Bool.not_false] at g5
            go_wp2_with fail
            all_goals
              go_ret
              exact ⟨rfl, HB0.out⟩
          ·
            simp only [Bool.not_true, Bool.not_false, Bool.false_and, Bool.and_false, Bool.or_self] at HD2
            subst HD2
            try simp only [Bool.not_true, Bool.not_false] at g1
            try simp only [Bool.not_true, Bool.not_false] at g2
            try simp only [Bool.not_false] at g4
            try simp only [Bool.not_true] at g5
            go_wp2_with fail
            all_goals
              go_ret
              exact ⟨rfl, HB0.out⟩
        ·
          simp only [Bool.not_true, Bool.false_and, Bool.or_self] at HD2
          subst HD2
          try simp only [Bool.not_true, Bool.not_false] at g1
          try simp only [Bool.not_true, Bool.not_false] at g2
          try simp only [Bool.not_true] at g4
          try simp only [Bool.not_true, Bool.not_false] at g5
          go_wp2_with fail
          all_goals
            go_ret
            exact ⟨rfl, HB0.out⟩


def within2 (h n : Int) : Bool := decide (-h ≤ twoC n ∧ twoC n < h)
def numOk (k n : Int) : Bool :=
  if k = 1 then decide (n < 2) else if k = 2 then decide (n < 256) else if k = 3 then decide (n < 65536) else if k = 4 ∨ k = 10 ∨ k = 12 then decide (n < 4294967296)
  else if k = 6 then within2 128 n else if k = 7 then within2 32768 n else if k = 8 then within2 2147483648 n else if k = 15 then decide (n < 55296 ∨ (57343 < n ∧ n ≤ 1114111)) else true

set_option maxRecDepth 20000 in
set_option maxHeartbeats 4000000 in
theorem isNum_any (v : V) (w : World) (s : Value) (h : VIn w v s) :
    Calls Tryz.prog 71 #[.agg #[.int .i64 v.kind, .int .u64 v.num, .string v.text, s, .int .i64 v.elem]] w fun e w' => e = .returned (.bool (numOk v.kind v.num)) ∧ Below w.heap.size w w' := by
  obtain ⟨p, c, hs, h1, h2, h3⟩ := h.slice
  obtain ⟨N, hN⟩ : ∃ N, v.list.length = N := ⟨_, rfl⟩
  rw [hN] at hs h1 h3
  subst hs
  unfold maxLen at h2
  obtain ⟨D, hD⟩ : ∃ D, numOk v.kind v.num = D := ⟨_, rfl⟩
  rw [hD]
  have hu := h.wf.n
  have HU := Lib.hid hu
  obtain ⟨u0, u1⟩ := hu
  clear h hN
  by_cases e1 : v.kind = 1
  · have HDX := Lib.hid (show D = decide (v.num < 2) by rw [← hD, e1]; simp [numOk])
    have E := Lib.hid e1
    clear hD e1
    go_enter Tryz.func71, Tryz.ntmps71
    go_upto_region 1 with fail
    have hb0 : Below w.heap.size w (w.alloc (.cells #[.int .i64 v.kind, .int .u64 v.num, .string v.text, (.slice p N c), .int .i64 v.elem] 25)) := ((Below.refl _ _).alloc (Nat.le_refl _) _)
    have ox := _root_.Go.heap_alloc_new w (.cells #[.int .i64 v.kind, .int .u64 v.num, .string v.text, (.slice p N c), .int .i64 v.elem] 25)
    generalize (w.alloc (.cells #[.int .i64 v.kind, .int .u64 v.num, .string v.text, (.slice p N c), .int .i64 v.elem] 25)) = w0 at *
    obtain ⟨x, hx⟩ : ∃ x, w.heap.size = x := ⟨_, rfl⟩
    rw [hx] at ox ⊢
    have HB0 := Lib.hid hb0
    have HOx := Lib.hid ox
    clear hb0 ox hx
    have x0 : w0.cell? ⟨x, 0, none⟩ = some (.int .i64 v.kind) := (cell_of_row _ _ 0 _ _ _ HOx.out).trans rfl
    have x1 : w0.cell? ⟨x, 1, none⟩ = some (.int .u64 v.num) := (cell_of_row _ _ 1 _ _ _ HOx.out).trans rfl
    rw [E.out] at x0
    go_wp2_with fail
    all_goals
      go_ret
      first
        | exact ⟨by rw [HDX.out]; rfl, HB0.out⟩
        | (refine ⟨ret_boolV ?_, HB0.out⟩; rw [HDX.out, Bool.eq_iff_iff]; simp; omega)
  by_cases e2 : v.kind = 2
  · have HDX := Lib.hid (show D = decide (v.num < 256) by rw [← hD, e2]; simp [numOk])
    have E := Lib.hid e2
    clear hD e2
    go_enter Tryz.func71, Tryz.ntmps71
    go_upto_region 1 with fail
    have hb0 : Below w.heap.size w (w.alloc (.cells #[.int .i64 v.kind, .int .u64 v.num, .string v.text, (.slice p N c), .int .i64 v.elem] 25)) := ((Below.refl _ _).alloc (Nat.le_refl _) _)
    have ox := _root_.Go.heap_alloc_new w (.cells #[.int .i64 v.kind, .int .u64 v.num, .string v.text, (.slice p N c), .int .i64 v.elem] 25)
    generalize (w.alloc (.cells #[.int .i64 v.kind, .int .u64 v.num, .string v.text, (.slice p N c), .int .i64 v.elem] 25)) = w0 at *
    obtain ⟨x, hx⟩ : ∃ x, w.heap.size = x := ⟨_, rfl⟩
    rw [hx] at ox ⊢
    have HB0 := Lib.hid hb0
    have HOx := Lib.hid ox
    clear hb0 ox hx
    have x0 : w0.cell? ⟨x, 0, none⟩ = some (.int .i64 v.kind) := (cell_of_row _ _ 0 _ _ _ HOx.out).trans rfl
    have x1 : w0.cell? ⟨x, 1, none⟩ = some (.int .u64 v.num) := (cell_of_row _ _ 1 _ _ _ HOx.out).trans rfl
    rw [E.out] at x0
    go_wp2_with fail
    all_goals
      go_ret
      first
        | exact ⟨by rw [HDX.out]; rfl, HB0.out⟩
        | (refine ⟨ret_boolV ?_, HB0.out⟩; rw [HDX.out, Bool.eq_iff_iff]; simp; omega)
  by_cases e3 : v.kind = 3
  · have HDX := Lib.hid (show D = decide (v.num < 65536) by rw [← hD, e3]; simp [numOk])
    have E := Lib.hid e3
    clear hD e3
    go_enter Tryz.func71, Tryz.ntmps71
    go_upto_region 1 with fail
    have hb0 : Below w.heap.size w (w.alloc (.cells #[.int .i64 v.kind, .int .u64 v.num, .string v.text, (.slice p N c), .int .i64 v.elem] 25)) := ((Below.refl _ _).alloc (Nat.le_refl _) _)
    have ox := _root_.Go.heap_alloc_new w (.cells #[.int .i64 v.kind, .int .u64 v.num, .string v.text, (.slice p N c), .int .i64 v.elem] 25)
    generalize (w.alloc (.cells #[.int .i64 v.kind, .int .u64 v.num, .string v.text, (.slice p N c), .int .i64 v.elem] 25)) = w0 at *
    obtain ⟨x, hx⟩ : ∃ x, w.heap.size = x := ⟨_, rfl⟩
    rw [hx] at ox ⊢
    have HB0 := Lib.hid hb0
    have HOx := Lib.hid ox
    clear hb0 ox hx
    have x0 : w0.cell? ⟨x, 0, none⟩ = some (.int .i64 v.kind) := (cell_of_row _ _ 0 _ _ _ HOx.out).trans rfl
    have x1 : w0.cell? ⟨x, 1, none⟩ = some (.int .u64 v.num) := (cell_of_row _ _ 1 _ _ _ HOx.out).trans rfl
    rw [E.out] at x0
    go_wp2_with fail
    all_goals
      go_ret
      first
        | exact ⟨by rw [HDX.out]; rfl, HB0.out⟩
        | (refine ⟨ret_boolV ?_, HB0.out⟩; rw [HDX.out, Bool.eq_iff_iff]; simp; omega)
  by_cases e4 : v.kind = 4
  · have HDX := Lib.hid (show D = decide (v.num < 4294967296) by rw [← hD, e4]; simp [numOk])
    have E := Lib.hid e4
    clear hD e4
    go_enter Tryz.func71, Tryz.ntmps71
    go_upto_region 1 with fail
    have hb0 : Below w.heap.size w (w.alloc (.cells #[.int .i64 v.kind, .int .u64 v.num, .string v.text, (.slice p N c), .int .i64 v.elem] 25)) := ((Below.refl _ _).alloc (Nat.le_refl _) _)
    have ox := _root_.Go.heap_alloc_new w (.cells #[.int .i64 v.kind, .int .u64 v.num, .string v.text, (.slice p N c), .int .i64 v.elem] 25)
    generalize (w.alloc (.cells #[.int .i64 v.kind, .int .u64 v.num, .string v.text, (.slice p N c), .int .i64 v.elem] 25)) = w0 at *
    obtain ⟨x, hx⟩ : ∃ x, w.heap.size = x := ⟨_, rfl⟩
    rw [hx] at ox ⊢
    have HB0 := Lib.hid hb0
    have HOx := Lib.hid ox
    clear hb0 ox hx
    have x0 : w0.cell? ⟨x, 0, none⟩ = some (.int .i64 v.kind) := (cell_of_row _ _ 0 _ _ _ HOx.out).trans rfl
    have x1 : w0.cell? ⟨x, 1, none⟩ = some (.int .u64 v.num) := (cell_of_row _ _ 1 _ _ _ HOx.out).trans rfl
    rw [E.out] at x0
    go_wp2_with fail
    all_goals
      go_ret
      first
        | exact ⟨by rw [HDX.out]; rfl, HB0.out⟩
        | (refine ⟨ret_boolV ?_, HB0.out⟩; rw [HDX.out, Bool.eq_iff_iff]; simp; omega)
  by_cases e10 : v.kind = 10
  · have HDX := Lib.hid (show D = decide (v.num < 4294967296) by rw [← hD, e10]; simp [numOk])
    have E := Lib.hid e10
    clear hD e10
    go_enter Tryz.func71, Tryz.ntmps71
    go_upto_region 1 with fail
    have hb0 : Below w.heap.size w (w.alloc (.cells #[.int .i64 v.kind, .int .u64 v.num, .string v.text, (.slice p N c), .int .i64 v.elem] 25)) := ((Below.refl _ _).alloc (Nat.le_refl _) _)
    have ox := _root_.Go.heap_alloc_new w (.cells #[.int .i64 v.kind, .int .u64 v.num, .string v.text, (.slice p N c), .int .i64 v.elem] 25)
    generalize (w.alloc (.cells #[.int .i64 v.kind, .int .u64 v.num, .string v.text, (.slice p N c), .int .i64 v.elem] 25)) = w0 at *
    obtain ⟨x, hx⟩ : ∃ x, w.heap.size = x := ⟨_, rfl⟩
    rw [hx] at ox ⊢
    have HB0 := Lib.hid hb0
    have HOx := Lib.hid ox
    clear hb0 ox hx
    have x0 : w0.cell? ⟨x, 0, none⟩ = some (.int .i64 v.kind) := (cell_of_row _ _ 0 _ _ _ HOx.out).trans rfl
    have x1 : w0.cell? ⟨x, 1, none⟩ = some (.int .u64 v.num) := (cell_of_row _ _ 1 _ _ _ HOx.out).trans rfl
    rw [E.out] at x0
    go_wp2_with fail
    all_goals
      go_ret
      first
        | exact ⟨by rw [HDX.out]; rfl, HB0.out⟩
        | (refine ⟨ret_boolV ?_, HB0.out⟩; rw [HDX.out, Bool.eq_iff_iff]; simp; omega)
  by_cases e12 : v.kind = 12
  · have HDX := Lib.hid (show D = decide (v.num < 4294967296) by rw [← hD, e12]; simp [numOk])
    have E := Lib.hid e12
    clear hD e12
    go_enter Tryz.func71, Tryz.ntmps71
    go_upto_region 1 with fail
    have hb0 : Below w.heap.size w (w.alloc (.cells #[.int .i64 v.kind, .int .u64 v.num, .string v.text, (.slice p N c), .int .i64 v.elem] 25)) := ((Below.refl _ _).alloc (Nat.le_refl _) _)
    have ox := _root_.Go.heap_alloc_new w (.cells #[.int .i64 v.kind, .int .u64 v.num, .string v.text, (.slice p N c), .int .i64 v.elem] 25)
    generalize (w.alloc (.cells #[.int .i64 v.kind, .int .u64 v.num, .string v.text, (.slice p N c), .int .i64 v.elem] 25)) = w0 at *
    obtain ⟨x, hx⟩ : ∃ x, w.heap.size = x := ⟨_, rfl⟩
    rw [hx] at ox ⊢
    have HB0 := Lib.hid hb0
    have HOx := Lib.hid ox
    clear hb0 ox hx
    have x0 : w0.cell? ⟨x, 0, none⟩ = some (.int .i64 v.kind) := (cell_of_row _ _ 0 _ _ _ HOx.out).trans rfl
    have x1 : w0.cell? ⟨x, 1, none⟩ = some (.int .u64 v.num) := (cell_of_row _ _ 1 _ _ _ HOx.out).trans rfl
    rw [E.out] at x0
    go_wp2_with fail
    all_goals
      go_ret
      first
        | exact ⟨by rw [HDX.out]; rfl, HB0.out⟩
        | (refine ⟨ret_boolV ?_, HB0.out⟩; rw [HDX.out, Bool.eq_iff_iff]; simp; omega)
  by_cases e6 : v.kind = 6
  · have HDX := Lib.hid (show D = within2 128 v.num by rw [← hD, e6]; simp [numOk])
    have E := Lib.hid e6
    clear hD e6
    go_enter Tryz.func71, Tryz.ntmps71
    go_upto_region 1 with fail
    have hb0 : Below w.heap.size w (w.alloc (.cells #[.int .i64 v.kind, .int .u64 v.num, .string v.text, (.slice p N c), .int .i64 v.elem] 25)) := ((Below.refl _ _).alloc (Nat.le_refl _) _)
    have ox := _root_.Go.heap_alloc_new w (.cells #[.int .i64 v.kind, .int .u64 v.num, .string v.text, (.slice p N c), .int .i64 v.elem] 25)
    generalize (w.alloc (.cells #[.int .i64 v.kind, .int .u64 v.num, .string v.text, (.slice p N c), .int .i64 v.elem] 25)) = w0 at *
    obtain ⟨x, hx⟩ : ∃ x, w.heap.size = x := ⟨_, rfl⟩
    rw [hx] at ox ⊢
    have HB0 := Lib.hid hb0
    have HOx := Lib.hid ox
    clear hb0 ox hx
    have x0 : w0.cell? ⟨x, 0, none⟩ = some (.int .i64 v.kind) := (cell_of_row _ _ 0 _ _ _ HOx.out).trans rfl
    have x1 : w0.cell? ⟨x, 1, none⟩ = some (.int .u64 v.num) := (cell_of_row _ _ 1 _ _ _ HOx.out).trans rfl
    rw [E.out] at x0
    have hc := within8_any v.num w0 HU.out
    go_wp2_with fail
    refine hc.mono ?_
    clear hc
    rintro e w1 ⟨rfl, rfl⟩
    go_wp2_with fail
    go_ret
    refine ⟨ret_boolV ?_, HB0.out⟩
    rw [HDX.out]
    simp [within2]
  by_cases e7 : v.kind = 7
  · have HDX := Lib.hid (show D = within2 32768 v.num by rw [← hD, e7]; simp [numOk])
    have E := Lib.hid e7
    clear hD e7
    go_enter Tryz.func71, Tryz.ntmps71
    go_upto_region 1 with fail
    have hb0 : Below w.heap.size w (w.alloc (.cells #[.int .i64 v.kind, .int .u64 v.num, .string v.text, (.slice p N c), .int .i64 v.elem] 25)) := ((Below.refl _ _).alloc (Nat.le_refl _) _)
    have ox := _root_.Go.heap_alloc_new w (.cells #[.int .i64 v.kind, .int .u64 v.num, .string v.text, (.slice p N c), .int .i64 v.elem] 25)
    generalize (w.alloc (.cells #[.int .i64 v.kind, .int .u64 v.num, .string v.text, (.slice p N c), .int .i64 v.elem] 25)) = w0 at *
    obtain ⟨x, hx⟩ : ∃ x, w.heap.size = x := ⟨_, rfl⟩
    rw [hx] at ox ⊢
    have HB0 := Lib.hid hb0
    have HOx := Lib.hid ox
    clear hb0 ox hx
    have x0 : w0.cell? ⟨x, 0, none⟩ = some (.int .i64 v.kind) := (cell_of_row _ _ 0 _ _ _ HOx.out).trans rfl
    have x1 : w0.cell? ⟨x, 1, none⟩ = some (.int .u64 v.num) := (cell_of_row _ _ 1 _ _ _ HOx.out).trans rfl
    rw [E.out] at x0
    have hc := within16_any v.num w0 HU.out
    go_wp2_with fail
    refine hc.mono ?_
    clear hc
    rintro e w1 ⟨rfl, rfl⟩
    go_wp2_with fail
    go_ret
    refine ⟨ret_boolV ?_, HB0.out⟩
    rw [HDX.out]
    simp [within2]
  by_cases e8 : v.kind = 8
  · have HDX := Lib.hid (show D = within2 2147483648 v.num by rw [← hD, e8]; simp [numOk])
    have E := Lib.hid e8
    clear hD e8
    go_enter Tryz.func71, Tryz.ntmps71
    go_upto_region 1 with fail
    have hb0 : Below w.heap.size w (w.alloc (.cells #[.int .i64 v.kind, .int .u64 v.num, .string v.text, (.slice p N c), .int .i64 v.elem] 25)) := ((Below.refl _ _).alloc (Nat.le_refl _) _)
    have ox := _root_.Go.heap_alloc_new w (.cells #[.int .i64 v.kind, .int .u64 v.num, .string v.text, (.slice p N c), .int .i64 v.elem] 25)
    generalize (w.alloc (.cells #[.int .i64 v.kind, .int .u64 v.num, .string v.text, (.slice p N c), .int .i64 v.elem] 25)) = w0 at *
    obtain ⟨x, hx⟩ : ∃ x, w.heap.size = x := ⟨_, rfl⟩
    rw [hx] at ox ⊢
    have HB0 := Lib.hid hb0
    have HOx := Lib.hid ox
    clear hb0 ox hx
    have x0 : w0.cell? ⟨x, 0, none⟩ = some (.int .i64 v.kind) := (cell_of_row _ _ 0 _ _ _ HOx.out).trans rfl
    have x1 : w0.cell? ⟨x, 1, none⟩ = some (.int .u64 v.num) := (cell_of_row _ _ 1 _ _ _ HOx.out).trans rfl
    rw [E.out] at x0
    have hc := within32_any v.num w0 HU.out
    go_wp2_with fail
    refine hc.mono ?_
    clear hc
    rintro e w1 ⟨rfl, rfl⟩
    go_wp2_with fail
    go_ret
    refine ⟨ret_boolV ?_, HB0.out⟩
    rw [HDX.out]
    simp [within2]
  by_cases e15 : v.kind = 15
  · have HDX := Lib.hid (show D = decide (v.num < 55296 ∨ (57343 < v.num ∧ v.num ≤ 1114111)) by rw [← hD, e15]; simp [numOk])
    have E := Lib.hid e15
    clear hD e15
    go_enter Tryz.func71, Tryz.ntmps71
    go_upto_region 1 with fail
    have hb0 : Below w.heap.size w (w.alloc (.cells #[.int .i64 v.kind, .int .u64 v.num, .string v.text, (.slice p N c), .int .i64 v.elem] 25)) := ((Below.refl _ _).alloc (Nat.le_refl _) _)
    have ox := _root_.Go.heap_alloc_new w (.cells #[.int .i64 v.kind, .int .u64 v.num, .string v.text, (.slice p N c), .int .i64 v.elem] 25)
    generalize (w.alloc (.cells #[.int .i64 v.kind, .int .u64 v.num, .string v.text, (.slice p N c), .int .i64 v.elem] 25)) = w0 at *
    obtain ⟨x, hx⟩ : ∃ x, w.heap.size = x := ⟨_, rfl⟩
    rw [hx] at ox ⊢
    have HB0 := Lib.hid hb0
    have HOx := Lib.hid ox
    clear hb0 ox hx
    have x0 : w0.cell? ⟨x, 0, none⟩ = some (.int .i64 v.kind) := (cell_of_row _ _ 0 _ _ _ HOx.out).trans rfl
    have x1 : w0.cell? ⟨x, 1, none⟩ = some (.int .u64 v.num) := (cell_of_row _ _ 1 _ _ _ HOx.out).trans rfl
    rw [E.out] at x0
    go_wp2_with fail
    all_goals
      go_ret
      first
        | exact ⟨by rw [HDX.out]; rfl, HB0.out⟩
        | (refine ⟨ret_boolV ?_, HB0.out⟩; rw [HDX.out, Bool.eq_iff_iff]; simp; omega)
  have HDX := Lib.hid (show D = true by rw [← hD]; simp [numOk, e1, e2, e3, e4, e10, e12, e6, e7, e8, e15])
  have m1 : (v.kind == 1) = false := by simpa using e1
  have m2 : (v.kind == 2) = false := by simpa using e2
  have m3 : (v.kind == 3) = false := by simpa using e3
  have m4 : (v.kind == 4) = false := by simpa using e4
  have m10 : (v.kind == 10) = false := by simpa using e10
  have m12 : (v.kind == 12) = false := by simpa using e12
  have m6 : (v.kind == 6) = false := by simpa using e6
  have m7 : (v.kind == 7) = false := by simpa using e7
  have m8 : (v.kind == 8) = false := by simpa using e8
  have m15 : (v.kind == 15) = false := by simpa using e15
  clear hD e1 e2 e3 e4 e10 e12 e6 e7 e8 e15
  go_enter Tryz.func71, Tryz.ntmps71
  go_upto_region 1 with fail
  have hb0 : Below w.heap.size w (w.alloc (.cells #[.int .i64 v.kind, .int .u64 v.num, .string v.text, (.slice p N c), .int .i64 v.elem] 25)) := ((Below.refl _ _).alloc (Nat.le_refl _) _)
  have ox := _root_.Go.heap_alloc_new w (.cells #[.int .i64 v.kind, .int .u64 v.num, .string v.text, (.slice p N c), .int .i64 v.elem] 25)
  generalize (w.alloc (.cells #[.int .i64 v.kind, .int .u64 v.num, .string v.text, (.slice p N c), .int .i64 v.elem] 25)) = w0 at *
  obtain ⟨x, hx⟩ : ∃ x, w.heap.size = x := ⟨_, rfl⟩
  rw [hx] at ox ⊢
  have HB0 := Lib.hid hb0
  have HOx := Lib.hid ox
  clear hb0 ox hx
  have x0 : w0.cell? ⟨x, 0, none⟩ = some (.int .i64 v.kind) := (cell_of_row _ _ 0 _ _ _ HOx.out).trans rfl
  go_wp2_with fail
  go_ret
  exact ⟨by rw [HDX.out]; rfl, HB0.out⟩


def textOk (k : Int) (t : ByteArray) : Bool := if k = 14 ∨ k = 17 then decide (t.size = 16) else if k = 19 then decide (utf8S t < 0) else if k = 20 then decide (asciiS t < 0) else true

set_option maxRecDepth 20000 in
set_option maxHeartbeats 4000000 in
theorem isText_any (v : V) (w : World) (s : Value) (h : VIn w v s) (hT : Tabs w) (hts : v.text.size ≤ 9223372036854775800) :
    Calls Tryz.prog 72 #[.agg #[.int .i64 v.kind, .int .u64 v.num, .string v.text, s, .int .i64 v.elem]] w fun e w' => e = .returned (.bool (textOk v.kind v.text)) ∧ Below w.heap.size w w' := by
  obtain ⟨p, c, hs, h1, h2, h3⟩ := h.slice
  obtain ⟨N, hN⟩ : ∃ N, v.list.length = N := ⟨_, rfl⟩
  rw [hN] at hs h1 h3
  subst hs
  unfold maxLen at h2
  obtain ⟨D, hD⟩ : ∃ D, textOk v.kind v.text = D := ⟨_, rfl⟩
  rw [hD]
  have HT := Lib.hid hT
  have HTS := Lib.hid hts
  have hts2 : v.text.size ≤ 9223372036854775807 := by omega
  clear h hN hT hts
  by_cases e14 : v.kind = 14
  · have HDX := Lib.hid (show D = decide (v.text.size = 16) by rw [← hD, e14]; simp [textOk])
    have E := Lib.hid e14
    clear hD e14
    go_enter Tryz.func72, Tryz.ntmps72
    go_upto_region 1 with fail
    have hb0 : Below w.heap.size w (w.alloc (.cells #[.int .i64 v.kind, .int .u64 v.num, .string v.text, (.slice p N c), .int .i64 v.elem] 25)) := ((Below.refl _ _).alloc (Nat.le_refl _) _)
    have ox := _root_.Go.heap_alloc_new w (.cells #[.int .i64 v.kind, .int .u64 v.num, .string v.text, (.slice p N c), .int .i64 v.elem] 25)
    generalize (w.alloc (.cells #[.int .i64 v.kind, .int .u64 v.num, .string v.text, (.slice p N c), .int .i64 v.elem] 25)) = w0 at *
    obtain ⟨x, hx⟩ : ∃ x, w.heap.size = x := ⟨_, rfl⟩
    rw [hx] at ox ⊢
    have HB0 := Lib.hid hb0
    have HOx := Lib.hid ox
    clear hb0 ox hx
    have x0 : w0.cell? ⟨x, 0, none⟩ = some (.int .i64 v.kind) := (cell_of_row _ _ 0 _ _ _ HOx.out).trans rfl
    have x2 : w0.cell? ⟨x, 2, none⟩ = some (.string v.text) := (cell_of_row _ _ 2 _ _ _ HOx.out).trans rfl
    rw [E.out] at x0
    have hsz : ((v.text.size : Int) == 16) = decide (v.text.size = 16) := by rw [Bool.eq_iff_iff]; simp; omega
    go_wp2_with fail
    all_goals
      go_ret
      first
        | exact ⟨by rw [HDX.out]; rfl, HB0.out⟩
        | (refine ⟨ret_boolV ?_, HB0.out⟩; rw [HDX.out, Bool.eq_iff_iff]; simp; try omega)
  by_cases e17 : v.kind = 17
  · have HDX := Lib.hid (show D = decide (v.text.size = 16) by rw [← hD, e17]; simp [textOk])
    have E := Lib.hid e17
    clear hD e17
    go_enter Tryz.func72, Tryz.ntmps72
    go_upto_region 1 with fail
    have hb0 : Below w.heap.size w (w.alloc (.cells #[.int .i64 v.kind, .int .u64 v.num, .string v.text, (.slice p N c), .int .i64 v.elem] 25)) := ((Below.refl _ _).alloc (Nat.le_refl _) _)
    have ox := _root_.Go.heap_alloc_new w (.cells #[.int .i64 v.kind, .int .u64 v.num, .string v.text, (.slice p N c), .int .i64 v.elem] 25)
    generalize (w.alloc (.cells #[.int .i64 v.kind, .int .u64 v.num, .string v.text, (.slice p N c), .int .i64 v.elem] 25)) = w0 at *
    obtain ⟨x, hx⟩ : ∃ x, w.heap.size = x := ⟨_, rfl⟩
    rw [hx] at ox ⊢
    have HB0 := Lib.hid hb0
    have HOx := Lib.hid ox
    clear hb0 ox hx
    have x0 : w0.cell? ⟨x, 0, none⟩ = some (.int .i64 v.kind) := (cell_of_row _ _ 0 _ _ _ HOx.out).trans rfl
    have x2 : w0.cell? ⟨x, 2, none⟩ = some (.string v.text) := (cell_of_row _ _ 2 _ _ _ HOx.out).trans rfl
    rw [E.out] at x0
    have hsz : ((v.text.size : Int) == 16) = decide (v.text.size = 16) := by rw [Bool.eq_iff_iff]; simp; omega
    go_wp2_with fail
    all_goals
      go_ret
      first
        | exact ⟨by rw [HDX.out]; rfl, HB0.out⟩
        | (refine ⟨ret_boolV ?_, HB0.out⟩; rw [HDX.out, Bool.eq_iff_iff]; simp; try omega)
  by_cases e19 : v.kind = 19
  · have HDX := Lib.hid (show D = decide (utf8S v.text < 0) by rw [← hD, e19]; simp [textOk])
    have E := Lib.hid e19
    clear hD e19
    go_enter Tryz.func72, Tryz.ntmps72
    go_upto_region 1 with fail
    have hb0 : Below w.heap.size w (w.alloc (.cells #[.int .i64 v.kind, .int .u64 v.num, .string v.text, (.slice p N c), .int .i64 v.elem] 25)) := ((Below.refl _ _).alloc (Nat.le_refl _) _)
    have ox := _root_.Go.heap_alloc_new w (.cells #[.int .i64 v.kind, .int .u64 v.num, .string v.text, (.slice p N c), .int .i64 v.elem] 25)
    generalize (w.alloc (.cells #[.int .i64 v.kind, .int .u64 v.num, .string v.text, (.slice p N c), .int .i64 v.elem] 25)) = w0 at *
    obtain ⟨x, hx⟩ : ∃ x, w.heap.size = x := ⟨_, rfl⟩
    rw [hx] at ox ⊢
    have HB0 := Lib.hid hb0
    have HOx := Lib.hid ox
    clear hb0 ox hx
    have x0 : w0.cell? ⟨x, 0, none⟩ = some (.int .i64 v.kind) := (cell_of_row _ _ 0 _ _ _ HOx.out).trans rfl
    have x2 : w0.cell? ⟨x, 2, none⟩ = some (.string v.text) := (cell_of_row _ _ 2 _ _ _ HOx.out).trans rfl
    rw [E.out] at x0
    have hc := utf8_any v.text w0 HTS.out (HT.out.below HB0.out)
    go_wp2_with fail
    refine hc.mono ?_
    clear hc
    rintro e w1 ⟨rfl, hb1⟩
    go_wp2_with fail
    go_ret
    exact ⟨by rw [HDX.out]; rfl, HB0.out.trans (hb1.mono HB0.out.size)⟩
  by_cases e20 : v.kind = 20
  · have HDX := Lib.hid (show D = decide (asciiS v.text < 0) by rw [← hD, e20]; simp [textOk])
    have E := Lib.hid e20
    clear hD e20
    go_enter Tryz.func72, Tryz.ntmps72
    go_upto_region 1 with fail
    have hb0 : Below w.heap.size w (w.alloc (.cells #[.int .i64 v.kind, .int .u64 v.num, .string v.text, (.slice p N c), .int .i64 v.elem] 25)) := ((Below.refl _ _).alloc (Nat.le_refl _) _)
    have ox := _root_.Go.heap_alloc_new w (.cells #[.int .i64 v.kind, .int .u64 v.num, .string v.text, (.slice p N c), .int .i64 v.elem] 25)
    generalize (w.alloc (.cells #[.int .i64 v.kind, .int .u64 v.num, .string v.text, (.slice p N c), .int .i64 v.elem] 25)) = w0 at *
    obtain ⟨x, hx⟩ : ∃ x, w.heap.size = x := ⟨_, rfl⟩
    rw [hx] at ox ⊢
    have HB0 := Lib.hid hb0
    have HOx := Lib.hid ox
    clear hb0 ox hx
    have x0 : w0.cell? ⟨x, 0, none⟩ = some (.int .i64 v.kind) := (cell_of_row _ _ 0 _ _ _ HOx.out).trans rfl
    have x2 : w0.cell? ⟨x, 2, none⟩ = some (.string v.text) := (cell_of_row _ _ 2 _ _ _ HOx.out).trans rfl
    rw [E.out] at x0
    have hc := ascii_any v.text w0 (by have := HTS.out; omega)
    go_wp2_with fail
    refine hc.mono ?_
    clear hc
    rintro e w1 ⟨rfl, rfl⟩
    go_wp2_with fail
    go_ret
    exact ⟨by rw [HDX.out]; rfl, HB0.out⟩
  have HDX := Lib.hid (show D = true by rw [← hD]; simp [textOk, e14, e17, e19, e20])
  have m14 : (v.kind == 14) = false := by simpa using e14
  have m17 : (v.kind == 17) = false := by simpa using e17
  have m19 : (v.kind == 19) = false := by simpa using e19
  have m20 : (v.kind == 20) = false := by simpa using e20
  clear hD e14 e17 e19 e20
  go_enter Tryz.func72, Tryz.ntmps72
  go_upto_region 1 with fail
  have hb0 : Below w.heap.size w (w.alloc (.cells #[.int .i64 v.kind, .int .u64 v.num, .string v.text, (.slice p N c), .int .i64 v.elem] 25)) := ((Below.refl _ _).alloc (Nat.le_refl _) _)
  have ox := _root_.Go.heap_alloc_new w (.cells #[.int .i64 v.kind, .int .u64 v.num, .string v.text, (.slice p N c), .int .i64 v.elem] 25)
  generalize (w.alloc (.cells #[.int .i64 v.kind, .int .u64 v.num, .string v.text, (.slice p N c), .int .i64 v.elem] 25)) = w0 at *
  obtain ⟨x, hx⟩ : ∃ x, w.heap.size = x := ⟨_, rfl⟩
  rw [hx] at ox ⊢
  have HB0 := Lib.hid hb0
  have HOx := Lib.hid ox
  clear hb0 ox hx
  have x0 : w0.cell? ⟨x, 0, none⟩ = some (.int .i64 v.kind) := (cell_of_row _ _ 0 _ _ _ HOx.out).trans rfl
  go_wp2_with fail
  go_ret
  exact ⟨by rw [HDX.out]; rfl, HB0.out⟩

end Go.Proofs.YtnnnfhobbnjmfaaGreatDoor
