/-
  extra, isNum, isText. Conditions: the values lie in memory.
-/
import Derived.Test.YtjipennigjlklaaDoorMg07
namespace Go.Proofs.YtjipennigjlklaaDoor
open Go.RowKit
set_option linter.unusedVariables false

theorem emp_t (s : ByteArray) : (s.toList == []) = decide (s = ⟨#[]⟩) := by
  rw [ByteArray.toList_eq, Bool.eq_iff_iff]
  simp only [beq_iff_eq, decide_eq_true_eq]
  exact ⟨fun h => by cases s; congr 1; exact Array.toList_inj.1 h, fun h => by rw [h]⟩
def extraV (v : V) : Bool := (!hasN v.kind && !decide (v.num = 0)) || (!hasT v.kind && !decide (v.text = ⟨#[]⟩)) || (!hasP v.kind && decide (0 < v.list.length)) || (!decide (v.kind = 23) && !decide (v.elem = 0))

set_option maxRecDepth 20000 in
set_option maxHeartbeats 4000000 in
theorem extra_any (v : V) (w : World) (s : Value) (h : VIn w v s) :
    Calls Tryd.prog 37 #[.agg #[.int .i64 v.kind, .int .u64 v.num, .string v.text, s, .int .i64 v.elem]] w fun e w' => e = .returned (.bool (extraV v)) ∧ Below w.heap.size w w' := by
  obtain ⟨p, c, hs, h1, h2, h3⟩ := h.slice
  obtain ⟨N, hN⟩ : ∃ N, v.list.length = N := ⟨_, rfl⟩
  rw [hN] at hs h1 h3
  subst hs
  unfold maxLen at h2
  obtain ⟨D, hD⟩ : ∃ D, extraV v = D := ⟨_, rfl⟩
  rw [hD]
  have hh := fun W => has_any v.kind W
  unfold extraV at hD
  rw [hN] at hD
  obtain ⟨b1, hb1⟩ : ∃ b, hasN v.kind = b := ⟨_, rfl⟩
  obtain ⟨b2, hb2⟩ : ∃ b, hasT v.kind = b := ⟨_, rfl⟩
  obtain ⟨b3, hb3⟩ : ∃ b, hasP v.kind = b := ⟨_, rfl⟩
  rw [hb1, hb2, hb3] at hh hD
  obtain ⟨z1, hz1⟩ : ∃ b, decide (v.num = 0) = b := ⟨_, rfl⟩
  obtain ⟨z2, hz2⟩ : ∃ b, decide (v.text = ⟨#[]⟩) = b := ⟨_, rfl⟩
  obtain ⟨z3, hz3⟩ : ∃ b, decide (0 < N) = b := ⟨_, rfl⟩
  obtain ⟨z4, hz4⟩ : ∃ b, decide (v.kind = 23) = b := ⟨_, rfl⟩
  obtain ⟨z5, hz5⟩ : ∃ b, decide (v.elem = 0) = b := ⟨_, rfl⟩
  rw [hz1, hz2, hz3, hz4, hz5] at hD
  have f1 : (v.num == 0) = z1 := by rw [← hz1]; rfl
  have f2 : (v.text.toList == []) = z2 := by rw [emp_t]; exact hz2
  have f3 : decide ((0 : Int) < N) = z3 := by rw [← hz3, decide_eq_decide]; omega
  have f3n : decide (0 < N) = z3 := hz3
  have f4 : (v.kind == 23) = z4 := by rw [← hz4]; rfl
  have f5 : (v.elem == 0) = z5 := by rw [← hz5]; rfl
  have g1 : (v.num != 0) = !z1 := by rw [← f1]; rfl
  have g2 : (v.text.toList != []) = !z2 := by rw [← f2]; rfl
  have g4 : (v.kind != 23) = !z4 := by rw [← f4]; rfl
  have g5 : (v.elem != 0) = !z5 := by rw [← f5]; rfl
  have HH := Lib.hid hh
  have HF := Lib.hid (And.intro f1 (And.intro f2 (And.intro f3 (And.intro f4 (And.intro f5 (And.intro g1 (And.intro g2 (And.intro g4 (And.intro g5 f3n)))))))))
  have HD := Lib.hid hD
  clear hh hD hb1 hb2 hb3 h hN hz1 hz2 hz3 hz4 hz5 f1 f2 f3 f4 f5 g1 g2 g4 g5 f3n
  go_enter Tryd.func37, Tryd.ntmps37
  go_upto_region 1 with fail
  have hb0 : Below w.heap.size w (w.alloc (.cells #[.int .i64 v.kind, .int .u64 v.num, .string v.text, (.slice p N c), .int .i64 v.elem] 25)) := ((Below.refl _ _).alloc (Nat.le_refl _) _)
  have ox : (w.alloc (.cells #[.int .i64 v.kind, .int .u64 v.num, .string v.text, (.slice p N c), .int .i64 v.elem] 25)).heap[w.heap.size]? = some (.cells #[.int .i64 v.kind, .int .u64 v.num, .string v.text, (.slice p N c), .int .i64 v.elem] 25 (0, 0)) := _root_.Go.heap_alloc_new _ _
  generalize (w.alloc (.cells #[.int .i64 v.kind, .int .u64 v.num, .string v.text, (.slice p N c), .int .i64 v.elem] 25)) = w0 at *
  obtain ⟨x, hx⟩ : ∃ x, w.heap.size = x := ⟨_, rfl⟩
  rw [hx] at ox ⊢
  have HB0 := Lib.hid hb0
  have HOx := Lib.hid ox
  clear hb0 ox hx
  have x0 : w0.cell? ⟨x, 0, none⟩ = some (.int .i64 v.kind) := (cell_of_row _ _ 0 _ _ _ HOx.out).trans rfl
  have x1 : w0.cell? ⟨x, 1, none⟩ = some (.int .u64 v.num) := (cell_of_row _ _ 1 _ _ _ HOx.out).trans rfl
  have x2 : w0.cell? ⟨x, 2, none⟩ = some (.string v.text) := (cell_of_row _ _ 2 _ _ _ HOx.out).trans rfl
  have x3 : w0.cell? ⟨x, 3, none⟩ = some (.slice p N c) := (cell_of_row _ _ 3 _ _ _ HOx.out).trans rfl
  have x4 : w0.cell? ⟨x, 4, none⟩ = some (.int .i64 v.elem) := (cell_of_row _ _ 4 _ _ _ HOx.out).trans rfl
  have hh := HH.out w0
  go_wp2_with fail
  refine hh.mono ?_
  clear hh
  rintro e w1 ⟨rfl, rfl⟩
  obtain ⟨f1, f2, f3, f4, f5, g1, g2, g4, g5, f3n⟩ := HF.out
  have HD2 := HD.out
  cases b1
  · cases z1
    ·
      simp only [Bool.not_false, Bool.true_or, Bool.and_self] at HD2
      subst HD2
      try simp only [Bool.not_false] at g1
      try simp only [Bool.not_true, Bool.not_false] at g2
      try simp only [Bool.not_true, Bool.not_false] at g4
      try simp only [Bool.not_true, Bool.not_false] at g5
      go_wp2_with fail
      all_goals
        go_ret
        exact ⟨rfl, HB0.out⟩
    ·
      cases b2
      · cases z2
        ·
          simp only [Bool.not_true, Bool.not_false, Bool.or_true, Bool.true_or, Bool.and_false, Bool.and_self] at HD2
          subst HD2
          try simp only [Bool.not_true] at g1
          try simp only [Bool.not_false] at g2
          try simp only [Bool.not_true, Bool.not_false] at g4
          try simp only [Bool.not_true, Bool.not_false] at g5
          go_wp2_with fail
          all_goals
            go_ret
            exact ⟨rfl, HB0.out⟩
        ·
          cases b3
          · cases z3
            ·
              cases z4
              · cases z5
                ·
                  simp only [Bool.not_true, Bool.not_false, Bool.or_true, Bool.and_false, Bool.or_self, Bool.and_self] at HD2
                  subst HD2
                  try simp only [Bool.not_true] at g1
                  try simp only [Bool.not_true] at g2
                  try simp only [Bool.not_false] at g4
                  try simp only [Bool.not_false] at g5
                  go_wp2_with fail
                  all_goals
                    go_ret
                    exact ⟨rfl, HB0.out⟩
                ·
                  simp only [Bool.not_true, Bool.not_false, Bool.and_false, Bool.or_self] at HD2
                  subst HD2
                  try simp only [Bool.not_true] at g1
                  try simp only [Bool.not_true] at g2
                  try simp only [Bool.not_false] at g4
                  try simp only [Bool.not_true] at g5
                  go_wp2_with fail
                  all_goals
                    go_ret
                    exact ⟨rfl, HB0.out⟩
              ·
                simp only [Bool.not_true, Bool.not_false, Bool.false_and, Bool.and_false, Bool.or_self] at HD2
                subst HD2
                try simp only [Bool.not_true] at g1
                try simp only [Bool.not_true] at g2
                try simp only [Bool.not_true] at g4
                try simp only [Bool.not_true, Bool.not_false] at g5
                go_wp2_with fail
                all_goals
                  go_ret
                  exact ⟨rfl, HB0.out⟩
            ·
              simp only [Bool.not_true, Bool.not_false, Bool.or_true, Bool.true_or, Bool.and_false, Bool.or_self, Bool.and_self] at HD2
              subst HD2
              try simp only [Bool.not_true] at g1
              try simp only [Bool.not_true] at g2
              try simp only [Bool.not_true, Bool.not_false] at g4
              try simp only [Bool.not_true, Bool.not_false] at g5
              go_wp2_with fail
              all_goals
                go_ret
                exact ⟨rfl, HB0.out⟩
          ·
            cases z4
            · cases z5
              ·
                simp only [Bool.not_true, Bool.not_false, Bool.false_and, Bool.or_true, Bool.and_false, Bool.or_self, Bool.and_self] at HD2
                subst HD2
                try simp only [Bool.not_true] at g1
                try simp only [Bool.not_true] at g2
                try simp only [Bool.not_false] at g4
                try simp only [Bool.not_false] at g5
                go_wp2_with fail
                all_goals
                  go_ret
                  exact ⟨rfl, HB0.out⟩
              ·
                simp only [Bool.not_true, Bool.not_false, Bool.false_and, Bool.and_false, Bool.or_self] at HD2
                subst HD2
                try simp only [Bool.not_true] at g1
                try simp only [Bool.not_true] at g2
                try simp only [Bool.not_false] at g4
                try simp only [Bool.not_true] at g5
                go_wp2_with fail
                all_goals
                  go_ret
                  exact ⟨rfl, HB0.out⟩
            ·
              simp only [Bool.not_true, Bool.not_false, Bool.false_and, Bool.and_false, Bool.or_self] at HD2
              subst HD2
              try simp only [Bool.not_true] at g1
              try simp only [Bool.not_true] at g2
              try simp only [Bool.not_true] at g4
              try simp only [Bool.not_true, Bool.not_false] at g5
              go_wp2_with fail
              all_goals
                go_ret
                exact ⟨rfl, HB0.out⟩
      ·
        cases b3
        · cases z3
          ·
            cases z4
            · cases z5
              ·
                simp only [Bool.not_true, Bool.not_false, Bool.false_and, Bool.or_true, Bool.and_false, Bool.or_self, Bool.and_self] at HD2
                subst HD2
                try simp only [Bool.not_true] at g1
                try simp only [Bool.not_true, Bool.not_false] at g2
                try simp only [Bool.not_false] at g4
                try simp only [Bool.not_false] at g5
                go_wp2_with fail
                all_goals
                  go_ret
                  exact ⟨rfl, HB0.out⟩
              ·
                simp only [Bool.not_true, Bool.not_false, Bool.false_and, Bool.and_false, Bool.or_self] at HD2
                subst HD2
                try simp only [Bool.not_true] at g1
                try simp only [Bool.not_true, Bool.not_false] at g2
                try simp only [Bool.not_false] at g4
                try simp only [Bool.not_true] at g5
                go_wp2_with fail
                all_goals
                  go_ret
                  exact ⟨rfl, HB0.out⟩
            ·
              simp only [Bool.not_true, Bool.not_false, Bool.false_and, Bool.and_false, Bool.or_self] at HD2
              subst HD2
              try simp only [Bool.not_true] at g1
              try simp only [Bool.not_true, Bool.not_false] at g2
              try simp only [Bool.not_true] at g4
              try simp only [Bool.not_true, Bool.not_false] at g5
              go_wp2_with fail
              all_goals
                go_ret
                exact ⟨rfl, HB0.out⟩
          ·
            simp only [Bool.not_true, Bool.not_false, Bool.false_and, Bool.or_true, Bool.true_or, Bool.and_false, Bool.or_self, Bool.and_self] at HD2
            subst HD2
            try simp only [Bool.not_true] at g1
            try simp only [Bool.not_true, Bool.not_false] at g2
            try simp only [Bool.not_true, Bool.not_false] at g4
            try simp only [Bool.not_true, Bool.not_false] at g5
            go_wp2_with fail
            all_goals
              go_ret
              exact ⟨rfl, HB0.out⟩
        ·
          cases z4
          · cases z5
            ·
              simp only [Bool.not_true, Bool.not_false, Bool.false_and, Bool.or_true, Bool.and_false, Bool.or_self, Bool.and_self] at HD2
              subst HD2
              try simp only [Bool.not_true] at g1
              try simp only [Bool.not_true, Bool.not_false] at g2
              try simp only [Bool.not_false] at g4
              try simp only [Bool.not_false] at g5
              go_wp2_with fail
              all_goals
                go_ret
                exact ⟨rfl, HB0.out⟩
            ·
              simp only [Bool.not_true, Bool.not_false, Bool.false_and, Bool.and_false, Bool.or_self] at HD2
              subst HD2
              try simp only [Bool.not_true] at g1
              try simp only [Bool.not_true, Bool.not_false] at g2
              try simp only [Bool.not_false] at g4
              try simp only [Bool.not_true] at g5
              go_wp2_with fail
              all_goals
                go_ret
                exact ⟨rfl, HB0.out⟩
          ·
            simp only [Bool.not_true, Bool.not_false, Bool.false_and, Bool.and_false, Bool.or_self] at HD2
            subst HD2
            try simp only [Bool.not_true] at g1
            try simp only [Bool.not_true, Bool.not_false] at g2
            try simp only [Bool.not_true] at g4
            try simp only [Bool.not_true, Bool.not_false] at g5
            go_wp2_with fail
            all_goals
              go_ret
              exact ⟨rfl, HB0.out⟩
  ·
    cases b2
    · cases z2
      ·
        simp only [Bool.not_true, Bool.not_false, Bool.false_and, Bool.or_true, Bool.true_or, Bool.and_self] at HD2
        subst HD2
        try simp only [Bool.not_true, Bool.not_false] at g1
        try simp only [Bool.not_false] at g2
        try simp only [Bool.not_true, Bool.not_false] at g4
        try simp only [Bool.not_true, Bool.not_false] at g5
        go_wp2_with fail
        all_goals
          go_ret
          exact ⟨rfl, HB0.out⟩
      ·
        cases b3
        · cases z3
          ·
            cases z4
            · cases z5
              ·
                simp only [Bool.not_true, Bool.not_false, Bool.false_and, Bool.or_true, Bool.and_false, Bool.or_self, Bool.and_self] at HD2
                subst HD2
                try simp only [Bool.not_true, Bool.not_false] at g1
                try simp only [Bool.not_true] at g2
                try simp only [Bool.not_false] at g4
                try simp only [Bool.not_false] at g5
                go_wp2_with fail
                all_goals
                  go_ret
                  exact ⟨rfl, HB0.out⟩
              ·
                simp only [Bool.not_true, Bool.not_false, Bool.false_and, Bool.and_false, Bool.or_self] at HD2
                subst HD2
                try simp only [Bool.not_true, Bool.not_false] at g1
                try simp only [Bool.not_true] at g2
                try simp only [Bool.not_false] at g4
                try simp only [Bool.not_true] at g5
                go_wp2_with fail
                all_goals
                  go_ret
                  exact ⟨rfl, HB0.out⟩
            ·
              simp only [Bool.not_true, Bool.not_false, Bool.false_and, Bool.and_false, Bool.or_self] at HD2
              subst HD2
              try simp only [Bool.not_true, Bool.not_false] at g1
              try simp only [Bool.not_true] at g2
              try simp only [Bool.not_true] at g4
              try simp only [Bool.not_true, Bool.not_false] at g5
              go_wp2_with fail
              all_goals
                go_ret
                exact ⟨rfl, HB0.out⟩
          ·
            simp only [Bool.not_true, Bool.not_false, Bool.false_and, Bool.or_true, Bool.true_or, Bool.and_false, Bool.or_self, Bool.and_self] at HD2
            subst HD2
            try simp only [Bool.not_true, Bool.not_false] at g1
            try simp only [Bool.not_true] at g2
            try simp only [Bool.not_true, Bool.not_false] at g4
            try simp only [Bool.not_true, Bool.not_false] at g5
            go_wp2_with fail
            all_goals
              go_ret
              exact ⟨rfl, HB0.out⟩
        ·
          cases z4
          · cases z5
            ·
              simp only [Bool.not_true, Bool.not_false, Bool.false_and, Bool.or_true, Bool.and_false, Bool.or_self, Bool.and_self] at HD2
              subst HD2
              try simp only [Bool.not_true, Bool.not_false] at g1
              try simp only [Bool.not_true] at g2
              try simp only [Bool.not_false] at g4
              try simp only [Bool.not_false] at g5
              go_wp2_with fail
              all_goals
                go_ret
                exact ⟨rfl, HB0.out⟩
            ·
              simp only [Bool.not_true, Bool.not_false, Bool.false_and, Bool.and_false, Bool.or_self] at HD2
              subst HD2
              try simp only [Bool.not_true, Bool.not_false] at g1
              try simp only [Bool.not_true] at g2
              try simp only [Bool.not_false] at g4
              try simp only [Bool.not_true] at g5
              go_wp2_with fail
              all_goals
                go_ret
                exact ⟨rfl, HB0.out⟩
          ·
            simp only [Bool.not_true, Bool.not_false, Bool.false_and, Bool.and_false, Bool.or_self] at HD2
            subst HD2
            try simp only [Bool.not_true, Bool.not_false] at g1
            try simp only [Bool.not_true] at g2
            try simp only [Bool.not_true] at g4
            try simp only [Bool.not_true, Bool.not_false] at g5
            go_wp2_with fail
            all_goals
              go_ret
              exact ⟨rfl, HB0.out⟩
    ·
      cases b3
      · cases z3
        ·
          cases z4
          · cases z5
            ·
              simp only [Bool.not_true, Bool.not_false, Bool.false_and, Bool.or_true, Bool.and_false, Bool.or_self, Bool.and_self] at HD2
              subst HD2
              try simp only [Bool.not_true, Bool.not_false] at g1
              try simp only [Bool.not_true, Bool.not_false] at g2
              try simp only [Bool.not_false] at g4
              try simp only [Bool.not_false] at g5
              go_wp2_with fail
              all_goals
                go_ret
                exact ⟨rfl, HB0.out⟩
            ·
              simp only [Bool.not_true, Bool.not_false, Bool.false_and, Bool.and_false, Bool.or_self] at HD2
              subst HD2
              try simp only [Bool.not_true, Bool.not_false] at g1
              try simp only [Bool.not_true, Bool.not_false] at g2
              try simp only [Bool.not_false] at g4
              try simp only [Bool.not_true] at g5
              go_wp2_with fail
              all_goals
                go_ret
                exact ⟨rfl, HB0.out⟩
          ·
            simp only [Bool.not_true, Bool.not_false, Bool.false_and, Bool.and_false, Bool.or_self] at HD2
            subst HD2
            try simp only [Bool.not_true, Bool.not_false] at g1
            try simp only [Bool.not_true, Bool.not_false] at g2
            try simp only [Bool.not_true] at g4
            try simp only [Bool.not_true, Bool.not_false] at g5
            go_wp2_with fail
            all_goals
              go_ret
              exact ⟨rfl, HB0.out⟩
        ·
          simp only [Bool.not_true, Bool.not_false, Bool.false_and, Bool.or_true, Bool.true_or, Bool.or_self, Bool.and_self] at HD2
          subst HD2
          try simp only [Bool.not_true, Bool.not_false] at g1
          try simp only [Bool.not_true, Bool.not_false] at g2
          try simp only [Bool.not_true, Bool.not_false] at g4
          try simp only [Bool.not_true, Bool.not_false] at g5
          go_wp2_with fail
          all_goals
            go_ret
            exact ⟨rfl, HB0.out⟩
      ·
        cases z4
        · cases z5
          ·
            simp only [Bool.not_true, Bool.not_false, Bool.false_and, Bool.or_true, Bool.or_self, Bool.and_self] at HD2
            subst HD2
            try simp only [Bool.not_true, Bool.not_false] at g1
            try simp only [Bool.not_true, Bool.not_false] at g2
            try simp only [Bool.not_false] at g4
            try simp only [Bool.not_false] at g5
            go_wp2_with fail
            all_goals
              go_ret
              exact ⟨rfl, HB0.out⟩
          ·
            simp only [Bool.not_true, Bool.not_false, Bool.false_and, Bool.and_false, Bool.or_self] at HD2
            subst HD2
            try simp only [Bool.not_true, Bool.not_false] at g1
            try simp only [Bool.not_true, Bool.not_false] at g2
            try simp only [Bool.not_false] at g4
            try simp only [Bool.not_true] at g5
            go_wp2_with fail
            all_goals
              go_ret
              exact ⟨rfl, HB0.out⟩
        ·
          simp only [Bool.not_true, Bool.false_and, Bool.or_self] at HD2
          subst HD2
          try simp only [Bool.not_true, Bool.not_false] at g1
          try simp only [Bool.not_true, Bool.not_false] at g2
          try simp only [Bool.not_true] at g4
          try simp only [Bool.not_true, Bool.not_false] at g5
          go_wp2_with fail
          all_goals
            go_ret
            exact ⟨rfl, HB0.out⟩

end Go.Proofs.YtjipennigjlklaaDoor
