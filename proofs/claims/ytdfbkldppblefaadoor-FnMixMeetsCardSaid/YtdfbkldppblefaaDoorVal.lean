/-
  Contracts of the functions on single values: within, StuffValid, GradeValid and the like, in the program and in the reference. Each returns what the plain function says and writes nothing that was there.
-/
import Derived.Test.YtdfbkldppblefaaDoorProg
import Derived.Test.YtdfbkldppblefaaDoorMem
import Derived.Test.YtdfbkldppblefaaDoorPlain
namespace Go.Proofs.YtdfbkldppblefaaDoor
open Go.RowKit

theorem within_any (n lo hi : Int) (w : World) : Calls Tryd.prog 51 #[.int .i64 n, .int .i64 lo, .int .i64 hi] w fun e w' => e = .returned (.bool (inB n lo hi)) ∧ w = w' := by
  unfold inB
  by_cases h1 : lo ≤ n <;> by_cases h2 : n ≤ hi
  all_goals
    go_enter Tryd.func51, Tryd.ntmps51
    go_wp2
    go_ret
    exact ⟨by simp [h1, h2], rfl⟩
theorem l1In_any (n lo hi : Int) (w : World) : Calls Tryd.prog 52 #[.int .i64 n, .int .i64 lo, .int .i64 hi] w fun e w' => e = .returned (.bool (inB n lo hi)) ∧ w = w' := by
  unfold inB
  by_cases h1 : lo ≤ n <;> by_cases h2 : n ≤ hi
  all_goals
    go_enter Tryd.func52, Tryd.ntmps52
    go_wp2
    go_ret
    exact ⟨by simp [h1, h2], rfl⟩
theorem l1Range_any (lo hi : Int) (w : World) : Calls Tryd.prog 55 #[.int .i64 lo, .int .i64 hi] w fun e w' => e = .returned (.bool (rangeOk lo hi)) ∧ w = w' := by
  go_enter Tryd.func55, Tryd.ntmps55
  go_wp2_with (go_at_call 52; refine (l1In_any _ _ _ _).mono ?_; rintro e w' ⟨rfl, rfl⟩)
  all_goals
    go_ret
    exact ⟨ret_bool (by simp [rangeOk, *]), rfl⟩
theorem stuffValid_any (a b c d e : Int) (w : World) : Calls Tryd.prog 15 #[.agg #[.int .i64 a, .int .i64 b, .int .i64 c, .int .i64 d, .int .i64 e]] w fun E w' => E = .returned (.bool (stuffOk ⟨a, b, c, d, e⟩)) ∧ Below w.heap.size w w' := by
  go_enter Tryd.func15, Tryd.ntmps15
  go_wp2_with (go_at_call 51; refine (within_any _ _ _ _).mono ?_; rintro e w' ⟨rfl, rfl⟩)
  all_goals
    go_ret
    exact ⟨ret_bool (by simp [stuffOk, *]), (Below.refl _ _).alloc (Nat.le_refl _) _⟩
theorem sStuffValid_any (a b c d e : Int) (w : World) : Calls Tryd.prog 16 #[.agg #[.int .i64 a, .int .i64 b, .int .i64 c, .int .i64 d, .int .i64 e]] w fun E w' => E = .returned (.bool (stuffOk ⟨a, b, c, d, e⟩)) ∧ Below w.heap.size w w' := by
  go_enter Tryd.func16, Tryd.ntmps16
  go_wp2_with (go_at_call 52; refine (l1In_any _ _ _ _).mono ?_; rintro e w' ⟨rfl, rfl⟩)
  all_goals
    go_ret
    exact ⟨ret_bool (by simp [stuffOk, *]), (Below.refl _ _).alloc (Nat.le_refl _) _⟩
theorem gradeValid_any (a b c d e f : Int) (w : World) : Calls Tryd.prog 19 #[.agg #[.int .i64 a, .int .i64 b, .int .i64 c, .int .i64 d, .int .i64 e, .int .i64 f]] w fun E w' => E = .returned (.bool (gradeOk ⟨a, b, c, d, e, f⟩)) ∧ Below w.heap.size w w' := by
  go_enter Tryd.func19, Tryd.ntmps19
  go_wp2_with (first | (go_at_call 51; refine (within_any _ _ _ _).mono ?_; rintro e w' ⟨rfl, rfl⟩))
  all_goals
    go_ret
    exact ⟨ret_bool (by simp [gradeOk, rangeOk, *]), (Below.refl _ _).alloc (Nat.le_refl _) _⟩
theorem sGradeValid_any (a b c d e f : Int) (w : World) : Calls Tryd.prog 20 #[.agg #[.int .i64 a, .int .i64 b, .int .i64 c, .int .i64 d, .int .i64 e, .int .i64 f]] w fun E w' => E = .returned (.bool (gradeOk ⟨a, b, c, d, e, f⟩)) ∧ Below w.heap.size w w' := by
  go_enter Tryd.func20, Tryd.ntmps20
  go_wp2_with (first | (go_at_call 55; refine (l1Range_any _ _ _).mono ?_; rintro e w' ⟨rfl, rfl⟩))
  all_goals
    go_ret
    exact ⟨ret_bool (by simp [gradeOk, *]), (Below.refl _ _).alloc (Nat.le_refl _) _⟩
theorem gradeWithin_any (a b c d e f a' b' c' d' e' f' : Int) (w : World) : Calls Tryd.prog 25 #[.agg #[.int .i64 a, .int .i64 b, .int .i64 c, .int .i64 d, .int .i64 e, .int .i64 f], .agg #[.int .i64 a', .int .i64 b', .int .i64 c', .int .i64 d', .int .i64 e', .int .i64 f']] w fun E w' => E = .returned (.bool (gradeIn ⟨a, b, c, d, e, f⟩ ⟨a', b', c', d', e', f'⟩)) ∧ Below w.heap.size w w' := by
  go_enter Tryd.func25, Tryd.ntmps25
  go_wp2_with fail
  have hx := boxed2 w #[.int .i64 a, .int .i64 b, .int .i64 c, .int .i64 d, .int .i64 e, .int .i64 f] #[.int .i64 a', .int .i64 b', .int .i64 c', .int .i64 d', .int .i64 e', .int .i64 f'] 30 30
  generalize hE : World.alloc _ _ = W
  rw [hE] at hx
  clear hE
  obtain ⟨hbW, hs0, hs1, hc0, hc1⟩ := hx
  refine (gradeValid_any _ _ _ _ _ _ _).mono ?_
  rintro _ w1 ⟨rfl, hb⟩
  obtain ⟨hc, _⟩ := below_cells hb
  cases hg : gradeOk ⟨a, b, c, d, e, f⟩ with
  | false =>
    go_wp2_with fail
    go_ret
    exact ⟨ret_bool (by simp [gradeIn, hg]), below_next hbW hb⟩
  | true =>
    go_wp2_with fail
    refine (gradeValid_any _ _ _ _ _ _ _).mono ?_
    rintro _ w2 ⟨rfl, hb2⟩
    replace hb := below_next hb hb2
    clear hb2 hc
    obtain ⟨hc, _⟩ := below_cells hb
    cases hg' : gradeOk ⟨a', b', c', d', e', f'⟩ with
    | false =>
      go_wp2_with fail
      go_ret
      exact ⟨ret_bool (by simp [gradeIn, hg']), below_next hbW hb⟩
    | true =>
      go_wp2_with fail
      all_goals
        go_ret
        exact ⟨ret_bool (by first | (simp [gradeIn, leB, *]; done) | (simp [gradeIn, leB, *]; omega)), below_next hbW hb⟩
theorem sGradeWithin_any (a b c d e f a' b' c' d' e' f' : Int) (w : World) : Calls Tryd.prog 26 #[.agg #[.int .i64 a, .int .i64 b, .int .i64 c, .int .i64 d, .int .i64 e, .int .i64 f], .agg #[.int .i64 a', .int .i64 b', .int .i64 c', .int .i64 d', .int .i64 e', .int .i64 f']] w fun E w' => E = .returned (.bool (gradeIn ⟨a, b, c, d, e, f⟩ ⟨a', b', c', d', e', f'⟩)) ∧ Below w.heap.size w w' := by
  go_enter Tryd.func26, Tryd.ntmps26
  go_wp2_with fail
  have hx := boxed2 w #[.int .i64 a, .int .i64 b, .int .i64 c, .int .i64 d, .int .i64 e, .int .i64 f] #[.int .i64 a', .int .i64 b', .int .i64 c', .int .i64 d', .int .i64 e', .int .i64 f'] 30 30
  generalize hE : World.alloc _ _ = W
  rw [hE] at hx
  clear hE
  obtain ⟨hbW, hs0, hs1, hc0, hc1⟩ := hx
  refine (sGradeValid_any _ _ _ _ _ _ _).mono ?_
  rintro _ w1 ⟨rfl, hb⟩
  obtain ⟨hc, _⟩ := below_cells hb
  cases hg : gradeOk ⟨a, b, c, d, e, f⟩ with
  | false =>
    go_wp2_with fail
    go_ret
    exact ⟨ret_bool (by simp [gradeIn, hg]), below_next hbW hb⟩
  | true =>
    go_wp2_with fail
    refine (sGradeValid_any _ _ _ _ _ _ _).mono ?_
    rintro _ w2 ⟨rfl, hb2⟩
    replace hb := below_next hb hb2
    clear hb2 hc
    obtain ⟨hc, _⟩ := below_cells hb
    cases hg' : gradeOk ⟨a', b', c', d', e', f'⟩ with
    | false =>
      go_wp2_with fail
      go_ret
      exact ⟨ret_bool (by simp [gradeIn, hg']), below_next hbW hb⟩
    | true =>
      go_wp2_with fail
      all_goals
        go_ret
        exact ⟨ret_bool (by first | (simp [gradeIn, leB, *]; done) | (simp [gradeIn, leB, *]; omega)), below_next hbW hb⟩
end Go.Proofs.YtdfbkldppblefaaDoor
