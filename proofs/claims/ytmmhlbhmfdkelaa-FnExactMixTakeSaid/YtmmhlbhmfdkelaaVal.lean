/-
  Contracts of the functions on single values: within, StuffValid, GradeValid and the like, in the program and in the reference. Each returns what the plain function says and writes nothing that was there.
-/
import Derived.Test.YtmmhlbhmfdkelaaProg
import Derived.Test.YtmmhlbhmfdkelaaMem
import Derived.Test.YtmmhlbhmfdkelaaPlain
namespace Go.Proofs.Ytmmhlbhmfdkelaa
open Go.RowKit

theorem within_any (n lo hi : Int) (w : World) : Calls Try.prog 49 #[.int .i64 n, .int .i64 lo, .int .i64 hi] w fun e w' => e = .returned (.bool (inB n lo hi)) ∧ w = w' := by
  unfold inB
  by_cases h1 : lo ≤ n <;> by_cases h2 : n ≤ hi
  all_goals
    go_enter Try.func49, Try.ntmps49
    go_wp2
    go_ret
    exact ⟨by simp [h1, h2], rfl⟩
theorem l1In_any (n lo hi : Int) (w : World) : Calls Try.prog 48 #[.int .i64 n, .int .i64 lo, .int .i64 hi] w fun e w' => e = .returned (.bool (inB n lo hi)) ∧ w = w' := by
  unfold inB
  by_cases h1 : lo ≤ n <;> by_cases h2 : n ≤ hi
  all_goals
    go_enter Try.func48, Try.ntmps48
    go_wp2
    go_ret
    exact ⟨by simp [h1, h2], rfl⟩
theorem l1Range_any (lo hi : Int) (w : World) : Calls Try.prog 50 #[.int .i64 lo, .int .i64 hi] w fun e w' => e = .returned (.bool (rangeOk lo hi)) ∧ w = w' := by
  go_enter Try.func50, Try.ntmps50
  go_wp2_with (go_at_call 48; refine (l1In_any _ _ _ _).mono ?_; rintro e w' ⟨rfl, rfl⟩)
  all_goals
    go_ret
    exact ⟨ret_bool (by simp [rangeOk, *]), rfl⟩
theorem toStuff_any (a b c d e : Int) (w : World) : Calls Try.prog 16 #[.agg #[.int .i64 a, .int .i64 b, .int .i64 c, .int .i64 d, .int .i64 e]] w fun E w' => E = .returned (.agg #[.int .i64 a, .int .i64 b, .int .i64 c, .int .i64 d, .int .i64 e]) ∧ Below w.heap.size w w' := by
  go_enter Try.func16, Try.ntmps16
  go_wp2
  refine bodyPost_ret (v := .agg #[.int .i64 a, .int .i64 b, .int .i64 c, .int .i64 d, .int .i64 e]) (by simp [results, Try.results16, go_sem]) rfl ⟨rfl, ?_⟩
  exact (((Below.refl _ _).alloc (Nat.le_refl _) _).alloc (by simp) _).alloc (by simp; omega) _
theorem toGrade_any (a b c d e f : Int) (w : World) : Calls Try.prog 19 #[.agg #[.int .i64 a, .int .i64 b, .int .i64 c, .int .i64 d, .int .i64 e, .int .i64 f]] w fun E w' => E = .returned (.agg #[.int .i64 a, .int .i64 b, .int .i64 c, .int .i64 d, .int .i64 e, .int .i64 f]) ∧ Below w.heap.size w w' := by
  go_enter Try.func19, Try.ntmps19
  go_wp2
  refine bodyPost_ret (v := .agg #[.int .i64 a, .int .i64 b, .int .i64 c, .int .i64 d, .int .i64 e, .int .i64 f]) (by simp [results, Try.results19, go_sem]) rfl ⟨rfl, ?_⟩
  exact (((Below.refl _ _).alloc (Nat.le_refl _) _).alloc (by simp) _).alloc (by simp; omega) _
theorem stuffValid_any (a b c d e : Int) (w : World) : Calls Try.prog 17 #[.agg #[.int .i64 a, .int .i64 b, .int .i64 c, .int .i64 d, .int .i64 e]] w fun E w' => E = .returned (.bool (stuffOk ⟨a, b, c, d, e⟩)) ∧ Below w.heap.size w w' := by
  go_enter Try.func17, Try.ntmps17
  go_wp2_with (go_at_call 49; refine (within_any _ _ _ _).mono ?_; rintro e w' ⟨rfl, rfl⟩)
  all_goals
    go_ret
    exact ⟨ret_bool (by simp [stuffOk, *]), (Below.refl _ _).alloc (Nat.le_refl _) _⟩
theorem sStuffValid_any (a b c d e : Int) (w : World) : Calls Try.prog 15 #[.agg #[.int .i64 a, .int .i64 b, .int .i64 c, .int .i64 d, .int .i64 e]] w fun E w' => E = .returned (.bool (stuffOk ⟨a, b, c, d, e⟩)) ∧ Below w.heap.size w w' := by
  go_enter Try.func15, Try.ntmps15
  go_wp2_with (go_at_call 48; refine (l1In_any _ _ _ _).mono ?_; rintro e w' ⟨rfl, rfl⟩)
  all_goals
    go_ret
    exact ⟨ret_bool (by simp [stuffOk, *]), (Below.refl _ _).alloc (Nat.le_refl _) _⟩
theorem gradeValid_any (a b c d e f : Int) (w : World) : Calls Try.prog 20 #[.agg #[.int .i64 a, .int .i64 b, .int .i64 c, .int .i64 d, .int .i64 e, .int .i64 f]] w fun E w' => E = .returned (.bool (gradeOk ⟨a, b, c, d, e, f⟩)) ∧ Below w.heap.size w w' := by
  go_enter Try.func20, Try.ntmps20
  go_wp2_with (first | (go_at_call 49; refine (within_any _ _ _ _).mono ?_; rintro e w' ⟨rfl, rfl⟩))
  all_goals
    go_ret
    exact ⟨ret_bool (by simp [gradeOk, rangeOk, *]), (Below.refl _ _).alloc (Nat.le_refl _) _⟩
theorem sGradeValid_any (a b c d e f : Int) (w : World) : Calls Try.prog 18 #[.agg #[.int .i64 a, .int .i64 b, .int .i64 c, .int .i64 d, .int .i64 e, .int .i64 f]] w fun E w' => E = .returned (.bool (gradeOk ⟨a, b, c, d, e, f⟩)) ∧ Below w.heap.size w w' := by
  go_enter Try.func18, Try.ntmps18
  go_wp2_with (first | (go_at_call 50; refine (l1Range_any _ _ _).mono ?_; rintro e w' ⟨rfl, rfl⟩))
  all_goals
    go_ret
    exact ⟨ret_bool (by simp [gradeOk, *]), (Below.refl _ _).alloc (Nat.le_refl _) _⟩
theorem gradeWithin_any (a b c d e f a' b' c' d' e' f' : Int) (w : World) : Calls Try.prog 26 #[.agg #[.int .i64 a, .int .i64 b, .int .i64 c, .int .i64 d, .int .i64 e, .int .i64 f], .agg #[.int .i64 a', .int .i64 b', .int .i64 c', .int .i64 d', .int .i64 e', .int .i64 f']] w fun E w' => E = .returned (.bool (gradeIn ⟨a, b, c, d, e, f⟩ ⟨a', b', c', d', e', f'⟩)) ∧ Below w.heap.size w w' := by
  go_enter Try.func26, Try.ntmps26
  go_wp2_with fail
  have hx := boxed2 w #[.int .i64 a, .int .i64 b, .int .i64 c, .int .i64 d, .int .i64 e, .int .i64 f] #[.int .i64 a', .int .i64 b', .int .i64 c', .int .i64 d', .int .i64 e', .int .i64 f'] 32 32
  generalize hE : World.alloc _ _ = W
  rw [hE] at hx
  clear hE
  obtain ⟨hbW, hs0, hs1, hc0, hc1⟩ := hx
  refine (gradeValid_any _ _ _ _ _ _ _).mono ?_
  rintro _ w1 ⟨rfl, hb⟩
  obtain ⟨hc, _⟩ := below_cells hb
  cases hg : gradeOk ⟨a, b, c, d, e, f⟩ with
  | false =>
    go_wp2_with fail
    go_ret
    exact ⟨ret_bool (by simp [gradeIn, hg]), below_next hbW hb⟩
  | true =>
    go_wp2_with fail
    refine (gradeValid_any _ _ _ _ _ _ _).mono ?_
    rintro _ w2 ⟨rfl, hb2⟩
    replace hb := below_next hb hb2
    clear hb2 hc
    obtain ⟨hc, _⟩ := below_cells hb
    cases hg' : gradeOk ⟨a', b', c', d', e', f'⟩ with
    | false =>
      go_wp2_with fail
      go_ret
      exact ⟨ret_bool (by simp [gradeIn, hg']), below_next hbW hb⟩
    | true =>
      go_wp2_with fail
      all_goals
        go_ret
        exact ⟨ret_bool (by first | (simp [gradeIn, leB, *]; done) | (simp [gradeIn, leB, *]; omega)), below_next hbW hb⟩
theorem sGradeWithin_any (a b c d e f a' b' c' d' e' f' : Int) (w : World) : Calls Try.prog 25 #[.agg #[.int .i64 a, .int .i64 b, .int .i64 c, .int .i64 d, .int .i64 e, .int .i64 f], .agg #[.int .i64 a', .int .i64 b', .int .i64 c', .int .i64 d', .int .i64 e', .int .i64 f']] w fun E w' => E = .returned (.bool (gradeIn ⟨a, b, c, d, e, f⟩ ⟨a', b', c', d', e', f'⟩)) ∧ Below w.heap.size w w' := by
  go_enter Try.func25, Try.ntmps25
  go_wp2_with fail
  have hx := boxed2 w #[.int .i64 a, .int .i64 b, .int .i64 c, .int .i64 d, .int .i64 e, .int .i64 f] #[.int .i64 a', .int .i64 b', .int .i64 c', .int .i64 d', .int .i64 e', .int .i64 f'] 32 32
  generalize hE : World.alloc _ _ = W
  rw [hE] at hx
  clear hE
  obtain ⟨hbW, hs0, hs1, hc0, hc1⟩ := hx
  refine (sGradeValid_any _ _ _ _ _ _ _).mono ?_
  rintro _ w1 ⟨rfl, hb⟩
  obtain ⟨hc, _⟩ := below_cells hb
  cases hg : gradeOk ⟨a, b, c, d, e, f⟩ with
  | false =>
    go_wp2_with fail
    go_ret
    exact ⟨ret_bool (by simp [gradeIn, hg]), below_next hbW hb⟩
  | true =>
    go_wp2_with fail
    refine (sGradeValid_any _ _ _ _ _ _ _).mono ?_
    rintro _ w2 ⟨rfl, hb2⟩
    replace hb := below_next hb hb2
    clear hb2 hc
    obtain ⟨hc, _⟩ := below_cells hb
    cases hg' : gradeOk ⟨a', b', c', d', e', f'⟩ with
    | false =>
      go_wp2_with fail
      go_ret
      exact ⟨ret_bool (by simp [gradeIn, hg']), below_next hbW hb⟩
    | true =>
      go_wp2_with fail
      all_goals
        go_ret
        exact ⟨ret_bool (by first | (simp [gradeIn, leB, *]; done) | (simp [gradeIn, leB, *]; omega)), below_next hbW hb⟩
theorem eqGrade_same (a b c d e f : Int) (w : World) : Calls Try.prog 29 #[.agg #[.int .i64 a, .int .i64 b, .int .i64 c, .int .i64 d, .int .i64 e, .int .i64 f], .agg #[.int .i64 a, .int .i64 b, .int .i64 c, .int .i64 d, .int .i64 e, .int .i64 f]] w fun E w' => E = .returned (.bool true) ∧ Below w.heap.size w w' := by
  go_enter Try.func29, Try.ntmps29
  go_wp2_with fail
  go_ret
  exact ⟨rfl, ((Below.refl _ _).alloc (Nat.le_refl _) _).alloc (by simp) _⟩
theorem exactStuffValid_walk (a b c d e : Int) (w : World) (_ : ∀ z ∈ [a, b, c, d, e], fits z) : Calls Try.prog 4 #[.agg #[.int .i64 a, .int .i64 b, .int .i64 c, .int .i64 d, .int .i64 e]] w fun e w' => e = .returned (.bool true) ∧ Below w.heap.size w w' := by
  go_enter Try.func4, Try.ntmps4
  go_wp2_with fail
  have hx := boxed1 w #[.int .i64 a, .int .i64 b, .int .i64 c, .int .i64 d, .int .i64 e] 24
  generalize hE : World.alloc _ _ = W
  rw [hE] at hx
  clear hE
  obtain ⟨hbW, hs0, hc0⟩ := hx
  refine (toStuff_any _ _ _ _ _ _).mono ?_
  rintro _ w1 ⟨rfl, hb⟩
  obtain ⟨hc, _⟩ := below_cells hb
  go_wp2_with fail
  refine (sStuffValid_any _ _ _ _ _ _).mono ?_
  rintro _ w2 ⟨rfl, hb2⟩
  replace hb := below_next hb hb2
  clear hb2 hc
  obtain ⟨hc, _⟩ := below_cells hb
  go_wp2_with fail
  refine (toStuff_any _ _ _ _ _ _).mono ?_
  rintro _ w3 ⟨rfl, hb3⟩
  replace hb := below_next hb hb3
  clear hb3 hc
  go_wp2_with fail
  refine (stuffValid_any _ _ _ _ _ _).mono ?_
  rintro _ w4 ⟨rfl, hb4⟩
  replace hb := below_next hb hb4
  go_wp2_with fail
  go_ret
  exact ⟨rfl, below_next hbW hb⟩
theorem exactGradeValid_walk (a b c d e f : Int) (w : World) (_ : ∀ z ∈ [a, b, c, d, e, f], fits z) : Calls Try.prog 5 #[.agg #[.int .i64 a, .int .i64 b, .int .i64 c, .int .i64 d, .int .i64 e, .int .i64 f]] w fun e w' => e = .returned (.bool true) ∧ Below w.heap.size w w' := by
  go_enter Try.func5, Try.ntmps5
  go_wp2_with fail
  have hx := boxed1 w #[.int .i64 a, .int .i64 b, .int .i64 c, .int .i64 d, .int .i64 e, .int .i64 f] 30
  generalize hE : World.alloc _ _ = W
  rw [hE] at hx
  clear hE
  obtain ⟨hbW, hs0, hc0⟩ := hx
  refine (toGrade_any _ _ _ _ _ _ _).mono ?_
  rintro _ w1 ⟨rfl, hb⟩
  obtain ⟨hc, _⟩ := below_cells hb
  go_wp2_with fail
  refine (sGradeValid_any _ _ _ _ _ _ _).mono ?_
  rintro _ w2 ⟨rfl, hb2⟩
  replace hb := below_next hb hb2
  clear hb2 hc
  obtain ⟨hc, _⟩ := below_cells hb
  go_wp2_with fail
  refine (toGrade_any _ _ _ _ _ _ _).mono ?_
  rintro _ w3 ⟨rfl, hb3⟩
  replace hb := below_next hb hb3
  clear hb3 hc
  go_wp2_with fail
  refine (gradeValid_any _ _ _ _ _ _ _).mono ?_
  rintro _ w4 ⟨rfl, hb4⟩
  replace hb := below_next hb hb4
  go_wp2_with fail
  go_ret
  exact ⟨rfl, below_next hbW hb⟩
theorem exactGradeWithin_walk (a b c d e f a' b' c' d' e' f' : Int) (w : World) (_ : ∀ z ∈ [a, b, c, d, e, f], fits z) (_ : ∀ z ∈ [a', b', c', d', e', f'], fits z) : Calls Try.prog 7 #[.agg #[.int .i64 a, .int .i64 b, .int .i64 c, .int .i64 d, .int .i64 e, .int .i64 f], .agg #[.int .i64 a', .int .i64 b', .int .i64 c', .int .i64 d', .int .i64 e', .int .i64 f']] w fun e w' => e = .returned (.bool true) ∧ Below w.heap.size w w' := by
  go_enter Try.func7, Try.ntmps7
  go_wp2_with fail
  have hx := boxed2 w #[.int .i64 a, .int .i64 b, .int .i64 c, .int .i64 d, .int .i64 e, .int .i64 f] #[.int .i64 a', .int .i64 b', .int .i64 c', .int .i64 d', .int .i64 e', .int .i64 f'] 30 30
  generalize hE : World.alloc _ _ = W
  rw [hE] at hx
  clear hE
  obtain ⟨hbW, hs0, hs1, hc0, hc1⟩ := hx
  go_region_held3 (fun w' => Below W.heap.size W w' ∧ ∀ b o, b < W.heap.size → w'.cell? ⟨b, o, none⟩ = W.cell? ⟨b, o, none⟩)
    (first | exact held_of ((Below.refl _ _).drew) | exact held_of (below_next (And.left (by assumption)) (by assumption)))
    (first | (go_at_call 19; refine (toGrade_any _ _ _ _ _ _ _).mono ?_; rintro e w' ⟨rfl, hbq⟩) | (go_at_call 25; refine (sGradeWithin_any _ _ _ _ _ _ _ _ _ _ _ _ _).mono ?_; rintro e w' ⟨rfl, hbq⟩))
  rename_i w1 _ hHeld
  obtain ⟨hb, _⟩ := hHeld
  go_wp2_with fail
  go_region_held3 (fun w' => Below W.heap.size W w' ∧ ∀ b o, b < W.heap.size → w'.cell? ⟨b, o, none⟩ = W.cell? ⟨b, o, none⟩)
    (first | exact held_of (Below.drew hb) | exact held_of (below_next (And.left (by assumption)) (by assumption)))
    (first | (go_at_call 19; refine (toGrade_any _ _ _ _ _ _ _).mono ?_; rintro e w' ⟨rfl, hbq⟩) | (go_at_call 26; refine (gradeWithin_any _ _ _ _ _ _ _ _ _ _ _ _ _).mono ?_; rintro e w' ⟨rfl, hbq⟩))
  rename_i hHeld
  obtain ⟨hb2, _⟩ := hHeld
  go_wp2_with fail
  go_ret
  exact ⟨rfl, below_next hbW hb2⟩
end Go.Proofs.Ytmmhlbhmfdkelaa
