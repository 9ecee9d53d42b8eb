/-
  Contracts of GradeMeet in the program and in the reference, and the walk of its exact law.
-/
import Derived.Test.YtblfbllhkmcbbaaVal
namespace Go.Proofs.Ytblfbllhkmcbbaa
open Go.RowKit
attribute [local go_sem high] run_maxI run_minI
abbrev gv (g : Grade) : Value := .agg #[.int .i64 g.lc, .int .i64 g.hc, .int .i64 g.lm, .int .i64 g.hm, .int .i64 g.ls, .int .i64 g.hs]
theorem boxed3 (w : World) (x y z : Array Value) (t u v : TypeId) :
    Below w.heap.size w (((w.alloc (.cells x t)).alloc (.cells y u)).alloc (.cells z v)) ∧ Blk (((w.alloc (.cells x t)).alloc (.cells y u)).alloc (.cells z v)) w.heap.size t x ∧ Blk (((w.alloc (.cells x t)).alloc (.cells y u)).alloc (.cells z v)) (w.heap.size + 1) u y ∧ Blk (((w.alloc (.cells x t)).alloc (.cells y u)).alloc (.cells z v)) (w.heap.size + 1 + 1) v z := by
  refine ⟨(((Below.refl _ _).alloc (Nat.le_refl _) _).alloc (by simp) _).alloc (by simp; omega) _, ((Blk.made w t x).alloc _).alloc _, ?_, ?_⟩
  · have := (Blk.made (w.alloc (.cells x t)) u y).alloc (.cells z v)
    simpa using this
  · have := Blk.made ((w.alloc (.cells x t)).alloc (.cells y u)) v z
    simpa using this
theorem gradeMeet_any (a b c d e f a' b' c' d' e' f' : Int) (w : World) : Calls Try.prog 12 #[.agg #[.int .i64 a, .int .i64 b, .int .i64 c, .int .i64 d, .int .i64 e, .int .i64 f], .agg #[.int .i64 a', .int .i64 b', .int .i64 c', .int .i64 d', .int .i64 e', .int .i64 f']] w
    fun E w' => E = .returned (.tuple #[gv (meetG ⟨a, b, c, d, e, f⟩ ⟨a', b', c', d', e', f'⟩), .bool (meetOk ⟨a, b, c, d, e, f⟩ ⟨a', b', c', d', e', f'⟩)]) ∧ Below w.heap.size w w' := by
  go_enter Try.func12, Try.ntmps12
  go_wp2_with fail
  have hx := boxed3 w #[.int .i64 a, .int .i64 b, .int .i64 c, .int .i64 d, .int .i64 e, .int .i64 f] #[.int .i64 a', .int .i64 b', .int .i64 c', .int .i64 d', .int .i64 e', .int .i64 f'] #[.int .i64 0, .int .i64 0, .int .i64 0, .int .i64 0, .int .i64 0, .int .i64 0] 24 24 24
  generalize hE : World.alloc _ _ = W
  rw [hE] at hx
  clear hE
  obtain ⟨hbW, hB0, hB1, hB2⟩ := hx
  refine (gradeValid_any _ _ _ _ _ _ _).mono ?_
  rintro _ w1 ⟨rfl, hb⟩
  replace hB0 := hB0.below hb hB0.lt
  replace hB1 := hB1.below hb hB1.lt
  replace hB2 := hB2.below hb hB2.lt
  replace hbW := below_next hbW hb
  clear hb
  have c0 := hB0.cell
  have c1 := hB1.cell
  have c2 := hB2.cell
  have f2 := hB2.frozen
  cases hg : gradeOk ⟨a, b, c, d, e, f⟩ with
  | false =>
    go_wp2_with fail
    refine bodyPost_ret (v := .tuple #[gv ⟨0, 0, 0, 0, 0, 0⟩, .bool false]) (by simp [results, Try.results12, go_sem, c2]) rfl ⟨by simp [meetG, meetOk, hg], ?_⟩
    iterate 6 (refine Below.setCell ?_ (by simp <;> omega) _)
    exact hbW
  | true =>
    go_wp2_with fail
    refine (gradeValid_any _ _ _ _ _ _ _).mono ?_
    rintro _ w2 ⟨rfl, hb⟩
    replace hB0 := hB0.below hb hB0.lt
    replace hB1 := hB1.below hb hB1.lt
    replace hB2 := hB2.below hb hB2.lt
    replace hbW := below_next hbW hb
    clear hb c0 c1 c2 f2
    have c0 := hB0.cell
    have c1 := hB1.cell
    have c2 := hB2.cell
    have f2 := hB2.frozen
    cases hg' : gradeOk ⟨a', b', c', d', e', f'⟩ with
    | false =>
      go_wp2_with fail
      refine bodyPost_ret (v := .tuple #[gv ⟨0, 0, 0, 0, 0, 0⟩, .bool false]) (by simp [results, Try.results12, go_sem, c2]) rfl ⟨by simp [meetG, meetOk, hg'], ?_⟩
      iterate 6 (refine Below.setCell ?_ (by simp <;> omega) _)
      exact hbW
    | true =>
      go_wp2_with fail
      have hB3 := Blk.made w2 24 #[.int .i64 (maxI a a'), .int .i64 (minI b b'), .int .i64 (maxI c c'), .int .i64 (minI d d'), .int .i64 (maxI e e'), .int .i64 (minI f f')]
      replace hB2 := hB2.alloc (.cells #[.int .i64 (maxI a a'), .int .i64 (minI b b'), .int .i64 (maxI c c'), .int .i64 (minI d d'), .int .i64 (maxI e e'), .int .i64 (minI f f')] 24)
      replace hbW := hbW.alloc hbW.size (.cells #[.int .i64 (maxI a a'), .int .i64 (minI b b'), .int .i64 (maxI c c'), .int .i64 (minI d d'), .int .i64 (maxI e e'), .int .i64 (minI f f')] 24)
      clear c0 c1 c2 f2 hB0 hB1
      refine (gradeValid_any _ _ _ _ _ _ _).mono ?_
      rintro _ w3 ⟨rfl, hb⟩
      replace hB2 := hB2.below hb hB2.lt
      replace hB3 := hB3.below hb hB3.lt
      replace hbW := below_next hbW hb
      clear hb
      have c2 := hB2.cell
      have f2 := hB2.frozen
      have c3 := hB3.cell
      cases hm : gradeOk ⟨maxI a a', minI b b', maxI c c', minI d d', maxI e e', minI f f'⟩ with
      | false =>
        go_wp2_with fail
        refine bodyPost_ret (v := .tuple #[gv ⟨0, 0, 0, 0, 0, 0⟩, .bool false]) (by simp [results, Try.results12, go_sem, c2]) rfl ⟨by simp [meetG, meetOk, meetG0, hm], ?_⟩
        iterate 6 (refine Below.setCell ?_ (by simp <;> omega) _)
        exact hbW
      | true =>
        go_wp2_with fail
        refine bodyPost_ret (v := .tuple #[gv ⟨maxI a a', minI b b', maxI c c', minI d d', maxI e e', minI f f'⟩, .bool true]) (by simp [results, Try.results12, go_sem, c2]) rfl ⟨by simp [meetG, meetOk, meetG0, hm, hg, hg'], ?_⟩
        iterate 6 (refine Below.setCell ?_ (by simp <;> omega) _)
        exact hbW
theorem boxed4 (w : World) (x y z g : Array Value) (t : TypeId) :
    Below w.heap.size w ((((w.alloc (.cells x t)).alloc (.cells y t)).alloc (.cells z t)).alloc (.cells g t)) ∧ Blk ((((w.alloc (.cells x t)).alloc (.cells y t)).alloc (.cells z t)).alloc (.cells g t)) (w.heap.size + 1) t y ∧ Blk ((((w.alloc (.cells x t)).alloc (.cells y t)).alloc (.cells z t)).alloc (.cells g t)) (w.heap.size + 1 + 1) t z ∧ Blk ((((w.alloc (.cells x t)).alloc (.cells y t)).alloc (.cells z t)).alloc (.cells g t)) (w.heap.size + 1 + 1 + 1) t g := by
  obtain ⟨h1, _, h2, h3⟩ := boxed3 w x y z t t t
  refine ⟨h1.alloc (by simp; omega) _, h2.alloc _, h3.alloc _, ?_⟩
  have := Blk.made (((w.alloc (.cells x t)).alloc (.cells y t)).alloc (.cells z t)) t g
  simpa using this
theorem sGradeMeet_any (a b c d e f a' b' c' d' e' f' : Int) (w : World) : Calls Try.prog 10 #[.agg #[.int .i64 a, .int .i64 b, .int .i64 c, .int .i64 d, .int .i64 e, .int .i64 f], .agg #[.int .i64 a', .int .i64 b', .int .i64 c', .int .i64 d', .int .i64 e', .int .i64 f']] w
    fun E w' => E = .returned (.tuple #[gv (meetG ⟨a, b, c, d, e, f⟩ ⟨a', b', c', d', e', f'⟩), .bool (meetOk ⟨a, b, c, d, e, f⟩ ⟨a', b', c', d', e', f'⟩)]) ∧ Below w.heap.size w w' := by
  go_enter Try.func10, Try.ntmps10
  go_wp2_with fail
  have hx := boxed4 w #[.int .i64 a, .int .i64 b, .int .i64 c, .int .i64 d, .int .i64 e, .int .i64 f] #[.int .i64 a', .int .i64 b', .int .i64 c', .int .i64 d', .int .i64 e', .int .i64 f'] #[.int .i64 0, .int .i64 0, .int .i64 0, .int .i64 0, .int .i64 0, .int .i64 0] #[.int .i64 (maxI a a'), .int .i64 (minI b b'), .int .i64 (maxI c c'), .int .i64 (minI d d'), .int .i64 (maxI e e'), .int .i64 (minI f f')] 24
  generalize hE : World.alloc _ _ = W
  rw [hE] at hx
  clear hE
  obtain ⟨hbW, hB1, hB2, hB3⟩ := hx
  refine (sGradeValid_any _ _ _ _ _ _ _).mono ?_
  rintro _ w1 ⟨rfl, hb⟩
  replace hB1 := hB1.below hb hB1.lt
  replace hB2 := hB2.below hb hB2.lt
  replace hB3 := hB3.below hb hB3.lt
  replace hbW := below_next hbW hb
  clear hb
  have c1 := hB1.cell
  have c2 := hB2.cell
  have f2 := hB2.frozen
  have c3 := hB3.cell
  cases hg : gradeOk ⟨a, b, c, d, e, f⟩ with
  | false =>
    go_wp2_with fail
    refine bodyPost_ret (v := .tuple #[gv ⟨0, 0, 0, 0, 0, 0⟩, .bool false]) (by simp [results, Try.results10, go_sem, c2]) rfl ⟨by simp [meetG, meetOk, meetG0, hg], ?_⟩
    iterate 6 (refine Below.setCell ?_ (by simp <;> omega) _)
    exact hbW
  | true =>
    go_wp2_with fail
    clear c1 c2 c3 f2
    refine (sGradeValid_any _ _ _ _ _ _ _).mono ?_
    rintro _ w2 ⟨rfl, hb⟩
    replace hB1 := hB1.below hb hB1.lt
    replace hB2 := hB2.below hb hB2.lt
    replace hB3 := hB3.below hb hB3.lt
    replace hbW := below_next hbW hb
    clear hb
    have c1 := hB1.cell
    have c2 := hB2.cell
    have f2 := hB2.frozen
    have c3 := hB3.cell
    cases hg' : gradeOk ⟨a', b', c', d', e', f'⟩ with
    | false =>
      go_wp2_with fail
      refine bodyPost_ret (v := .tuple #[gv ⟨0, 0, 0, 0, 0, 0⟩, .bool false]) (by simp [results, Try.results10, go_sem, c2]) rfl ⟨by simp [meetG, meetOk, meetG0, hg'], ?_⟩
      iterate 6 (refine Below.setCell ?_ (by simp <;> omega) _)
      exact hbW
    | true =>
      go_wp2_with fail
      clear c1 c2 c3 f2
      refine (sGradeValid_any _ _ _ _ _ _ _).mono ?_
      rintro _ w3 ⟨rfl, hb⟩
      replace hB1 := hB1.below hb hB1.lt
      replace hB2 := hB2.below hb hB2.lt
      replace hB3 := hB3.below hb hB3.lt
      replace hbW := below_next hbW hb
      clear hb
      have c1 := hB1.cell
      have c2 := hB2.cell
      have f2 := hB2.frozen
      have c3 := hB3.cell
      cases hm : gradeOk ⟨maxI a a', minI b b', maxI c c', minI d d', maxI e e', minI f f'⟩ with
      | false =>
        go_wp2_with fail
        refine bodyPost_ret (v := .tuple #[gv ⟨0, 0, 0, 0, 0, 0⟩, .bool false]) (by simp [results, Try.results10, go_sem, c2]) rfl ⟨by simp [meetG, meetOk, meetG0, hm], ?_⟩
        iterate 6 (refine Below.setCell ?_ (by simp <;> omega) _)
        exact hbW
      | true =>
        go_wp2_with fail
        refine bodyPost_ret (v := .tuple #[gv ⟨maxI a a', minI b b', maxI c c', minI d d', maxI e e', minI f f'⟩, .bool true]) (by simp [results, Try.results10, go_sem, c2]) rfl ⟨by simp [meetG, meetOk, meetG0, hm, hg, hg'], ?_⟩
        iterate 6 (refine Below.setCell ?_ (by simp <;> omega) _)
        exact hbW
end Go.Proofs.Ytblfbllhkmcbbaa
