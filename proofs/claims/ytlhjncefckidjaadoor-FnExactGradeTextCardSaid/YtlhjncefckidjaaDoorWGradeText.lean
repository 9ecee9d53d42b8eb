/-
  The walk of FnExactGradeText: it returns true and writes nothing that was there.
-/
import Derived.Test.YtlhjncefckidjaaDoorTx
namespace Go.Proofs.YtlhjncefckidjaaDoor
open Go.RowKit
set_option linter.unusedVariables false
set_option maxHeartbeats 1000000 in
theorem exactGradeText_walk (g1 g2 g3 g4 g5 g6 : Int) (w : World) (hf : ∀ z ∈ [g1, g2, g3, g4, g5, g6], fits z) (hp : Pow w) :
    Calls Tryd.prog 8 #[.agg #[.int .i64 g1, .int .i64 g2, .int .i64 g3, .int .i64 g4, .int .i64 g5, .int .i64 g6]] w fun e w' => e = .returned (.bool true) ∧ Below w.heap.size w w' := by
  go_enter Tryd.func8, Tryd.ntmps8
  go_wp2_with fail
  have hx := boxed1 w #[.int .i64 g1, .int .i64 g2, .int .i64 g3, .int .i64 g4, .int .i64 g5, .int .i64 g6] 53
  generalize w.alloc _ = V at hx ⊢
  obtain ⟨hbW, hgB, hcB⟩ := hx
  have hp0 := hp.below hbW
  go_wp2_with fail
  refine (toGrade_any _ _ _ _ _ _ _).mono ?_
  rintro _ w1 ⟨rfl, h1⟩
  have hp1 := hp0.below h1
  go_wp2_with fail
  refine (sGradeText_any _ _ _ _ _ _ _).mono ?_
  rintro _ w2 ⟨rfl, h2⟩
  have hp2 := hp1.below h2
  have hb2 := below_next h1 h2
  have hc2 : ∀ i, w2.cell? ⟨w.heap.size, i, none⟩ = _ := fun i => ((below_cells hb2).1 _ i hgB).trans (hcB i)
  go_wp2_with fail
  refine (toGrade_any _ _ _ _ _ _ _).mono ?_
  rintro _ w3 ⟨rfl, h3⟩
  have hp3 := hp2.below h3
  clear hc2 hcB
  go_wp2_with fail
  refine (gradeText_any _ _ _ _ _ _ _ hp3).mono ?_
  rintro _ w4 ⟨rfl, h4⟩
  generalize textG ⟨g1, g2, g3, g4, g5, g6⟩ = T
  go_wp2_with fail
  go_ret
  exact ⟨rfl, below_next hbW (below_next hb2 (below_next h3 h4))⟩
end Go.Proofs.YtlhjncefckidjaaDoor
