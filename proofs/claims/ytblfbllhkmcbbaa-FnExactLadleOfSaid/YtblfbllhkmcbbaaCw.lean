/-
  Contracts of HeatWaits, LadlesAt and LadlesMost in the program and in the reference.
-/
import Derived.Test.YtblfbllhkmcbbaaCk
namespace Go.Proofs.Ytblfbllhkmcbbaa
open Go.RowKit
set_option linter.unusedVariables false
attribute [local go_sem high] run_maxI run_minI
theorem zip_tail_at {h : List Heat} {t : List Int} {k : Nat} {a : Heat} {y : Int} (h1 : h[k]? = some a) (h3 : t[k + 1]? = some y) : (h.zip t.tail)[k]? = some (a, y) :=
  zip_at h1 (by rw [List.getElem?_tail]; exact h3)
theorem cast_at {h : List Heat} {c : Caster} {t : List Int} {k : Nat} {a : Heat} {x y : Int} (hk : castOk h c t = true) (h1 : h[k]? = some a) (h2 : t[k]? = some x) (h3 : t[k + 1]? = some y) : a.r ≤ x ∧ 0 ≤ x ∧ x ≤ 9999 ∧ 0 ≤ a.t ∧ a.t ≤ a.r ∧ 0 ≤ y ∧ y ≤ 9999 := by
  obtain ⟨p1, p2, p3, p4, p5⟩ := castOk_parts hk
  have q := all_at p5 (trip_at h1 h2 h3)
  have := heat_bounds p1 h1
  have := minute_bounds p4 h2
  have := minute_bounds p4 h3
  simp only [castB, Bool.and_eq_true, decide_eq_true_eq] at q
  omega
end Go.Proofs.Ytblfbllhkmcbbaa
