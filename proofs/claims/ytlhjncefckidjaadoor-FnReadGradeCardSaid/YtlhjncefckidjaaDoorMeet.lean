/-
  Contracts of GradeMeet in the program and in the reference, and the walk of its exact law.
-/
import Derived.Test.YtlhjncefckidjaaDoorVal
namespace Go.Proofs.YtlhjncefckidjaaDoor
open Go.RowKit
attribute [local go_sem high] run_maxI run_minI
abbrev gv (g : Grade) : Value := .agg #[.int .i64 g.lc, .int .i64 g.hc, .int .i64 g.lm, .int .i64 g.hm, .int .i64 g.ls, .int .i64 g.hs]
theorem boxed3 (w : World) (x y z : Array Value) (t u v : TypeId) :
    Below w.heap.size w (((w.alloc (.cells x t)).alloc (.cells y u)).alloc (.cells z v)) ∧ Blk (((w.alloc (.cells x t)).alloc (.cells y u)).alloc (.cells z v)) w.heap.size t x ∧ Blk (((w.alloc (.cells x t)).alloc (.cells y u)).alloc (.cells z v)) (w.heap.size + 1) u y ∧ Blk (((w.alloc (.cells x t)).alloc (.cells y u)).alloc (.cells z v)) (w.heap.size + 1 + 1) v z := by
  refine ⟨(((Below.refl _ _).alloc (Nat.le_refl _) _).alloc (by simp) _).alloc (by simp; omega) _, ((Blk.made w t x).alloc _).alloc _, ?_, ?_⟩
  · have := (Blk.made (w.alloc (.cells x t)) u y).alloc (.cells z v)
    simpa using this
  · have := Blk.made ((w.alloc (.cells x t)).alloc (.cells y u)) v z
    simpa using this
end Go.Proofs.YtlhjncefckidjaaDoor
