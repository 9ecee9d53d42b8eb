/-
  A region that draws its order, whose operations read what was there and whose callees make memory of their own: one walk in the order of the text, over the class of all later worlds.
-/
import Derived.Test.YtdfbkldppblefaaDoorMem
namespace Go.Proofs.YtdfbkldppblefaaDoor
open Go.RowKit Go.Deep
set_option linter.unusedVariables false
/-- A later world: nothing that was there has turned. -/
structure Later (V : World) where
  w : World
  below : Below V.heap.size V w
instance laterNonempty (V : World) : Nonempty (Later V) := ⟨⟨V, Below.refl _ _⟩⟩
section
variable {P : Program} {V : World}
theorem Later.size (u : Later V) : V.heap.size ≤ u.w.heap.size := u.below.size
theorem later_cell (V : World) : ∀ (u : Later V) (b o : Nat), b < V.heap.size → u.w.cell? ⟨b, o, none⟩ = V.cell? ⟨b, o, none⟩ := fun u b o h => (below_cells u.below).1 b o h
theorem later_drew (V : World) : ∃ u : Later V, { V with drawn := V.drawn + 1 } = u.w := ⟨⟨_, (Below.refl _ _).drew⟩, rfl⟩
theorem wp_region_later {id : Nat} {Q : Exit → Act → World → Prop} {a : Act} {l : List Oper} (hm : P.follows .mixedOrders = true) (hB : Region.lexB .any l.toArray = true)
    (h : wpQuiet P l.toArray (fun w' => ∃ u : Later V, w' = u.w) (fun a' => ∀ w', (∃ u : Later V, w' = u.w) → Q .normal a' w') l a) : (Code.region id l.toArray true).wp P Q a V :=
  wp_region_quiet (C := fun w' => ∃ u : Later V, w' = u.w) hm hB (later_drew V) (by simpa using h)
/-- A callee that makes memory of its own, met in such a region. -/
theorem Later.of {f : FuncId} {args : Array Value} {v : Value} (u : Later V) (h : Calls P f args u.w fun e w' => e = .returned v ∧ Below u.w.heap.size u.w w') :
    Calls P f args u.w fun e w'' => e = .returned v ∧ ∃ u' : Later V, w'' = u'.w := h.mono fun _ w' ⟨he, hb⟩ => ⟨he, ⟨w', below_next u.below hb⟩, rfl⟩
end
end Go.Proofs.YtdfbkldppblefaaDoor
