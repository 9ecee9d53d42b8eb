/-
  Contracts of CastTimes, CastEnd and CastLate in the program and in the reference.
-/
import Derived.Test.YtblfbllhkmcbbaaCk
import Derived.Test.YtblfbllhkmcbbaaApp
namespace Go.Proofs.Ytblfbllhkmcbbaa
open Go.RowKit
set_option linter.unusedVariables false
attribute [local go_sem high] run_maxI run_minI
theorem own_nil (w : World) (lo hi : Nat) (t : TypeId) (size : Nat) : Own w lo hi t size none 0 0 [] := ⟨World.ownsRow_nil _ _ _ _, fun g hg => by simp [Value.ownBlock] at hg⟩
theorem own_lo {w : World} {lo lo' hi : Nat} {t : TypeId} {size n c : Nat} {A : Option Addr} {xs : List Value} (h : Own w lo hi t size A n c xs) (hl : lo' ≤ lo) : Own w lo' hi t size A n c xs := ⟨own_base h.1 hl, h.2⟩
theorem own_hi {w : World} {lo hi hi' : Nat} {t : TypeId} {size n c : Nat} {A : Option Addr} {xs : List Value} (h : Own w lo hi t size A n c xs) (hl : hi ≤ hi') : Own w lo hi' t size A n c xs := ⟨h.1, fun g hg => Nat.lt_of_lt_of_le (h.2 g hg) hl⟩
theorem own_made (w : World) (t : TypeId) (size : Nat) : Own (w.alloc (.cells #[] t)) w.heap.size (w.heap.size + 1) t size (some ⟨w.heap.size, 0, none⟩) 0 0 [] :=
  Own.mk_ (Nat.le_refl _) (by omega) (Nat.le_refl _) (Nat.zero_le _) (Blk.made _ _ _) (by simp) (by simp)
theorem Own.alloc {w : World} {lo hi : Nat} {t : TypeId} {size n c : Nat} {A : Option Addr} {xs : List Value} (h : Own w lo hi t size A n c xs) (o : Obj) : Own (w.alloc o) lo hi t size A n c xs := h.below ((Below.refl _ _).alloc (Nat.le_refl _) _)
/-- A slice of one number, just made. -/
theorem sees_one (w : World) (t : TypeId) (v : Int) : Sees (w.alloc (.cells #[.int .i64 v] t)) (w.heap.size + 1) (some ⟨w.heap.size, 0, none⟩) (ints [v]) := by
  refine .inr ⟨w.heap.size, 0, rfl, by omega, fun j u hu => ?_⟩
  rw [(Blk.made w t #[.int .i64 v]).cell]
  cases j with
  | zero => simpa [ints] using hu
  | succ j => simp [ints] at hu
theorem ret_slice {A : Option Addr} {n m c : Nat} (h : n = m) : Ending.returned (.slice A n c) = .returned (.slice A m c) := by rw [h]
theorem heats_mem {h : List Heat} (hk : heatsOk h = true) : ∀ a ∈ h, a.r ≤ 999 := by
  intro a ha
  obtain ⟨k, hk'⟩ := List.getElem?_of_mem ha
  have := heat_bounds hk hk'
  omega
theorem castTimes_len {h : List Heat} {c : Caster} (h1 : heatsOk h = true) (h2 : casterOk c = true) : (castTimes h c).length = h.length + 1 := by
  simp [castTimes, h1, h2, timesFrom_length]
theorem castTimes_eq {h : List Heat} {c : Caster} (h1 : heatsOk h = true) (h2 : casterOk c = true) : castTimes h c = timesFrom c 0 h := by
  simp [castTimes, h1, h2]
theorem castTimes_le (h : List Heat) (c : Caster) : (castTimes h c).length ≤ 7 := by
  unfold castTimes
  split
  · rename_i hq
    simp only [Bool.and_eq_true] at hq
    have := heats_len hq.1
    rw [timesFrom_length]; omega
  · simp
/-- What a call hands back: a slice in memory of its own. -/
def RetRow (w : World) (t : TypeId) (n : Nat) (l : List Int) (e : Ending) (w' : World) : Prop :=
  ∃ A c, e = .returned (.slice A n c) ∧ Own w' w.heap.size w'.heap.size t 1 A n c (ints l) ∧ Below w.heap.size w w'
end Go.Proofs.Ytblfbllhkmcbbaa
