/-
  Contracts of what is drawn for laws on single stuffs, and of the laws' fixed answer.
-/
import Derived.Test.YtdobfpdfbfaohaaDoorDr
import Derived.Test.YtdobfpdfbfaohaaDoorVal
import Derived.Test.YtdobfpdfbfaohaaDoorMix
namespace Go.Proofs.YtdobfpdfbfaohaaDoor
open Go.RowKit
set_option linter.unusedVariables false
section
variable {w w' w'' : World} {lo hi B r p : Nat}
theorem Only.setNew (h : Only lo hi w w') {q : Addr} (h1 : w.heap.size ≤ q.block) (u : Value) : Only lo hi w (w'.setCell q u) :=
  ⟨h.os, h.tape, h.output, by simpa using h.size, fun i hi' hr => (Below.heap_setCell w' q u i (by omega)).trans (h.block i hi' hr)⟩
theorem Only.of_drew (h : Only lo hi w.drew w') : Only lo hi w w' := ⟨h.os, h.tape, h.output, h.size, h.block⟩
theorem Rd.alloc (h : Rd w B r p) (o : Obj) : Rd (w.alloc o) B r p := h.below ((Below.refl _ _).alloc (Nat.le_refl _) _)
theorem Rd.setCell (h : Rd w B r p) {q : Addr} (hq : r < q.block) (u : Value) : Rd (w.setCell q u) B r p := by
  obtain ⟨A, n, c, l, hB, h1, h2, h3⟩ := h
  exact ⟨A, n, c, l, hB.other (by omega) u, h1, h2.below ((Below.refl _ _).setCell (by omega) _), h3⟩
theorem Blk.only {g : Nat} {t : TypeId} {cs : Array Value} (h : Blk w g t cs) (hb : Only lo hi w w') (hd : g < lo ∨ hi ≤ g) : Blk w' g t cs := (hb.block g h.lt hd).trans h
end
/-- What odd hands back. -/
def Odd (w : World) (B r p : Nat) (e : Ending) (w' : World) : Prop :=
  ∃ (b : Bool) (p' : Nat), p' ≤ p + 1 ∧ e = .returned (.bool b) ∧ Rd w' B r p' ∧ Only r (r + 1) w w'
theorem odd_any (B r p n : Nat) (w : World) (h : Rd w B r p) (hp : p ≤ 1000000) (hn' : n ≤ 1000000) :
    Calls Tryd.prog 61 #[.pointer (some ⟨r, 0, none⟩), .int .i64 n] w (Odd w B r p) := by
  by_cases hn : 0 < n
  · have hn1 : (0 : Int) < n := by omega
    go_enter Tryd.func61, Tryd.ntmps61
    go_wp2_with fail
    refine (pick_any B r p n _ h hp hn hn').mono ?_
    rintro _ w1 ⟨v, hv, rfl, hR, hO⟩
    go_wp2_with fail
    go_ret
    exact ⟨_, _, Nat.le_refl _, rfl, hR, hO⟩
  · obtain rfl : n = 0 := by omega
    go_enter Tryd.func61, Tryd.ntmps61
    go_wp2_with fail
    go_ret
    exact ⟨false, p, by omega, rfl, h, Only.refl _ _ _⟩
/-- What l20Open hands back. -/
def Opened (w : World) (e : Ending) (w' : World) : Prop :=
  e = .returned (.pointer (some ⟨w.heap.size, 0, none⟩)) ∧ Rd w' w.heap.size w.heap.size 0 ∧ Below w.heap.size w w'
theorem l20Open_any (A : Option Addr) (n c : Nat) (l : List Int) (w : World) (hs : Sees w w.heap.size A (bys l)) (hl : l.length = n) (hby : ∀ z ∈ l, byteB z) (hc : n ≤ c) (hm : c ≤ maxLen) :
    Calls Tryd.prog 50 #[.slice A n c] w (Opened w) := by
  have hm' := hm
  unfold maxLen at hm'
  by_cases h2 : n ≤ 2000
  · go_enter Tryd.func50, Tryd.ntmps50
    go_wp2_with fail
    go_ret
    refine ⟨rfl, ⟨A, n, c, l, Blk.made _ _ _, Nat.le_refl _, hs.below ((Below.refl _ _).alloc (Nat.le_refl _) _), hl, h2, hby⟩, (Below.refl _ _).alloc (Nat.le_refl _) _⟩
  · obtain ⟨b, off, x, rfl, hbB, hx, c0⟩ := hs.byte_at (k := 0) (by omega)
    clear hx c0
    have h3 : (2000 : Int) ≤ c := by omega
    go_enter Tryd.func50, Tryd.ntmps50
    go_wp2_with fail
    go_ret
    have ht : Sees w w.heap.size (some ⟨b, off, none⟩) (bys (l.take 2000)) := by
      have := hs.take (k := 2000)
      rwa [show (bys l).take 2000 = bys (l.take 2000) from by simp [bys]] at this
    exact ⟨rfl, ⟨_, 2000, c, l.take 2000, Blk.made _ _ _, Nat.le_refl _, ht.below ((Below.refl _ _).alloc (Nat.le_refl _) _), by simp; omega, Nat.le_refl _, fun z hz => hby z (List.mem_of_mem_take hz)⟩, (Below.refl _ _).alloc (Nat.le_refl _) _⟩
theorem gradeText_bad (a b c d e f : Int) (w : World) (h : gradeOk ⟨a, b, c, d, e, f⟩ = false) : Calls Tryd.prog 54 #[.agg #[.int .i64 a, .int .i64 b, .int .i64 c, .int .i64 d, .int .i64 e, .int .i64 f]] w fun E w' => E = .returned (.string ⟨#[]⟩) ∧ Below w.heap.size w w' := by
  go_enter Tryd.func54, Tryd.ntmps54
  have hb : Below w.heap.size w (w.alloc (.cells #[.int .i64 a, .int .i64 b, .int .i64 c, .int .i64 d, .int .i64 e, .int .i64 f] 59)) := (Below.refl _ _).alloc (Nat.le_refl _) _
  go_wp2_with fail
  generalize w.alloc _ = W at hb ⊢
  refine (gradeValid_any _ _ _ _ _ _ _).mono ?_
  rintro _ w1 ⟨rfl, hb1⟩
  rw [h]
  go_wp2_with fail
  go_ret
  exact ⟨rfl, below_next hb hb1⟩
theorem alive_any (w : World) : Calls Tryd.prog 17 #[] w fun E w' => E = .returned (.bool true) ∧ Below w.heap.size w w' := by
  go_enter Tryd.func17, Tryd.ntmps17
  have hb : Below w.heap.size w (w.alloc (.cells #[.int .i64 2, .int .i64 3] 3)) := (Below.refl _ _).alloc (Nat.le_refl _) _
  have hs : Sees (w.alloc (.cells #[.int .i64 2, .int .i64 3] 3)) (w.alloc (.cells #[.int .i64 2, .int .i64 3] 3)).heap.size (some ⟨w.heap.size, 0, none⟩) (ints [2, 3]) := by
    refine .inr ⟨w.heap.size, 0, rfl, by simp, fun j u hu => ?_⟩
    rw [(Blk.made w 3 #[.int .i64 2, .int .i64 3]).cell, Nat.zero_add, ← hu]
    rcases j with _ | _ | j
    · rfl
    · rfl
    · simp [ints]
  go_wp2_with fail
  generalize w.alloc _ = W at hb hs ⊢
  refine (mixTons_any _ _ [2, 3] _ hs (by simp)).mono ?_
  rintro _ _ ⟨rfl, rfl⟩
  rw [show tonsOf [2, 3] = 5 from by decide]
  go_wp2_with fail
  refine (gradeText_bad _ _ _ _ _ _ _ (by decide)).mono ?_
  rintro _ w1 ⟨rfl, hb1⟩
  go_wp2_with fail
  go_ret
  exact ⟨rfl, below_next hb hb1⟩
end Go.Proofs.YtdobfpdfbfaohaaDoor
