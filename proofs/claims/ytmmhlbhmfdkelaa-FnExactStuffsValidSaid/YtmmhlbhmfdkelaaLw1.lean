/-
  Walks of the exact laws on stuffs and lists: each returns true and writes nothing that was there.
-/
import Derived.Test.YtmmhlbhmfdkelaaMix
namespace Go.Proofs.Ytmmhlbhmfdkelaa
open Go.RowKit
set_option linter.unusedVariables false
theorem exactMixTons_walk (A : Option Addr) (n c : Nat) (l : List Int) (w : World) (hs : Sees w w.heap.size A (ints l)) (hl : l.length = n) (_ : ∀ z ∈ l, fits z) (hc : n ≤ c) (hm : c ≤ maxLen) :
    Calls Try.prog 6 #[.slice A n c] w fun e w' => e = .returned (.bool true) ∧ Below w.heap.size w w' := by
  subst hl
  by_cases hn : l.length ≤ 1048576
  · go_enter Try.func6, Try.ntmps6
    go_wp2_with fail
    refine (toIntS_any _ _ _ _ hs hn).mono ?_
    rintro _ w1 ⟨A1, c1, rfl, ho1, hb1⟩
    have hs1 := hs.next hb1
    go_wp2_with fail
    refine (sMixTons_any _ _ _ _ (Sees.of_own ho1) hn).mono ?_
    rintro _ _ ⟨rfl, rfl⟩
    go_wp2_with fail
    refine (toIntS_any _ _ _ _ hs1 hn).mono ?_
    rintro _ w2 ⟨A2, c2, rfl, ho2, hb2⟩
    have hs2 := hs1.next hb2
    have hx := Sees.of_own ho2
    go_wp2_with fail
    refine (mixTons_any _ _ _ _ hx hn).mono ?_
    rintro _ _ ⟨rfl, rfl⟩
    go_wp2_with fail
    refine (toIntS_any _ _ _ _ hs2 hn).mono ?_
    rintro _ w3 ⟨A3, c3, rfl, ho3, hb3⟩
    go_wp2_with fail
    refine (eqIntS_same _ _ _ _ _ _ (hx.next hb3) (Sees.of_own ho3) hn).mono ?_
    rintro _ w4 ⟨rfl, hb4⟩
    go_wp2_with fail
    go_ret
    exact ⟨rfl, below_next (below_next (below_next hb1 hb2) hb3) hb4⟩
  · unfold maxLen at hm
    go_enter Try.func6, Try.ntmps6
    go_wp2_with fail
    go_ret
    exact ⟨rfl, Below.refl _ _⟩
theorem exactStuffsValid_walk (A : Option Addr) (n c : Nat) (l : List Stuff) (w : World) (hs : Sees w w.heap.size A (ints (flatS l))) (hl : l.length = n) (_ : ∀ z ∈ flatS l, fits z) (hc : n ≤ c) (hm : c ≤ maxLen) :
    Calls Try.prog 9 #[.slice A n c] w fun e w' => e = .returned (.bool true) ∧ Below w.heap.size w w' := by
  subst hl
  by_cases hn : l.length ≤ 1048576
  · go_enter Try.func9, Try.ntmps9
    go_wp2_with fail
    refine (szStuffS_ok _ _ _ _ _ (by omega) (by omega)).mono ?_
    rintro _ _ ⟨rfl, rfl⟩
    go_wp2_with fail
    refine (toStuffS_any _ _ _ _ hs hn).mono ?_
    rintro _ w1 ⟨A1, c1, rfl, ho1, hb1⟩
    have hs1 := hs.next hb1
    go_wp2_with fail
    refine (sStuffsValid_any _ _ _ _ (Sees.of_own ho1) hn).mono ?_
    rintro _ w2 ⟨rfl, hb2⟩
    have hs2 := hs1.next hb2
    go_wp2_with fail
    refine (toStuffS_any _ _ _ _ hs2 hn).mono ?_
    rintro _ w3 ⟨A2, c2, rfl, ho2, hb3⟩
    have hs3 := hs2.next hb3
    have hx := Sees.of_own ho2
    go_wp2_with fail
    refine (stuffsValid_any _ _ _ _ hx hn).mono ?_
    rintro _ w4 ⟨rfl, hb4⟩
    have hs4 := hs3.next hb4
    have hx4 := hx.next hb4
    go_wp2_with fail
    refine (toStuffS_any _ _ _ _ hs4 hn).mono ?_
    rintro _ w5 ⟨A3, c3, rfl, ho3, hb5⟩
    go_wp2_with fail
    refine (eqStuffS_same _ _ _ _ _ _ (hx4.next hb5) (Sees.of_own ho3) hn).mono ?_
    rintro _ w6 ⟨rfl, hb6⟩
    go_wp2_with fail
    go_ret
    exact ⟨rfl, below_next (below_next (below_next (below_next (below_next hb1 hb2) hb3) hb4) hb5) hb6⟩
  · have hm' := hm
    unfold maxLen at hm'
    go_enter Try.func9, Try.ntmps9
    go_wp2_with fail
    refine (szStuffS_big _ _ _ _ _ (by omega) (by omega) (by omega)).mono ?_
    rintro _ _ ⟨rfl, rfl⟩
    go_wp2_with fail
    go_ret
    exact ⟨rfl, Below.refl _ _⟩
end Go.Proofs.Ytmmhlbhmfdkelaa
