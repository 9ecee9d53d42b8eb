/-
  Walks of the exact laws on stuffs and mixtures: each returns true and writes nothing that was there.
-/
import Derived.Test.YtmmhlbhmfdkelaaMx
namespace Go.Proofs.Ytmmhlbhmfdkelaa
open Go.RowKit
set_option linter.unusedVariables false
theorem exactMixValid_walk (A : Option Addr) (n c : Nat) (l : List Stuff) (A' : Option Addr) (n' c' : Nat) (x : List Int) (w : World) (hs : Sees w w.heap.size A (ints (flatS l))) (hl : l.length = n) (_ : ∀ z ∈ flatS l, fits z) (hc : n ≤ c) (hm : c ≤ maxLen)
    (hs' : Sees w w.heap.size A' (ints x)) (hl' : x.length = n') (_ : ∀ z ∈ x, fits z) (hc' : n' ≤ c') (hm' : c' ≤ maxLen) :
    Calls Try.prog 10 #[.slice A n c, .slice A' n' c'] w fun e w' => e = .returned (.bool true) ∧ Below w.heap.size w w' := by
  subst hl
  subst hl'
  by_cases hn' : x.length ≤ 1048576
  · by_cases hn : l.length ≤ 1048576
    · go_enter Try.func10, Try.ntmps10
      go_wp2_with fail
      refine (szStuffS_ok _ _ _ _ _ (by omega) (by omega)).mono ?_
      rintro _ _ ⟨rfl, rfl⟩
      go_wp2_with fail
      refine (toStuffS_any _ _ _ _ hs hn).mono ?_
      rintro _ w1 ⟨A1, c1, rfl, ho1, hb⟩
      have hb0 := hb
      replace hs := hs.next hb
      replace hs' := hs'.next hb
      have s1 := Sees.of_own ho1
      clear hb ho1
      go_wp2_with fail
      refine (toIntS_any _ _ _ _ hs' hn').mono ?_
      rintro _ w2 ⟨A2, c2, rfl, ho2, hb⟩
      replace hs := hs.next hb
      replace hs' := hs'.next hb
      replace s1 := s1.next hb
      have s2 := Sees.of_own ho2
      replace hb0 := below_next hb0 hb
      clear hb ho2
      go_wp2_with fail
      refine (sMixValid_any _ _ _ _ _ _ _ s1 hn s2 hn').mono ?_
      rintro _ w3 ⟨rfl, hb⟩
      replace hs := hs.next hb
      replace hs' := hs'.next hb
      replace hb0 := below_next hb0 hb
      clear hb s1 s2
      go_wp2_with fail
      refine (toStuffS_any _ _ _ _ hs hn).mono ?_
      rintro _ w4 ⟨A3, c3, rfl, ho3, hb⟩
      replace hs := hs.next hb
      replace hs' := hs'.next hb
      have s3 := Sees.of_own ho3
      replace hb0 := below_next hb0 hb
      clear hb ho3
      go_wp2_with fail
      refine (toIntS_any _ _ _ _ hs' hn').mono ?_
      rintro _ w5 ⟨A4, c4, rfl, ho4, hb⟩
      replace hs := hs.next hb
      replace hs' := hs'.next hb
      replace s3 := s3.next hb
      have s4 := Sees.of_own ho4
      replace hb0 := below_next hb0 hb
      clear hb ho4
      go_wp2_with fail
      refine (mixValid_any _ _ _ _ _ _ _ s3 hn s4 hn').mono ?_
      rintro _ w6 ⟨rfl, hb⟩
      replace hs := hs.next hb
      replace hs' := hs'.next hb
      replace s3 := s3.next hb
      replace s4 := s4.next hb
      replace hb0 := below_next hb0 hb
      clear hb
      go_wp2_with fail
      refine (toStuffS_any _ _ _ _ hs hn).mono ?_
      rintro _ w7 ⟨A5, c5, rfl, ho5, hb⟩
      replace hs' := hs'.next hb
      replace s3 := s3.next hb
      replace s4 := s4.next hb
      have s5 := Sees.of_own ho5
      replace hb0 := below_next hb0 hb
      clear hb ho5
      go_wp2_with fail
      refine (eqStuffS_same _ _ _ _ _ _ s3 s5 hn).mono ?_
      rintro _ w8 ⟨rfl, hb⟩
      replace hs' := hs'.next hb
      replace s4 := s4.next hb
      replace hb0 := below_next hb0 hb
      clear hb s3 s5
      go_wp2_with fail
      refine (toIntS_any _ _ _ _ hs' hn').mono ?_
      rintro _ w9 ⟨A6, c6, rfl, ho6, hb⟩
      replace s4 := s4.next hb
      have s6 := Sees.of_own ho6
      replace hb0 := below_next hb0 hb
      clear hb ho6
      go_wp2_with fail
      refine (eqIntS_same _ _ _ _ _ _ s4 s6 hn').mono ?_
      rintro _ w10 ⟨rfl, hb⟩
      replace hb0 := below_next hb0 hb
      go_wp2_with fail
      go_ret
      exact ⟨rfl, hb0⟩
    · have hq := hm
      unfold maxLen at hq
      go_enter Try.func10, Try.ntmps10
      go_wp2_with fail
      refine (szStuffS_big _ _ _ _ _ (by omega) (by omega) (by omega)).mono ?_
      rintro _ _ ⟨rfl, rfl⟩
      go_wp2_with fail
      go_ret
      exact ⟨rfl, Below.refl _ _⟩
  · unfold maxLen at hm'
    go_enter Try.func10, Try.ntmps10
    go_wp2_with fail
    go_ret
    exact ⟨rfl, Below.refl _ _⟩
theorem exactMixCost_walk (A : Option Addr) (n c : Nat) (l : List Stuff) (A' : Option Addr) (n' c' : Nat) (x : List Int) (w : World) (hs : Sees w w.heap.size A (ints (flatS l))) (hl : l.length = n) (_ : ∀ z ∈ flatS l, fits z) (hc : n ≤ c) (hm : c ≤ maxLen)
    (hs' : Sees w w.heap.size A' (ints x)) (hl' : x.length = n') (_ : ∀ z ∈ x, fits z) (hc' : n' ≤ c') (hm' : c' ≤ maxLen) :
    Calls Try.prog 11 #[.slice A n c, .slice A' n' c'] w fun e w' => e = .returned (.bool true) ∧ Below w.heap.size w w' := by
  subst hl
  subst hl'
  by_cases hn' : x.length ≤ 1048576
  · by_cases hn : l.length ≤ 1048576
    · go_enter Try.func11, Try.ntmps11
      go_wp2_with fail
      refine (szStuffS_ok _ _ _ _ _ (by omega) (by omega)).mono ?_
      rintro _ _ ⟨rfl, rfl⟩
      go_wp2_with fail
      refine (toStuffS_any _ _ _ _ hs hn).mono ?_
      rintro _ w1 ⟨A1, c1, rfl, ho1, hb⟩
      have hb0 := hb
      replace hs := hs.next hb
      replace hs' := hs'.next hb
      have s1 := Sees.of_own ho1
      clear hb ho1
      go_wp2_with fail
      refine (toIntS_any _ _ _ _ hs' hn').mono ?_
      rintro _ w2 ⟨A2, c2, rfl, ho2, hb⟩
      replace hs := hs.next hb
      replace hs' := hs'.next hb
      replace s1 := s1.next hb
      have s2 := Sees.of_own ho2
      replace hb0 := below_next hb0 hb
      clear hb ho2
      go_wp2_with fail
      refine (sMixCost_any _ _ _ _ _ _ _ s1 hn s2 hn').mono ?_
      rintro _ w3 ⟨rfl, hb⟩
      replace hs := hs.next hb
      replace hs' := hs'.next hb
      replace hb0 := below_next hb0 hb
      clear hb s1 s2
      go_wp2_with fail
      refine (toStuffS_any _ _ _ _ hs hn).mono ?_
      rintro _ w4 ⟨A3, c3, rfl, ho3, hb⟩
      replace hs := hs.next hb
      replace hs' := hs'.next hb
      have s3 := Sees.of_own ho3
      replace hb0 := below_next hb0 hb
      clear hb ho3
      go_wp2_with fail
      refine (toIntS_any _ _ _ _ hs' hn').mono ?_
      rintro _ w5 ⟨A4, c4, rfl, ho4, hb⟩
      replace hs := hs.next hb
      replace hs' := hs'.next hb
      replace s3 := s3.next hb
      have s4 := Sees.of_own ho4
      replace hb0 := below_next hb0 hb
      clear hb ho4
      go_wp2_with fail
      refine (mixCost_any _ _ _ _ _ _ _ s3 hn s4 hn').mono ?_
      rintro _ w6 ⟨rfl, hb⟩
      replace hs := hs.next hb
      replace hs' := hs'.next hb
      replace s3 := s3.next hb
      replace s4 := s4.next hb
      replace hb0 := below_next hb0 hb
      clear hb
      go_wp2_with fail
      refine (toStuffS_any _ _ _ _ hs hn).mono ?_
      rintro _ w7 ⟨A5, c5, rfl, ho5, hb⟩
      replace hs' := hs'.next hb
      replace s3 := s3.next hb
      replace s4 := s4.next hb
      have s5 := Sees.of_own ho5
      replace hb0 := below_next hb0 hb
      clear hb ho5
      go_wp2_with fail
      refine (eqStuffS_same _ _ _ _ _ _ s3 s5 hn).mono ?_
      rintro _ w8 ⟨rfl, hb⟩
      replace hs' := hs'.next hb
      replace s4 := s4.next hb
      replace hb0 := below_next hb0 hb
      clear hb s3 s5
      go_wp2_with fail
      refine (toIntS_any _ _ _ _ hs' hn').mono ?_
      rintro _ w9 ⟨A6, c6, rfl, ho6, hb⟩
      replace s4 := s4.next hb
      have s6 := Sees.of_own ho6
      replace hb0 := below_next hb0 hb
      clear hb ho6
      go_wp2_with fail
      refine (eqIntS_same _ _ _ _ _ _ s4 s6 hn').mono ?_
      rintro _ w10 ⟨rfl, hb⟩
      replace hb0 := below_next hb0 hb
      go_wp2_with fail
      go_ret
      exact ⟨rfl, hb0⟩
    · have hq := hm
      unfold maxLen at hq
      go_enter Try.func11, Try.ntmps11
      go_wp2_with fail
      refine (szStuffS_big _ _ _ _ _ (by omega) (by omega) (by omega)).mono ?_
      rintro _ _ ⟨rfl, rfl⟩
      go_wp2_with fail
      go_ret
      exact ⟨rfl, Below.refl _ _⟩
  · unfold maxLen at hm'
    go_enter Try.func11, Try.ntmps11
    go_wp2_with fail
    go_ret
    exact ⟨rfl, Below.refl _ _⟩
theorem exactMixSums_walk (A : Option Addr) (n c : Nat) (l : List Stuff) (A' : Option Addr) (n' c' : Nat) (x : List Int) (w : World) (hs : Sees w w.heap.size A (ints (flatS l))) (hl : l.length = n) (_ : ∀ z ∈ flatS l, fits z) (hc : n ≤ c) (hm : c ≤ maxLen)
    (hs' : Sees w w.heap.size A' (ints x)) (hl' : x.length = n') (_ : ∀ z ∈ x, fits z) (hc' : n' ≤ c') (hm' : c' ≤ maxLen) :
    Calls Try.prog 12 #[.slice A n c, .slice A' n' c'] w fun e w' => e = .returned (.bool true) ∧ Below w.heap.size w w' := by
  subst hl
  subst hl'
  by_cases hn' : x.length ≤ 1048576
  · by_cases hn : l.length ≤ 1048576
    · go_enter Try.func12, Try.ntmps12
      go_wp2_with fail
      refine (szStuffS_ok _ _ _ _ _ (by omega) (by omega)).mono ?_
      rintro _ _ ⟨rfl, rfl⟩
      go_wp2_with fail
      refine (toStuffS_any _ _ _ _ hs hn).mono ?_
      rintro _ w1 ⟨A1, c1, rfl, ho1, hb⟩
      have hb0 := hb
      replace hs := hs.next hb
      replace hs' := hs'.next hb
      have s1 := Sees.of_own ho1
      clear hb ho1
      go_wp2_with fail
      refine (toIntS_any _ _ _ _ hs' hn').mono ?_
      rintro _ w2 ⟨A2, c2, rfl, ho2, hb⟩
      replace hs := hs.next hb
      replace hs' := hs'.next hb
      replace s1 := s1.next hb
      have s2 := Sees.of_own ho2
      replace hb0 := below_next hb0 hb
      clear hb ho2
      go_wp2_with fail
      refine (sMixSums_any _ _ _ _ _ _ _ s1 hn s2 hn').mono ?_
      rintro _ w3 ⟨rfl, hb⟩
      replace hs := hs.next hb
      replace hs' := hs'.next hb
      replace hb0 := below_next hb0 hb
      clear hb s1 s2
      go_wp2_with fail
      refine (toStuffS_any _ _ _ _ hs hn).mono ?_
      rintro _ w4 ⟨A3, c3, rfl, ho3, hb⟩
      replace hs := hs.next hb
      replace hs' := hs'.next hb
      have s3 := Sees.of_own ho3
      replace hb0 := below_next hb0 hb
      clear hb ho3
      go_wp2_with fail
      refine (toIntS_any _ _ _ _ hs' hn').mono ?_
      rintro _ w5 ⟨A4, c4, rfl, ho4, hb⟩
      replace hs := hs.next hb
      replace hs' := hs'.next hb
      replace s3 := s3.next hb
      have s4 := Sees.of_own ho4
      replace hb0 := below_next hb0 hb
      clear hb ho4
      go_wp2_with fail
      refine (mixSums_any _ _ _ _ _ _ _ s3 hn s4 hn').mono ?_
      rintro _ w6 ⟨rfl, hb⟩
      replace hs := hs.next hb
      replace hs' := hs'.next hb
      replace s3 := s3.next hb
      replace s4 := s4.next hb
      replace hb0 := below_next hb0 hb
      clear hb
      go_wp2_with fail
      refine (toStuffS_any _ _ _ _ hs hn).mono ?_
      rintro _ w7 ⟨A5, c5, rfl, ho5, hb⟩
      replace hs' := hs'.next hb
      replace s3 := s3.next hb
      replace s4 := s4.next hb
      have s5 := Sees.of_own ho5
      replace hb0 := below_next hb0 hb
      clear hb ho5
      go_wp2_with fail
      refine (eqStuffS_same _ _ _ _ _ _ s3 s5 hn).mono ?_
      rintro _ w8 ⟨rfl, hb⟩
      replace hs' := hs'.next hb
      replace s4 := s4.next hb
      replace hb0 := below_next hb0 hb
      clear hb s3 s5
      go_wp2_with fail
      refine (toIntS_any _ _ _ _ hs' hn').mono ?_
      rintro _ w9 ⟨A6, c6, rfl, ho6, hb⟩
      replace s4 := s4.next hb
      have s6 := Sees.of_own ho6
      replace hb0 := below_next hb0 hb
      clear hb ho6
      go_wp2_with fail
      refine (eqIntS_same _ _ _ _ _ _ s4 s6 hn').mono ?_
      rintro _ w10 ⟨rfl, hb⟩
      replace hb0 := below_next hb0 hb
      go_wp2_with fail
      go_ret
      exact ⟨rfl, hb0⟩
    · have hq := hm
      unfold maxLen at hq
      go_enter Try.func12, Try.ntmps12
      go_wp2_with fail
      refine (szStuffS_big _ _ _ _ _ (by omega) (by omega) (by omega)).mono ?_
      rintro _ _ ⟨rfl, rfl⟩
      go_wp2_with fail
      go_ret
      exact ⟨rfl, Below.refl _ _⟩
  · unfold maxLen at hm'
    go_enter Try.func12, Try.ntmps12
    go_wp2_with fail
    go_ret
    exact ⟨rfl, Below.refl _ _⟩
end Go.Proofs.Ytmmhlbhmfdkelaa
