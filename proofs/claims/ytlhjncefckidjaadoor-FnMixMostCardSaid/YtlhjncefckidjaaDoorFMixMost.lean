/-
  The walk of the law FnMixMost.
-/
import Derived.Test.YtlhjncefckidjaaDoorDx
import Derived.Test.YtlhjncefckidjaaDoorSm
import Derived.Test.YtlhjncefckidjaaDoorSc
namespace Go.Proofs.YtlhjncefckidjaaDoor
open Go.RowKit
set_option linter.unusedVariables false
set_option maxRecDepth 20000 in
set_option maxHeartbeats 4000000 in
theorem fnMixMost_walk (A : Option Addr) (n c : Nat) (l : List Int) (w : World) (hs : Sees w w.heap.size A (bys l)) (hl : l.length = n) (hby : ∀ z ∈ l, byteB z) (hc : n ≤ c) (hm : c ≤ maxLen) :
    Calls Tryd.prog 5 #[.slice A n c] w fun e w' => e = .returned (.bool true) ∧ Below w.heap.size w w' := by
  have hm' := hm
  unfold maxLen at hm'
  by_cases hn : n ≤ 1048576
  case neg =>
    go_enter Tryd.func5, Tryd.ntmps5
    go_wp2_with fail
    go_ret
    exact ⟨rfl, Below.refl _ _⟩
  go_enter Tryd.func5, Tryd.ntmps5
  go_wp2_with fail
  refine (drawMixMost_any A n c l _ hs hl hby hc hm).mono ?_
  rintro _ w1 ⟨st, A1, c1, g, hlen, rfl, hQ, hb⟩
  obtain ⟨g1, g2, g3, g4, g5, g6⟩ := g
  have hG := Blk.made w1 25 #[.int .i64 g1, .int .i64 g2, .int .i64 g3, .int .i64 g4, .int .i64 g5, .int .i64 g6]
  replace hQ := own_hi (hQ.alloc (.cells #[.int .i64 g1, .int .i64 g2, .int .i64 g3, .int .i64 g4, .int .i64 g5, .int .i64 g6] 25)) (show w1.heap.size ≤ (w1.alloc (.cells #[.int .i64 g1, .int .i64 g2, .int .i64 g3, .int .i64 g4, .int .i64 g5, .int .i64 g6] 25)).heap.size by simp)
  replace hb := hb.alloc hb.size (.cells #[.int .i64 g1, .int .i64 g2, .int .i64 g3, .int .i64 g4, .int .i64 g5, .int .i64 g6] 25)
  have e_hG := hG.cell
  go_wp2_with fail
  clear e_hG
  generalize w1.alloc _ = W at *
  refine (mixMost_any A1 c1 st g1 g2 g3 g4 g5 g6 _ hQ.sees (by omega)).mono ?_
  rintro _ w2 ⟨rfl, hb1⟩
  replace hQ := own_hi (hQ.below hb1) hb1.size
  replace hG := hG.below hb1 hG.lt
  replace hb := below_next hb hb1
  clear hb1
  have e_hG := hG.cell
  go_wp2_with fail
  clear e_hG
  refine (sMixMost_any A1 c1 st g1 g2 g3 g4 g5 g6 _ hQ.sees (by omega)).mono ?_
  rintro _ w3 ⟨rfl, hb1⟩
  replace hQ := own_hi (hQ.below hb1) hb1.size
  replace hG := hG.below hb1 hG.lt
  replace hb := below_next hb hb1
  clear hb1
  have hle := most_le (l := st) (g := ⟨g1, g2, g3, g4, g5, g6⟩)
  have hneg := most_neg (l := st) (g := ⟨g1, g2, g3, g4, g5, g6⟩)
  have hmost := fun (h : 0 ≤ mixMost st ⟨g1, g2, g3, g4, g5, g6⟩) (t : Int) (h1 : 1 ≤ t) (h2 : t ≤ 12) => most_is h h1 h2
  have hm1 : mixMost st ⟨g1, g2, g3, g4, g5, g6⟩ < 0 → mixMost st ⟨g1, g2, g3, g4, g5, g6⟩ = -1 := by intro h; rw [hneg] at h; unfold mixMost; rw [if_neg (by simp [h])]
  clear hneg
  generalize mixMost st ⟨g1, g2, g3, g4, g5, g6⟩ = N at hle hmost hm1 ⊢
  have Hmost := Lib.hid hmost
  clear hmost
  by_cases hN : N < 0
  · have e := hm1 hN
    subst e
    clear hm1 hle
    go_wp2_with fail
    refine (alive_any _).mono ?_
    rintro _ w9 ⟨rfl, hb1⟩
    go_wp2_with fail
    go_ret
    exact ⟨rfl, below_next hb hb1⟩
  · clear hm1
    have hN0 : 0 ≤ N := by omega
    clear hN
    go_wp2_with fail
    go_loopw [6] (fun i wr => ∃ k : Nat, 1 ≤ k ∧ k ≤ 13 ∧ i = .int .i64 k ∧ Below w3.heap.size w3 wr) (fun i _ => 13 - (intOf i).toNat)
    case atStart => exact ⟨1, Nat.le_refl _, by omega, rfl, Below.refl _ _⟩
    case round =>
      obtain ⟨k, hk1, hk2, rfl, hbr⟩ := hrel
      by_cases hlt : k ≤ 12
      · have hQr := hQ.below hbr
        have hGr := hG.below hbr hG.lt
        have e_hG := hGr.cell
        obtain ⟨m1, m2⟩ := Hmost.out hN0 (k : Int) (by omega) (by omega)
        have M1 := Lib.hid m1
        have M2 := Lib.hid m2
        clear m1 m2
        go_wp2_with fail
        clear e_hG
        refine (mixBest_any A1 c1 st g1 g2 g3 g4 g5 g6 _ _ hQr.sees (by omega)).mono ?_
        rintro _ w4 ⟨A4, c4, rfl, hX, hb4⟩
        clear hX
        cases hf : (mixBest st ⟨g1, g2, g3, g4, g5, g6⟩ (k : Int)).2 with
        | true =>
          have hle2 : (k : Int) ≤ N := by
            apply Int.not_lt.1
            intro h
            have := M1.out h
            rw [hf] at this
            cases this
          clear hf
          go_wp2_with fail
          go_roundw
          case rel => exact ⟨k + 1, by omega, by omega, by go_num, below_next hbr hb4⟩
          case measure => simp [intOf]; omega
        | false =>
          have hne2 : (k : Int) ≠ N := by
            intro h
            have := M2.out h
            rw [hf] at this
            cases this
          have hbq : ((k : Int) == N) = false := by rw [beq_eq_false_iff_ne]; exact hne2
          clear hf
          go_wp2_with fail
          go_roundw
          case rel => exact ⟨k + 1, by omega, by omega, by go_num, below_next hbr hb4⟩
          case measure => simp [intOf]; omega
      · go_wp2_with fail
        go_ret
        exact ⟨rfl, below_next hb hbr⟩
end Go.Proofs.YtlhjncefckidjaaDoor
