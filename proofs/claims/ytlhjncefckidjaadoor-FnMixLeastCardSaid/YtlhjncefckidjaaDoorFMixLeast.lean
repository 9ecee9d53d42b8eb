/-
  The walk of the law FnMixLeast.
-/
import Derived.Test.YtlhjncefckidjaaDoorDx
import Derived.Test.YtlhjncefckidjaaDoorSm
import Derived.Test.YtlhjncefckidjaaDoorSc
namespace Go.Proofs.YtlhjncefckidjaaDoor
open Go.RowKit
set_option linter.unusedVariables false
theorem own_price {w : World} {lo hi n c g : Nat} {t : TypeId} {s : Stuff} {L : List Stuff} (h : Own w lo hi t 5 (some ⟨g, 0, none⟩) n c (ints (flatS (s :: L)))) (hL : (s :: L).length = n) :
    lo ≤ g ∧ g < hi ∧ w.cell? ⟨g, 3, none⟩ = some (.int .i64 s.p) ∧ w.frozen? ⟨g, 3, none⟩ = false ∧
      (w.setCell ⟨g, 3, none⟩ (.int .i64 (s.p + 1))).cell? ⟨g, 3, none⟩ = some (.int .i64 (s.p + 1)) ∧
      Own (w.setCell ⟨g, 3, none⟩ (.int .i64 (s.p + 1))) lo hi t 5 (some ⟨g, 0, none⟩) n c (ints (flatS (dearS (s :: L)))) := by
  obtain ⟨g', cs, hA, h1, h2, hn, hm, hB, hsz, hx⟩ := h.block (by rw [← hL]; simp)
  injection hA with hA
  injection hA with e
  subst e
  have hp : 0 < n := by rw [← hL]; simp
  refine ⟨h1, h2, ?_, hB.frozen _, ?_, Own.mk_ h1 h2 hn hm (hB.put _ _) (by simpa using hsz) ?_⟩
  · have h3 : (cs.toList.take (n * 5))[3]? = cs[3]? := by rw [List.getElem?_take, if_pos (by omega), Array.getElem?_toList]
    rw [hB.cell, ← h3, hx]
    rfl
  · rw [(hB.put 3 _).cell, Array.getElem?_setIfInBounds_self_of_lt (by rw [hsz]; omega)]
  · rw [Array.toList_setIfInBounds, List.take_set, hx]
    rfl
set_option maxRecDepth 20000 in
set_option maxHeartbeats 4000000 in
theorem fnMixLeast_walk (A : Option Addr) (n c : Nat) (l : List Int) (w : World) (hs : Sees w w.heap.size A (bys l)) (hl : l.length = n) (hby : ∀ z ∈ l, byteB z) (hc : n ≤ c) (hm : c ≤ maxLen) :
    Calls Tryd.prog 4 #[.slice A n c] w fun e w' => e = .returned (.bool true) ∧ Below w.heap.size w w' := by
  have hm' := hm
  unfold maxLen at hm'
  by_cases hn : n ≤ 1048576
  case neg =>
    go_enter Tryd.func4, Tryd.ntmps4
    go_wp2_with fail
    go_ret
    exact ⟨rfl, Below.refl _ _⟩
  obtain ⟨i0, hi, hz0, hz1, hz2⟩ := info_parts infoStuff2
  go_enter Tryd.func4, Tryd.ntmps4
  go_wp2_with fail
  refine (drawMixLeast_any A n c l _ hs hl hby hc hm).mono ?_
  rintro _ w1 ⟨st, A1, c1, g, t, hlen, ht1, ht2, rfl, hQ, hb⟩
  obtain ⟨g1, g2, g3, g4, g5, g6⟩ := g
  have hG := Blk.made w1 25 #[.int .i64 g1, .int .i64 g2, .int .i64 g3, .int .i64 g4, .int .i64 g5, .int .i64 g6]
  replace hQ := own_hi (hQ.alloc (.cells #[.int .i64 g1, .int .i64 g2, .int .i64 g3, .int .i64 g4, .int .i64 g5, .int .i64 g6] 25)) (show w1.heap.size ≤ (w1.alloc (.cells #[.int .i64 g1, .int .i64 g2, .int .i64 g3, .int .i64 g4, .int .i64 g5, .int .i64 g6] 25)).heap.size by simp)
  replace hb := hb.alloc hb.size (.cells #[.int .i64 g1, .int .i64 g2, .int .i64 g3, .int .i64 g4, .int .i64 g5, .int .i64 g6] 25)
  have e_hG := hG.cell
  go_wp2_with fail
  clear e_hG
  generalize w1.alloc _ = W at *
  refine (mixLeast_any A1 c1 st g1 g2 g3 g4 g5 g6 t _ hQ.sees (by omega)).mono ?_
  rintro _ w2 ⟨rfl, hb1⟩
  replace hQ := own_hi (hQ.below hb1) hb1.size
  replace hG := hG.below hb1 hG.lt
  replace hb := below_next hb hb1
  clear hb1
  have e_hG := hG.cell
  go_wp2_with fail
  clear e_hG
  refine (sMixLeast_any A1 c1 st g1 g2 g3 g4 g5 g6 t _ hQ.sees (by omega)).mono ?_
  rintro _ w3 ⟨rfl, hb1⟩
  replace hQ := own_hi (hQ.below hb1) hb1.size
  replace hG := hG.below hb1 hG.lt
  replace hb := below_next hb hb1
  clear hb1
  cases hf : (mixBest st ⟨g1, g2, g3, g4, g5, g6⟩ t).2 with
  | false =>
    rw [least_none hf]
    clear hf
    go_wp2_with fail
    refine (alive_any _).mono ?_
    rintro _ w9 ⟨rfl, hb1⟩
    go_wp2_with fail
    go_ret
    exact ⟨rfl, below_next hb hb1⟩
  | true =>
    obtain ⟨hso, _, ht3, ht4, _⟩ := best_is hf
    obtain ⟨_, x1, x2⟩ := least_found hf
    obtain ⟨y1, y2⟩ := wide_law hf
    obtain ⟨s, L, hst⟩ : ∃ s L, st = s :: L := by
      cases st with
      | nil =>
        obtain ⟨_, _, _, _, h5, h6, _⟩ := best_is hf
        have hx0 : (mixBest [] ⟨g1, g2, g3, g4, g5, g6⟩ t).1 = [] := List.eq_nil_of_length_eq_zero (mixOk_len h5)
        rw [hx0] at h6
        have h7 : tonsOf [] = 0 := rfl
        omega
      | cons s L => exact ⟨s, L, rfl⟩
    subst hst
    have hsb := stuff_bounds hso List.mem_cons_self
    obtain ⟨_, _, _, _, _, _, hp0, hp1, _, _⟩ := hsb
    have hdear := fun (h : s.p + 1 ≤ 99) => dear_law hf h
    have Hdear := Lib.hid hdear
    have Hso := Lib.hid hso
    clear hdear hf hso
    simp only [wideC] at y1 y2
    have hpos : (0 : Int) < ((s :: L).length : Int) := by simp
    have hposN : 0 < (s :: L).length := by simp
    have hle1 : (dearS (s :: L)).length = (s :: L).length := dear_len _
    generalize hX : mixLeast (s :: L) ⟨g1, g2, g3, g4, g5, g6⟩ t = X at x1 x2 y2 Hdear ⊢
    clear hX
    obtain ⟨NN, hNN⟩ : ∃ NN, NN = (s :: L).length := ⟨_, rfl⟩
    rw [← hNN] at hpos hposN hle1 hlen ⊢
    have hQn := hQ
    rw [← hNN] at hQn
    have HNN := Lib.hid hNN
    have Hle1 := Lib.hid hle1
    clear hNN hle1
    have e_hG := hG.cell
    go_wp2_with fail
    clear e_hG
    replace hQ := own_hi (hQ.alloc (.cells #[.int .i64 0, .int .i64 999, .int .i64 g3, .int .i64 g4, .int .i64 g5, .int .i64 g6] 25)) (show w3.heap.size ≤ (w3.alloc (.cells #[.int .i64 0, .int .i64 999, .int .i64 g3, .int .i64 g4, .int .i64 g5, .int .i64 g6] 25)).heap.size by simp)
    replace hG := hG.alloc (.cells #[.int .i64 0, .int .i64 999, .int .i64 g3, .int .i64 g4, .int .i64 g5, .int .i64 g6] 25)
    replace hb := hb.alloc hb.size (.cells #[.int .i64 0, .int .i64 999, .int .i64 g3, .int .i64 g4, .int .i64 g5, .int .i64 g6] 25)
    generalize w3.alloc _ = V at *
    have hcall := mixLeast_any A1 c1 (s :: L) 0 999 g3 g4 g5 g6 t _ hQ.sees (by rw [← HNN.out]; omega)
    rw [← HNN.out] at hcall
    refine hcall.mono ?_
    clear hcall
    rintro _ w4 ⟨rfl, hb1⟩
    replace hQ := own_hi (hQ.below hb1) hb1.size
    replace hG := hG.below hb1 hG.lt
    replace hb := below_next hb hb1
    clear hb1
    generalize mixLeast (s :: L) ⟨0, 999, g3, g4, g5, g6⟩ t = Y at y1 y2 ⊢
    have hS : Sees (w4.alloc (.cells #[] 42)) (w4.alloc (.cells #[] 42)).heap.size A1 (ints (flatS (s :: L))) := hQ.sees.next ((Below.refl _ _).alloc (Nat.le_refl _) _)
    have hgw : w1.heap.size < w4.heap.size := hG.lt
    go_wp2_with (at_builtin; refine wpList_app _ rfl (.tmp 44) (.tmp 45) _ rfl 42 i0 _ 5 40 Tryd.underlying23 hi hz0 hz1 hz2 rfl (by omega) rfl (own_made _ _ _) rfl hS (by rw [ints_length, flatS_length, HNN.out]) (one_ints _) (by omega) (by omega) (by simp) ?_; intro A5 c5 w5 hD hon; replace hD := own_zero' hD; obtain ⟨gd, _, rfl, _⟩ := hD.block hposN; obtain ⟨d1, d2, d3, d4, d6, d5⟩ := own_price hD HNN.out.symm; rw [Nat.zero_add]; have hG5 := (hG.alloc (.cells #[] 42)).only hon (.inl hgw); have e5 := hG5.cell; have hne1 : ¬ (w1.heap.size = gd) := (by omega); have hne2 : ¬ (gd = w1.heap.size) := (by omega))
    have hb5 := (below_only (hb.alloc hb.size (.cells #[] 42)) hon hb.size (Nat.le_refl _)).setCell (p := ⟨gd, 3, none⟩) (Nat.le_trans hb.size d1) (.int .i64 (s.p + 1))
    have hcall := mixLeast_any (some ⟨gd, 0, none⟩) c5 (dearS (s :: L)) g1 g2 g3 g4 g5 g6 t _ d5.sees (by rw [Hle1.out]; omega)
    rw [Hle1.out] at hcall
    clear e5 hD d3 d4 d5
    generalize World.setCell _ _ _ = U at hb5 d6 hcall ⊢
    refine hcall.mono ?_
    clear hcall
    rintro _ w6 ⟨rfl, hb6⟩
    have hgd : gd < U.heap.size := cell_lt d6
    have e6 : w6.cell? ⟨gd, 3, none⟩ = some (.int .i64 (s.p + 1)) := ((below_cells hb6).1 _ _ hgd).trans d6
    clear d6
    by_cases hp : s.p + 1 ≤ 99
    · obtain ⟨q1, q2⟩ := Hdear.out hp
      generalize mixLeast (dearS (s :: L)) ⟨g1, g2, g3, g4, g5, g6⟩ t = Z at q1 q2 ⊢
      go_wp2_with fail
      go_ret
      exact ⟨rfl, below_next hb5 hb6⟩
    · generalize mixLeast (dearS (s :: L)) ⟨g1, g2, g3, g4, g5, g6⟩ t = Z
      go_wp2_with fail
      go_ret
      exact ⟨rfl, below_next hb5 hb6⟩
end Go.Proofs.YtlhjncefckidjaaDoor
