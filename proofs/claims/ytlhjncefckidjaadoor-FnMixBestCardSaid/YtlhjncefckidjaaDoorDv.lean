/-
  Contracts of grades that are drawn around a mixture, of two drawn grades, and of stuffs with a mixture and a grade.
-/
import Derived.Test.YtlhjncefckidjaaDoorDu
import Derived.Test.YtlhjncefckidjaaDoorDg
namespace Go.Proofs.YtlhjncefckidjaaDoor
open Go.RowKit
set_option linter.unusedVariables false
attribute [local go_sem ↓] Go.wp_at_zero Go.wp_at_succ
attribute [local go_sem high] run_maxI run_minI
theorem Blk.six {w : World} {g : Nat} {t : TypeId} {v1 v2 v3 v4 v5 v6 : Value} (h : Blk w g t #[v1, v2, v3, v4, v5, v6]) (b1 b2 b3 b4 b5 b6 : Int) :
    Blk ((((((w.setCell ⟨g, 0, none⟩ (.int .i64 b1)).setCell ⟨g, 1, none⟩ (.int .i64 b2)).setCell ⟨g, 2, none⟩ (.int .i64 b3)).setCell ⟨g, 3, none⟩ (.int .i64 b4)).setCell ⟨g, 4, none⟩ (.int .i64 b5)).setCell ⟨g, 5, none⟩ (.int .i64 b6)) g t #[.int .i64 b1, .int .i64 b2, .int .i64 b3, .int .i64 b4, .int .i64 b5, .int .i64 b6] := by
  simpa using (((((h.put 0 (.int .i64 b1)).put 1 (.int .i64 b2)).put 2 (.int .i64 b3)).put 3 (.int .i64 b4)).put 4 (.int .i64 b5)).put 5 (.int .i64 b6)
/-- A grade is drawn, of whatever bounds. -/
def DrewG2 (w : World) (B r p : Nat) (e : Ending) (w' : World) : Prop :=
  ∃ (g : Grade) (p' : Nat), p' ≤ p + 20 ∧ e = .returned (gv g) ∧ Rd w' B r p' ∧ Only r (r + 1) w w'
theorem maxI_one (k : Int) : 1 ≤ maxI k 1 := by unfold maxI; split <;> omega
set_option maxHeartbeats 8000000 in
theorem l20Around_any (B r p : Nat) (w : World) (h : Rd w B r p) (hp : p ≤ 50000) (A1 A2 : Option Addr) (c1 c2 : Nat) (l : List Stuff) (x : List Int) (hQ : Sees w w.heap.size A1 (ints (flatS l))) (hX : Sees w w.heap.size A2 (ints x)) (hl5 : l.length ≤ 5) (hx6 : x.length ≤ 6) :
    Calls Tryd.prog 40 #[.pointer (some ⟨r, 0, none⟩), .slice A1 l.length c1, .slice A2 x.length c2] w (DrewG2 w B r p) := by
  have hrw := h.lt
  have hBr := h.le
  go_enter Tryd.func40, Tryd.ntmps40
  have hB6 := Blk.made w 25 #[.int .i64 0, .int .i64 0, .int .i64 0, .int .i64 0, .int .i64 0, .int .i64 0]
  have hR := h.alloc (.cells #[.int .i64 0, .int .i64 0, .int .i64 0, .int .i64 0, .int .i64 0, .int .i64 0] 25)
  have hO : Only r (r + 1) w (w.alloc (.cells #[.int .i64 0, .int .i64 0, .int .i64 0, .int .i64 0, .int .i64 0, .int .i64 0] 25)) := (Only.refl _ _ _).alloc _
  have hb0 : Below w.heap.size w (w.alloc (.cells #[.int .i64 0, .int .i64 0, .int .i64 0, .int .i64 0, .int .i64 0, .int .i64 0] 25)) := (Below.refl _ _).alloc (Nat.le_refl _) _
  go_wp2_with fail
  generalize w.alloc _ = W at hB6 hR hO hb0 ⊢
  refine (sMixSums_any _ _ _ _ _ _ _ (hQ.next hb0) (by omega) (hX.next hb0) (by omega)).mono ?_
  rintro _ w1 ⟨rfl, hb1⟩
  replace hB6 := hB6.below hb1 hB6.lt
  replace hR := hR.below hb1
  replace hO := hO.trans (Only.of_below hb1 _ _)
  replace hb0 := below_next hb0 hb1
  clear hb1
  generalize mixSC l x = P
  generalize mixSM l x = M
  generalize mixSS l x = S
  go_wp2_with fail
  refine (sMixTons_any _ _ _ _ (hX.next hb0) (by omega)).mono ?_
  rintro _ _ ⟨rfl, rfl⟩
  have hn1 := maxI_one (tonsOf x)
  go_wp2_with fail
  refine (l20Grade_any B r _ 20 _ hR (by omega) (by omega)).mono ?_
  rintro _ w2 ⟨g, p2, hsg, hp2, rfl, hR1, hO1⟩
  clear hsg
  replace hB6 := hB6.only hO1 (by omega)
  replace hO := hO.trans hO1
  clear hR hO1
  obtain ⟨g1, g2, g3, g4, g5, g6⟩ := g
  have hB11 := Blk.made w2 25 #[.int .i64 g1, .int .i64 g2, .int .i64 g3, .int .i64 g4, .int .i64 g5, .int .i64 g6]
  have hz2 := hO.size
  have hl6 := hB6.lt
  replace hB6 := hB6.alloc (.cells #[.int .i64 g1, .int .i64 g2, .int .i64 g3, .int .i64 g4, .int .i64 g5, .int .i64 g6] 25)
  have hR := hR1.alloc (.cells #[.int .i64 g1, .int .i64 g2, .int .i64 g3, .int .i64 g4, .int .i64 g5, .int .i64 g6] 25)
  replace hO := hO.alloc (.cells #[.int .i64 g1, .int .i64 g2, .int .i64 g3, .int .i64 g4, .int .i64 g5, .int .i64 g6] 25)
  clear hR1
  by_cases hP : 0 ≤ P
  case neg =>
    have hd : decide (0 ≤ P) = false := by simpa using hP
    go_upto_if 30 with (fail)
    generalize w2.alloc _ = W2 at hB6 hB11 hR hO ⊢
    have c6 := hB6.cell
    have f6 := hB6.frozen
    have c11 := hB11.cell
    go_wp2_with fail
    refine bodyPost_ret (v := gv ⟨g1, g2, g3, g4, g5, g6⟩) (by simp [results, Tryd.results40, go_sem, c6]) rfl ⟨⟨g1, g2, g3, g4, g5, g6⟩, p2, by omega, rfl, ?_, ?_⟩
    · exact (((((hR.setCell hrw _).setCell hrw _).setCell hrw _).setCell hrw _).setCell hrw _).setCell hrw _
    · exact (((((hO.setNew (Nat.le_refl _) _).setNew (Nat.le_refl _) _).setNew (Nat.le_refl _) _).setNew (Nat.le_refl _) _).setNew (Nat.le_refl _) _).setNew (Nat.le_refl _) _
  have hd : decide (0 ≤ P) = true := by simpa using hP
  go_wp2_with fail
  generalize w2.alloc _ = W2 at hB6 hB11 hR hO ⊢
  refine (pick_any B r _ 4 _ hR (by omega) (by omega) (by omega)).mono ?_
  rintro _ w3 ⟨v, hv, rfl, hR1, hO1⟩
  replace hB6 := hB6.only hO1 (by omega)
  replace hB11 := hB11.only hO1 (by omega)
  replace hO := hO.trans hO1
  clear hR hO1
  by_cases hv0 : v = 0
  · subst hv0
    have c6 := hB6.cell
    have f6 := hB6.frozen
    have c11 := hB11.cell
    go_wp2_with fail
    refine bodyPost_ret (v := gv ⟨g1, g2, g3, g4, g5, g6⟩) (by simp [results, Tryd.results40, go_sem, c6]) rfl ⟨⟨g1, g2, g3, g4, g5, g6⟩, p2 + 1, by omega, rfl, ?_, ?_⟩
    · exact (((((hR1.setCell hrw _).setCell hrw _).setCell hrw _).setCell hrw _).setCell hrw _).setCell hrw _
    · exact (((((hO.setNew (Nat.le_refl _) _).setNew (Nat.le_refl _) _).setNew (Nat.le_refl _) _).setNew (Nat.le_refl _) _).setNew (Nat.le_refl _) _).setNew (Nat.le_refl _) _
  have hv1 : (0 : Int) < (v : Int) := by omega
  have hr2 : r < w2.heap.size := by omega
  have hne : (maxI (tonsOf x) 1 == 0) = false := by rw [beq_eq_false_iff_ne]; omega
  generalize maxI (tonsOf x) 1 = N at hn1 hne ⊢
  have hN0 : ¬ N = 0 := by omega
  go_upto_region 5 with (fail)
  go_cut [] (fun wx => ∃ (g : Grade) (p7 : Nat), p7 ≤ p + 20 ∧ Blk wx w2.heap.size 25 #[.int .i64 g.lc, .int .i64 g.hc, .int .i64 g.lm, .int .i64 g.hm, .int .i64 g.ls, .int .i64 g.hs] ∧ Blk wx w.heap.size 25 #[.int .i64 0, .int .i64 0, .int .i64 0, .int .i64 0, .int .i64 0, .int .i64 0] ∧ Rd wx B r p7 ∧ Only r (r + 1) w wx)
  case rest =>
    clear hB6 hB11 hR1 hO
    obtain ⟨g, p7, hp7, hB11, hB6, hR, hO⟩ := hcut
    have c6 := hB6.cell
    have f6 := hB6.frozen
    have c11 := hB11.cell
    go_wp2_with fail
    refine bodyPost_ret (v := gv g) (by simp [results, Tryd.results40, go_sem, c6]) rfl ⟨g, p7, hp7, rfl, ?_, ?_⟩
    · exact (((((hR.setCell hrw _).setCell hrw _).setCell hrw _).setCell hrw _).setCell hrw _).setCell hrw _
    · exact (((((hO.setNew (Nat.le_refl _) _).setNew (Nat.le_refl _) _).setNew (Nat.le_refl _) _).setNew (Nat.le_refl _) _).setNew (Nat.le_refl _) _).setNew (Nat.le_refl _) _
  case first =>
    have hR := hR1
    have hC := hB11
    have hD := hB6
    refine wp_region_noPanic ?_
    refine wp_region_held_drew (S := (fun _ => True)) (by kernel_rfl) ?_ (fun hHeld => ?_)
    · exact trivial
    refine wpAnyH_take (i := 0) (oi := _) (v := ?_) (by first | (simp only [List.getElem?_toArray, List.getElem?_cons_zero]; done) | (simp only [List.getElem?_toArray, List.getElem?_cons_zero]; exact rfl)) (by kernel_rfl) (by kernel_rfl) (by kernel_rfl) (fun _ _ _ h => h) (Or.inl ⟨by rfl, ?_⟩) (by assumption) ?_
    rotate_left
    · intro w hSw; (try dsimp only at hSw); go_simp; all_goals with_reducible rfl
    try simp only [Act.put, List.setIfInBounds_toArray, List.set_cons_zero, List.set_cons_succ]
    refine wpAnyH_take (i := 1) (oi := _) (v := ?_) (by first | (simp only [List.getElem?_toArray, List.getElem?_cons_succ, List.getElem?_cons_zero]; done) | (simp only [List.getElem?_toArray, List.getElem?_cons_succ, List.getElem?_cons_zero]; exact rfl)) (by kernel_rfl) (by kernel_rfl) (by kernel_rfl) (fun _ _ _ h => h) (Or.inl ⟨by rfl, ?_⟩) (by assumption) ?_
    rotate_left
    · intro w hSw; (try dsimp only at hSw); go_simp; all_goals with_reducible rfl
    try simp only [Act.put, List.setIfInBounds_toArray, List.set_cons_zero, List.set_cons_succ]
    refine wpAnyH_take (i := 2) (oi := _) (v := ?_) (by first | (simp only [List.getElem?_toArray, List.getElem?_cons_succ, List.getElem?_cons_zero]; done) | (simp only [List.getElem?_toArray, List.getElem?_cons_succ, List.getElem?_cons_zero]; exact rfl)) (by kernel_rfl) (by kernel_rfl) (by kernel_rfl) (fun _ _ _ h => h) (Or.inl ⟨by rfl, ?_⟩) (by assumption) ?_
    rotate_left
    · intro w hSw; (try dsimp only at hSw); go_simp; all_goals with_reducible rfl
    try simp only [Act.put, List.setIfInBounds_toArray, List.set_cons_zero, List.set_cons_succ]
    refine wpAnyH_take (i := 3) (oi := _) (v := ?_) (by first | (simp only [List.getElem?_toArray, List.getElem?_cons_succ, List.getElem?_cons_zero]; done) | (simp only [List.getElem?_toArray, List.getElem?_cons_succ, List.getElem?_cons_zero]; exact rfl)) (by kernel_rfl) (by kernel_rfl) (by kernel_rfl) (fun _ _ _ h => h) (Or.inl ⟨by rfl, ?_⟩) (by assumption) ?_
    rotate_left
    · intro w hSw; (try dsimp only at hSw); go_simp; all_goals with_reducible rfl
    try simp only [Act.put, List.setIfInBounds_toArray, List.set_cons_zero, List.set_cons_succ]
    refine wpAnyH_take (i := 7) (oi := _) (v := ?_) (by first | (simp only [List.getElem?_toArray, List.getElem?_cons_succ, List.getElem?_cons_zero]; done) | (simp only [List.getElem?_toArray, List.getElem?_cons_succ, List.getElem?_cons_zero]; exact rfl)) (by kernel_rfl) (by kernel_rfl) (by kernel_rfl) (fun _ _ _ h => h) (Or.inl ⟨by rfl, ?_⟩) (by assumption) ?_
    rotate_left
    · intro w hSw; (try dsimp only at hSw); go_simp; all_goals with_reducible rfl
    try simp only [Act.put, List.setIfInBounds_toArray, List.set_cons_zero, List.set_cons_succ]
    refine wpAnyH_take (i := 8) (oi := _) (v := ?_) (by first | (simp only [List.getElem?_toArray, List.getElem?_cons_succ, List.getElem?_cons_zero]; done) | (simp only [List.getElem?_toArray, List.getElem?_cons_succ, List.getElem?_cons_zero]; exact rfl)) (by kernel_rfl) (by kernel_rfl) (by kernel_rfl) (fun _ _ _ h => h) (Or.inl ⟨by rfl, ?_⟩) (by assumption) ?_
    rotate_left
    · intro w hSw; (try dsimp only at hSw); go_simp; all_goals with_reducible rfl
    try simp only [Act.put, List.setIfInBounds_toArray, List.set_cons_zero, List.set_cons_succ]
    refine wpAnyH_take (i := 9) (oi := _) (v := ?_) (by first | (simp only [List.getElem?_toArray, List.getElem?_cons_succ, List.getElem?_cons_zero]; done) | (simp only [List.getElem?_toArray, List.getElem?_cons_succ, List.getElem?_cons_zero]; exact rfl)) (by kernel_rfl) (by kernel_rfl) (by kernel_rfl) (fun _ _ _ h => h) (Or.inl ⟨by rfl, ?_⟩) (by assumption) ?_
    rotate_left
    · intro w hSw; (try dsimp only at hSw); go_simp; all_goals with_reducible rfl
    try simp only [Act.put, List.setIfInBounds_toArray, List.set_cons_zero, List.set_cons_succ]
    refine wpAnyH_take (i := 10) (oi := _) (v := ?_) (by first | (simp only [List.getElem?_toArray, List.getElem?_cons_succ, List.getElem?_cons_zero]; done) | (simp only [List.getElem?_toArray, List.getElem?_cons_succ, List.getElem?_cons_zero]; exact rfl)) (by kernel_rfl) (by kernel_rfl) (by kernel_rfl) (fun _ _ _ h => h) (Or.inl ⟨by rfl, ?_⟩) (by assumption) ?_
    rotate_left
    · intro w hSw; (try dsimp only at hSw); go_simp; all_goals with_reducible rfl
    try simp only [Act.put, List.setIfInBounds_toArray, List.set_cons_zero, List.set_cons_succ]
    refine wpAnyH_take (i := 13) (oi := _) (v := ?_) (by first | (simp only [List.getElem?_toArray, List.getElem?_cons_succ, List.getElem?_cons_zero]; done) | (simp only [List.getElem?_toArray, List.getElem?_cons_succ, List.getElem?_cons_zero]; exact rfl)) (by kernel_rfl) (by kernel_rfl) (by kernel_rfl) (fun _ _ _ h => h) (Or.inl ⟨by rfl, ?_⟩) (by assumption) ?_
    rotate_left
    · intro w hSw; (try dsimp only at hSw); go_simp; all_goals with_reducible rfl
    try simp only [Act.put, List.setIfInBounds_toArray, List.set_cons_zero, List.set_cons_succ]
    refine wpAnyH_take (i := 14) (oi := _) (v := ?_) (by first | (simp only [List.getElem?_toArray, List.getElem?_cons_succ, List.getElem?_cons_zero]; done) | (simp only [List.getElem?_toArray, List.getElem?_cons_succ, List.getElem?_cons_zero]; exact rfl)) (by kernel_rfl) (by kernel_rfl) (by kernel_rfl) (fun _ _ _ h => h) (Or.inl ⟨by rfl, ?_⟩) (by assumption) ?_
    rotate_left
    · intro w hSw; (try dsimp only at hSw); go_simp; all_goals with_reducible rfl
    try simp only [Act.put, List.setIfInBounds_toArray, List.set_cons_zero, List.set_cons_succ]
    refine wpAnyH_take (i := 15) (oi := _) (v := ?_) (by first | (simp only [List.getElem?_toArray, List.getElem?_cons_succ, List.getElem?_cons_zero]; done) | (simp only [List.getElem?_toArray, List.getElem?_cons_succ, List.getElem?_cons_zero]; exact rfl)) (by kernel_rfl) (by kernel_rfl) (by kernel_rfl) (fun _ _ _ h => h) (Or.inl ⟨by rfl, ?_⟩) (by assumption) ?_
    rotate_left
    · intro w hSw; (try dsimp only at hSw); go_simp; all_goals with_reducible rfl
    try simp only [Act.put, List.setIfInBounds_toArray, List.set_cons_zero, List.set_cons_succ]
    refine wpAnyH_take (i := 16) (oi := _) (v := ?_) (by first | (simp only [List.getElem?_toArray, List.getElem?_cons_succ, List.getElem?_cons_zero]; done) | (simp only [List.getElem?_toArray, List.getElem?_cons_succ, List.getElem?_cons_zero]; exact rfl)) (by kernel_rfl) (by kernel_rfl) (by kernel_rfl) (fun _ _ _ h => h) (Or.inl ⟨by rfl, ?_⟩) (by assumption) ?_
    rotate_left
    · intro w hSw; (try dsimp only at hSw); go_simp; all_goals with_reducible rfl
    try simp only [Act.put, List.setIfInBounds_toArray, List.set_cons_zero, List.set_cons_succ]
    refine wpAnyH_take (i := 20) (oi := _) (v := ?_) (by first | (simp only [List.getElem?_toArray, List.getElem?_cons_succ, List.getElem?_cons_zero]; done) | (simp only [List.getElem?_toArray, List.getElem?_cons_succ, List.getElem?_cons_zero]; exact rfl)) (by kernel_rfl) (by kernel_rfl) (by kernel_rfl) (fun _ _ _ h => h) (Or.inl ⟨by rfl, ?_⟩) (by assumption) ?_
    rotate_left
    · intro w hSw; (try dsimp only at hSw); go_simp; all_goals with_reducible rfl
    try simp only [Act.put, List.setIfInBounds_toArray, List.set_cons_zero, List.set_cons_succ]
    refine wpAnyH_take (i := 21) (oi := _) (v := ?_) (by first | (simp only [List.getElem?_toArray, List.getElem?_cons_succ, List.getElem?_cons_zero]; done) | (simp only [List.getElem?_toArray, List.getElem?_cons_succ, List.getElem?_cons_zero]; exact rfl)) (by kernel_rfl) (by kernel_rfl) (by kernel_rfl) (fun _ _ _ h => h) (Or.inl ⟨by rfl, ?_⟩) (by assumption) ?_
    rotate_left
    · intro w hSw; (try dsimp only at hSw); go_simp; all_goals with_reducible rfl
    try simp only [Act.put, List.setIfInBounds_toArray, List.set_cons_zero, List.set_cons_succ]
    refine wpAnyH_take (i := 22) (oi := _) (v := ?_) (by first | (simp only [List.getElem?_toArray, List.getElem?_cons_succ, List.getElem?_cons_zero]; done) | (simp only [List.getElem?_toArray, List.getElem?_cons_succ, List.getElem?_cons_zero]; exact rfl)) (by kernel_rfl) (by kernel_rfl) (by kernel_rfl) (fun _ _ _ h => h) (Or.inl ⟨by rfl, ?_⟩) (by assumption) ?_
    rotate_left
    · intro w hSw; (try dsimp only at hSw); go_simp; all_goals with_reducible rfl
    try simp only [Act.put, List.setIfInBounds_toArray, List.set_cons_zero, List.set_cons_succ]
    refine wpAnyH_take (i := 23) (oi := _) (v := ?_) (by first | (simp only [List.getElem?_toArray, List.getElem?_cons_succ, List.getElem?_cons_zero]; done) | (simp only [List.getElem?_toArray, List.getElem?_cons_succ, List.getElem?_cons_zero]; exact rfl)) (by kernel_rfl) (by kernel_rfl) (by kernel_rfl) (fun _ _ _ h => h) (Or.inl ⟨by rfl, ?_⟩) (by assumption) ?_
    rotate_left
    · intro w hSw; (try dsimp only at hSw); go_simp; all_goals with_reducible rfl
    try simp only [Act.put, List.setIfInBounds_toArray, List.set_cons_zero, List.set_cons_succ]
    refine wpAnyH_take (i := 26) (oi := _) (v := ?_) (by first | (simp only [List.getElem?_toArray, List.getElem?_cons_succ, List.getElem?_cons_zero]; done) | (simp only [List.getElem?_toArray, List.getElem?_cons_succ, List.getElem?_cons_zero]; exact rfl)) (by kernel_rfl) (by kernel_rfl) (by kernel_rfl) (fun _ _ _ h => h) (Or.inl ⟨by rfl, ?_⟩) (by assumption) ?_
    rotate_left
    · intro w hSw; (try dsimp only at hSw); go_simp; all_goals with_reducible rfl
    try simp only [Act.put, List.setIfInBounds_toArray, List.set_cons_zero, List.set_cons_succ]
    refine wpAnyH_take (i := 27) (oi := _) (v := ?_) (by first | (simp only [List.getElem?_toArray, List.getElem?_cons_succ, List.getElem?_cons_zero]; done) | (simp only [List.getElem?_toArray, List.getElem?_cons_succ, List.getElem?_cons_zero]; exact rfl)) (by kernel_rfl) (by kernel_rfl) (by kernel_rfl) (fun _ _ _ h => h) (Or.inl ⟨by rfl, ?_⟩) (by assumption) ?_
    rotate_left
    · intro w hSw; (try dsimp only at hSw); go_simp; all_goals with_reducible rfl
    try simp only [Act.put, List.setIfInBounds_toArray, List.set_cons_zero, List.set_cons_succ]
    refine wpAnyH_take (i := 28) (oi := _) (v := ?_) (by first | (simp only [List.getElem?_toArray, List.getElem?_cons_succ, List.getElem?_cons_zero]; done) | (simp only [List.getElem?_toArray, List.getElem?_cons_succ, List.getElem?_cons_zero]; exact rfl)) (by kernel_rfl) (by kernel_rfl) (by kernel_rfl) (fun _ _ _ h => h) (Or.inl ⟨by rfl, ?_⟩) (by assumption) ?_
    rotate_left
    · intro w hSw; (try dsimp only at hSw); go_simp; all_goals with_reducible rfl
    try simp only [Act.put, List.setIfInBounds_toArray, List.set_cons_zero, List.set_cons_succ]
    refine wpAnyH_take (i := 29) (oi := _) (v := ?_) (by first | (simp only [List.getElem?_toArray, List.getElem?_cons_succ, List.getElem?_cons_zero]; done) | (simp only [List.getElem?_toArray, List.getElem?_cons_succ, List.getElem?_cons_zero]; exact rfl)) (by kernel_rfl) (by kernel_rfl) (by kernel_rfl) (fun _ _ _ h => h) (Or.inl ⟨by rfl, ?_⟩) (by assumption) ?_
    rotate_left
    · intro w hSw; (try dsimp only at hSw); go_simp; all_goals with_reducible rfl
    try simp only [Act.put, List.setIfInBounds_toArray, List.set_cons_zero, List.set_cons_succ]
    refine wpAnyH_take (i := 33) (oi := _) (v := ?_) (by first | (simp only [List.getElem?_toArray, List.getElem?_cons_succ, List.getElem?_cons_zero]; done) | (simp only [List.getElem?_toArray, List.getElem?_cons_succ, List.getElem?_cons_zero]; exact rfl)) (by kernel_rfl) (by kernel_rfl) (by kernel_rfl) (fun _ _ _ h => h) (Or.inl ⟨by rfl, ?_⟩) (by assumption) ?_
    rotate_left
    · intro w hSw; (try dsimp only at hSw); go_simp; all_goals with_reducible rfl
    try simp only [Act.put, List.setIfInBounds_toArray, List.set_cons_zero, List.set_cons_succ]
    refine wpAnyH_take (i := 34) (oi := _) (v := ?_) (by first | (simp only [List.getElem?_toArray, List.getElem?_cons_succ, List.getElem?_cons_zero]; done) | (simp only [List.getElem?_toArray, List.getElem?_cons_succ, List.getElem?_cons_zero]; exact rfl)) (by kernel_rfl) (by kernel_rfl) (by kernel_rfl) (fun _ _ _ h => h) (Or.inl ⟨by rfl, ?_⟩) (by assumption) ?_
    rotate_left
    · intro w hSw; (try dsimp only at hSw); go_simp; all_goals with_reducible rfl
    try simp only [Act.put, List.setIfInBounds_toArray, List.set_cons_zero, List.set_cons_succ]
    refine wpAnyH_take (i := 35) (oi := _) (v := ?_) (by first | (simp only [List.getElem?_toArray, List.getElem?_cons_succ, List.getElem?_cons_zero]; done) | (simp only [List.getElem?_toArray, List.getElem?_cons_succ, List.getElem?_cons_zero]; exact rfl)) (by kernel_rfl) (by kernel_rfl) (by kernel_rfl) (fun _ _ _ h => h) (Or.inl ⟨by rfl, ?_⟩) (by assumption) ?_
    rotate_left
    · intro w hSw; (try dsimp only at hSw); go_simp; all_goals with_reducible rfl
    try simp only [Act.put, List.setIfInBounds_toArray, List.set_cons_zero, List.set_cons_succ]
    refine wpAnyH_take (i := 36) (oi := _) (v := ?_) (by first | (simp only [List.getElem?_toArray, List.getElem?_cons_succ, List.getElem?_cons_zero]; done) | (simp only [List.getElem?_toArray, List.getElem?_cons_succ, List.getElem?_cons_zero]; exact rfl)) (by kernel_rfl) (by kernel_rfl) (by kernel_rfl) (fun _ _ _ h => h) (Or.inl ⟨by rfl, ?_⟩) (by assumption) ?_
    rotate_left
    · intro w hSw; (try dsimp only at hSw); go_simp; all_goals with_reducible rfl
    try simp only [Act.put, List.setIfInBounds_toArray, List.set_cons_zero, List.set_cons_succ]
    refine wpAnyH_ready (rs := [4]) (by kernel_rfl) (by simp) ?_
    refine AllReadyH.cons (o := _) (by first | (simp only [List.getElem?_toArray, List.getElem?_cons_succ, List.getElem?_cons_zero]; done) | (simp only [List.getElem?_toArray, List.getElem?_cons_succ, List.getElem?_cons_zero]; exact rfl)) (fun K hK => ?_) AllReadyH.nil
    go_simp
    refine (pick_any _ _ _ 6 _ (by exact hR) (by omega) (by omega) (by omega)).mono ?_
    rintro _ x1 ⟨u1, hu1, rfl, hS1, hT1⟩
    go_wp2_with fail
    clear hHeld
    refine hK.out _ _ ?_ (fun hHeld => ?_)
    · exact trivial
    clear hK K
    try simp only [Act.put, List.setIfInBounds_toArray, List.set_cons_zero, List.set_cons_succ]
    refine wpAnyH_take (i := 5) (oi := _) (v := ?_) (by first | (simp only [List.getElem?_toArray, List.getElem?_cons_succ, List.getElem?_cons_zero]; done) | (simp only [List.getElem?_toArray, List.getElem?_cons_succ, List.getElem?_cons_zero]; exact rfl)) (by kernel_rfl) (by kernel_rfl) (by kernel_rfl) (fun _ _ _ h => h) (Or.inl ⟨by rfl, ?_⟩) (by assumption) ?_
    rotate_left
    · intro w hSw; (try dsimp only at hSw); go_simp; all_goals with_reducible rfl
    try simp only [Act.put, List.setIfInBounds_toArray, List.set_cons_zero, List.set_cons_succ]
    refine wpAnyH_take (i := 6) (oi := _) (v := ?_) (by first | (simp only [List.getElem?_toArray, List.getElem?_cons_succ, List.getElem?_cons_zero]; done) | (simp only [List.getElem?_toArray, List.getElem?_cons_succ, List.getElem?_cons_zero]; exact rfl)) (by kernel_rfl) (by kernel_rfl) (by kernel_rfl) (fun _ _ _ h => h) (Or.inl ⟨by rfl, ?_⟩) (by assumption) ?_
    rotate_left
    · intro w hSw; (try dsimp only at hSw); go_simp; all_goals with_reducible rfl
    try simp only [Act.put, List.setIfInBounds_toArray, List.set_cons_zero, List.set_cons_succ]
    refine wpAnyH_ready (rs := [11]) (by kernel_rfl) (by simp) ?_
    refine AllReadyH.cons (o := _) (by first | (simp only [List.getElem?_toArray, List.getElem?_cons_succ, List.getElem?_cons_zero]; done) | (simp only [List.getElem?_toArray, List.getElem?_cons_succ, List.getElem?_cons_zero]; exact rfl)) (fun K hK => ?_) AllReadyH.nil
    go_simp
    refine (pick_any _ _ _ 8 _ (by exact hS1) (by omega) (by omega) (by omega)).mono ?_
    rintro _ x2 ⟨u2, hu2, rfl, hS2, hT2⟩
    go_wp2_with fail
    clear hHeld
    refine hK.out _ _ ?_ (fun hHeld => ?_)
    · exact trivial
    clear hK K
    try simp only [Act.put, List.setIfInBounds_toArray, List.set_cons_zero, List.set_cons_succ]
    refine wpAnyH_take (i := 12) (oi := _) (v := ?_) (by first | (simp only [List.getElem?_toArray, List.getElem?_cons_succ, List.getElem?_cons_zero]; done) | (simp only [List.getElem?_toArray, List.getElem?_cons_succ, List.getElem?_cons_zero]; exact rfl)) (by kernel_rfl) (by kernel_rfl) (by kernel_rfl) (fun _ _ _ h => h) (Or.inl ⟨by rfl, ?_⟩) (by assumption) ?_
    rotate_left
    · intro w hSw; (try dsimp only at hSw); go_simp; all_goals with_reducible rfl
    try simp only [Act.put, List.setIfInBounds_toArray, List.set_cons_zero, List.set_cons_succ]
    refine wpAnyH_ready (rs := [17]) (by kernel_rfl) (by simp) ?_
    refine AllReadyH.cons (o := _) (by first | (simp only [List.getElem?_toArray, List.getElem?_cons_succ, List.getElem?_cons_zero]; done) | (simp only [List.getElem?_toArray, List.getElem?_cons_succ, List.getElem?_cons_zero]; exact rfl)) (fun K hK => ?_) AllReadyH.nil
    go_simp
    refine (pick_any _ _ _ 9 _ (by exact hS2) (by omega) (by omega) (by omega)).mono ?_
    rintro _ x3 ⟨u3, hu3, rfl, hS3, hT3⟩
    go_wp2_with fail
    clear hHeld
    refine hK.out _ _ ?_ (fun hHeld => ?_)
    · exact trivial
    clear hK K
    try simp only [Act.put, List.setIfInBounds_toArray, List.set_cons_zero, List.set_cons_succ]
    refine wpAnyH_take (i := 18) (oi := _) (v := ?_) (by first | (simp only [List.getElem?_toArray, List.getElem?_cons_succ, List.getElem?_cons_zero]; done) | (simp only [List.getElem?_toArray, List.getElem?_cons_succ, List.getElem?_cons_zero]; exact rfl)) (by kernel_rfl) (by kernel_rfl) (by kernel_rfl) (fun _ _ _ h => h) (Or.inl ⟨by rfl, ?_⟩) (by assumption) ?_
    rotate_left
    · intro w hSw; (try dsimp only at hSw); go_simp; all_goals with_reducible rfl
    try simp only [Act.put, List.setIfInBounds_toArray, List.set_cons_zero, List.set_cons_succ]
    refine wpAnyH_take (i := 19) (oi := _) (v := ?_) (by first | (simp only [List.getElem?_toArray, List.getElem?_cons_succ, List.getElem?_cons_zero]; done) | (simp only [List.getElem?_toArray, List.getElem?_cons_succ, List.getElem?_cons_zero]; exact rfl)) (by kernel_rfl) (by kernel_rfl) (by kernel_rfl) (fun _ _ _ h => h) (Or.inl ⟨by rfl, ?_⟩) (by assumption) ?_
    rotate_left
    · intro w hSw; (try dsimp only at hSw); go_simp; all_goals with_reducible rfl
    try simp only [Act.put, List.setIfInBounds_toArray, List.set_cons_zero, List.set_cons_succ]
    refine wpAnyH_ready (rs := [24]) (by kernel_rfl) (by simp) ?_
    refine AllReadyH.cons (o := _) (by first | (simp only [List.getElem?_toArray, List.getElem?_cons_succ, List.getElem?_cons_zero]; done) | (simp only [List.getElem?_toArray, List.getElem?_cons_succ, List.getElem?_cons_zero]; exact rfl)) (fun K hK => ?_) AllReadyH.nil
    go_simp
    refine (pick_any _ _ _ 9 _ (by exact hS3) (by omega) (by omega) (by omega)).mono ?_
    rintro _ x4 ⟨u4, hu4, rfl, hS4, hT4⟩
    go_wp2_with fail
    clear hHeld
    refine hK.out _ _ ?_ (fun hHeld => ?_)
    · exact trivial
    clear hK K
    try simp only [Act.put, List.setIfInBounds_toArray, List.set_cons_zero, List.set_cons_succ]
    refine wpAnyH_take (i := 25) (oi := _) (v := ?_) (by first | (simp only [List.getElem?_toArray, List.getElem?_cons_succ, List.getElem?_cons_zero]; done) | (simp only [List.getElem?_toArray, List.getElem?_cons_succ, List.getElem?_cons_zero]; exact rfl)) (by kernel_rfl) (by kernel_rfl) (by kernel_rfl) (fun _ _ _ h => h) (Or.inl ⟨by rfl, ?_⟩) (by assumption) ?_
    rotate_left
    · intro w hSw; (try dsimp only at hSw); go_simp; all_goals with_reducible rfl
    try simp only [Act.put, List.setIfInBounds_toArray, List.set_cons_zero, List.set_cons_succ]
    refine wpAnyH_ready (rs := [30]) (by kernel_rfl) (by simp) ?_
    refine AllReadyH.cons (o := _) (by first | (simp only [List.getElem?_toArray, List.getElem?_cons_succ, List.getElem?_cons_zero]; done) | (simp only [List.getElem?_toArray, List.getElem?_cons_succ, List.getElem?_cons_zero]; exact rfl)) (fun K hK => ?_) AllReadyH.nil
    go_simp
    refine (pick_any _ _ _ 9 _ (by exact hS4) (by omega) (by omega) (by omega)).mono ?_
    rintro _ x5 ⟨u5, hu5, rfl, hS5, hT5⟩
    go_wp2_with fail
    clear hHeld
    refine hK.out _ _ ?_ (fun hHeld => ?_)
    · exact trivial
    clear hK K
    try simp only [Act.put, List.setIfInBounds_toArray, List.set_cons_zero, List.set_cons_succ]
    refine wpAnyH_take (i := 31) (oi := _) (v := ?_) (by first | (simp only [List.getElem?_toArray, List.getElem?_cons_succ, List.getElem?_cons_zero]; done) | (simp only [List.getElem?_toArray, List.getElem?_cons_succ, List.getElem?_cons_zero]; exact rfl)) (by kernel_rfl) (by kernel_rfl) (by kernel_rfl) (fun _ _ _ h => h) (Or.inl ⟨by rfl, ?_⟩) (by assumption) ?_
    rotate_left
    · intro w hSw; (try dsimp only at hSw); go_simp; all_goals with_reducible rfl
    try simp only [Act.put, List.setIfInBounds_toArray, List.set_cons_zero, List.set_cons_succ]
    refine wpAnyH_take (i := 32) (oi := _) (v := ?_) (by first | (simp only [List.getElem?_toArray, List.getElem?_cons_succ, List.getElem?_cons_zero]; done) | (simp only [List.getElem?_toArray, List.getElem?_cons_succ, List.getElem?_cons_zero]; exact rfl)) (by kernel_rfl) (by kernel_rfl) (by kernel_rfl) (fun _ _ _ h => h) (Or.inl ⟨by rfl, ?_⟩) (by assumption) ?_
    rotate_left
    · intro w hSw; (try dsimp only at hSw); go_simp; all_goals with_reducible rfl
    try simp only [Act.put, List.setIfInBounds_toArray, List.set_cons_zero, List.set_cons_succ]
    refine wpAnyH_ready (rs := [37]) (by kernel_rfl) (by simp) ?_
    refine AllReadyH.cons (o := _) (by first | (simp only [List.getElem?_toArray, List.getElem?_cons_succ, List.getElem?_cons_zero]; done) | (simp only [List.getElem?_toArray, List.getElem?_cons_succ, List.getElem?_cons_zero]; exact rfl)) (fun K hK => ?_) AllReadyH.nil
    go_simp
    refine (pick_any _ _ _ 9 _ (by exact hS5) (by omega) (by omega) (by omega)).mono ?_
    rintro _ x6 ⟨u6, hu6, rfl, hS6, hT6⟩
    go_wp2_with fail
    clear hHeld
    refine hK.out _ _ ?_ (fun hHeld => ?_)
    · exact trivial
    clear hK K
    try simp only [Act.put, List.setIfInBounds_toArray, List.set_cons_zero, List.set_cons_succ]
    refine wpAnyH_take (i := 38) (oi := _) (v := ?_) (by first | (simp only [List.getElem?_toArray, List.getElem?_cons_succ, List.getElem?_cons_zero]; done) | (simp only [List.getElem?_toArray, List.getElem?_cons_succ, List.getElem?_cons_zero]; exact rfl)) (by kernel_rfl) (by kernel_rfl) (by kernel_rfl) (fun _ _ _ h => h) (Or.inl ⟨by rfl, ?_⟩) (by assumption) ?_
    rotate_left
    · intro w hSw; (try dsimp only at hSw); go_simp; all_goals with_reducible rfl
    try simp only [Act.put, List.setIfInBounds_toArray, List.set_cons_zero, List.set_cons_succ]
    refine wpAnyH_take (i := 39) (oi := _) (v := ?_) (by first | (simp only [List.getElem?_toArray, List.getElem?_cons_succ, List.getElem?_cons_zero]; done) | (simp only [List.getElem?_toArray, List.getElem?_cons_succ, List.getElem?_cons_zero]; exact rfl)) (by kernel_rfl) (by kernel_rfl) (by kernel_rfl) (fun _ _ _ h => h) (Or.inl ⟨by rfl, ?_⟩) (by assumption) ?_
    rotate_left
    · intro w hSw; (try dsimp only at hSw); go_simp; all_goals with_reducible rfl
    try simp only [Act.put, List.setIfInBounds_toArray, List.set_cons_zero, List.set_cons_succ]
    have hC6 := Blk.only (Blk.only (Blk.only (Blk.only (Blk.only (Blk.only (by exact hC) hT1 (by omega)) hT2 (by omega)) hT3 (by omega)) hT4 (by omega)) hT5 (by omega)) hT6 (by omega)
    have hD6 := Blk.only (Blk.only (Blk.only (Blk.only (Blk.only (Blk.only (by exact hD) hT1 (by omega)) hT2 (by omega)) hT3 (by omega)) hT4 (by omega)) hT5 (by omega)) hT6 (by omega)
    have c6 := hC6.cell
    have f6 := hC6.frozen
    refine wpAnyH_ready (rs := [40]) (by kernel_rfl) (by simp) ?_
    refine AllReadyH.cons (o := _) (by first | (simp only [List.getElem?_toArray, List.getElem?_cons_succ, List.getElem?_cons_zero]; done) | (simp only [List.getElem?_toArray, List.getElem?_cons_succ, List.getElem?_cons_zero]; exact rfl)) (fun K hK => ?_) AllReadyH.nil
    go_simp
    clear hHeld
    refine hK.out _ _ ?_ (fun hHeld => ?_)
    · exact trivial
    clear hK K
    try simp only [Act.put, List.setIfInBounds_toArray, List.set_cons_zero, List.set_cons_succ]
    refine wpAnyH_done (by kernel_rfl) ?_ _
    refine NoPanic.normal ?_
    all_goals
      have hO7 := (((((hO.trans hT1.of_drew).trans hT2).trans hT3).trans hT4).trans hT5).trans hT6
      go_wp2_with fail
      go_meet
      exact ⟨⟨_, _, _, _, _, _⟩, p2 + 1 + 1 + 1 + 1 + 1 + 1 + 1, by omega, hC6.six _ _ _ _ _ _, ((((((hD6).other (p := ⟨w2.heap.size, 0, none⟩) (by show w.heap.size ≠ w2.heap.size; omega) _).other (p := ⟨w2.heap.size, 1, none⟩) (by show w.heap.size ≠ w2.heap.size; omega) _).other (p := ⟨w2.heap.size, 2, none⟩) (by show w.heap.size ≠ w2.heap.size; omega) _).other (p := ⟨w2.heap.size, 3, none⟩) (by show w.heap.size ≠ w2.heap.size; omega) _).other (p := ⟨w2.heap.size, 4, none⟩) (by show w.heap.size ≠ w2.heap.size; omega) _).other (p := ⟨w2.heap.size, 5, none⟩) (by show w.heap.size ≠ w2.heap.size; omega) _, ((((((hS6).setCell (q := ⟨w2.heap.size, 0, none⟩) hr2 _).setCell (q := ⟨w2.heap.size, 1, none⟩) hr2 _).setCell (q := ⟨w2.heap.size, 2, none⟩) hr2 _).setCell (q := ⟨w2.heap.size, 3, none⟩) hr2 _).setCell (q := ⟨w2.heap.size, 4, none⟩) hr2 _).setCell (q := ⟨w2.heap.size, 5, none⟩) hr2 _, ((((((hO7).setNew (q := ⟨w2.heap.size, 0, none⟩) hz2 _).setNew (q := ⟨w2.heap.size, 1, none⟩) hz2 _).setNew (q := ⟨w2.heap.size, 2, none⟩) hz2 _).setNew (q := ⟨w2.heap.size, 3, none⟩) hz2 _).setNew (q := ⟨w2.heap.size, 4, none⟩) hz2 _).setNew (q := ⟨w2.heap.size, 5, none⟩) hz2 _⟩
/-- Stuffs, a mixture and a grade are drawn out of a code. -/
def DrawnMeets (w : World) (e : Ending) (w' : World) : Prop :=
  ∃ (l : List Stuff) (A : Option Addr) (c : Nat) (x : List Int) (A2 : Option Addr) (c2 : Nat) (g : Grade), (∀ s ∈ l, smallS s) ∧ l.length ≤ 5 ∧ x.length ≤ l.length + 1 ∧ (∀ y ∈ x, smallX y) ∧ e = .returned (.tuple #[.slice A l.length c, .slice A2 x.length c2, gv g]) ∧
    Own w' w.heap.size w'.heap.size 42 5 A l.length c (ints (flatS l)) ∧ Own w' w.heap.size w'.heap.size 3 1 A2 x.length c2 (ints x) ∧ Below w.heap.size w w'
set_option maxHeartbeats 1000000 in
theorem drawMixMeets_any (A : Option Addr) (n c : Nat) (l : List Int) (w : World) (hs : Sees w w.heap.size A (bys l)) (hl : l.length = n) (hby : ∀ z ∈ l, byteB z) (hc : n ≤ c) (hm : c ≤ maxLen) :
    Calls Tryd.prog 14 #[.slice A n c] w (DrawnMeets w) := by
  go_enter Tryd.func14, Tryd.ntmps14
  have hB := Blk.made w 25 #[.int .i64 0, .int .i64 0, .int .i64 0, .int .i64 0, .int .i64 0, .int .i64 0]
  have hb : Below w.heap.size w (w.alloc (.cells #[.int .i64 0, .int .i64 0, .int .i64 0, .int .i64 0, .int .i64 0, .int .i64 0] 25)) := (Below.refl _ _).alloc (Nat.le_refl _) _
  go_wp2_with fail
  generalize w.alloc _ = W at hB hb ⊢
  have hlt := hB.lt
  refine (l20Open_any A n c l _ (hs.next hb) hl hby hc hm).mono ?_
  rintro _ w1 ⟨rfl, hR, hb1⟩
  replace hB := hB.below hb1 hB.lt
  have hz1 := hb1.size
  have hRl := hR.lt
  replace hb := below_next hb hb1
  clear hb1
  go_wp2_with fail
  refine (l20Stuffs_any _ _ _ 14 _ hR (by omega) (by omega)).mono ?_
  rintro _ w2 ⟨st, A1, c1, p', hsm, hlen, hp', rfl, hQ, hR2, hO⟩
  replace hB := hB.only hO (by omega)
  replace hb := below_only hb hO (by omega) (Nat.le_refl _)
  have hz2 := hO.size
  clear hR hO
  have Hsm := Lib.hid hsm
  clear hsm
  go_wp2_with fail
  refine (l20Mix_any _ _ _ 14 _ hR2 (by omega) (by omega) A1 c1 _ _ st hQ (by omega) (Nat.le_refl _) Hsm.out hlen).mono ?_
  rintro _ w3 ⟨x, A2, c2, p2, hxl, hxs, hp2, rfl, hX, hR3, hO3⟩
  have Hxs := Lib.hid hxs
  clear hxs
  replace hB := hB.only hO3 (by omega)
  replace hQ := own_hi (hQ.only hO3 (.inr (by omega))) hO3.size
  replace hb := below_only hb hO3 (by omega) (Nat.le_refl _)
  clear hR2
  go_wp2_with fail
  refine (l20Around_any _ _ _ _ hR3 (by omega) A1 A2 c1 c2 st x hQ.sees hX.sees hlen (by omega)).mono ?_
  rintro _ w4 ⟨g, p4, hp4, rfl, hR4, hO4⟩
  replace hB := hB.only hO4 (by omega)
  replace hQ := own_hi (hQ.only hO4 (.inr (by omega))) hO4.size
  replace hX := own_hi (hX.only hO4 (.inr (by omega))) hO4.size
  replace hb := below_only hb hO4 (by omega) (Nat.le_refl _)
  clear hO4 hR3 hR4 hO3
  obtain ⟨g1, g2, g3, g4, g5, g6⟩ := g
  have c4 := hB.cell
  have f4 := hB.frozen
  go_wp2_with fail
  refine bodyPost_ret (v := .tuple #[.slice A1 st.length c1, .slice A2 x.length c2, gv ⟨g1, g2, g3, g4, g5, g6⟩]) (by simp [results, Tryd.results14, go_sem, c4]) rfl ⟨st, A1, c1, x, A2, c2, ⟨g1, g2, g3, g4, g5, g6⟩, Hsm.out, hlen, hxl, Hxs.out, rfl, ?_, ?_, ?_⟩
  · simpa using own_lo ((((((hQ.setCell (p := ⟨w.heap.size, 0, none⟩) (.inl (by show w.heap.size < _; omega)) (.int .i64 g1)).setCell (p := ⟨w.heap.size, 1, none⟩) (.inl (by show w.heap.size < _; omega)) (.int .i64 g2)).setCell (p := ⟨w.heap.size, 2, none⟩) (.inl (by show w.heap.size < _; omega)) (.int .i64 g3)).setCell (p := ⟨w.heap.size, 3, none⟩) (.inl (by show w.heap.size < _; omega)) (.int .i64 g4)).setCell (p := ⟨w.heap.size, 4, none⟩) (.inl (by show w.heap.size < _; omega)) (.int .i64 g5)).setCell (p := ⟨w.heap.size, 5, none⟩) (.inl (by show w.heap.size < _; omega)) (.int .i64 g6)) (by omega)
  · simpa using own_lo ((((((hX.setCell (p := ⟨w.heap.size, 0, none⟩) (.inl (by show w.heap.size < _; omega)) (.int .i64 g1)).setCell (p := ⟨w.heap.size, 1, none⟩) (.inl (by show w.heap.size < _; omega)) (.int .i64 g2)).setCell (p := ⟨w.heap.size, 2, none⟩) (.inl (by show w.heap.size < _; omega)) (.int .i64 g3)).setCell (p := ⟨w.heap.size, 3, none⟩) (.inl (by show w.heap.size < _; omega)) (.int .i64 g4)).setCell (p := ⟨w.heap.size, 4, none⟩) (.inl (by show w.heap.size < _; omega)) (.int .i64 g5)).setCell (p := ⟨w.heap.size, 5, none⟩) (.inl (by show w.heap.size < _; omega)) (.int .i64 g6)) (by omega)
  · exact ((((((hb.setCell (p := ⟨w.heap.size, 0, none⟩) (Nat.le_refl _) _).setCell (p := ⟨w.heap.size, 1, none⟩) (Nat.le_refl _) _).setCell (p := ⟨w.heap.size, 2, none⟩) (Nat.le_refl _) _).setCell (p := ⟨w.heap.size, 3, none⟩) (Nat.le_refl _) _).setCell (p := ⟨w.heap.size, 4, none⟩) (Nat.le_refl _) _).setCell (p := ⟨w.heap.size, 5, none⟩) (Nat.le_refl _) _)
end Go.Proofs.YtlhjncefckidjaaDoor
