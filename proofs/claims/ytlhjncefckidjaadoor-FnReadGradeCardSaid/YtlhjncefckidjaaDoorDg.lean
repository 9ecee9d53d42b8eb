/-
  Contracts of drawn grades, and the walk of the law on a single grade.
-/
import Derived.Test.YtlhjncefckidjaaDoorDs
import Derived.Test.YtlhjncefckidjaaDoorMeet
namespace Go.Proofs.YtlhjncefckidjaaDoor
open Go.RowKit
set_option linter.unusedVariables false
def smallG (g : Grade) : Prop := (-10 ≤ g.lc ∧ g.lc ≤ 10000) ∧ (-10 ≤ g.hc ∧ g.hc ≤ 10000) ∧ (-10 ≤ g.lm ∧ g.lm ≤ 10000) ∧ (-10 ≤ g.hm ∧ g.hm ≤ 10000) ∧ (-10 ≤ g.ls ∧ g.ls ≤ 10000) ∧ (-10 ≤ g.hs ∧ g.hs ≤ 10000)
/-- A grade is drawn. -/
def DrewG (w : World) (B r p : Nat) (e : Ending) (w' : World) : Prop :=
  ∃ (g : Grade) (p' : Nat), smallG g ∧ p' ≤ p + 8 ∧ e = .returned (gv g) ∧ Rd w' B r p' ∧ Only r (r + 1) w w'
set_option maxHeartbeats 4000000 in
theorem l20Grade_any (B r p n : Nat) (w : World) (h : Rd w B r p) (hp : p ≤ 100000) (hn' : n ≤ 1000000) :
    Calls Tryd.prog 54 #[.pointer (some ⟨r, 0, none⟩), .int .i64 n] w (DrewG w B r p) := by
  have hrw := h.lt
  go_enter Tryd.func54, Tryd.ntmps54
  have hB4 := Blk.made w 25 #[.int .i64 0, .int .i64 0, .int .i64 0, .int .i64 0, .int .i64 0, .int .i64 0]
  have hR := h.alloc (.cells #[.int .i64 0, .int .i64 0, .int .i64 0, .int .i64 0, .int .i64 0, .int .i64 0] 25)
  have hO : Only r (r + 1) w (w.alloc (.cells #[.int .i64 0, .int .i64 0, .int .i64 0, .int .i64 0, .int .i64 0, .int .i64 0] 25)) := (Only.refl _ _ _).alloc _
  go_wp2_with fail
  generalize w.alloc _ = W at hB4 hR hO ⊢
  refine (pick_any B r _ 20 _ hR (by omega) (by omega) (by omega)).mono ?_
  rintro _ w1 ⟨v1, hv1, rfl, hR1, hO1⟩
  replace hB4 := hB4.only hO1 (by omega)
  replace hO := hO.trans hO1
  clear hR hO1
  go_wp2_with fail
  refine (pick_any B r _ 30 _ hR1 (by omega) (by omega) (by omega)).mono ?_
  rintro _ w2 ⟨v2, hv2, rfl, hR, hO1⟩
  replace hB4 := hB4.only hO1 (by omega)
  replace hO := hO.trans hO1
  clear hR1 hO1
  go_wp2_with fail
  refine (pick_any B r _ 20 _ hR (by omega) (by omega) (by omega)).mono ?_
  rintro _ w5 ⟨v3, hv3, rfl, hR1, hO1⟩
  replace hB4 := hB4.only hO1 (by omega)
  replace hO := hO.trans hO1
  clear hR hO1
  have hz5 := hO.size
  have hrw5 := hR1.lt
  have hl45 := hB4.lt
  have hB5 := Blk.made w5 25 #[.int .i64 (v1 : Int), .int .i64 0, .int .i64 (v2 : Int), .int .i64 0, .int .i64 (v3 : Int), .int .i64 0]
  replace hB4 := hB4.alloc (.cells #[.int .i64 (v1 : Int), .int .i64 0, .int .i64 (v2 : Int), .int .i64 0, .int .i64 (v3 : Int), .int .i64 0] 25)
  have hR := hR1.alloc (.cells #[.int .i64 (v1 : Int), .int .i64 0, .int .i64 (v2 : Int), .int .i64 0, .int .i64 (v3 : Int), .int .i64 0] 25)
  replace hO := hO.alloc (.cells #[.int .i64 (v1 : Int), .int .i64 0, .int .i64 (v2 : Int), .int .i64 0, .int .i64 (v3 : Int), .int .i64 0] 25)
  clear hR1
  go_wp2_with fail
  generalize w5.alloc _ = W5 at hB4 hB5 hR hO ⊢
  have hS : W5.cell? ⟨w5.heap.size, 0, none⟩ = some (.int .i64 (v1 : Int)) := by rw [hB5.cell]; rfl
  go_region_held3 (fun w' => w'.cell? ⟨w5.heap.size, 0, none⟩ = some (.int .i64 (v1 : Int)))
    (first | exact hS | exact hS2 | exact ((hB6.put _ _).cell 0).trans rfl)
    (first | (go_at_call 41; refine (pick_any B r _ 30 _ (by exact hR) (by omega) (by omega) (by omega)).mono ?_; rintro _ x0 ⟨u1, hu1, rfl, hR6, hO6⟩; have hB6 : Blk x0 w5.heap.size 25 #[.int .i64 (v1 : Int), .int .i64 0, .int .i64 (v2 : Int), .int .i64 0, .int .i64 (v3 : Int), .int .i64 0] := Blk.only (by exact hB5) hO6 (by omega); have hS2 : x0.cell? ⟨w5.heap.size, 0, none⟩ = some (.int .i64 (v1 : Int)) := by { rw [hB6.cell]; rfl }; have c6 := hB6.cell; have f6 := hB6.frozen; have hwr : IntKind.i64.wrap ((v1 : Int) + (u1 : Int)) = (v1 : Int) + (u1 : Int) := wrap_in' (by omega) (by omega)))
  replace hB4 : Blk x0 w.heap.size 25 #[.int .i64 0, .int .i64 0, .int .i64 0, .int .i64 0, .int .i64 0, .int .i64 0] := Blk.only (by exact hB4) hO6 (by omega)
  replace hO := hO.trans hO6.of_drew
  replace hB4 := hB4.other (p := ⟨w5.heap.size, 1, none⟩) (by show w.heap.size ≠ w5.heap.size; omega) (.int .i64 ((v1 : Int) + (u1 : Int)))
  have hB7 : Blk (x0.setCell ⟨w5.heap.size, 1, none⟩ (.int .i64 ((v1 : Int) + (u1 : Int)))) w5.heap.size 25 #[.int .i64 (v1 : Int), .int .i64 ((v1 : Int) + (u1 : Int)), .int .i64 (v2 : Int), .int .i64 0, .int .i64 (v3 : Int), .int .i64 0] := by simpa using hB6.put 1 (.int .i64 ((v1 : Int) + (u1 : Int)))
  have hR7 := hR6.setCell (q := ⟨w5.heap.size, 1, none⟩) hrw5 (.int .i64 ((v1 : Int) + (u1 : Int)))
  replace hO := hO.setNew (q := ⟨w5.heap.size, 1, none⟩) hz5 (.int .i64 ((v1 : Int) + (u1 : Int)))
  clear hwr hS hS2 c6 f6 hB6 hB5 hR hR6 hO6
  generalize x0.setCell _ _ = V1 at hB4 hB7 hR7 hO ⊢
  have hB5 := hB7
  have hR := hR7
  clear hB7 hR7
  go_wp2_with fail
  have hS : V1.cell? ⟨w5.heap.size, 2, none⟩ = some (.int .i64 (v2 : Int)) := by rw [hB5.cell]; rfl
  go_region_held3 (fun w' => w'.cell? ⟨w5.heap.size, 2, none⟩ = some (.int .i64 (v2 : Int)))
    (first | exact hS | exact hS2 | exact ((hB6.put _ _).cell 2).trans rfl)
    (first | (go_at_call 41; refine (pick_any B r _ 40 _ (by exact hR) (by omega) (by omega) (by omega)).mono ?_; rintro _ x1 ⟨u2, hu2, rfl, hR6, hO6⟩; have hB6 : Blk x1 w5.heap.size 25 #[.int .i64 (v1 : Int), .int .i64 ((v1 : Int) + (u1 : Int)), .int .i64 (v2 : Int), .int .i64 0, .int .i64 (v3 : Int), .int .i64 0] := Blk.only (by exact hB5) hO6 (by omega); have hS2 : x1.cell? ⟨w5.heap.size, 2, none⟩ = some (.int .i64 (v2 : Int)) := by { rw [hB6.cell]; rfl }; have c6 := hB6.cell; have f6 := hB6.frozen; have hwr : IntKind.i64.wrap ((v2 : Int) + (u2 : Int)) = (v2 : Int) + (u2 : Int) := wrap_in' (by omega) (by omega)))
  replace hB4 : Blk x1 w.heap.size 25 #[.int .i64 0, .int .i64 0, .int .i64 0, .int .i64 0, .int .i64 0, .int .i64 0] := Blk.only (by exact hB4) hO6 (by omega)
  replace hO := hO.trans hO6.of_drew
  replace hB4 := hB4.other (p := ⟨w5.heap.size, 3, none⟩) (by show w.heap.size ≠ w5.heap.size; omega) (.int .i64 ((v2 : Int) + (u2 : Int)))
  have hB7 : Blk (x1.setCell ⟨w5.heap.size, 3, none⟩ (.int .i64 ((v2 : Int) + (u2 : Int)))) w5.heap.size 25 #[.int .i64 (v1 : Int), .int .i64 ((v1 : Int) + (u1 : Int)), .int .i64 (v2 : Int), .int .i64 ((v2 : Int) + (u2 : Int)), .int .i64 (v3 : Int), .int .i64 0] := by simpa using hB6.put 3 (.int .i64 ((v2 : Int) + (u2 : Int)))
  have hR7 := hR6.setCell (q := ⟨w5.heap.size, 3, none⟩) hrw5 (.int .i64 ((v2 : Int) + (u2 : Int)))
  replace hO := hO.setNew (q := ⟨w5.heap.size, 3, none⟩) hz5 (.int .i64 ((v2 : Int) + (u2 : Int)))
  clear hwr hS hS2 c6 f6 hB6 hB5 hR hR6 hO6
  generalize x1.setCell _ _ = V2 at hB4 hB7 hR7 hO ⊢
  have hB5 := hB7
  have hR := hR7
  clear hB7 hR7
  go_wp2_with fail
  have hS : V2.cell? ⟨w5.heap.size, 4, none⟩ = some (.int .i64 (v3 : Int)) := by rw [hB5.cell]; rfl
  go_region_held3 (fun w' => w'.cell? ⟨w5.heap.size, 4, none⟩ = some (.int .i64 (v3 : Int)))
    (first | exact hS | exact hS2 | exact ((hB6.put _ _).cell 4).trans rfl)
    (first | (go_at_call 41; refine (pick_any B r _ 40 _ (by exact hR) (by omega) (by omega) (by omega)).mono ?_; rintro _ x2 ⟨u3, hu3, rfl, hR6, hO6⟩; have hB6 : Blk x2 w5.heap.size 25 #[.int .i64 (v1 : Int), .int .i64 ((v1 : Int) + (u1 : Int)), .int .i64 (v2 : Int), .int .i64 ((v2 : Int) + (u2 : Int)), .int .i64 (v3 : Int), .int .i64 0] := Blk.only (by exact hB5) hO6 (by omega); have hS2 : x2.cell? ⟨w5.heap.size, 4, none⟩ = some (.int .i64 (v3 : Int)) := by { rw [hB6.cell]; rfl }; have c6 := hB6.cell; have f6 := hB6.frozen; have hwr : IntKind.i64.wrap ((v3 : Int) + (u3 : Int)) = (v3 : Int) + (u3 : Int) := wrap_in' (by omega) (by omega)))
  replace hB4 : Blk x2 w.heap.size 25 #[.int .i64 0, .int .i64 0, .int .i64 0, .int .i64 0, .int .i64 0, .int .i64 0] := Blk.only (by exact hB4) hO6 (by omega)
  replace hO := hO.trans hO6.of_drew
  replace hB4 := hB4.other (p := ⟨w5.heap.size, 5, none⟩) (by show w.heap.size ≠ w5.heap.size; omega) (.int .i64 ((v3 : Int) + (u3 : Int)))
  have hB7 : Blk (x2.setCell ⟨w5.heap.size, 5, none⟩ (.int .i64 ((v3 : Int) + (u3 : Int)))) w5.heap.size 25 #[.int .i64 (v1 : Int), .int .i64 ((v1 : Int) + (u1 : Int)), .int .i64 (v2 : Int), .int .i64 ((v2 : Int) + (u2 : Int)), .int .i64 (v3 : Int), .int .i64 ((v3 : Int) + (u3 : Int))] := by simpa using hB6.put 5 (.int .i64 ((v3 : Int) + (u3 : Int)))
  have hR7 := hR6.setCell (q := ⟨w5.heap.size, 5, none⟩) hrw5 (.int .i64 ((v3 : Int) + (u3 : Int)))
  replace hO := hO.setNew (q := ⟨w5.heap.size, 5, none⟩) hz5 (.int .i64 ((v3 : Int) + (u3 : Int)))
  clear hwr hS hS2 c6 f6 hB6 hB5 hR hR6 hO6
  generalize x2.setCell _ _ = V3 at hB4 hB7 hR7 hO ⊢
  have hB5 := hB7
  have hR := hR7
  clear hB7 hR7
  go_wp2_with fail
  refine (odd_any B r _ n _ hR (by omega) hn').mono ?_
  rintro _ w9 ⟨b, p6, hp6, rfl, hR1, hO1⟩
  replace hB4 := hB4.only hO1 (by omega)
  replace hB5 := hB5.only hO1 (by omega)
  replace hO := hO.trans hO1
  clear hR hO1
  go_upto_if 33 with (fail)
  go_cut [] (fun wx => ∃ (g : Grade) (p7 : Nat), smallG g ∧ p7 ≤ p + 8 ∧ Blk wx w5.heap.size 25 #[.int .i64 g.lc, .int .i64 g.hc, .int .i64 g.lm, .int .i64 g.hm, .int .i64 g.ls, .int .i64 g.hs] ∧ Blk wx w.heap.size 25 #[.int .i64 0, .int .i64 0, .int .i64 0, .int .i64 0, .int .i64 0, .int .i64 0] ∧ Rd wx B r p7 ∧ Only r (r + 1) w wx)
  case rest =>
    clear hB4 hB5 hR1 hO
    obtain ⟨g, p7, hsm, hp7, hB5, hB4, hR, hO⟩ := hcut
    have c4 := hB4.cell
    have f4 := hB4.frozen
    have c5 := hB5.cell
    go_wp2_with fail
    refine bodyPost_ret (v := gv g) (by simp [results, Tryd.results54, go_sem, c4]) rfl ⟨g, p7, hsm, hp7, rfl, ?_, ?_⟩
    · exact (((((hR.setCell hrw _).setCell hrw _).setCell hrw _).setCell hrw _).setCell hrw _).setCell hrw _
    · exact (((((hO.setNew (Nat.le_refl _) _).setNew (Nat.le_refl _) _).setNew (Nat.le_refl _) _).setNew (Nat.le_refl _) _).setNew (Nat.le_refl _) _).setNew (Nat.le_refl _) _
  case first =>
    cases b with
    | false =>
      go_wp2_with fail
      go_meet
      refine ⟨⟨(v1 : Int), (v1 : Int) + (u1 : Int), (v2 : Int), (v2 : Int) + (u2 : Int), (v3 : Int), (v3 : Int) + (u3 : Int)⟩, p6, ?_, by omega, hB5, hB4, hR1, hO⟩
      unfold smallG; simp only; omega
    | true =>
      go_wp2_with fail
      refine (pick_any B r _ 3 _ hR1 (by omega) (by omega) (by omega)).mono ?_
      rintro _ wa ⟨v, hv, rfl, hR, hO1⟩
      replace hB4 := hB4.only hO1 (by omega)
      replace hB5 := hB5.only hO1 (by omega)
      replace hO := hO.trans hO1
      clear hR1 hO1
      have c5 := hB5.cell
      have f5 := hB5.frozen
      have hv4 : v = 0 ∨ v = 1 ∨ v = 2 := by omega
      clear hv
      rcases hv4 with rfl | rfl | rfl
      · go_wp2_with fail
        go_meet
        refine ⟨⟨(v1 : Int), (v1 : Int) - 1, (v2 : Int), (v2 : Int) + (u2 : Int), (v3 : Int), (v3 : Int) + (u3 : Int)⟩, p6 + 1, ?_, by omega, by simpa using hB5.put 1 (.int .i64 ((v1 : Int) - 1)), hB4.other (by simp; omega) _, hR.setCell hrw5 _, hO.setNew hz5 _⟩
        unfold smallG; simp only; omega
      · go_wp2_with fail
        go_meet
        refine ⟨⟨(v1 : Int), (v1 : Int) + (u1 : Int), -1, (v2 : Int) + (u2 : Int), (v3 : Int), (v3 : Int) + (u3 : Int)⟩, p6 + 1, ?_, by omega, by simpa using hB5.put 2 (.int .i64 (-1)), hB4.other (by simp; omega) _, hR.setCell hrw5 _, hO.setNew hz5 _⟩
        unfold smallG; simp only; omega
      · go_wp2_with fail
        go_meet
        refine ⟨⟨(v1 : Int), (v1 : Int) + (u1 : Int), (v2 : Int), (v2 : Int) + (u2 : Int), (v3 : Int), 1000⟩, p6 + 1, ?_, by omega, by simpa using hB5.put 5 (.int .i64 1000), hB4.other (by simp; omega) _, hR.setCell hrw5 _, hO.setNew hz5 _⟩
        unfold smallG; simp only; omega
end Go.Proofs.YtlhjncefckidjaaDoor
