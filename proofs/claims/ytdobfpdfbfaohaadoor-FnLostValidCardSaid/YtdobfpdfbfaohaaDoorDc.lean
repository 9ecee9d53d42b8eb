/-
  Contracts of drawn casters and heats, and the walks of the laws on a single caster and a single heat.
-/
import Derived.Test.YtdobfpdfbfaohaaDoorDs
import Derived.Test.YtdobfpdfbfaohaaDoorHt
namespace Go.Proofs.YtdobfpdfbfaohaaDoor
open Go.RowKit
set_option linter.unusedVariables false
abbrev cv (c : Caster) : Value := .agg #[.int .i64 c.f, .int .i64 c.s]
def smallC (c : Caster) : Prop := (-1 ≤ c.f ∧ c.f ≤ 1000) ∧ (-1 ≤ c.s ∧ c.s ≤ 1000)
/-- A caster is drawn. -/
def DrewC (w : World) (B r p : Nat) (e : Ending) (w' : World) : Prop :=
  ∃ (c : Caster) (p' : Nat), smallC c ∧ p' ≤ p + 4 ∧ e = .returned (cv c) ∧ Rd w' B r p' ∧ Only r (r + 1) w w'
set_option maxHeartbeats 4000000 in
theorem l20Caster_any (B r p n : Nat) (w : World) (h : Rd w B r p) (hp : p ≤ 100000) (hn' : n ≤ 1000000) :
    Calls Tryd.prog 49 #[.pointer (some ⟨r, 0, none⟩), .int .i64 n] w (DrewC w B r p) := by
  have hrw := h.lt
  go_enter Tryd.func49, Tryd.ntmps49
  have hB4 := Blk.made w 24 #[.int .i64 0, .int .i64 0]
  have hR := h.alloc (.cells #[.int .i64 0, .int .i64 0] 24)
  have hO : Only r (r + 1) w (w.alloc (.cells #[.int .i64 0, .int .i64 0] 24)) := (Only.refl _ _ _).alloc _
  go_wp2_with fail
  generalize w.alloc _ = W at hB4 hR hO ⊢
  refine (pick_any B r _ 30 _ hR (by omega) (by omega) (by omega)).mono ?_
  rintro _ w5 ⟨v1, hv1, rfl, hR1, hO1⟩
  replace hB4 := hB4.only hO1 (by omega)
  replace hO := hO.trans hO1
  clear hR hO1
  have hz5 := hO.size
  have hrw5 := hR1.lt
  have hl45 := hB4.lt
  have hB5 := Blk.made w5 24 #[.int .i64 (10 + (v1 : Int)), .int .i64 0]
  replace hB4 := hB4.alloc (.cells #[.int .i64 (10 + (v1 : Int)), .int .i64 0] 24)
  have hR := hR1.alloc (.cells #[.int .i64 (10 + (v1 : Int)), .int .i64 0] 24)
  replace hO := hO.alloc (.cells #[.int .i64 (10 + (v1 : Int)), .int .i64 0] 24)
  clear hR1
  go_wp2_with fail
  generalize w5.alloc _ = W5 at hB4 hB5 hR hO ⊢
  have hS : W5.cell? ⟨w5.heap.size, 0, none⟩ = some (.int .i64 (10 + (v1 : Int))) := by rw [hB5.cell]; rfl
  go_region_held3 (fun w' => w'.cell? ⟨w5.heap.size, 0, none⟩ = some (.int .i64 (10 + (v1 : Int))))
    (first | exact hS | exact hS2 | exact ((hB6.put _ _).cell 0).trans rfl)
    (first | (go_at_call 60; refine (pick_any B r _ 30 _ (by exact hR) (by omega) (by omega) (by omega)).mono ?_; rintro _ w6 ⟨v2, hv2, rfl, hR6, hO6⟩; have hB6 : Blk w6 w5.heap.size 24 #[.int .i64 (10 + (v1 : Int)), .int .i64 0] := Blk.only (by exact hB5) hO6 (by omega); have hS2 : w6.cell? ⟨w5.heap.size, 0, none⟩ = some (.int .i64 (10 + (v1 : Int))) := by { rw [hB6.cell]; rfl }; have c6 := hB6.cell; have f6 := hB6.frozen; have hwr : IntKind.i64.wrap (10 + (v1 : Int) + (v2 : Int)) = 10 + (v1 : Int) + (v2 : Int) := wrap_in' (by omega) (by omega)))
  replace hB4 : Blk w6 w.heap.size 24 #[.int .i64 0, .int .i64 0] := Blk.only (by exact hB4) hO6 (by omega)
  replace hO := hO.trans hO6.of_drew
  replace hB4 := hB4.other (p := ⟨w5.heap.size, 1, none⟩) (by show w.heap.size ≠ w5.heap.size; omega) (.int .i64 (10 + (v1 : Int) + (v2 : Int)))
  have hB7 : Blk (w6.setCell ⟨w5.heap.size, 1, none⟩ (.int .i64 (10 + (v1 : Int) + (v2 : Int)))) w5.heap.size 24 #[.int .i64 (10 + (v1 : Int)), .int .i64 (10 + (v1 : Int) + (v2 : Int))] := by simpa using hB6.put 1 (.int .i64 (10 + (v1 : Int) + (v2 : Int)))
  have hR7 := hR6.setCell (q := ⟨w5.heap.size, 1, none⟩) hrw5 (.int .i64 (10 + (v1 : Int) + (v2 : Int)))
  replace hO := hO.setNew (q := ⟨w5.heap.size, 1, none⟩) hz5 (.int .i64 (10 + (v1 : Int) + (v2 : Int)))
  clear hwr hS hS2 c6 f6 hB6 hB5 hR hR6 hO6
  generalize w6.setCell _ _ = W6 at hB4 hB7 hR7 hO ⊢
  go_wp2_with fail
  refine (odd_any B r _ n _ hR7 (by omega) hn').mono ?_
  rintro _ w7 ⟨b, p6, hp6, rfl, hR, hO1⟩
  replace hB4 := hB4.only hO1 (by omega)
  replace hB7 := hB7.only hO1 (by omega)
  replace hO := hO.trans hO1
  clear hR7 hO1
  have hz7 := hO.size
  have hr7 := hR.lt
  cases b with
  | false =>
    have c4 := hB4.cell
    have f4 := hB4.frozen
    have c5 := hB7.cell
    go_wp2_with fail
    refine bodyPost_ret (v := cv ⟨10 + (v1 : Int), 10 + (v1 : Int) + (v2 : Int)⟩) (by simp [results, Tryd.results49, go_sem, c4]) rfl ⟨⟨_, _⟩, p6, ?_, by omega, rfl, (hR.setCell hrw _).setCell hrw _, (hO.setNew (Nat.le_refl _) _).setNew (Nat.le_refl _) _⟩
    unfold smallC; simp only; omega
  | true =>
    have hBs := Blk.made w7 24 #[.int .i64 0, .int .i64 5, .int .i64 9, .int .i64 8, .int .i64 9, .int .i64 100]
    replace hB4 := hB4.alloc (.cells #[.int .i64 0, .int .i64 5, .int .i64 9, .int .i64 8, .int .i64 9, .int .i64 100] 24)
    replace hR := hR.alloc (.cells #[.int .i64 0, .int .i64 5, .int .i64 9, .int .i64 8, .int .i64 9, .int .i64 100] 24)
    replace hO := hO.alloc (.cells #[.int .i64 0, .int .i64 5, .int .i64 9, .int .i64 8, .int .i64 9, .int .i64 100] 24)
    go_wp2_with fail
    generalize w7.alloc _ = W7 at hB4 hBs hR hO ⊢
    refine (pick_any B r _ 3 _ hR (by omega) (by omega) (by omega)).mono ?_
    rintro _ w8 ⟨u, hu, rfl, hR1, hO1⟩
    replace hB4 := hB4.only hO1 (by omega)
    replace hBs := hBs.only hO1 (by omega)
    replace hO := hO.trans hO1
    clear hR hO1
    have c4 := hB4.cell
    have f4 := hB4.frozen
    have cs := hBs.cell
    have hu3 : u = 0 ∨ u = 1 ∨ u = 2 := by omega
    clear hu
    rcases hu3 with rfl | rfl | rfl
    · go_wp2_with fail
      refine bodyPost_ret (v := cv ⟨0, 5⟩) (by simp [results, Tryd.results49, go_sem, c4]) rfl ⟨⟨_, _⟩, p6 + 1, ?_, by omega, rfl, (hR1.setCell hrw _).setCell hrw _, (hO.setNew (Nat.le_refl _) _).setNew (Nat.le_refl _) _⟩
      unfold smallC; simp only; omega
    · go_wp2_with fail
      refine bodyPost_ret (v := cv ⟨9, 8⟩) (by simp [results, Tryd.results49, go_sem, c4]) rfl ⟨⟨_, _⟩, p6 + 1, ?_, by omega, rfl, (hR1.setCell hrw _).setCell hrw _, (hO.setNew (Nat.le_refl _) _).setNew (Nat.le_refl _) _⟩
      unfold smallC; simp only; omega
    · go_wp2_with fail
      refine bodyPost_ret (v := cv ⟨9, 100⟩) (by simp [results, Tryd.results49, go_sem, c4]) rfl ⟨⟨_, _⟩, p6 + 1, ?_, by omega, rfl, (hR1.setCell hrw _).setCell hrw _, (hO.setNew (Nat.le_refl _) _).setNew (Nat.le_refl _) _⟩
      unfold smallC; simp only; omega
/-- It is drawn out of a code. -/
def DrawnCaster (w : World) (e : Ending) (w' : World) : Prop := ∃ s : Caster, smallC s ∧ e = .returned (cv s) ∧ Below w.heap.size w w'
theorem drawCasterValid_any (A : Option Addr) (n c : Nat) (l : List Int) (w : World) (hs : Sees w w.heap.size A (bys l)) (hl : l.length = n) (hby : ∀ z ∈ l, byteB z) (hc : n ≤ c) (hm : c ≤ maxLen) :
    Calls Tryd.prog 14 #[.slice A n c] w (DrawnCaster w) := by
  go_enter Tryd.func14, Tryd.ntmps14
  have hB := Blk.made w 24 #[.int .i64 0, .int .i64 0]
  have hb : Below w.heap.size w (w.alloc (.cells #[.int .i64 0, .int .i64 0] 24)) := (Below.refl _ _).alloc (Nat.le_refl _) _
  go_wp2_with fail
  generalize w.alloc _ = W at hB hb ⊢
  refine (l20Open_any A n c l _ (hs.next hb) hl hby hc hm).mono ?_
  rintro _ w1 ⟨rfl, hR, hb1⟩
  have hlt := hB.lt
  replace hB := hB.below hb1 hB.lt
  replace hb := below_next hb hb1
  clear hb1
  go_wp2_with fail
  refine (l20Caster_any _ _ _ 2 _ hR (by omega) (by omega)).mono ?_
  rintro _ w2 ⟨s, p', hsm, hp', rfl, hR2, hO⟩
  replace hB := hB.only hO (by omega)
  replace hb := below_only hb hO (by omega) (Nat.le_refl _)
  have c4 := hB.cell
  have f4 := hB.frozen
  go_wp2_with fail
  refine bodyPost_ret (v := cv s) (by simp [results, Tryd.results14, go_sem, c4]) rfl ⟨s, hsm, rfl, ?_⟩
  exact ((hb.setCell (Nat.le_refl _) _).setCell (Nat.le_refl _) _)
theorem fnCasterValid_walk (A : Option Addr) (n c : Nat) (l : List Int) (w : World) (hs : Sees w w.heap.size A (bys l)) (hl : l.length = n) (hby : ∀ z ∈ l, byteB z) (hc : n ≤ c) (hm : c ≤ maxLen) :
    Calls Tryd.prog 3 #[.slice A n c] w fun e w' => e = .returned (.bool true) ∧ Below w.heap.size w w' := by
  have hm' := hm
  unfold maxLen at hm'
  by_cases hn : n ≤ 1048576
  case neg =>
    go_enter Tryd.func3, Tryd.ntmps3
    go_wp2_with fail
    go_ret
    exact ⟨rfl, Below.refl _ _⟩
  go_enter Tryd.func3, Tryd.ntmps3
  go_wp2_with fail
  refine (drawCasterValid_any A n c l _ hs hl hby hc hm).mono ?_
  rintro _ w1 ⟨s, hsm, rfl, hb⟩
  obtain ⟨a1, a2⟩ := s
  unfold smallC at hsm
  simp only at hsm
  have hx : casterOk ⟨a1, a2⟩ = true → casterOk ⟨a1, a1⟩ = true := by
    intro h
    simp only [casterOk, Bool.and_eq_true, inB_iff] at h ⊢
    omega
  have hy : casterOk ⟨a2 + 1, a2⟩ = false := by
    rw [Bool.eq_false_iff]
    intro h
    simp only [casterOk, Bool.and_eq_true, inB_iff] at h
    omega
  have Hx := Lib.hid hx
  have Hy := Lib.hid hy
  clear hx hy
  have hB := Blk.made w1 24 #[.int .i64 a1, .int .i64 a2]
  replace hb := hb.alloc hb.size (.cells #[.int .i64 a1, .int .i64 a2] 24)
  go_wp2_with fail
  generalize w1.alloc _ = W at hB hb ⊢
  refine (casterValid_any _ _ _).mono ?_
  rintro _ w2 ⟨rfl, hb1⟩
  replace hB := hB.below hb1 hB.lt
  replace hb := below_next hb hb1
  clear hb1
  have c3 := hB.cell
  go_wp2_with fail
  clear c3
  refine (sCasterValid_any _ _ _).mono ?_
  rintro _ w3 ⟨rfl, hb1⟩
  replace hB := hB.below hb1 hB.lt
  replace hb := below_next hb hb1
  clear hb1
  have c3 := hB.cell
  cases hok : casterOk ⟨a1, a2⟩ with
  | false =>
    go_wp2_with fail
    refine (casterValid_any _ _ _).mono ?_
    rintro _ w4 ⟨rfl, hb1⟩
    rw [Hy.out]
    replace hb := below_next hb hb1
    clear hb1 c3
    go_wp2_with fail
    refine (alive_any _).mono ?_
    rintro _ w5 ⟨rfl, hb1⟩
    go_wp2_with fail
    go_ret
    exact ⟨rfl, below_next hb hb1⟩
  | true =>
    have hx := Hx.out hok
    have HX := Lib.hid hx
    clear hx
    go_wp2_with fail
    clear c3
    refine (casterValid_any _ _ _).mono ?_
    rintro _ w4 ⟨rfl, hb1⟩
    rw [HX.out]
    replace hB := hB.below hb1 hB.lt
    replace hb := below_next hb hb1
    clear hb1
    have c3 := hB.cell
    go_wp2_with fail
    refine (casterValid_any _ _ _).mono ?_
    rintro _ w5 ⟨rfl, hb1⟩
    rw [Hy.out]
    replace hb := below_next hb hb1
    clear hb1 c3
    go_wp2_with fail
    refine (alive_any _).mono ?_
    rintro _ w6 ⟨rfl, hb1⟩
    go_wp2_with fail
    go_ret
    exact ⟨rfl, below_next hb hb1⟩
end Go.Proofs.YtdobfpdfbfaohaaDoor
