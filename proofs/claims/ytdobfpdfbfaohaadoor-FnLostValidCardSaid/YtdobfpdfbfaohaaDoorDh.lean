/-
  Contracts of drawn heats, and the walk of the law on a single heat.
-/
import Derived.Test.YtdobfpdfbfaohaaDoorDs
import Derived.Test.YtdobfpdfbfaohaaDoorHt
namespace Go.Proofs.YtdobfpdfbfaohaaDoor
open Go.RowKit
set_option linter.unusedVariables false
abbrev hv (h : Heat) : Value := .agg #[.int .i64 h.k, .int .i64 h.t, .int .i64 h.r]
def smallH (h : Heat) : Prop := (-1 ≤ h.k ∧ h.k ≤ 1000) ∧ (0 ≤ h.t ∧ h.t ≤ 99) ∧ (-1 ≤ h.r ∧ h.r ≤ 1000)
/-- A heat is drawn. -/
def DrewH (w : World) (B r p : Nat) (e : Ending) (w' : World) : Prop :=
  ∃ (h : Heat) (p' : Nat), smallH h ∧ p' ≤ p + 6 ∧ e = .returned (hv h) ∧ Rd w' B r p' ∧ Only r (r + 1) w w'
set_option maxHeartbeats 4000000 in
theorem l20Heat_any (B r p n : Nat) (w : World) (h : Rd w B r p) (hp : p ≤ 100000) (hn' : n ≤ 1000000) :
    Calls Tryd.prog 55 #[.pointer (some ⟨r, 0, none⟩), .int .i64 n] w (DrewH w B r p) := by
  have hrw := h.lt
  go_enter Tryd.func55, Tryd.ntmps55
  have hB4 := Blk.made w 30 #[.int .i64 0, .int .i64 0, .int .i64 0]
  have hR := h.alloc (.cells #[.int .i64 0, .int .i64 0, .int .i64 0] 30)
  have hO : Only r (r + 1) w (w.alloc (.cells #[.int .i64 0, .int .i64 0, .int .i64 0] 30)) := (Only.refl _ _ _).alloc _
  go_wp2_with fail
  generalize w.alloc _ = W at hB4 hR hO ⊢
  refine (pick_any B r _ 4 _ hR (by omega) (by omega) (by omega)).mono ?_
  rintro _ w1 ⟨v1, hv1, rfl, hR1, hO1⟩
  replace hB4 := hB4.only hO1 (by omega)
  replace hO := hO.trans hO1
  clear hR hO1
  go_wp2_with fail
  refine (pick_any B r _ 100 _ hR1 (by omega) (by omega) (by omega)).mono ?_
  rintro _ w5 ⟨v2, hv2, rfl, hR, hO1⟩
  replace hB4 := hB4.only hO1 (by omega)
  replace hO := hO.trans hO1
  clear hR1 hO1
  have hz5 := hO.size
  have hrw5 := hR.lt
  have hl45 := hB4.lt
  have hB5 := Blk.made w5 30 #[.int .i64 (v1 : Int), .int .i64 (v2 : Int), .int .i64 0]
  replace hB4 := hB4.alloc (.cells #[.int .i64 (v1 : Int), .int .i64 (v2 : Int), .int .i64 0] 30)
  replace hR := hR.alloc (.cells #[.int .i64 (v1 : Int), .int .i64 (v2 : Int), .int .i64 0] 30)
  replace hO := hO.alloc (.cells #[.int .i64 (v1 : Int), .int .i64 (v2 : Int), .int .i64 0] 30)
  go_wp2_with fail
  generalize w5.alloc _ = W5 at hB4 hB5 hR hO ⊢
  have hS : W5.cell? ⟨w5.heap.size, 1, none⟩ = some (.int .i64 (v2 : Int)) := by rw [hB5.cell]; rfl
  go_region_held3 (fun w' => w'.cell? ⟨w5.heap.size, 1, none⟩ = some (.int .i64 (v2 : Int)))
    (first | exact hS | exact hS2 | exact ((hB6.put _ _).cell 1).trans rfl)
    (first | (go_at_call 60; refine (pick_any B r _ 60 _ (by exact hR) (by omega) (by omega) (by omega)).mono ?_; rintro _ w6 ⟨v3, hv3, rfl, hR6, hO6⟩; have hB6 : Blk w6 w5.heap.size 30 #[.int .i64 (v1 : Int), .int .i64 (v2 : Int), .int .i64 0] := Blk.only (by exact hB5) hO6 (by omega); have hS2 : w6.cell? ⟨w5.heap.size, 1, none⟩ = some (.int .i64 (v2 : Int)) := by { rw [hB6.cell]; rfl }; have c6 := hB6.cell; have f6 := hB6.frozen; have hwr : IntKind.i64.wrap ((v2 : Int) + (v3 : Int)) = (v2 : Int) + (v3 : Int) := wrap_in' (by omega) (by omega)))
  replace hB4 : Blk w6 w.heap.size 30 #[.int .i64 0, .int .i64 0, .int .i64 0] := Blk.only (by exact hB4) hO6 (by omega)
  replace hO := hO.trans hO6.of_drew
  replace hB4 := hB4.other (p := ⟨w5.heap.size, 2, none⟩) (by show w.heap.size ≠ w5.heap.size; omega) (.int .i64 ((v2 : Int) + (v3 : Int)))
  have hB7 : Blk (w6.setCell ⟨w5.heap.size, 2, none⟩ (.int .i64 ((v2 : Int) + (v3 : Int)))) w5.heap.size 30 #[.int .i64 (v1 : Int), .int .i64 (v2 : Int), .int .i64 ((v2 : Int) + (v3 : Int))] := by simpa using hB6.put 2 (.int .i64 ((v2 : Int) + (v3 : Int)))
  have hR7 := hR6.setCell (q := ⟨w5.heap.size, 2, none⟩) hrw5 (.int .i64 ((v2 : Int) + (v3 : Int)))
  replace hO := hO.setNew (q := ⟨w5.heap.size, 2, none⟩) hz5 (.int .i64 ((v2 : Int) + (v3 : Int)))
  clear hwr hS hS2 c6 f6 hB6 hB5 hR hR6 hO6
  generalize w6.setCell _ _ = W6 at hB4 hB7 hR7 hO ⊢
  go_wp2_with fail
  refine (odd_any B r _ n _ hR7 (by omega) hn').mono ?_
  rintro _ w7 ⟨b, p6, hp6, rfl, hR1, hO1⟩
  replace hB4 := hB4.only hO1 (by omega)
  replace hB7 := hB7.only hO1 (by omega)
  replace hO := hO.trans hO1
  clear hR7 hO1
  go_upto_if 19 with (fail)
  go_cut [] (fun wx => ∃ (s : Heat) (p7 : Nat), smallH s ∧ p7 ≤ p + 6 ∧ Blk wx w5.heap.size 30 #[.int .i64 s.k, .int .i64 s.t, .int .i64 s.r] ∧ Blk wx w.heap.size 30 #[.int .i64 0, .int .i64 0, .int .i64 0] ∧ Rd wx B r p7 ∧ Only r (r + 1) w wx)
  case rest =>
    clear hB4 hB7 hR1 hO
    obtain ⟨s, p7, hsm, hp7, hB5, hB4, hR, hO⟩ := hcut
    have c4 := hB4.cell
    have f4 := hB4.frozen
    have c5 := hB5.cell
    go_wp2_with fail
    refine bodyPost_ret (v := hv s) (by simp [results, Tryd.results55, go_sem, c4]) rfl ⟨s, p7, hsm, hp7, rfl, ?_, ?_⟩
    · exact ((hR.setCell hrw _).setCell hrw _).setCell hrw _
    · exact ((hO.setNew (Nat.le_refl _) _).setNew (Nat.le_refl _) _).setNew (Nat.le_refl _) _
  case first =>
    cases b with
    | false =>
      go_wp2_with fail
      go_meet
      refine ⟨⟨(v1 : Int), (v2 : Int), (v2 : Int) + (v3 : Int)⟩, p6, ?_, by omega, hB7, hB4, hR1, hO⟩
      unfold smallH; simp only; omega
    | true =>
      go_wp2_with fail
      refine (pick_any B r _ 3 _ hR1 (by omega) (by omega) (by omega)).mono ?_
      rintro _ w8 ⟨v, hv, rfl, hR, hO1⟩
      replace hB4 := hB4.only hO1 (by omega)
      replace hB7 := hB7.only hO1 (by omega)
      replace hO := hO.trans hO1
      clear hR1 hO1
      have hz7 := hO.size
      have hl5 := hB7.lt
      have hr7 := hR.lt
      have hv4 : v = 0 ∨ v = 1 ∨ v = 2 := by omega
      clear hv
      rcases hv4 with rfl | rfl | rfl
      · have hBs := Blk.made w8 3 #[.int .i64 (-1), .int .i64 4]
        replace hB4 := hB4.alloc (.cells #[.int .i64 (-1), .int .i64 4] 3)
        replace hB7 := hB7.alloc (.cells #[.int .i64 (-1), .int .i64 4] 3)
        have hR1 := hR.alloc (.cells #[.int .i64 (-1), .int .i64 4] 3)
        replace hO := hO.alloc (.cells #[.int .i64 (-1), .int .i64 4] 3)
        clear hR
        go_wp2_with fail
        generalize w8.alloc _ = W8 at hB4 hB7 hBs hR1 hO ⊢
        refine (pick_any B r _ 2 _ hR1 (by omega) (by omega) (by omega)).mono ?_
        rintro _ w9 ⟨u, hu, rfl, hR, hO1⟩
        replace hB4 := hB4.only hO1 (by omega)
        replace hB7 := hB7.only hO1 (by omega)
        replace hBs := hBs.only hO1 (by omega)
        replace hO := hO.trans hO1
        clear hR1 hO1
        have c5 := hB7.cell
        have f5 := hB7.frozen
        have cs := hBs.cell
        have hu2 : u = 0 ∨ u = 1 := by omega
        clear hu
        rcases hu2 with rfl | rfl
        · go_wp2_with fail
          go_meet
          refine ⟨⟨-1, (v2 : Int), (v2 : Int) + (v3 : Int)⟩, p6 + 1 + 1, ?_, by omega, by simpa using hB7.put 0 (.int .i64 (-1)), hB4.other (by simp; omega) _, hR.setCell hrw5 _, hO.setNew hz5 _⟩
          unfold smallH; simp only; omega
        · go_wp2_with fail
          go_meet
          refine ⟨⟨4, (v2 : Int), (v2 : Int) + (v3 : Int)⟩, p6 + 1 + 1, ?_, by omega, by simpa using hB7.put 0 (.int .i64 4), hB4.other (by simp; omega) _, hR.setCell hrw5 _, hO.setNew hz5 _⟩
          unfold smallH; simp only; omega
      · have c5 := hB7.cell
        have f5 := hB7.frozen
        go_wp2_with fail
        go_meet
        refine ⟨⟨(v1 : Int), (v2 : Int), (v2 : Int) - 1⟩, p6 + 1, ?_, by omega, by simpa using hB7.put 2 (.int .i64 ((v2 : Int) - 1)), hB4.other (by simp; omega) _, hR.setCell hrw5 _, hO.setNew hz5 _⟩
        unfold smallH; simp only; omega
      · have c5 := hB7.cell
        have f5 := hB7.frozen
        go_wp2_with fail
        go_meet
        refine ⟨⟨(v1 : Int), (v2 : Int), 1000⟩, p6 + 1, ?_, by omega, by simpa using hB7.put 2 (.int .i64 1000), hB4.other (by simp; omega) _, hR.setCell hrw5 _, hO.setNew hz5 _⟩
        unfold smallH; simp only; omega
/-- It is drawn out of a code. -/
def DrawnHeat (w : World) (e : Ending) (w' : World) : Prop := ∃ s : Heat, smallH s ∧ e = .returned (hv s) ∧ Below w.heap.size w w'
theorem drawHeatValid_any (A : Option Addr) (n c : Nat) (l : List Int) (w : World) (hs : Sees w w.heap.size A (bys l)) (hl : l.length = n) (hby : ∀ z ∈ l, byteB z) (hc : n ≤ c) (hm : c ≤ maxLen) :
    Calls Tryd.prog 18 #[.slice A n c] w (DrawnHeat w) := by
  go_enter Tryd.func18, Tryd.ntmps18
  have hB := Blk.made w 30 #[.int .i64 0, .int .i64 0, .int .i64 0]
  have hb : Below w.heap.size w (w.alloc (.cells #[.int .i64 0, .int .i64 0, .int .i64 0] 30)) := (Below.refl _ _).alloc (Nat.le_refl _) _
  go_wp2_with fail
  generalize w.alloc _ = W at hB hb ⊢
  refine (l20Open_any A n c l _ (hs.next hb) hl hby hc hm).mono ?_
  rintro _ w1 ⟨rfl, hR, hb1⟩
  have hlt := hB.lt
  replace hB := hB.below hb1 hB.lt
  replace hb := below_next hb hb1
  clear hb1
  go_wp2_with fail
  refine (l20Heat_any _ _ _ 2 _ hR (by omega) (by omega)).mono ?_
  rintro _ w2 ⟨s, p', hsm, hp', rfl, hR2, hO⟩
  replace hB := hB.only hO (by omega)
  replace hb := below_only hb hO (by omega) (Nat.le_refl _)
  have c4 := hB.cell
  have f4 := hB.frozen
  go_wp2_with fail
  refine bodyPost_ret (v := hv s) (by simp [results, Tryd.results18, go_sem, c4]) rfl ⟨s, hsm, rfl, ?_⟩
  exact (((hb.setCell (Nat.le_refl _) _).setCell (Nat.le_refl _) _).setCell (Nat.le_refl _) _)
theorem fnHeatValid_walk (A : Option Addr) (n c : Nat) (l : List Int) (w : World) (hs : Sees w w.heap.size A (bys l)) (hl : l.length = n) (hby : ∀ z ∈ l, byteB z) (hc : n ≤ c) (hm : c ≤ maxLen) :
    Calls Tryd.prog 4 #[.slice A n c] w fun e w' => e = .returned (.bool true) ∧ Below w.heap.size w w' := by
  have hm' := hm
  unfold maxLen at hm'
  by_cases hn : n ≤ 1048576
  case neg =>
    go_enter Tryd.func4, Tryd.ntmps4
    go_wp2_with fail
    go_ret
    exact ⟨rfl, Below.refl _ _⟩
  go_enter Tryd.func4, Tryd.ntmps4
  go_wp2_with fail
  refine (drawHeatValid_any A n c l _ hs hl hby hc hm).mono ?_
  rintro _ w1 ⟨s, hsm, rfl, hb⟩
  obtain ⟨a1, a2, a3⟩ := s
  unfold smallH at hsm
  simp only at hsm
  have hx : heatOk ⟨a1, a2, a3⟩ = true → heatOk ⟨a1, a2, a2⟩ = true := by
    intro h
    simp only [heatOk, Bool.and_eq_true, inB_iff] at h ⊢
    omega
  have hy : heatOk ⟨a1, a2, a2 - 1⟩ = false := by
    rw [Bool.eq_false_iff]
    intro h
    simp only [heatOk, Bool.and_eq_true, inB_iff] at h
    omega
  have Hx := Lib.hid hx
  have Hy := Lib.hid hy
  clear hx hy
  have hB := Blk.made w1 30 #[.int .i64 a1, .int .i64 a2, .int .i64 a3]
  replace hb := hb.alloc hb.size (.cells #[.int .i64 a1, .int .i64 a2, .int .i64 a3] 30)
  go_wp2_with fail
  generalize w1.alloc _ = W at hB hb ⊢
  refine (heatValid_any _ _ _ _).mono ?_
  rintro _ w2 ⟨rfl, hb1⟩
  replace hB := hB.below hb1 hB.lt
  replace hb := below_next hb hb1
  clear hb1
  have c3 := hB.cell
  go_wp2_with fail
  clear c3
  refine (sHeatValid_any _ _ _ _).mono ?_
  rintro _ w3 ⟨rfl, hb1⟩
  replace hB := hB.below hb1 hB.lt
  replace hb := below_next hb hb1
  clear hb1
  have c3 := hB.cell
  cases hok : heatOk ⟨a1, a2, a3⟩ with
  | false =>
    go_wp2_with fail
    refine (heatValid_any _ _ _ _).mono ?_
    rintro _ w4 ⟨rfl, hb1⟩
    rw [Hy.out]
    replace hb := below_next hb hb1
    clear hb1 c3
    go_wp2_with fail
    refine (alive_any _).mono ?_
    rintro _ w5 ⟨rfl, hb1⟩
    go_wp2_with fail
    go_ret
    exact ⟨rfl, below_next hb hb1⟩
  | true =>
    have hx := Hx.out hok
    have HX := Lib.hid hx
    clear hx
    go_wp2_with fail
    clear c3
    refine (heatValid_any _ _ _ _).mono ?_
    rintro _ w4 ⟨rfl, hb1⟩
    rw [HX.out]
    replace hB := hB.below hb1 hB.lt
    replace hb := below_next hb hb1
    clear hb1
    have c3 := hB.cell
    go_wp2_with fail
    refine (heatValid_any _ _ _ _).mono ?_
    rintro _ w5 ⟨rfl, hb1⟩
    rw [Hy.out]
    replace hb := below_next hb hb1
    clear hb1 c3
    go_wp2_with fail
    refine (alive_any _).mono ?_
    rintro _ w6 ⟨rfl, hb1⟩
    go_wp2_with fail
    go_ret
    exact ⟨rfl, below_next hb hb1⟩
end Go.Proofs.YtdobfpdfbfaohaaDoor
