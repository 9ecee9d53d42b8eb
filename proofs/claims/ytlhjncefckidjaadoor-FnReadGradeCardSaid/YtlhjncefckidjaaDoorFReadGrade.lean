/-
  The walk of the law FnReadGrade.
-/
import Derived.Test.YtlhjncefckidjaaDoorFGradeText
namespace Go.Proofs.YtlhjncefckidjaaDoor
open Go.RowKit
set_option linter.unusedVariables false
set_option linter.unusedSimpArgs false
/-- A text is drawn out of a code. -/
def DrawnT (w : World) (e : Ending) (w' : World) : Prop := ∃ s : ByteArray, s.size ≤ 1000 ∧ e = .returned (.string s) ∧ Below w.heap.size w w'
set_option maxRecDepth 20000 in
set_option maxHeartbeats 1000000 in
theorem drawReadGrade_any (A : Option Addr) (n c : Nat) (l : List Int) (w : World) (hs : Sees w w.heap.size A (bys l)) (hl : l.length = n) (hby : ∀ z ∈ l, byteB z) (hc : n ≤ c) (hm : c ≤ maxLen) :
    Calls Tryd.prog 33 #[.slice A n c] w (DrawnT w) := by
  go_enter Tryd.func33, Tryd.ntmps33
  go_wp2_with fail
  refine (l20Open_any A n c l _ hs hl hby hc hm).mono ?_
  rintro _ w1 ⟨rfl, hR, hb⟩
  have hz1 := hb.size
  clear hs hl hby hc hm
  go_wp2_with fail
  refine (l20Grade0_any _ _ _ _ hR (by omega)).mono ?_
  rintro _ w2 ⟨s, p', hsm, hp', rfl, hR2, hO⟩
  replace hb := below_only hb hO (by omega) (Nat.le_refl _)
  clear hR hO
  obtain ⟨a1, a2, a3, a4, a5, a6⟩ := s
  simp only [gv]
  go_wp2_with fail
  refine (sGradeText_any _ _ _ _ _ _ _).mono ?_
  rintro _ w3 ⟨rfl, hb1⟩
  have hR3 := hR2.below hb1
  have hb3 := below_next hb hb1
  clear hb hb1 hR2
  obtain ⟨x, T', hx⟩ := textG_some hsm
  have hlen := textG_len ⟨a1, a2, a3, a4, a5, a6⟩
  rw [hx] at hlen ⊢
  obtain ⟨T, hT⟩ : ∃ T, T = x :: T' := ⟨_, rfl⟩
  rw [← hT] at hlen ⊢
  have hT1 : 1 ≤ T.length := by rw [hT]; simp
  clear hT hx hsm T' x
  go_wp2_with fail
  refine (pick_any _ _ _ 3 _ hR3 (by omega) (by omega) (by omega)).mono ?_
  rintro _ w4 ⟨v1, hv1, rfl, hR4, hO1⟩
  replace hb3 := below_only hb3 hO1 (by omega) (Nat.le_refl _)
  clear hR3 hO1
  by_cases hv : v1 = 0
  case neg =>
    have hv2 : ((v1 : Int) == 0) = false := by rw [beq_eq_false_iff_ne]; omega
    go_wp2_with fail
    go_ret
    exact ⟨⟨T.toArray⟩, by rw [bs_size]; omega, rfl, hb3⟩
  subst hv
  clear hv1
  go_wp2_with fail
  refine (pick_any _ _ _ T.length _ hR4 (by omega) (by omega) (by omega)).mono ?_
  rintro _ w5 ⟨k, hk, rfl, hR5, hO1⟩
  replace hb3 := below_only hb3 hO1 (by omega) (Nat.le_refl _)
  clear hR4 hO1
  have hk1 : IntKind.i64.wrap ((k : Int) + 1) = (k : Int) + 1 := wrap_in' (by omega) (by omega)
  go_wp2_with fail
  refine wp_region_noPanic ?_
  refine wp_region_held_drew (S := (fun _ => True)) (by kernel_rfl) ?_ (fun hHeld => ?_)
  · exact trivial
  refine wpAnyH_take (i := 0) (oi := _) (v := ?_) (by first | (simp only [List.getElem?_toArray, List.getElem?_cons_zero]; done) | (simp only [List.getElem?_toArray, List.getElem?_cons_zero]; exact rfl)) (by kernel_rfl) (by kernel_rfl) (by kernel_rfl) (fun _ _ _ h => h) (Or.inl ⟨by rfl, ?_⟩) (by assumption) ?_
  rotate_left
  · intro w hSw; (try dsimp only at hSw); go_simp; all_goals with_reducible rfl
  try simp only [Act.put, List.setIfInBounds_toArray, List.set_cons_zero, List.set_cons_succ]
  refine wpAnyH_take (i := 1) (oi := _) (v := ?_) (by first | (simp only [List.getElem?_toArray, List.getElem?_cons_succ, List.getElem?_cons_zero]; done) | (simp only [List.getElem?_toArray, List.getElem?_cons_succ, List.getElem?_cons_zero]; exact rfl)) (by kernel_rfl) (by kernel_rfl) (by kernel_rfl) (fun _ _ _ h => h) (Or.inl ⟨by rfl, ?_⟩) (by assumption) ?_
  rotate_left
  · intro w hSw; (try dsimp only at hSw); go_simp; all_goals with_reducible rfl
  try simp only [Act.put, List.setIfInBounds_toArray, List.set_cons_zero, List.set_cons_succ]
  refine wpAnyH_take (i := 2) (oi := _) (v := ?_) (by first | (simp only [List.getElem?_toArray, List.getElem?_cons_succ, List.getElem?_cons_zero]; done) | (simp only [List.getElem?_toArray, List.getElem?_cons_succ, List.getElem?_cons_zero]; exact rfl)) (by kernel_rfl) (by kernel_rfl) (by kernel_rfl) (fun _ _ _ h => h) (Or.inl ⟨by rfl, ?_⟩) (by assumption) ?_
  rotate_left
  · intro w hSw; (try dsimp only at hSw); go_simp; rw [if_pos (by omega)]
  try simp only [Act.put, List.setIfInBounds_toArray, List.set_cons_zero, List.set_cons_succ]
  refine wpAnyH_take (i := 4) (oi := _) (v := ?_) (by first | (simp only [List.getElem?_toArray, List.getElem?_cons_succ, List.getElem?_cons_zero]; done) | (simp only [List.getElem?_toArray, List.getElem?_cons_succ, List.getElem?_cons_zero]; exact rfl)) (by kernel_rfl) (by kernel_rfl) (by kernel_rfl) (fun _ _ _ h => h) (Or.inl ⟨by rfl, ?_⟩) (by assumption) ?_
  rotate_left
  · intro w hSw; (try dsimp only at hSw); go_simp; all_goals with_reducible rfl
  try simp only [Act.put, List.setIfInBounds_toArray, List.set_cons_zero, List.set_cons_succ]
  refine wpAnyH_take (i := 9) (oi := _) (v := ?_) (by first | (simp only [List.getElem?_toArray, List.getElem?_cons_succ, List.getElem?_cons_zero]; done) | (simp only [List.getElem?_toArray, List.getElem?_cons_succ, List.getElem?_cons_zero]; exact rfl)) (by kernel_rfl) (by kernel_rfl) (by kernel_rfl) (fun _ _ _ h => h) (Or.inl ⟨by rfl, ?_⟩) (by assumption) ?_
  rotate_left
  · intro w hSw; (try dsimp only at hSw); go_simp; all_goals with_reducible rfl
  try simp only [Act.put, List.setIfInBounds_toArray, List.set_cons_zero, List.set_cons_succ]
  refine wpAnyH_take (i := 10) (oi := _) (v := ?_) (by first | (simp only [List.getElem?_toArray, List.getElem?_cons_succ, List.getElem?_cons_zero]; done) | (simp only [List.getElem?_toArray, List.getElem?_cons_succ, List.getElem?_cons_zero]; exact rfl)) (by kernel_rfl) (by kernel_rfl) (by kernel_rfl) (fun _ _ _ h => h) (Or.inl ⟨by rfl, ?_⟩) (by assumption) ?_
  rotate_left
  · intro w hSw; (try dsimp only at hSw); go_simp; all_goals with_reducible rfl
  try simp only [Act.put, List.setIfInBounds_toArray, List.set_cons_zero, List.set_cons_succ]
  refine wpAnyH_take (i := 11) (oi := _) (v := ?_) (by first | (simp only [List.getElem?_toArray, List.getElem?_cons_succ, List.getElem?_cons_zero]; done) | (simp only [List.getElem?_toArray, List.getElem?_cons_succ, List.getElem?_cons_zero]; exact rfl)) (by kernel_rfl) (by kernel_rfl) (by kernel_rfl) (fun _ _ _ h => h) (Or.inl ⟨by rfl, ?_⟩) (by assumption) ?_
  rotate_left
  · intro w hSw; (try dsimp only at hSw); go_simp; all_goals with_reducible rfl
  try simp only [Act.put, List.setIfInBounds_toArray, List.set_cons_zero, List.set_cons_succ]
  refine wpAnyH_take (i := 12) (oi := _) (v := ?_) (by first | (simp only [List.getElem?_toArray, List.getElem?_cons_succ, List.getElem?_cons_zero]; done) | (simp only [List.getElem?_toArray, List.getElem?_cons_succ, List.getElem?_cons_zero]; exact rfl)) (by kernel_rfl) (by kernel_rfl) (by kernel_rfl) (fun _ _ _ h => h) (Or.inl ⟨by rfl, ?_⟩) (by assumption) ?_
  rotate_left
  · intro w hSw; (try dsimp only at hSw); go_simp; rw [if_pos (by omega)]
  try simp only [Act.put, List.setIfInBounds_toArray, List.set_cons_zero, List.set_cons_succ]
  have hP : (ByteArray.extract ⟨T.toArray⟩ 0 k).size ≤ 100 := by rw [ByteArray.size_extract, bs_size]; omega
  have hQ : (ByteArray.extract ⟨T.toArray⟩ (k + 1) T.length).size ≤ 100 := by rw [ByteArray.size_extract, bs_size]; omega
  generalize ByteArray.extract ⟨T.toArray⟩ 0 k = P at hP ⊢
  generalize ByteArray.extract ⟨T.toArray⟩ (k + 1) T.length = Q at hQ ⊢
  have hR6 : Rd w5.drew w.heap.size w.heap.size _ := hR5
  replace hb3 : Below w.heap.size w w5.drew := hb3.drew
  generalize w5.drew = W5 at hR6 hb3 ⊢
  clear hR5
  refine wpAnyH_ready (rs := [3, 5]) (by kernel_rfl) (by simp) ?_
  refine AllReadyH.cons (o := _) (by first | (simp only [List.getElem?_toArray, List.getElem?_cons_succ, List.getElem?_cons_zero]; done) | (simp only [List.getElem?_toArray, List.getElem?_cons_succ, List.getElem?_cons_zero]; exact rfl)) (fun K hK => ?_) ?_
  · go_wp2_with fail
    have hBs0 := Blk.made W5 9 #[.string ⟨#[]⟩, .string ⟨#[48]⟩, .string ⟨#[45]⟩, .string ⟨#[47]⟩, .string ⟨#[55]⟩]
    have hl5 := hR6.lt
    have hR7 := hR6.alloc (.cells #[.string ⟨#[]⟩, .string ⟨#[48]⟩, .string ⟨#[45]⟩, .string ⟨#[47]⟩, .string ⟨#[55]⟩] 9)
    replace hb3 := hb3.alloc hb3.size (.cells #[.string ⟨#[]⟩, .string ⟨#[48]⟩, .string ⟨#[45]⟩, .string ⟨#[47]⟩, .string ⟨#[55]⟩] 9)
    clear hR6
    generalize hV : W5.alloc _ = V at hBs0 hR7 hb3 ⊢
    clear hV
    have hR6 := hR7
    clear hR7
    refine hK.out _ _ trivial (fun hHeld2 => ?_)
    clear hHeld
    have hHeld := hHeld2
    clear hHeld2 hK K
    try simp only [Act.put, List.setIfInBounds_toArray, List.set_cons_zero, List.set_cons_succ]
    refine wpAnyH_ready (rs := [5]) (by kernel_rfl) (by simp) ?_
    refine AllReadyH.cons (o := _) (by first | (simp only [List.getElem?_toArray, List.getElem?_cons_succ, List.getElem?_cons_zero]; done) | (simp only [List.getElem?_toArray, List.getElem?_cons_succ, List.getElem?_cons_zero]; exact rfl)) (fun K hK => ?_) AllReadyH.nil
    go_simp
    refine (pick_any _ _ _ 5 _ hR6 (by omega) (by omega) (by omega)).mono ?_
    rintro _ w6 ⟨u, hu, rfl, hR7, hO1⟩
    have hb4 := below_only hb3 hO1 (by omega) (Nat.le_refl _)
    refine hK.out _ _ trivial (fun hHeld2 => ?_)
    clear hHeld
    have hHeld := hHeld2
    clear hHeld2 hK K
    try simp only [Act.put, List.setIfInBounds_toArray, List.set_cons_zero, List.set_cons_succ]
    have hBs := hBs0.only hO1 (by omega)
    have hb5 := hb4
    have hW7 : w6 = w6 := rfl
    generalize W5.heap.size = bk at hBs ⊢
    have hu5 : u = 0 ∨ u = 1 ∨ u = 2 ∨ u = 3 ∨ u = 4 := by omega
    have cs := hBs.cell
    obtain ⟨Z, hZ, hZs⟩ : ∃ Z : ByteArray, w6.cell? ⟨bk, u, none⟩ = some (.string Z) ∧ Z.size ≤ 1 := by
      rcases hu5 with rfl | rfl | rfl | rfl | rfl <;> exact ⟨_, by rw [cs]; rfl, by decide⟩
    clear cs hu5
    refine wpAnyH_take (i := 6) (oi := _) (v := ?_) (by first | (simp only [List.getElem?_toArray, List.getElem?_cons_succ, List.getElem?_cons_zero]; done) | (simp only [List.getElem?_toArray, List.getElem?_cons_succ, List.getElem?_cons_zero]; exact rfl)) (by kernel_rfl) (by kernel_rfl) (by kernel_rfl) (fun _ _ _ h => h) (Or.inl ⟨by rfl, ?_⟩) (by assumption) ?_
    rotate_left
    · intro w hSw; (try dsimp only at hSw); go_simp; rw [if_pos (by omega)]
    try simp only [Act.put, List.setIfInBounds_toArray, List.set_cons_zero, List.set_cons_succ]
    refine wpAnyH_ready (rs := [7]) (by kernel_rfl) (by simp) ?_
    refine AllReadyH.cons (o := _) (by first | (simp only [List.getElem?_toArray, List.getElem?_cons_succ, List.getElem?_cons_zero]; done) | (simp only [List.getElem?_toArray, List.getElem?_cons_succ, List.getElem?_cons_zero]; exact rfl)) (fun K hK => ?_) AllReadyH.nil
    go_simp
    refine hK.out _ _ trivial (fun hHeld2 => ?_)
    clear hHeld
    have hHeld := hHeld2
    clear hHeld2 hK K
    try simp only [Act.put, List.setIfInBounds_toArray, List.set_cons_zero, List.set_cons_succ]
    refine wpAnyH_take (i := 8) (oi := _) (v := ?_) (by first | (simp only [List.getElem?_toArray, List.getElem?_cons_succ, List.getElem?_cons_zero]; done) | (simp only [List.getElem?_toArray, List.getElem?_cons_succ, List.getElem?_cons_zero]; exact rfl)) (by kernel_rfl) (by kernel_rfl) (by kernel_rfl) (fun _ _ _ h => h) (Or.inl ⟨by rfl, ?_⟩) (by assumption) ?_
    rotate_left
    · intro w hSw; (try dsimp only at hSw); go_simp; rw [if_neg (by omega)]
    try simp only [Act.put, List.setIfInBounds_toArray, List.set_cons_zero, List.set_cons_succ]
    refine wpAnyH_take (i := 13) (oi := _) (v := ?_) (by first | (simp only [List.getElem?_toArray, List.getElem?_cons_succ, List.getElem?_cons_zero]; done) | (simp only [List.getElem?_toArray, List.getElem?_cons_succ, List.getElem?_cons_zero]; exact rfl)) (by kernel_rfl) (by kernel_rfl) (by kernel_rfl) (fun _ _ _ h => h) (Or.inl ⟨by rfl, ?_⟩) (by assumption) ?_
    rotate_left
    · intro w hSw; (try dsimp only at hSw); go_simp; rw [if_neg (by omega)]
    try simp only [Act.put, List.setIfInBounds_toArray, List.set_cons_zero, List.set_cons_succ]
    refine wpAnyH_take (i := 14) (oi := _) (v := ?_) (by first | (simp only [List.getElem?_toArray, List.getElem?_cons_succ, List.getElem?_cons_zero]; done) | (simp only [List.getElem?_toArray, List.getElem?_cons_succ, List.getElem?_cons_zero]; exact rfl)) (by kernel_rfl) (by kernel_rfl) (by kernel_rfl) (fun _ _ _ h => h) (Or.inl ⟨by rfl, ?_⟩) (by assumption) ?_
    rotate_left
    · intro w hSw; (try dsimp only at hSw); go_simp; all_goals with_reducible rfl
    try simp only [Act.put, List.setIfInBounds_toArray, List.set_cons_zero, List.set_cons_succ]
    refine wpAnyH_done (by kernel_rfl) ?_ _
    refine NoPanic.normal ?_
    go_wp2_with fail
    go_ret
    exact ⟨P ++ Z ++ Q, by rw [ByteArray.size_append, ByteArray.size_append]; omega, rfl, hb5⟩
  refine AllReadyH.cons (o := _) (by first | (simp only [List.getElem?_toArray, List.getElem?_cons_succ, List.getElem?_cons_zero]; done) | (simp only [List.getElem?_toArray, List.getElem?_cons_succ, List.getElem?_cons_zero]; exact rfl)) (fun K hK => ?_) AllReadyH.nil
  go_simp
  refine (pick_any _ _ _ 5 _ hR6 (by omega) (by omega) (by omega)).mono ?_
  rintro _ w6 ⟨u, hu, rfl, hR7, hO1⟩
  have hb4 := below_only hb3 hO1 (by omega) (Nat.le_refl _)
  refine hK.out _ _ trivial (fun hHeld2 => ?_)
  clear hHeld
  have hHeld := hHeld2
  clear hHeld2 hK K
  try simp only [Act.put, List.setIfInBounds_toArray, List.set_cons_zero, List.set_cons_succ]
  refine wpAnyH_ready (rs := [3]) (by kernel_rfl) (by simp) ?_
  refine AllReadyH.cons (o := _) (by first | (simp only [List.getElem?_toArray, List.getElem?_cons_succ, List.getElem?_cons_zero]; done) | (simp only [List.getElem?_toArray, List.getElem?_cons_succ, List.getElem?_cons_zero]; exact rfl)) (fun K hK => ?_) AllReadyH.nil
  go_wp2_with fail
  have hBs := Blk.made w6 9 #[.string ⟨#[]⟩, .string ⟨#[48]⟩, .string ⟨#[45]⟩, .string ⟨#[47]⟩, .string ⟨#[55]⟩]
  have hb5 := hb4.alloc hb4.size (.cells #[.string ⟨#[]⟩, .string ⟨#[48]⟩, .string ⟨#[45]⟩, .string ⟨#[47]⟩, .string ⟨#[55]⟩] 9)
  generalize w6.alloc _ = V at hBs hb5 ⊢
  refine hK.out _ _ trivial (fun hHeld2 => ?_)
  clear hHeld
  have hHeld := hHeld2
  clear hHeld2 hK K
  try simp only [Act.put, List.setIfInBounds_toArray, List.set_cons_zero, List.set_cons_succ]
  generalize w6.heap.size = bk at hBs ⊢
  have hu5 : u = 0 ∨ u = 1 ∨ u = 2 ∨ u = 3 ∨ u = 4 := by omega
  have cs := hBs.cell
  obtain ⟨Z, hZ, hZs⟩ : ∃ Z : ByteArray, V.cell? ⟨bk, u, none⟩ = some (.string Z) ∧ Z.size ≤ 1 := by
    rcases hu5 with rfl | rfl | rfl | rfl | rfl <;> exact ⟨_, by rw [cs]; rfl, by decide⟩
  clear cs hu5
  refine wpAnyH_take (i := 6) (oi := _) (v := ?_) (by first | (simp only [List.getElem?_toArray, List.getElem?_cons_succ, List.getElem?_cons_zero]; done) | (simp only [List.getElem?_toArray, List.getElem?_cons_succ, List.getElem?_cons_zero]; exact rfl)) (by kernel_rfl) (by kernel_rfl) (by kernel_rfl) (fun _ _ _ h => h) (Or.inl ⟨by rfl, ?_⟩) (by assumption) ?_
  rotate_left
  · intro w hSw; (try dsimp only at hSw); go_simp; rw [if_pos (by omega)]
  try simp only [Act.put, List.setIfInBounds_toArray, List.set_cons_zero, List.set_cons_succ]
  refine wpAnyH_ready (rs := [7]) (by kernel_rfl) (by simp) ?_
  refine AllReadyH.cons (o := _) (by first | (simp only [List.getElem?_toArray, List.getElem?_cons_succ, List.getElem?_cons_zero]; done) | (simp only [List.getElem?_toArray, List.getElem?_cons_succ, List.getElem?_cons_zero]; exact rfl)) (fun K hK => ?_) AllReadyH.nil
  go_simp
  refine hK.out _ _ trivial (fun hHeld2 => ?_)
  clear hHeld
  have hHeld := hHeld2
  clear hHeld2 hK K
  try simp only [Act.put, List.setIfInBounds_toArray, List.set_cons_zero, List.set_cons_succ]
  refine wpAnyH_take (i := 8) (oi := _) (v := ?_) (by first | (simp only [List.getElem?_toArray, List.getElem?_cons_succ, List.getElem?_cons_zero]; done) | (simp only [List.getElem?_toArray, List.getElem?_cons_succ, List.getElem?_cons_zero]; exact rfl)) (by kernel_rfl) (by kernel_rfl) (by kernel_rfl) (fun _ _ _ h => h) (Or.inl ⟨by rfl, ?_⟩) (by assumption) ?_
  rotate_left
  · intro w hSw; (try dsimp only at hSw); go_simp; rw [if_neg (by omega)]
  try simp only [Act.put, List.setIfInBounds_toArray, List.set_cons_zero, List.set_cons_succ]
  refine wpAnyH_take (i := 13) (oi := _) (v := ?_) (by first | (simp only [List.getElem?_toArray, List.getElem?_cons_succ, List.getElem?_cons_zero]; done) | (simp only [List.getElem?_toArray, List.getElem?_cons_succ, List.getElem?_cons_zero]; exact rfl)) (by kernel_rfl) (by kernel_rfl) (by kernel_rfl) (fun _ _ _ h => h) (Or.inl ⟨by rfl, ?_⟩) (by assumption) ?_
  rotate_left
  · intro w hSw; (try dsimp only at hSw); go_simp; rw [if_neg (by omega)]
  try simp only [Act.put, List.setIfInBounds_toArray, List.set_cons_zero, List.set_cons_succ]
  refine wpAnyH_take (i := 14) (oi := _) (v := ?_) (by first | (simp only [List.getElem?_toArray, List.getElem?_cons_succ, List.getElem?_cons_zero]; done) | (simp only [List.getElem?_toArray, List.getElem?_cons_succ, List.getElem?_cons_zero]; exact rfl)) (by kernel_rfl) (by kernel_rfl) (by kernel_rfl) (fun _ _ _ h => h) (Or.inl ⟨by rfl, ?_⟩) (by assumption) ?_
  rotate_left
  · intro w hSw; (try dsimp only at hSw); go_simp; all_goals with_reducible rfl
  try simp only [Act.put, List.setIfInBounds_toArray, List.set_cons_zero, List.set_cons_succ]
  refine wpAnyH_done (by kernel_rfl) ?_ _
  refine NoPanic.normal ?_
  go_wp2_with fail
  go_ret
  exact ⟨P ++ Z ++ Q, by rw [ByteArray.size_append, ByteArray.size_append]; omega, rfl, hb5⟩
theorem slash_no {g : Grade} (h : gradeOk g = true) : rdG (textG g ++ [47]) = (zeroG, false) := by
  refine rdG_not3 ?_
  have h0 := h
  simp only [gradeOk, rangeOk, Bool.and_eq_true, inB_iff] at h
  unfold textG
  rw [if_pos h0]
  rw [List.append_assoc, List.cons_append, List.append_assoc, List.cons_append, pieces_app 47 _ _ (range_no _ _ (by omega) (by omega) (by omega) (by omega)), pieces_app 47 _ _ (range_no _ _ (by omega) (by omega) (by omega) (by omega)), pieces_app 47 _ _ (range_no _ _ (by omega) (by omega) (by omega) (by omega))]
  simp [pieces]
theorem ba_text (s : ByteArray) : ∃ l : List UInt8, s = ⟨l.toArray⟩ ∧ l.length = s.size := by
  obtain ⟨⟨l⟩⟩ := s
  exact ⟨l, rfl, rfl⟩
theorem ba_app1 (l : List UInt8) : (⟨l.toArray⟩ : ByteArray) ++ ⟨#[47]⟩ = ⟨(l ++ [47]).toArray⟩ := by
  rw [bs_app]
set_option maxRecDepth 20000 in
set_option maxHeartbeats 4000000 in
theorem fnReadGrade_walk (A : Option Addr) (n c : Nat) (l : List Int) (w : World) (hs : Sees w w.heap.size A (bys l)) (hl : l.length = n) (hby : ∀ z ∈ l, byteB z) (hc : n ≤ c) (hm : c ≤ maxLen) (hpow : Pow w) (hmx : ∃ m, w.cell? ⟨0, 0, none⟩ = some (.int .i64 m)) :
    Calls Tryd.prog 7 #[.slice A n c] w fun e w' => e = .returned (.bool true) ∧ Below w.heap.size w w' := by
  have hm' := hm
  unfold maxLen at hm'
  have hm0 : 0 < w.heap.size := by obtain ⟨m, hm⟩ := hmx; exact cell_lt hm
  by_cases hn : n ≤ 1048576
  case neg =>
    go_enter Tryd.func7, Tryd.ntmps7
    go_wp2_with fail
    go_ret
    exact ⟨rfl, Below.refl _ _⟩
  go_enter Tryd.func7, Tryd.ntmps7
  go_wp2_with fail
  refine (drawReadGrade_any A n c l _ hs hl hby hc hm).mono ?_
  rintro _ w1 ⟨s, hsz, rfl, hb⟩
  clear hs hm hm' hc hl hby hn
  obtain ⟨t, rfl, ht⟩ := ba_text s
  rw [← ht] at hsz
  clear ht
  go_wp2_with fail
  refine (readGrade_any t (by omega) w1 (by obtain ⟨m, hm⟩ := hmx; exact ⟨m, ((below_cells hb).1 0 0 hm0).trans hm⟩)).mono ?_
  rintro _ w2 ⟨rfl, hb1⟩
  replace hb := below_next hb hb1
  clear hb1
  obtain ⟨R, hR⟩ : ∃ R, R = rdG t := ⟨_, rfl⟩
  have hcase : R = (zeroG, false) ∨ ∃ g, gradeOk g = true ∧ t = textG g ∧ R = (g, true) := by
    rcases rdG_is t with h | ⟨g, h1, h2⟩
    · exact .inl (hR.trans h)
    · refine .inr ⟨g, h1, h2, ?_⟩
      rw [hR, h2, rdG_text h1]
  have HR := Lib.hid (readers_same t)
  rw [← hR]
  have HG := Lib.hid hR
  clear hR
  have HC := Lib.hid hcase
  clear hcase
  obtain ⟨⟨a, b, c', d, e, f⟩, ok⟩ := R
  simp only [gv]
  have hB := Blk.made w2 25 #[.int .i64 a, .int .i64 b, .int .i64 c', .int .i64 d, .int .i64 e, .int .i64 f]
  replace hb := hb.alloc hb.size (.cells #[.int .i64 a, .int .i64 b, .int .i64 c', .int .i64 d, .int .i64 e, .int .i64 f] 25)
  go_wp2_with fail
  generalize w2.alloc _ = W at hB hb ⊢
  refine (sReadGrade_any t (by omega) W).mono ?_
  rintro _ w3 ⟨rfl, hb1⟩
  rw [HR.out, ← HG.out]
  simp only [gv]
  replace hB := hB.below hb1 hB.lt
  replace hb := below_next hb hb1
  clear hb1
  have hC := Blk.made w3 25 #[.int .i64 a, .int .i64 b, .int .i64 c', .int .i64 d, .int .i64 e, .int .i64 f]
  replace hB := hB.alloc (.cells #[.int .i64 a, .int .i64 b, .int .i64 c', .int .i64 d, .int .i64 e, .int .i64 f] 25)
  replace hb := hb.alloc hb.size (.cells #[.int .i64 a, .int .i64 b, .int .i64 c', .int .i64 d, .int .i64 e, .int .i64 f] 25)
  have cB := hB.cell
  have cC := hC.cell
  rcases HC.out with h | ⟨g, h1, h2, h3⟩
  · injection h with h4 h5
    subst h5
    injection h4 with i1 i2 i3 i4 i5 i6
    subst i1 i2 i3 i4 i5 i6
    clear HC HG HR
    go_wp2_with fail
    refine (alive_any _).mono ?_
    rintro _ w4 ⟨rfl, hb1⟩
    go_wp2_with fail
    go_ret
    exact ⟨rfl, below_next hb hb1⟩
  · injection h3 with h4 h5
    subst h5
    subst h4
    have hsl := slash_no h1
    rw [← h2] at hsl
    have HS := Lib.hid hsl
    have H1 := Lib.hid h1
    have H2 := Lib.hid h2
    clear HC HG HR hsl h1 h2
    have hcat := ba_app1 t
    have hz : (⟨t.toArray⟩ : ByteArray).size ≤ 1000 := by rw [bs_size]; exact hsz
    go_wp2_with fail
    generalize w3.alloc _ = U at hB hC hb cB cC ⊢
    refine (readGrade_any (t ++ [47]) (by simp; omega) U (by obtain ⟨m, hm⟩ := hmx; exact ⟨m, ((below_cells hb).1 0 0 hm0).trans hm⟩)).mono ?_
    rintro _ w4 ⟨rfl, hb1⟩
    rw [HS.out]
    replace hB := hB.below hb1 hB.lt
    replace hb := below_next hb hb1
    clear hb1 hC cB cC hcat hz
    simp only [gv, zeroG]
    replace hB := hB.alloc (.cells #[.int .i64 0, .int .i64 0, .int .i64 0, .int .i64 0, .int .i64 0, .int .i64 0] 25)
    replace hb := hb.alloc hb.size (.cells #[.int .i64 0, .int .i64 0, .int .i64 0, .int .i64 0, .int .i64 0, .int .i64 0] 25)
    have cB := hB.cell
    go_wp2_with fail
    generalize w4.alloc _ = V at hB hb cB ⊢
    refine (gradeValid_any _ _ _ _ _ _ _).mono ?_
    rintro _ w5 ⟨rfl, hb1⟩
    rw [H1.out]
    replace hB := hB.below hb1 hB.lt
    replace hb := below_next hb hb1
    clear hb1 cB
    have cB := hB.cell
    go_wp2_with fail
    refine (gradeText_any _ _ _ _ _ _ _ (hpow.below hb)).mono ?_
    rintro _ w6 ⟨rfl, hb1⟩
    replace hb := below_next hb hb1
    clear hb1
    rw [← H2.out]
    go_wp2_with fail
    go_ret
    exact ⟨rfl, hb⟩
end Go.Proofs.YtlhjncefckidjaaDoor
