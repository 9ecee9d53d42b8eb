/-
  The search for the cheapest mixture in the program: slices.Clone, look, from.
-/
import Derived.Test.YtlhjncefckidjaaDoorPs
import Derived.Test.YtlhjncefckidjaaDoorTake
import Derived.Test.YtlhjncefckidjaaDoorApp1
import Derived.Test.YtlhjncefckidjaaDoorMeet
namespace Go.Proofs.YtlhjncefckidjaaDoor
open Go.RowKit
set_option linter.unusedVariables false
theorem clone_any (A : Option Addr) (c : Nat) (x : List Int) (w : World) (hs : Sees w w.heap.size A (ints x)) (h0 : 0 < x.length) (hn : x.length ≤ 1048576) :
    Calls Tryd.prog 72 #[.slice A x.length c] w fun e w' => ∃ A' c', e = .returned (.slice A' x.length c') ∧ Own w' w.heap.size w'.heap.size 3 1 A' x.length c' (ints x) ∧ Below w.heap.size w w' := by
  obtain ⟨j0, ji, jz0, jz1, jz2⟩ := info_parts infoInt
  obtain ⟨b, off, rfl⟩ : ∃ b off, A = some ⟨b, off, none⟩ := by obtain ⟨b, off, v, e, _⟩ := hs.int_at h0; exact ⟨b, off, e⟩
  have hnil : ∀ (a : Addr) (n c : Nat) (w : World), (Go.binOp .eql 28 (.slice (some a) n c) (.slice none 0 0)).run Tryd.prog w = .ok (.bool false) w := fun a n c w => by kernel_rfl
  go_enter Tryd.func72, Tryd.ntmps72
  have hO := own_made w 3 1
  have hS := hs.below ((Below.refl w.heap.size w).alloc (Nat.le_refl _) (.cells #[] 3))
  go_wp2_with (at_builtin; go_loud (refine wpList_app _ rfl (.tmp 5) (.tmp 6) _ rfl 3 j0 _ 1 8 Tryd.underlying28 ji jz0 jz1 jz2 rfl (by omega) rfl hO rfl hS (by rw [ints_length, Nat.mul_one]) (one_ints _) (by omega) (by omega) (by simp) ?_; intro A2 c2 w2 hO2 hon))
  go_ret
  rw [Nat.zero_add, List.nil_append] at hO2
  exact ⟨A2, c2, rfl, hO2, ((Below.refl w.heap.size w).alloc (Nat.le_refl _) _).trans (hon.below (Nat.le_refl _) (by simp))⟩
/-- The search's own block and the row it fills, side by side, and what it has kept so far. -/
def Srch (w : World) (lo gm gx : Nat) (A : Option Addr) (n c cx : Nat) (g : Grade) (x : List Int) (b : List Int × Int × Bool) : Prop :=
  ((gm = lo ∧ gx = lo + 1) ∨ (gm = lo + 1 ∧ gx = lo)) ∧ Blk w gx 3 (ints x).toArray ∧
  ∃ bA bc, Own w (lo + 2) w.heap.size 3 1 bA b.1.length bc (ints b.1) ∧
    Blk w gm 67 #[.slice A n c, .int .i64 g.lc, .int .i64 g.hc, .int .i64 g.lm, .int .i64 g.hm, .int .i64 g.ls, .int .i64 g.hs, .slice (some ⟨gx, 0, none⟩) x.length cx, .slice bA b.1.length bc, .int .i64 b.2.1, .bool b.2.2]
theorem sees_blk {w : World} {g : Nat} {t : TypeId} {x : List Value} (h : Blk w g t x.toArray) : Sees w w.heap.size (some ⟨g, 0, none⟩) x :=
  .inr ⟨g, 0, rfl, h.lt, fun j u hu => by rw [Nat.zero_add, h.cell]; simpa using hu⟩
theorem look_any (lo gm gx : Nat) (A : Option Addr) (c cx : Nat) (l : List Stuff) (g : Grade) (x : List Int) (b : List Int × Int × Bool) (w : World) (hn : l.length ≤ 1048576) (hx : x.length ≤ 1048576)
    (hs : Sees w lo A (ints (flatS l))) (hS : Srch w lo gm gx A l.length c cx g x b) :
    Calls Tryd.prog 65 #[.pointer (some ⟨gm, 0, none⟩)] w fun e w' => e = .returned (.tuple #[]) ∧ Srch w' lo gm gx A l.length c cx g x (keepP l g b x) ∧ Only lo (lo + 2) w w' := by
  obtain ⟨g1, g2, g3, g4, g5, g6⟩ := g
  obtain ⟨best, cost, found⟩ := b
  obtain ⟨hg, hX, bA, bc, hO, hM⟩ := hS
  simp only at hO hM
  have hgm := hM.lt
  have cM := hM.cell
  have hsW : Sees w w.heap.size A (ints (flatS l)) := hs.more (by have := hX.lt; omega)
  have hxW := sees_blk hX
  go_enter Tryd.func65, Tryd.ntmps65
  go_wp2_with fail
  go_region_held3 (fun w' => Below w.heap.size w w' ∧ ∀ b o, b < w.heap.size → w'.cell? ⟨b, o, none⟩ = w.cell? ⟨b, o, none⟩)
          (first | assumption | exact held_of ((Below.refl _ _).drew) | exact held_call (by assumption) (by assumption))
          (first
            | (go_at_call 21; refine (mixMeets_any _ _ _ _ l x _ (hsW.next (And.left (by assumption))) hn (hxW.next (And.left (by assumption))) hx _ _ _ _ _ _).mono ?_; rintro _ w2 ⟨rfl, hb2⟩))
  have hb3 : Below w.heap.size w w2 := And.left (by assumption)
  clear hb2
  clear cM
  have hX2 := hX.below hb3 hX.lt
  have hM2 := hM.below hb3 hM.lt
  have hO2 := own_hi (hO.below hb3) hb3.size
  have hs2 := hsW.next hb3
  have hx2 := hxW.next hb3
  have on2 : Only lo (lo + 2) w w2 := Only.of_below hb3 _ _
  clear hX hM hO hsW hxW hb3 hgm
  cases hmm : mixMeets l x ⟨g1, g2, g3, g4, g5, g6⟩ with
  | false =>
    go_wp2_with fail
    refine bodyPost_ret (results_none rfl _ _ _) rfl ?_
    refine ⟨rfl, ⟨hg, hX2, bA, bc, ?_⟩, on2⟩
    have e : keepP l ⟨g1, g2, g3, g4, g5, g6⟩ (best, cost, found) x = (best, cost, found) := by simp [keepP, hmm]
    rw [e]
    exact ⟨hO2, hM2⟩
  | true =>
    have hgm := hM2.lt
    have cM := hM2.cell
    go_wp2_with fail
    go_region_held3 (fun w' => Below w2.heap.size w2 w' ∧ ∀ b o, b < w2.heap.size → w'.cell? ⟨b, o, none⟩ = w2.cell? ⟨b, o, none⟩)
          (first | assumption | exact held_of ((Below.refl _ _).drew) | exact held_call (by assumption) (by assumption))
          (first
            | (go_at_call 18; refine (mixCost_any _ _ _ _ l x _ (hs2.next (And.left (by assumption))) hn (hx2.next (And.left (by assumption))) hx).mono ?_; rintro _ w3 ⟨rfl, hb2⟩))
    have hb3 : Below w2.heap.size w2 w3 := And.left (by assumption)
    clear hb2
    clear cM
    have hX3 := hX2.below hb3 hX2.lt
    have hM3 := hM2.below hb3 hM2.lt
    have hO3 := own_hi (hO2.below hb3) hb3.size
    have hs3 := hs2.next hb3
    have hx3 := hx2.next hb3
    have on3 : Only lo (lo + 2) w w3 := on2.trans (Only.of_below hb3 _ _)
    clear hX2 hM2 hO2 hs2 hx2 hb3 hgm on2
    have hgm := hM3.lt
    have cM := hM3.cell
    have fM := hM3.frozen
    have h0 : 0 < x.length := by
      rcases x with _ | ⟨y, x⟩
      · have := (meets_iff.1 hmm).2.2.1
        simp [tonsOf] at this
      · simp
    cases found with
    | false =>
      go_wp2_with fail
      refine (clone_any _ _ x _ hx3 h0 hx).mono ?_
      rintro _ w4 ⟨A4, c4, rfl, hO4, hb4⟩
      have hX4 := hX3.below hb4 hX3.lt
      have hM4 := hM3.below hb4 hM3.lt
      have on4 : Only lo (lo + 2) w w4 := on3.trans (Only.of_below hb4 _ _)
      have hz3 : lo + 2 ≤ w3.heap.size := by have := hX3.lt; omega
      have hz4 := hb4.size
      clear cM fM
      have cM := hM4.cell
      have fM := hM4.frozen
      go_wp2_with fail
      refine bodyPost_end (results_none rfl _ _ _) rfl ?_
      have e : keepP l ⟨g1, g2, g3, g4, g5, g6⟩ (best, cost, false) x = (x, mixCost l x, true) := by simp [keepP, hmm]
      rw [e]
      have o1 : Only lo (lo + 2) w4 (((w4.setCell ⟨gm, 8, none⟩ (.slice A4 x.length c4)).setCell ⟨gm, 9, none⟩ (.int .i64 (mixCost l x))).setCell ⟨gm, 10, none⟩ (.bool true)) := (((Only.refl _ _ w4).setCell (by simp only; omega) (by simp only; omega) _).setCell (by simp only; omega) (by simp only; omega) _).setCell (by simp only; omega) (by simp only; omega) _
      exact ⟨rfl, ⟨hg, ((hX4.other (by simp only; omega) _).other (by simp only; omega) _).other (by simp only; omega) _, A4, c4, own_hi ((own_lo hO4 hz3).only o1 (.inr (Nat.le_refl _))) (by have := o1.size; omega), ((hM4.put 8 _).put 9 _).put 10 _⟩, on4.trans o1⟩
    | true =>
      by_cases hk : mixCost l x < cost
      · go_wp2_with fail
        refine (clone_any _ _ x _ hx3 h0 hx).mono ?_
        rintro _ w4 ⟨A4, c4, rfl, hO4, hb4⟩
        have hX4 := hX3.below hb4 hX3.lt
        have hM4 := hM3.below hb4 hM3.lt
        have on4 : Only lo (lo + 2) w w4 := on3.trans (Only.of_below hb4 _ _)
        have hz3 : lo + 2 ≤ w3.heap.size := by have := hX3.lt; omega
        have hz4 := hb4.size
        clear cM fM
        have cM := hM4.cell
        have fM := hM4.frozen
        go_wp2_with fail
        refine bodyPost_end (results_none rfl _ _ _) rfl ?_
        have e : keepP l ⟨g1, g2, g3, g4, g5, g6⟩ (best, cost, true) x = (x, mixCost l x, true) := by simp [keepP, hmm, hk]
        rw [e]
        have o1 : Only lo (lo + 2) w4 (((w4.setCell ⟨gm, 8, none⟩ (.slice A4 x.length c4)).setCell ⟨gm, 9, none⟩ (.int .i64 (mixCost l x))).setCell ⟨gm, 10, none⟩ (.bool true)) := (((Only.refl _ _ w4).setCell (by simp only; omega) (by simp only; omega) _).setCell (by simp only; omega) (by simp only; omega) _).setCell (by simp only; omega) (by simp only; omega) _
        exact ⟨rfl, ⟨hg, ((hX4.other (by simp only; omega) _).other (by simp only; omega) _).other (by simp only; omega) _, A4, c4, own_hi ((own_lo hO4 hz3).only o1 (.inr (Nat.le_refl _))) (by have := o1.size; omega), ((hM4.put 8 _).put 9 _).put 10 _⟩, on4.trans o1⟩
      · go_wp2_with fail
        refine bodyPost_end (results_none rfl _ _ _) rfl ?_
        have e : keepP l ⟨g1, g2, g3, g4, g5, g6⟩ (best, cost, true) x = (best, cost, true) := by simp only [keepP, hmm, Bool.not_true, Bool.false_or, Bool.true_and, decide_eq_true_eq, if_neg (Int.not_lt.2 hk)]
        rw [e]
        exact ⟨rfl, ⟨hg, hX3, bA, bc, hO3, hM3⟩, on3⟩
end Go.Proofs.YtlhjncefckidjaaDoor
