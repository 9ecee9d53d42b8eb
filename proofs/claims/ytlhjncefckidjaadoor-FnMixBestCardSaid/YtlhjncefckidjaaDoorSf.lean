/-
  The search for the cheapest mixture in the program: from.
-/
import Derived.Test.YtlhjncefckidjaaDoorSr
namespace Go.Proofs.YtlhjncefckidjaaDoor
open Go.RowKit
set_option linter.unusedVariables false
attribute [local go_sem high] run_maxI run_minI
theorem Srch.put {w : World} {lo gm gx : Nat} {A : Option Addr} {n c cx : Nat} {g : Grade} {x : List Int} {b : List Int × Int × Bool} (h : Srch w lo gm gx A n c cx g x b) (i : Nat) (v : Int) :
    Srch (w.setCell ⟨gx, i, none⟩ (.int .i64 v)) lo gm gx A n c cx g (x.set i v) b ∧ Only lo (lo + 2) w (w.setCell ⟨gx, i, none⟩ (.int .i64 v)) := by
  obtain ⟨hg, hX, bA, bc, hO, hM⟩ := h
  have o1 : Only lo (lo + 2) w (w.setCell ⟨gx, i, none⟩ (.int .i64 v)) := (Only.refl _ _ w).setCell (by simp only; omega) (by simp only; omega) _
  have e : (ints x).toArray.setIfInBounds i (.int .i64 v) = (ints (x.set i v)).toArray := by simp [ints, List.map_set]
  refine ⟨⟨hg, ?_, bA, bc, own_hi (hO.only o1 (.inr (Nat.le_refl _))) o1.size, ?_⟩, o1⟩
  · rw [← e]
    exact hX.put i _
  · rw [List.length_set]
    exact hM.other (by simp only; omega) _
theorem from_any (lo gm gx : Nat) (A : Option Addr) (c cx : Nat) (l : List Stuff) (g : Grade) (hn : stuffsOk l = true) (r : List Stuff) :
    ∀ (pre : List Int) (t : Int) (b : List Int × Int × Bool) (w : World), l.drop pre.length = r → pre.length + r.length = l.length → 0 ≤ t → t ≤ 12 → Sees w lo A (ints (flatS l)) →
    Srch w lo gm gx A l.length c cx g (pre ++ List.replicate r.length 0) b →
    Calls Tryd.prog 44 #[.pointer (some ⟨gm, 0, none⟩), .int .i64 (pre.length : Int), .int .i64 t] w fun e w' => e = .returned (.tuple #[]) ∧ Srch w' lo gm gx A l.length c cx g (pre ++ List.replicate r.length 0) (bestP l g b (allM r pre t)) ∧ Only lo (lo + 2) w w' := by
  have hl4 := stuffs_len hn
  induction r with
  | nil =>
    intro pre t b w hd hp ht0 ht hs hS
    simp only [List.length_nil, List.replicate_zero, List.append_nil, Nat.add_zero] at hp hS ⊢
    obtain ⟨g1, g2, g3, g4, g5, g6⟩ := g
    have hgm : gm < w.heap.size := by obtain ⟨_, _, _, _, _, hM⟩ := hS; exact hM.lt
    have c0 : w.cell? ⟨gm, 0, none⟩ = some (.slice A l.length c) := by obtain ⟨_, _, _, _, _, hM⟩ := hS; rw [hM.cell]; rfl
    have hpi : (pre.length : Int) = (l.length : Int) := by omega
    rw [hpi]
    clear hpi hd
    go_enter Tryd.func44, Tryd.ntmps44
    by_cases h0 : t = 0
    · subst h0
      have hlk := look_any lo gm gx A c cx l ⟨g1, g2, g3, g4, g5, g6⟩ pre b w (by omega) (by omega) hs hS
      clear hp
      go_wp2_with (go_at_call 65; refine hlk.mono ?_; rintro _ w2 ⟨rfl, hS2, on2⟩)
      refine bodyPost_ret (results_none rfl _ _ _) rfl ?_
      exact ⟨rfl, by simpa [allM_nil, bestP] using hS2, on2⟩
    · clear hp
      go_wp2_with fail
      refine bodyPost_ret (results_none rfl _ _ _) rfl ?_
      exact ⟨rfl, by simpa [allM_nil, bestP, h0] using hS, Only.refl _ _ _⟩
  | cons s r ih =>
    intro pre t b w hd hp ht0 ht hs hS
    obtain ⟨a1, a2, a3, a4, a5⟩ := s
    have hlt : pre.length < l.length := by simp only [List.length_cons] at hp; omega
    have hat : l[pre.length]? = some ⟨a1, a2, a3, a4, a5⟩ := by
      have e := List.getElem?_drop (xs := l) (i := pre.length) (j := 0)
      rw [hd] at e
      simpa using e.symm
    have hd1 : l.drop (pre.length + 1) = r := by rw [← List.drop_drop, hd]; rfl
    have hbd := stuff_bounds hn (List.mem_of_getElem? hat)
    simp only at hbd
    obtain ⟨_, _, _, _, _, _, _, _, hk0, hk9⟩ := hbd
    have hm := minI_eq t a5
    have hp1 : pre.length + 1 + r.length = l.length := by simp only [List.length_cons] at hp; omega
    have Hp1 := Lib.hid hp1
    have Hat := Lib.hid hat
    have Hd1 := Lib.hid hd1
    have Hm := Lib.hid hm
    clear hp hp1 hat hd hd1 hm
    obtain ⟨g1, g2, g3, g4, g5, g6⟩ := g
    have hgm : gm < w.heap.size := by obtain ⟨_, _, _, _, _, hM⟩ := hS; exact hM.lt
    have hlo : lo ≤ w.heap.size := by obtain ⟨_, hX, _⟩ := hS; have := hX.lt; omega
    have c0 : w.cell? ⟨gm, 0, none⟩ = some (.slice A l.length c) := by obtain ⟨_, _, _, _, _, hM⟩ := hS; rw [hM.cell]; rfl
    have hne : ((pre.length : Int) = (l.length : Int)) = False := by simp; omega
    go_enter Tryd.func44, Tryd.ntmps44
    go_wp2_with fail
    clear c0 hgm
    go_loopw [6] (fun i wr => ∃ (k : Nat) (v : Int), (k : Int) ≤ minI t a5 + 1 ∧ i = .int .i64 k ∧ Srch wr lo gm gx A l.length c cx ⟨g1, g2, g3, g4, g5, g6⟩ (pre ++ v :: List.replicate r.length 0) (bestP l ⟨g1, g2, g3, g4, g5, g6⟩ b (allN r pre t k)) ∧ Only lo (lo + 2) w wr) (fun i _ => 20 - (intOf i).toNat)
    case atStart => exact ⟨0, 0, by have := Hm.out; omega, rfl, hS, Only.refl _ _ _⟩
    case round =>
      obtain ⟨k, v, hk, rfl, hS1, on1⟩ := hrel
      have hs1 := hs.only on1 (Nat.le_refl _) hlo
      obtain ⟨bb, off, y1, y2, y3, y4, y5, eA, hbb, hl, _, _, _, _, c4⟩ := hs1.stuff_at hlt
      have e5 : y5 = a5 := by
        rw [Hat.out] at hl
        injection hl with hl
        injection hl with _ _ _ _ h5
        exact h5.symm
      subst e5
      subst eA
      clear hl
      have hgm : gm < wr.heap.size := by obtain ⟨_, _, _, _, _, hM⟩ := hS1; exact hM.lt
      have hgx : gx < wr.heap.size := by obtain ⟨_, hX, _⟩ := hS1; exact hX.lt
      have fX : ∀ i, wr.frozen? ⟨gx, i, none⟩ = false := by obtain ⟨_, hX, _⟩ := hS1; exact hX.frozen
      have c0 : wr.cell? ⟨gm, 0, none⟩ = some (.slice (some ⟨bb, off, none⟩) l.length c) := by obtain ⟨_, _, _, _, _, hM⟩ := hS1; rw [hM.cell]; rfl
      have c7 : wr.cell? ⟨gm, 7, none⟩ = some (.slice (some ⟨gx, 0, none⟩) (pre ++ v :: List.replicate r.length 0).length cx) := by obtain ⟨_, _, _, _, _, hM⟩ := hS1; rw [hM.cell]; rfl
      have cX : wr.cell? ⟨gx, pre.length, none⟩ = some (.int .i64 v) := by obtain ⟨_, hX, _⟩ := hS1; rw [hX.cell]; simp [ints]
      simp only [List.length_append, List.length_cons, List.length_replicate] at c7
      have hmm := Hm.out
      by_cases hc : (k : Int) ≤ minI t y5
      · go_wp2_with fail
        obtain ⟨hP, oP⟩ := hS1.put pre.length (k : Int)
        have eset : (pre ++ v :: List.replicate r.length 0).set pre.length (k : Int) = (pre ++ [(k : Int)]) ++ List.replicate r.length 0 := by simp
        rw [eset] at hP
        have hw : wrap64 (t - (k : Int)) = t - (k : Int) := by rw [wrap_w64, w64_in (by omega) (by omega)]
        have hcall := ih (pre ++ [(k : Int)]) (t - (k : Int)) _ _ (by rw [List.length_append]; exact Hd1.out) (by have := Hp1.out; simp only [List.length_append, List.length_singleton]; omega) (by omega) (by omega) (hs1.only oP (Nat.le_refl _) (by have := on1.size; omega)) hP
        have el : (((pre ++ [(k : Int)]).length : Nat) : Int) = (pre.length : Int) + 1 := by simp
        rw [el] at hcall
        try rw [hw]
        refine hcall.mono ?_
        rintro _ w3 ⟨rfl, hS3, on3⟩
        clear hcall eset hw el hP c0 c7 cX c4 fX
        go_wp2_with fail
        go_roundw
        case rel =>
          have eb : bestP l ⟨g1, g2, g3, g4, g5, g6⟩ b (allN r pre t (k + 1)) = bestP l ⟨g1, g2, g3, g4, g5, g6⟩ (bestP l ⟨g1, g2, g3, g4, g5, g6⟩ b (allN r pre t k)) (allM r (pre ++ [(k : Int)]) (t - (k : Int))) := by rw [allN_succ]; exact List.foldl_append ..
          have hbq : ((pre.length : Int) == (l.length : Int)) = false := by rw [beq_eq_false_iff_ne]; omega
          rw [hbq]
          exact ⟨_, _, _, _, _, _, _, _, _, _, _, _, _, _, _, _, _, _, _, _, _, _, _, _, _, _, _, _, _, ⟨k + 1, k, by omega, by go_num, by rw [eb]; simpa only [List.append_assoc, List.singleton_append] using hS3, (on1.trans oP).trans on3⟩, rfl⟩
        case measure => simp [intOf]; omega
      · go_wp2_with fail
        refine bodyPost_end (results_none rfl _ _ _) rfl ?_
        obtain ⟨hP, oP⟩ := hS1.put pre.length 0
        have eset : (pre ++ v :: List.replicate r.length 0).set pre.length (0 : Int) = pre ++ List.replicate (r.length + 1) 0 := by simp [List.replicate_succ]
        rw [eset] at hP
        have ek : allM (⟨a1, a2, a3, a4, y5⟩ :: r) pre t = allN r pre t k := by
          rw [allM_cons]
          simp only
          have : (minI t y5 + 1).toNat = k := by omega
          rw [this]
        rw [ek]
        exact ⟨rfl, hP, on1.trans oP⟩
end Go.Proofs.YtlhjncefckidjaaDoor
