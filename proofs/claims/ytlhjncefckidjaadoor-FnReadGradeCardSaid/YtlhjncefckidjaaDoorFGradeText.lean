/-
  The walk of the law FnGradeText.
-/
import Derived.Test.YtlhjncefckidjaaDoorDz
import Derived.Test.YtlhjncefckidjaaDoorTu
namespace Go.Proofs.YtlhjncefckidjaaDoor
open Go.RowKit
set_option linter.unusedVariables false
theorem textG_len (g : Grade) : (textG g).length ≤ 100 := by
  unfold textG
  split
  · rename_i h
    simp only [gradeOk, rangeOk, Bool.and_eq_true, inB_iff] at h
    have h1 := dec_len g.lc (by omega) (by omega)
    have h2 := dec_len g.hc (by omega) (by omega)
    have h3 := dec_len g.lm (by omega) (by omega)
    have h4 := dec_len g.hm (by omega) (by omega)
    have h5 := dec_len g.ls (by omega) (by omega)
    have h6 := dec_len g.hs (by omega) (by omega)
    simp only [rangeT, List.length_append, List.length_cons]
    omega
  · simp
theorem textG_none {g : Grade} (h : gradeOk g = false) : textG g = [] := by unfold textG; rw [h]; rfl
theorem textG_some {g : Grade} (h : gradeOk g = true) : ∃ x l, textG g = x :: l := by
  cases ht : textG g with
  | nil =>
    have := text_pieces h
    rw [ht] at this
    have h2 := congrArg List.length this
    simp [pieces] at h2
  | cons x l => exact ⟨x, l, rfl⟩
set_option maxRecDepth 20000 in
set_option maxHeartbeats 4000000 in
theorem fnGradeText_walk (A : Option Addr) (n c : Nat) (l : List Int) (w : World) (hs : Sees w w.heap.size A (bys l)) (hl : l.length = n) (hby : ∀ z ∈ l, byteB z) (hc : n ≤ c) (hm : c ≤ maxLen) (hpow : Pow w) (hmx : ∃ m, w.cell? ⟨0, 0, none⟩ = some (.int .i64 m)) :
    Calls Tryd.prog 6 #[.slice A n c] w fun e w' => e = .returned (.bool true) ∧ Below w.heap.size w w' := by
  have hm' := hm
  unfold maxLen at hm'
  have hm0 : 0 < w.heap.size := by obtain ⟨m, hm⟩ := hmx; exact cell_lt hm
  by_cases hn : n ≤ 1048576
  case neg =>
    go_enter Tryd.func6, Tryd.ntmps6
    go_wp2_with fail
    go_ret
    exact ⟨rfl, Below.refl _ _⟩
  go_enter Tryd.func6, Tryd.ntmps6
  go_wp2_with fail
  refine (drawGradeText_any A n c l _ hs hl hby hc hm).mono ?_
  rintro _ w1 ⟨s, hsm, rfl, hb⟩
  clear hs hm hm' hc
  obtain ⟨a1, a2, a3, a4, a5, a6⟩ := s
  have hB := Blk.made w1 25 #[.int .i64 a1, .int .i64 a2, .int .i64 a3, .int .i64 a4, .int .i64 a5, .int .i64 a6]
  replace hb := hb.alloc hb.size (.cells #[.int .i64 a1, .int .i64 a2, .int .i64 a3, .int .i64 a4, .int .i64 a5, .int .i64 a6] 25)
  have c3 := hB.cell
  go_wp2_with fail
  generalize w1.alloc _ = W at hB hb c3 ⊢
  refine (gradeText_any _ _ _ _ _ _ _ (hpow.below hb)).mono ?_
  rintro _ w2 ⟨rfl, hb1⟩
  replace hB := hB.below hb1 hB.lt
  replace hb := below_next hb hb1
  clear hb1 c3
  have c3 := hB.cell
  have Ht := Lib.hid (rfl : textG ⟨a1, a2, a3, a4, a5, a6⟩ = textG ⟨a1, a2, a3, a4, a5, a6⟩)
  obtain ⟨T, hT⟩ : ∃ T, T = textG ⟨a1, a2, a3, a4, a5, a6⟩ := ⟨_, rfl⟩
  rw [← hT]
  clear Ht
  have hT' := Lib.hid hT
  clear hT
  go_wp2_with fail
  clear c3
  refine (sGradeText_any _ _ _ _ _ _ _).mono ?_
  rintro _ w3 ⟨rfl, hb1⟩
  replace hB := hB.below hb1 hB.lt
  replace hb := below_next hb hb1
  clear hb1
  rw [← hT'.out]
  have c3 := hB.cell
  cases hok : gradeOk ⟨a1, a2, a3, a4, a5, a6⟩ with
  | false =>
    obtain rfl : T = [] := hT'.out.trans (textG_none hok)
    go_wp2_with fail
    refine (gradeValid_any _ _ _ _ _ _ _).mono ?_
    rintro _ w4 ⟨rfl, hb1⟩
    rw [hok]
    replace hb := below_next hb hb1
    clear hb1
    go_wp2_with fail
    refine (alive_any _).mono ?_
    rintro _ w5 ⟨rfl, hb1⟩
    go_wp2_with fail
    go_ret
    exact ⟨rfl, below_next hb hb1⟩
  | true =>
    have hlen : T.length ≤ 1048576 := by rw [hT'.out]; have := textG_len ⟨a1, a2, a3, a4, a5, a6⟩; omega
    have hrd : rdG T = (⟨a1, a2, a3, a4, a5, a6⟩, true) := by rw [hT'.out]; exact rdG_text hok
    obtain ⟨x, T', hx⟩ := textG_some hok
    have hTx : T = x :: T' := hT'.out.trans hx
    have hne : (T == ([] : List UInt8)) = false := by rw [hTx]; rfl
    have HR := Lib.hid hrd
    clear hTx hx hrd hT' hok
    go_wp2_with fail
    refine (readGrade_any T hlen w3 (by obtain ⟨m, hm⟩ := hmx; exact ⟨m, ((below_cells hb).1 0 0 hm0).trans hm⟩)).mono ?_
    rintro _ w4 ⟨rfl, hb1⟩
    rw [HR.out]
    replace hB := hB.below hb1 hB.lt
    replace hb := below_next hb hb1
    clear hb1 c3
    simp only [gv]
    have hC := Blk.made w4 25 #[.int .i64 a1, .int .i64 a2, .int .i64 a3, .int .i64 a4, .int .i64 a5, .int .i64 a6]
    replace hB := hB.alloc (.cells #[.int .i64 a1, .int .i64 a2, .int .i64 a3, .int .i64 a4, .int .i64 a5, .int .i64 a6] 25)
    replace hb := hb.alloc hb.size (.cells #[.int .i64 a1, .int .i64 a2, .int .i64 a3, .int .i64 a4, .int .i64 a5, .int .i64 a6] 25)
    have cB := hB.cell
    have cC := hC.cell
    go_wp2_with fail
    go_ret
    exact ⟨rfl, hb⟩
end Go.Proofs.YtlhjncefckidjaaDoor
