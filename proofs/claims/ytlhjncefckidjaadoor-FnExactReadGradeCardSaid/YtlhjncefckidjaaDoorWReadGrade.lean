/-
  The walk of FnExactReadGrade: it returns true and writes nothing that was there.
-/
import Derived.Test.YtlhjncefckidjaaDoorTu
namespace Go.Proofs.YtlhjncefckidjaaDoor
open Go.RowKit
set_option linter.unusedVariables false
theorem ba_list (s : ByteArray) : ∃ l : List UInt8, s = ⟨l.toArray⟩ ∧ l.length = s.size := by
  obtain ⟨⟨l⟩⟩ := s
  exact ⟨l, rfl, rfl⟩
set_option maxRecDepth 20000 in
set_option maxHeartbeats 1000000 in
theorem exactReadGrade_walk (s0 : ByteArray) (w : World) (ws0 : s0.size ≤ maxLen) (hmx : ∃ m, w.cell? ⟨0, 0, none⟩ = some (.int .i64 m)) :
    Calls Tryd.prog 9 #[.string s0] w fun e w' => e = .returned (.bool true) ∧ Below w.heap.size w w' := by
  obtain ⟨l, rfl, hl⟩ := ba_list s0
  clear hl ws0

  have hm0 : 0 < w.heap.size := by obtain ⟨m, hm⟩ := hmx; exact cell_lt hm
  go_enter Tryd.func9, Tryd.ntmps9
  by_cases hb : l.length ≤ 1048576
  case neg =>
    have hq : decide ((l.length : Int) > 1048576) = true := decide_eq_true (by omega)

    go_wp2_with fail

    go_ret
    exact ⟨rfl, Below.refl _ _⟩

  go_wp2_with fail
  refine (sReadGrade_any l hb w).mono ?_
  rintro _ w1 ⟨rfl, h1⟩
  rw [readers_same]
  generalize hr : rdG l = R
  obtain ⟨⟨a, b, c, d, e, f⟩, ok⟩ := R
  have Hr := Lib.hid hr
  clear hr
  simp only [gv]
  have hmx1 : ∃ m, w1.cell? ⟨0, 0, none⟩ = some (.int .i64 m) := by obtain ⟨m, hm⟩ := hmx; exact ⟨m, ((below_cells h1).1 0 0 hm0).trans hm⟩
  go_wp2_with fail
  have hB0 := Blk.made w1 25 #[.int .i64 a, .int .i64 b, .int .i64 c, .int .i64 d, .int .i64 e, .int .i64 f]
  have hb0 : Below w.heap.size w (w1.alloc (.cells #[.int .i64 a, .int .i64 b, .int .i64 c, .int .i64 d, .int .i64 e, .int .i64 f] 25)) := h1.alloc h1.size _
  generalize w1.alloc _ = V at hB0 hb0 ⊢
  have hmV : ∃ m, V.cell? ⟨0, 0, none⟩ = some (.int .i64 m) := by obtain ⟨m, hm⟩ := hmx; exact ⟨m, ((below_cells hb0).1 0 0 hm0).trans hm⟩
  refine (readGrade_any l hb V hmV).mono ?_
  rintro _ w2 ⟨rfl, h2⟩
  have hB2 := hB0.below h2 hB0.lt
  have hb2 := below_next hb0 h2
  rw [Hr.out]
  simp only [gv]
  clear hB0 hmV
  have hC3 := Blk.made w2 25 #[.int .i64 a, .int .i64 b, .int .i64 c, .int .i64 d, .int .i64 e, .int .i64 f]
  have hB3 := hB2.alloc (.cells #[.int .i64 a, .int .i64 b, .int .i64 c, .int .i64 d, .int .i64 e, .int .i64 f] 25)
  have hb3 : Below w.heap.size w (w2.alloc (.cells #[.int .i64 a, .int .i64 b, .int .i64 c, .int .i64 d, .int .i64 e, .int .i64 f] 25)) := hb2.alloc hb2.size _
  have eC := hC3.cell
  have eB := hB3.cell
  clear hC3 hB3 hB2
  go_wp2_with fail
  refine (eqGrade_same _ _ _ _ _ _ _).mono ?_
  rintro _ w4 ⟨rfl, h4⟩
  cases ok with
  | false =>
    go_wp2_with fail
    go_ret
    exact ⟨rfl, below_next hb3 h4⟩
  | true =>
    go_wp2_with fail
    go_ret
    exact ⟨rfl, below_next hb3 h4⟩
end Go.Proofs.YtlhjncefckidjaaDoor
