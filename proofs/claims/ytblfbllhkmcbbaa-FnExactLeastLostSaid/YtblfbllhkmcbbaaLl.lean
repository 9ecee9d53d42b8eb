/-
  LeastLost in the program and in the reference.
-/
import Derived.Test.YtblfbllhkmcbbaaBs
import Derived.Test.YtblfbllhkmcbbaaBi
namespace Go.Proofs.Ytblfbllhkmcbbaa
open Go.RowKit
set_option linter.unusedVariables false
theorem orderLost_bad {h : List Heat} {L : List (List Int)} {o : List Int} (hb : heatsOk h = false ∨ lostOk L = false) : orderLost h L o = -1 := by
  unfold orderLost
  rcases hb with hb | hb <;> simp [hb]
theorem sLeastLost_any (A A1 : Option Addr) (c c1 : Nat) (h : List Heat) (L : List (List Int)) (w : World) (hs : Sees w w.heap.size A (ints (flatH h))) (hn : h.length ≤ 1048576) (ht : Tab w w.heap.size A1 L) (hn1 : L.length ≤ 1048576) (hr1 : ∀ l ∈ L, l.length ≤ 1048576) :
    Calls Try.prog 37 #[.slice A h.length c, .slice A1 L.length c1] w fun e w' => e = .returned (.int .i64 (orderLost h L (bestOrder h L))) ∧ Below w.heap.size w w' := by
  have Hr1 := Lib.hid hr1
  have Hle := Lib.hid (bestOrder_le h L)
  clear hr1
  go_enter Try.func37, Try.ntmps37
  go_wp2_with fail
  refine (sBestOrder_any _ _ _ _ h L _ hs hn ht hn1 Hr1.out).mono ?_
  rintro _ w1 ⟨A2, c2, rfl, hO, hb⟩
  go_wp2_with fail
  refine (sOrderLost_any _ _ _ _ _ _ h L (bestOrder h L) _ (hs.next hb) hn (ht.next hb) hn1 Hr1.out hO.sees (Nat.le_trans Hle.out (by omega)) hO.cap).mono ?_
  rintro _ w2 ⟨rfl, hb2⟩
  go_wp2_with fail
  go_ret
  exact ⟨rfl, below_next hb hb2⟩
theorem leastLost_any (A A1 : Option Addr) (c c1 : Nat) (h : List Heat) (L : List (List Int)) (w : World) (hs : Sees w w.heap.size A (ints (flatH h))) (hn : h.length ≤ 1048576) (ht : Tab w w.heap.size A1 L) (hn1 : L.length ≤ 1048576) (hr1 : ∀ l ∈ L, l.length ≤ 1048576) :
    Calls Try.prog 38 #[.slice A h.length c, .slice A1 L.length c1] w fun e w' => e = .returned (.int .i64 (orderLost h L (bestOrder h L))) ∧ Below w.heap.size w w' := by
  have Hr1 := Lib.hid hr1
  have Hle := Lib.hid (bestOrder_le h L)
  clear hr1
  go_enter Try.func38, Try.ntmps38
  go_wp2_with fail
  refine (heatsValid_any _ _ _ _ hs hn).mono ?_
  rintro _ w1 ⟨rfl, hb1⟩
  cases hok : heatsOk h with
  | false =>
    go_wp2_with fail
    go_ret
    exact ⟨ret_int (orderLost_bad (.inl hok)).symm, hb1⟩
  | true =>
  go_wp2_with fail
  refine (lostValid_any _ _ _ _ (ht.next hb1) hn1 Hr1.out).mono ?_
  rintro _ _ ⟨rfl, rfl⟩
  cases hl : lostOk L with
  | false =>
    go_wp2_with fail
    go_ret
    exact ⟨ret_int (orderLost_bad (.inr hl)).symm, hb1⟩
  | true =>
  clear hok hl
  go_wp2_with fail
  refine (bestOrder_any _ _ _ _ h L _ (hs.next hb1) hn (ht.next hb1) hn1 Hr1.out).mono ?_
  rintro _ w2 ⟨A2, c2, rfl, hO, hb⟩
  replace hb := below_next hb1 hb
  clear hb1
  go_wp2_with fail
  refine (orderLost_any _ _ _ _ _ _ h L (bestOrder h L) _ (hs.next hb) hn (ht.next hb) hn1 Hr1.out hO.sees (Nat.le_trans Hle.out (by omega)) hO.cap).mono ?_
  rintro _ w3 ⟨rfl, hb2⟩
  go_wp2_with fail
  go_ret
  exact ⟨rfl, below_next hb hb2⟩
end Go.Proofs.Ytblfbllhkmcbbaa
