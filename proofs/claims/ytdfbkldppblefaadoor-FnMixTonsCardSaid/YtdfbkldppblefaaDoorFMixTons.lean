/-
  The walk of the law FnMixTons.
-/
import Derived.Test.YtdfbkldppblefaaDoorDu
import Derived.Test.YtdfbkldppblefaaDoorPn
import Derived.Test.YtdfbkldppblefaaDoorLat
namespace Go.Proofs.YtdfbkldppblefaaDoor
open Go.RowKit
set_option linter.unusedVariables false
theorem mixTons_b (A : Option Addr) (c : Nat) (l : List Int) (w : World) (hs : Sees w w.heap.size A (ints l)) (hn : l.length ≤ 1048576) :
    Calls Tryd.prog 22 #[.slice A l.length c] w fun e w' => e = .returned (.int .i64 (tonsOf l)) ∧ Below w.heap.size w w' :=
  (mixTons_any A c l w hs hn).mono (by rintro _ _ ⟨rfl, rfl⟩; exact ⟨rfl, Below.refl _ _⟩)
theorem sMixTons_b (A : Option Addr) (c : Nat) (l : List Int) (w : World) (hs : Sees w w.heap.size A (ints l)) (hn : l.length ≤ 1048576) :
    Calls Tryd.prog 23 #[.slice A l.length c] w fun e w' => e = .returned (.int .i64 (tonsOf l)) ∧ Below w.heap.size w w' :=
  (sMixTons_any A c l w hs hn).mono (by rintro _ _ ⟨rfl, rfl⟩; exact ⟨rfl, Below.refl _ _⟩)
theorem tons_parts {x : List Int} (hl : x.length ≤ 6) (h : ∀ y ∈ x, smallX y) (m : Nat) : tonsOf (x.take m) + tonsOf (x.drop m) = tonsOf x ∧ -10000 ≤ tonsOf x ∧ tonsOf x ≤ 10000 := by
  have hs : ∀ z : List Int, (∀ y ∈ z, y ∈ x) → z.length ≤ 6 → tonsOf z = sumF id z := fun z hz hzl => tonsOf_sum z 1001 (by omega) (by omega) (by omega) fun a ha => by have := h a (hz a ha); unfold smallX at this; omega
  have e1 := hs x (fun _ hy => hy) hl
  have e2 := hs (x.take m) (fun _ hy => List.mem_of_mem_take hy) (by simp; omega)
  have e3 := hs (x.drop m) (fun _ hy => List.mem_of_mem_drop hy) (by simp; omega)
  have e4 : sumF id x = sumF id (x.take m) + sumF id (x.drop m) := by rw [← sumF_append, List.take_append_drop]
  have hb : ∀ z : List Int, (∀ y ∈ z, smallX y) → -1001 * (z.length : Int) ≤ sumF id z ∧ sumF id z ≤ 1001 * (z.length : Int) := by
    intro z
    induction z with
    | nil => intro _; simp [sumF]
    | cons a z ih =>
      intro hz
      have h1 := ih fun y hy => hz y (List.mem_cons_of_mem _ hy)
      have h2 := hz a List.mem_cons_self
      unfold smallX at h2
      simp only [sumF, List.length_cons, id]
      omega
  have h5 := hb x h
  omega
set_option maxHeartbeats 4000000 in
theorem fnMixTons_walk (A : Option Addr) (n c : Nat) (l : List Int) (w : World) (hs : Sees w w.heap.size A (bys l)) (hl : l.length = n) (hby : ∀ z ∈ l, byteB z) (hc : n ≤ c) (hm : c ≤ maxLen) :
    Calls Tryd.prog 5 #[.slice A n c] w fun e w' => e = .returned (.bool true) ∧ Below w.heap.size w w' := by
  have hm' := hm
  unfold maxLen at hm'
  by_cases hn : n ≤ 1048576
  case neg =>
    go_enter Tryd.func5, Tryd.ntmps5
    go_wp2_with fail
    go_ret
    exact ⟨rfl, Below.refl _ _⟩
  go_enter Tryd.func5, Tryd.ntmps5
  go_wp2_with fail
  refine (drawMixTons_any A n c l _ hs hl hby hc hm).mono ?_
  rintro _ w1 ⟨x, A2, c2, hxl, hxs, rfl, hX, hb⟩
  obtain ⟨hsum, htb⟩ := tons_parts hxl hxs (x.length / 2)
  have Hsum := Lib.hid hsum
  clear hxs hsum
  go_wp2_with fail
  refine (mixTons_b _ _ _ _ hX.sees (by omega)).mono ?_
  rintro _ w2 ⟨rfl, hb1⟩
  replace hX := own_hi (hX.below hb1) hb1.size
  replace hb := below_next hb hb1
  clear hb1
  obtain ⟨hf, hhf⟩ : ∃ hf, hf = x.length / 2 := ⟨_, rfl⟩
  have hq : ((x.length : Int) / 2) = (hf : Int) := by omega
  have hf2 : hf ≤ x.length := by omega
  have hf3 : 0 < x.length → hf < x.length := by omega
  have hsum := Hsum.out
  rw [← hhf] at hsum
  clear Hsum hhf
  have hb1 : -10000 ≤ tonsOf (x.take hf) + tonsOf (x.drop hf) ∧ tonsOf (x.take hf) + tonsOf (x.drop hf) ≤ 10000 := by omega
  have hw : IntKind.i64.wrap (tonsOf (x.take hf) + tonsOf (x.drop hf)) = tonsOf x := by rw [hsum]; exact wrap_in' (by omega) (by omega)
  clear hb1 hsum
  have hcap := hX.cap
  go_upto_region 6 with (fail)
  try rw [hq]
  clear hq
  have hc1 := fun (v : World) (hv : Below w2.heap.size w2 v) => sMixTons_b A2 c2 x v (hX.sees.next hv) (by omega)
  have hc4 := fun (v : World) (hv : Below w2.heap.size w2 v) => mixTons_b none 0 [] v (.inl rfl) (by simp)
  simp only [show tonsOf [] = 0 from rfl, List.length_nil] at hc4
  have Hc4 := Lib.hid hc4
  clear hc4
  by_cases h0 : 0 < x.length
  · obtain ⟨g, cs, rfl, -, -, -, -, -, -, -⟩ := hX.block h0
    have hS1 : Sees w2 w2.heap.size (some ⟨g, 0, none⟩) (ints (x.take hf)) := by
      have := hX.sees.take (k := hf)
      rwa [show (ints x).take hf = ints (x.take hf) from by simp [ints]] at this
    have hS2 : Sees w2 w2.heap.size (some ⟨g, hf, none⟩) (ints (x.drop hf)) := by
      have := Sees.drop (k := hf) hX.sees
      rwa [show (ints x).drop hf = ints (x.drop hf) from by simp [ints], Nat.zero_add] at this
    have hc2 := fun (v : World) (hv : Below w2.heap.size w2 v) => mixTons_b (some ⟨g, 0, none⟩) c2 (x.take hf) v (hS1.next hv) (by simp; omega)
    have hc3 := fun (v : World) (hv : Below w2.heap.size w2 v) => mixTons_b (some ⟨g, hf, none⟩) (c2 - hf) (x.drop hf) v (hS2.next hv) (by simp; omega)
    simp only [List.length_take, List.length_drop, Nat.min_eq_left hf2] at hc2 hc3
    generalize tonsOf (x.take hf) = T1 at hc2 hw
    generalize tonsOf (x.drop hf) = T2 at hc3 hw
    generalize tonsOf x = T0 at hc1 hw ⊢
    have Hc1 := Lib.hid hc1
    have Hc2 := Lib.hid hc2
    have Hc3 := Lib.hid hc3
    clear hc1 hc2 hc3 hS1 hS2
    have hlt := hf3 h0
    clear hf3
    have hi1 : (hf : Int) ≤ (x.length : Int) := by omega
    have hi2 : (x.length : Int) ≤ (c2 : Int) := by omega
    have hi3 : (hf : Int) ≤ (c2 : Int) := by omega
    have hi4 : ¬ ((c2 : Int) = (hf : Int)) := by omega
    have hi5 : ¬ (c2 = hf) := by omega
    have hV := later_cell w2
    refine wp_region_later (by kernel_rfl) (by kernel_rfl) ?_
    repeat (go_big_quiet_step ((first | (go_at_call 23; exact Later.of _ (Hc1.out _ (Later.below _))) | (go_at_call 22; with_reducible exact Later.of _ (Hc2.out _ (Later.below _))) | (go_at_call 22; with_reducible exact Later.of _ (Hc3.out _ (Later.below _))) | (go_at_call 22; with_reducible exact Later.of _ (Hc4.out _ (Later.below _))) | (go_at_call 17; exact Later.of _ (alive_any _)))))
    refine wpQuiet_nil ?_
    intro _ hw'
    obtain ⟨u, rfl⟩ := hw'
    have hu := u.below
    go_wp2_with fail
    go_ret
    exact ⟨rfl, below_next hb hu⟩
  · have h0 : x.length = 0 := by omega
    obtain rfl := List.eq_nil_of_length_eq_zero h0
    obtain rfl : hf = 0 := by simpa using hf2
    simp only [show tonsOf [] = 0 from rfl, List.length_nil] at hc1 ⊢
    have Hc1 := Lib.hid hc1
    clear hc1 hf3 hf2 hw h0 htb
    rcases hX.addr with ⟨rfl, -, rfl⟩ | ⟨g, rfl⟩
    · have Hc2 := Hc4
      have Hc3 := Hc4
      have hV := later_cell w2
      refine wp_region_later (by kernel_rfl) (by kernel_rfl) ?_
      repeat (go_big_quiet_step ((first | (go_at_call 23; exact Later.of _ (Hc1.out _ (Later.below _))) | (go_at_call 22; with_reducible exact Later.of _ (Hc2.out _ (Later.below _))) | (go_at_call 22; with_reducible exact Later.of _ (Hc3.out _ (Later.below _))) | (go_at_call 22; with_reducible exact Later.of _ (Hc4.out _ (Later.below _))) | (go_at_call 17; exact Later.of _ (alive_any _)))))
      refine wpQuiet_nil ?_
      intro _ hw'
      obtain ⟨u, rfl⟩ := hw'
      have hu := u.below
      go_wp2_with fail
      go_ret
      exact ⟨rfl, below_next hb hu⟩
    · have hc2 := fun (v : World) (hv : Below w2.heap.size w2 v) => mixTons_b (some ⟨g, 0, none⟩) c2 [] v (.inl rfl) (by simp)
      simp only [show tonsOf [] = 0 from rfl, List.length_nil] at hc2
      have Hc2 := Lib.hid hc2
      have Hc3 := Hc2
      clear hc2
      have hi1 : (0 : Int) ≤ (c2 : Int) := by omega
      have hV := later_cell w2
      refine wp_region_later (by kernel_rfl) (by kernel_rfl) ?_
      repeat (go_big_quiet_step ((first | (go_at_call 23; exact Later.of _ (Hc1.out _ (Later.below _))) | (go_at_call 22; with_reducible exact Later.of _ (Hc2.out _ (Later.below _))) | (go_at_call 22; with_reducible exact Later.of _ (Hc3.out _ (Later.below _))) | (go_at_call 22; with_reducible exact Later.of _ (Hc4.out _ (Later.below _))) | (go_at_call 17; exact Later.of _ (alive_any _)))))
      refine wpQuiet_nil ?_
      intro _ hw'
      obtain ⟨u, rfl⟩ := hw'
      have hu := u.below
      go_wp2_with fail
      go_ret
      exact ⟨rfl, below_next hb hu⟩
end Go.Proofs.YtdfbkldppblefaaDoor
