/-
  The walk of the law FnCastEnd.
-/
import Derived.Test.YtdobfpdfbfaohaaDoorDk
import Derived.Test.YtdobfpdfbfaohaaDoorPl
import Derived.Test.YtdobfpdfbfaohaaDoorLat
namespace Go.Proofs.YtdobfpdfbfaohaaDoor
open Go.RowKit
set_option linter.unusedVariables false
theorem flatH_take (l : List Heat) (m : Nat) : ints (flatH (l.take m)) = (ints (flatH l)).take (m * 3) := by
  induction l generalizing m with
  | nil => simp [flatH, ints]
  | cons a l ih =>
    cases m with
    | zero => simp [flatH, ints]
    | succ m =>
      have h1 := ih m
      rw [List.take_succ_cons, show (m + 1) * 3 = m * 3 + 3 from by omega]
      simpa [flatH, ints] using h1
theorem castEnd_take_any (A : Option Addr) (c m : Nat) (h : List Heat) (w : World) (hs : Sees w w.heap.size A (ints (flatH h))) (hn : h.length ≤ 1048576) (hm : m ≤ h.length) (hcap : h.length ≤ c) (f s : Int) :
    Calls Tryd.prog 28 #[.slice A m c, .agg #[.int .i64 f, .int .i64 s]] w fun e w' => e = .returned (.int .i64 (castEnd (h.take m) ⟨f, s⟩)) ∧ Below w.heap.size w w' := by
  have h1 := castEnd_any A c (h.take m) w (by rw [flatH_take]; exact hs.take) (by simp; omega) (by simp; omega) f s
  rwa [List.length_take, Nat.min_eq_left hm] at h1
theorem castEnd_nil {c : Caster} (h2 : casterOk c = true) : castEnd [] c = 0 := by simp [castEnd, castTimes, heatsOk, h2, timesFrom]
set_option maxHeartbeats 400000 in
theorem fnCastEnd_walk (A : Option Addr) (n c : Nat) (l : List Int) (w : World) (hs : Sees w w.heap.size A (bys l)) (hl : l.length = n) (hby : ∀ z ∈ l, byteB z) (hc : n ≤ c) (hm : c ≤ maxLen) :
    Calls Tryd.prog 7 #[.slice A n c] w fun e w' => e = .returned (.bool true) ∧ Below w.heap.size w w' := by
  have hm' := hm
  unfold maxLen at hm'
  by_cases hn : n ≤ 1048576
  case neg =>
    go_enter Tryd.func7, Tryd.ntmps7
    go_wp2_with fail
    go_ret
    exact ⟨rfl, Below.refl _ _⟩
  obtain ⟨j0, ji, jz0, jz1, jz2⟩ := info_parts infoInt2
  go_enter Tryd.func7, Tryd.ntmps7
  go_wp2_with fail
  refine (drawCastEnd_any A n c l _ hs hl hby hc hm).mono ?_
  rintro _ w1 ⟨hts, A1, c1, s, hsm, hlen, hsc, rfl, hQ, hb⟩
  clear hsm
  obtain ⟨f, s⟩ := s
  unfold smallC at hsc
  simp only at hsc
  have hB := Blk.made w1 24 #[.int .i64 f, .int .i64 s]
  replace hQ := own_hi (hQ.alloc (.cells #[.int .i64 f, .int .i64 s] 24)) (show w1.heap.size ≤ (w1.alloc (.cells #[.int .i64 f, .int .i64 s] 24)).heap.size by simp)
  replace hb := hb.alloc hb.size (.cells #[.int .i64 f, .int .i64 s] 24)
  go_wp2_with fail
  generalize w1.alloc _ = W at hB hb hQ ⊢
  refine (castEnd_any _ _ _ _ hQ.sees (by omega) hQ.cap _ _).mono ?_
  rintro _ w2 ⟨rfl, hb1⟩
  replace hQ := own_hi (hQ.below hb1) hb1.size
  replace hB := hB.below hb1 hB.lt
  replace hb := below_next hb hb1
  clear hb1
  have c3 := hB.cell
  go_wp2_with fail
  clear c3
  refine (sCastEnd_any _ _ _ _ hQ.sees (by omega) _ _).mono ?_
  rintro _ w3 ⟨rfl, hb1⟩
  replace hQ := own_hi (hQ.below hb1) hb1.size
  replace hB := hB.below hb1 hB.lt
  replace hb := below_next hb hb1
  clear hb1
  cases hok : heatsOk hts && casterOk ⟨f, s⟩ with
  | false =>
    rw [castEnd_bad hok]
    go_wp2_with fail
    refine (alive_any _).mono ?_
    rintro _ w9 ⟨rfl, hb1⟩
    go_wp2_with fail
    go_ret
    exact ⟨rfl, below_next hb hb1⟩
  | true =>
  simp only [Bool.and_eq_true] at hok
  obtain ⟨h1, h2⟩ := hok
  have hxb := castEnd_bounds h1 h2
  have hge := castEnd_ge h1 h2
  simp only at hge
  have htk := castEnd_take (hts.length - 1) h1 h2
  have hsl : castEnd hts ⟨f + 1, s⟩ = -1 ∨ (castEnd hts ⟨f, s⟩ ≤ castEnd hts ⟨f + 1, s⟩ ∧ castEnd hts ⟨f + 1, s⟩ ≤ 1593) := by
    cases h3 : casterOk ⟨f + 1, s⟩ with
    | false => exact .inl (castEnd_bad (by rw [h3, Bool.and_false]))
    | true => exact .inr ⟨castEnd_slow (by omega) h1 h2 h3, (castEnd_bounds h1 h3).2⟩
  have hcb := caster_bounds h2
  simp only at hcb
  obtain ⟨hf1, hf2, hf3⟩ := hcb
  have h0 : hts.length = 0 → castEnd hts ⟨f, s⟩ = 0 := by
    intro h; rw [List.eq_nil_of_length_eq_zero h]; exact castEnd_nil h2
  have htb := (castEnd_bounds (heatsOk_take (hts.length - 1) h1) h2).1
  clear h1 h2
  generalize castEnd hts ⟨f, s⟩ = x at hxb hge htk hsl h0 ⊢
  have H0 := Lib.hid h0
  clear h0
  have c3 := hB.cell
  go_wp2_with fail
  clear c3
  refine (castEnd_any _ _ _ _ hQ.sees (by omega) hQ.cap _ _).mono ?_
  rintro _ w4 ⟨rfl, hb1⟩
  replace hQ := own_hi (hQ.below hb1) hb1.size
  replace hB := hB.below hb1 hB.lt
  replace hb := below_next hb hb1
  clear hb1
  generalize castEnd hts ⟨f + 1, s⟩ = y at hsl ⊢
  have hmul : f * (hts.length : Int) ≤ 2000 := by omega
  have hmul0 : 0 ≤ f * (hts.length : Int) := Int.mul_nonneg (by omega) (by omega)
  have c3 := hB.cell
  have hBl := hB.lt
  have hcp := hQ.cap
  have hwr : IntKind.i64.wrap (f * (hts.length : Int)) = f * (hts.length : Int) := wrap_in (by omega) (by omega)
  by_cases hz : hts.length = 0
  · have hx0 := H0.out hz
    subst hx0
    obtain rfl := List.eq_nil_of_length_eq_zero hz
    clear hwr hmul hmul0 hge htk htb H0
    have hmz : f * (([] : List Heat).length : Int) = 0 := by simp
    have hcz : f * 0 = 0 := by simp
    have hsl2 : y = -1 ∨ (decide (y < 0) = false ∧ decide (0 ≤ y) = true) := by
      rcases hsl with h | ⟨h1, h2⟩
      · exact .inl h
      · exact .inr ⟨by simp; omega, by simp; omega⟩
    clear hsl
    rcases hsl2 with rfl | ⟨hs1, hs2⟩
    all_goals
      go_wp2_with fail
      refine wp_region_quiet_lit (by kernel_rfl) (by kernel_rfl) ?_
      repeat (go_big_quiet_step (fail))
      refine wpQuiet_nil ?_
      intro _ hw'
      obtain ⟨nq, hw''⟩ := hw'
      subst hw''
      go_wp2_with fail
      go_ret
      exact ⟨rfl, below_drewN hb _⟩
  · obtain ⟨m, hm1⟩ : ∃ m, m + 1 = hts.length := ⟨hts.length - 1, by omega⟩
    rw [show hts.length - 1 = m from by omega] at htk htb
    have hcall := fun (w' : World) (h : Below w4.heap.size w4 w') => castEnd_take_any A1 c1 m hts w' (hQ.sees.next h) (by omega) (by omega) hcp f s
    have Hcall := Lib.hid hcall
    have Hc : Hid (m + 1 ≤ c1) := Lib.hid (by omega)
    clear hcall hQ H0
    rw [← hm1] at hge hwr hmul hmul0 hlen ⊢
    generalize castEnd (hts.take m) ⟨f, s⟩ = z at htk htb Hcall
    clear hm1 hz
    have hsl2 : (y = -1) ∨ (decide (y < 0) = false ∧ decide (x ≤ y) = true) := by
      rcases hsl with h | ⟨h1, h2⟩
      · exact .inl h
      · exact .inr ⟨by simp; omega, by simp; omega⟩
    clear hsl
    have hzx : decide (z ≤ x) = true := by simpa using htk
    have hgx : decide (f * ((m + 1 : Nat) : Int) ≤ x) = true := by simpa using hge
    have hV := later_cell w4
    have hm0 : (0 : Int) ≤ (m : Int) := by omega
    have hm2 : (m : Int) ≤ (c1 : Int) := by have := Hc.out; omega
    have hpos : ((m : Int) + 1 == 0) = false := by rw [beq_eq_false_iff_ne]; omega
    have hpos2 : decide (0 < (m : Int) + 1) = true := by rw [decide_eq_true_eq]; omega
    have hwr2 : IntKind.i64.wrap (f * ((m : Int) + 1)) = f * ((m : Int) + 1) := hwr
    have hgx2 : decide (f * ((m : Int) + 1) ≤ x) = true := hgx
    clear hwr hgx hmul hmul0 hge htb
    rcases hsl2 with rfl | ⟨hs1, hs2⟩
    all_goals
      go_wp2_with fail
      refine wp_region_later (by kernel_rfl) (by kernel_rfl) ?_
      repeat (go_big_quiet_step ((go_at_call 28; exact Later.of _ (Hcall.out _ (Later.below _)))))
      refine wpQuiet_nil ?_
      intro _ hw'
      obtain ⟨u, rfl⟩ := hw'
      have hu := u.below
      go_wp2_with fail
      go_ret
      exact ⟨rfl, below_next hb hu⟩
end Go.Proofs.YtdobfpdfbfaohaaDoor
