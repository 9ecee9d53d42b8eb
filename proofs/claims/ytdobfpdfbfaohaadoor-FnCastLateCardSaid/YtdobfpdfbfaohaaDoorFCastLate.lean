/-
  The walk of the law FnCastLate.
-/
import Derived.Test.YtdobfpdfbfaohaaDoorDk
import Derived.Test.YtdobfpdfbfaohaaDoorPl
import Derived.Test.YtdobfpdfbfaohaaDoorCw
import Derived.Test.YtdobfpdfbfaohaaDoorLat
namespace Go.Proofs.YtdobfpdfbfaohaaDoor
open Go.RowKit
set_option linter.unusedVariables false
theorem late_len {h : List Heat} {c : Caster} (h1 : heatsOk h = true) (h2 : casterOk c = true) : (castLate h c).length = h.length + 1 := by simp [castLate, h1, h2, lateFrom_length]
theorem times_end {h : List Heat} {c : Caster} (h1 : heatsOk h = true) (h2 : casterOk c = true) : (castTimes h c)[h.length]? = some (castEnd h c) := by
  have hl := castTimes_len h1 h2
  have hx := List.getElem?_eq_getElem (l := castTimes h c) (i := h.length) (by omega)
  rw [hx, castEnd, getLastD_at _ h.length (-1) _ hl hx]
theorem late_end {h : List Heat} {c : Caster} (h1 : heatsOk h = true) (h2 : casterOk c = true) : (castLate h c)[h.length]? = some (castEnd h c) := by
  simp only [castLate, h1, h2, Bool.and_self, if_true]
  rw [lateFrom_at _ _ _ _ (Nat.le_refl _)]
  simp
theorem late_waits {h : List Heat} {c : Caster} (h1 : heatsOk h = true) (h2 : casterOk c = true) : heatWaits h c (castTimes h c) ≤ heatWaits h c (castLate h c) := by
  have k1 := castTimes_ok h1 h2
  have k2 := castLate_ok h1 h2
  have l1 := castTimes_len h1 h2
  have l2 := late_len h1 h2
  simp only [heatWaits, k1, k2, if_true]
  exact waits_le h _ _ (by omega) (by omega) fun k v u hv hu => cast_early k2 k v u hv hu
set_option maxHeartbeats 1000000 in
theorem fnCastLate_walk (A : Option Addr) (n c : Nat) (l : List Int) (w : World) (hs : Sees w w.heap.size A (bys l)) (hl : l.length = n) (hby : ∀ z ∈ l, byteB z) (hc : n ≤ c) (hm : c ≤ maxLen) :
    Calls Tryd.prog 10 #[.slice A n c] w fun e w' => e = .returned (.bool true) ∧ Below w.heap.size w w' := by
  have hm' := hm
  unfold maxLen at hm'
  by_cases hn : n ≤ 1048576
  case neg =>
    go_enter Tryd.func10, Tryd.ntmps10
    go_wp2_with fail
    go_ret
    exact ⟨rfl, Below.refl _ _⟩
  obtain ⟨j0, ji, jz0, jz1, jz2⟩ := info_parts infoInt2
  go_enter Tryd.func10, Tryd.ntmps10
  go_wp2_with fail
  refine (drawCastLate_any A n c l _ hs hl hby hc hm).mono ?_
  rintro _ w1 ⟨hts, A1, c1, s, hsm, hlen, hsc, rfl, hQ, hb⟩
  clear hsm
  obtain ⟨f, s⟩ := s
  unfold smallC at hsc
  simp only at hsc
  have hB := Blk.made w1 24 #[.int .i64 f, .int .i64 s]
  replace hQ := own_hi (hQ.alloc (.cells #[.int .i64 f, .int .i64 s] 24)) (show w1.heap.size ≤ (w1.alloc (.cells #[.int .i64 f, .int .i64 s] 24)).heap.size by simp)
  replace hb := hb.alloc hb.size (.cells #[.int .i64 f, .int .i64 s] 24)
  go_wp2_with fail
  generalize w1.alloc _ = W at hB hb hQ ⊢
  refine (castLate_any _ _ _ _ hQ.sees (by omega) hQ.cap _ _).mono ?_
  rintro _ w2 ⟨A2, c2, rfl, hT, hb1⟩
  replace hQ := own_hi (hQ.below hb1) hb1.size
  replace hB := hB.below hb1 hB.lt
  replace hb := below_next hb hb1
  clear hb1
  have hT7 := castLate_le hts ⟨f, s⟩
  have c3 := hB.cell
  go_wp2_with fail
  clear c3
  refine (sCastLate_any _ _ _ _ hQ.sees (by omega) _ _).mono ?_
  rintro _ w3 ⟨A3, c3, rfl, hT3, hb1⟩
  replace hQ := own_hi (hQ.below hb1) hb1.size
  replace hT := own_hi (hT.below hb1) hb1.size
  replace hB := hB.below hb1 hB.lt
  replace hb := below_next hb hb1
  clear hb1
  obtain ⟨T, HT⟩ : ∃ T, T = castLate hts ⟨f, s⟩ := ⟨_, rfl⟩
  rw [← HT] at hT hT3 hT7 ⊢
  replace HT := Lib.hid HT
  go_wp2_with fail
  refine (sameInts_same _ _ _ _ _ _ hT.sees hT3.sees (by omega)).mono ?_
  rintro _ w4 ⟨rfl, hb1⟩
  clear hT3
  replace hQ := own_hi (hQ.below hb1) hb1.size
  replace hT := own_hi (hT.below hb1) hb1.size
  replace hB := hB.below hb1 hB.lt
  replace hb := below_next hb hb1
  clear hb1
  go_wp2_with fail
  refine (sHeatsValid_any _ _ _ _ hQ.sees (by omega)).mono ?_
  rintro _ w5 ⟨rfl, hb1⟩
  replace hQ := own_hi (hQ.below hb1) hb1.size
  replace hT := own_hi (hT.below hb1) hb1.size
  replace hB := hB.below hb1 hB.lt
  replace hb := below_next hb hb1
  clear hb1
  cases hok : heatsOk hts with
  | false =>
    have hT0 : T = [] := by rw [HT.out]; simp [castLate, hok]
    subst hT0
    go_wp2_with fail
    refine (alive_any _).mono ?_
    rintro _ w9 ⟨rfl, hb1⟩
    go_wp2_with fail
    go_ret
    exact ⟨rfl, below_next hb hb1⟩
  | true =>
  have c3 := hB.cell
  go_wp2_with fail
  clear c3
  refine (sCasterValid_any _ _ _).mono ?_
  rintro _ w6 ⟨rfl, hb1⟩
  replace hQ := own_hi (hQ.below hb1) hb1.size
  replace hT := own_hi (hT.below hb1) hb1.size
  replace hB := hB.below hb1 hB.lt
  replace hb := below_next hb hb1
  clear hb1
  cases hcs : casterOk ⟨f, s⟩ with
  | false =>
    have hT0 : T = [] := by rw [HT.out]; simp [castLate, hcs]
    subst hT0
    go_wp2_with fail
    refine (alive_any _).mono ?_
    rintro _ w9 ⟨rfl, hb1⟩
    go_wp2_with fail
    go_ret
    exact ⟨rfl, below_next hb hb1⟩
  | true =>
  have c3 := hB.cell
  go_wp2_with fail
  clear c3
  refine (castTimes_any _ _ _ _ hQ.sees (by omega) hQ.cap _ _).mono ?_
  rintro _ w7 ⟨A4, c4, rfl, hE, hb1⟩
  replace hQ := own_hi (hQ.below hb1) hb1.size
  replace hT := own_hi (hT.below hb1) hb1.size
  replace hB := hB.below hb1 hB.lt
  replace hb := below_next hb hb1
  clear hb1
  have hT1 := late_len hok hcs
  have hE1 := castTimes_len hok hcs
  have hT2 := late_end hok hcs
  have hE2 := times_end hok hcs
  have hT4 := castLate_ok hok hcs
  have hT5 := late_waits hok hcs
  rw [← HT.out] at hT1 hT2 hT4 hT5
  have hh6 := heats_len hok
  clear hok hcs
  generalize castTimes hts ⟨f, s⟩ = E at hE hE1 hE2 hT5 ⊢
  generalize castEnd hts ⟨f, s⟩ = x at hE2 hT2
  obtain ⟨g, rfl, -, -, hg, cg, -, -⟩ := hT.num_at hT2
  obtain ⟨g2, rfl, -, -, hg2, cg2, -, -⟩ := hE.num_at hE2
  clear hT2 hE2
  have hn1 : ((E.length : Int) != (hts.length : Int) + 1) = false := by rw [bne_eq_false_iff_eq]; omega
  have hn2 : ((T.length : Int) != (hts.length : Int) + 1) = false := by rw [bne_eq_false_iff_eq]; omega
  have hi1 : (hts.length : Int) < (E.length : Int) := by omega
  have hi2 : (hts.length : Int) < (T.length : Int) := by omega
  have hi3 : (0 : Int) ≤ (hts.length : Int) := by omega
  have hc1 := fun (w' : World) (h : Below w7.heap.size w7 w') => castOk_any A1 (some ⟨g, 0, none⟩) c1 c2 hts T w' (hQ.sees.next h) (by omega) (hT.sees.next h) (by omega) f s
  simp only [hT4] at hc1
  have hc2 := fun (w' : World) (h : Below w7.heap.size w7 w') => heatWaits_any A1 (some ⟨g, 0, none⟩) c1 c2 hts T w' (hQ.sees.next h) (by omega) (hT.sees.next h) (by omega) f s
  have hc3 := fun (w' : World) (h : Below w7.heap.size w7 w') => heatWaits_any A1 (some ⟨g2, 0, none⟩) c1 c4 hts E w' (hQ.sees.next h) (by omega) (hE.sees.next h) (by omega) f s
  have hge : decide (heatWaits hts ⟨f, s⟩ E ≤ heatWaits hts ⟨f, s⟩ T) = true := by simpa using hT5
  generalize heatWaits hts ⟨f, s⟩ E = p at hc3 hge
  generalize heatWaits hts ⟨f, s⟩ T = q at hc2 hge
  have Hc1 := Lib.hid hc1
  have Hc2 := Lib.hid hc2
  have Hc3 := Lib.hid hc3
  clear hc1 hc2 hc3 hT5 hT4 hT1 hE1
  have c3 := hB.cell
  have hBl := hB.lt
  go_wp2_with fail
  refine wp_region_quiet_lit (by kernel_rfl) (by kernel_rfl) ?_
  repeat (go_big_quiet_step (fail))
  refine wpQuiet_nil ?_
  intro _ hw'
  obtain ⟨nq, hw''⟩ := hw'
  subst hw''
  go_wp2_with fail
  have hb7 := below_drewN hb nq
  have hB7 := hB.drewN nq
  have hl7 : Below w7.heap.size w7 (w7.drewN nq) := below_drewN (Below.refl _ _) nq
  generalize w7.drewN nq = V at hb7 hB7 hl7 ⊢
  clear c3 hBl hB cg cg2
  have c3 := hB7.cell
  have hBl := hB7.lt
  have hV := later_cell V
  refine wp_region_later (by kernel_rfl) (by kernel_rfl) ?_
  repeat (go_big_quiet_step ((first | (go_at_call 34; exact Later.of _ (Hc1.out _ (below_next hl7 (Later.below _)))) | (go_at_call 40; with_reducible exact Later.of _ (Hc2.out _ (below_next hl7 (Later.below _)))) | (go_at_call 40; with_reducible exact Later.of _ (Hc3.out _ (below_next hl7 (Later.below _)))))))
  refine wpQuiet_nil ?_
  intro _ hw'
  obtain ⟨u, rfl⟩ := hw'
  have hu := u.below
  go_wp2_with fail
  go_ret
  exact ⟨rfl, below_next hb7 hu⟩
end Go.Proofs.YtdobfpdfbfaohaaDoor
