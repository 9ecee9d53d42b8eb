/-
  Contracts of CastLate in the program and in the reference.
-/
import Derived.Test.YtdobfpdfbfaohaaDoorCt
namespace Go.Proofs.YtdobfpdfbfaohaaDoor
open Go.RowKit
set_option linter.unusedVariables false
theorem lateFrom_ints (f e : Int) (n : Nat) {cs : Array Value} (hs : n + 1 ≤ cs.size) (h : ∀ j, j ≤ n → cs[j]? = some (.int .i64 (e - ((n : Int) - j) * f))) : cs.toList.take (n + 1) = ints (lateFrom f e n) := by
  refine take_of_all hs (by rw [ints_length, lateFrom_length]) fun j hj => ?_
  rw [h j (by omega), ints_get (lateFrom_at f e n j (by omega))]
theorem lateFrom_snoc (f e : Int) (n k : Nat) (hk : k ≤ n) : (lateFrom f e n).take (k + 1) = (lateFrom f e n).take k ++ [e - ((n : Int) - k) * f] := by
  have hl := lateFrom_length f e n
  rw [List.take_succ_eq_append_getElem (by omega)]
  congr 2
  have := lateFrom_at f e n k hk
  rw [List.getElem?_eq_getElem (by omega)] at this
  injection this
theorem castLate_le (h : List Heat) (c : Caster) : (castLate h c).length ≤ 7 := by
  unfold castLate
  split
  · rename_i hq
    simp only [Bool.and_eq_true] at hq
    have := heats_len hq.1
    rw [lateFrom_length]; omega
  · simp
set_option maxHeartbeats 2000000 in
theorem sCastLate_any (A : Option Addr) (c : Nat) (h : List Heat) (w : World) (hs : Sees w w.heap.size A (ints (flatH h))) (hn : h.length ≤ 1048576) (f s : Int) :
    Calls Tryd.prog 39 #[.slice A h.length c, .agg #[.int .i64 f, .int .i64 s]] w (RetRow w 3 (castLate h ⟨f, s⟩).length (castLate h ⟨f, s⟩)) := by
  obtain ⟨i0, hi, hz0, hz1, hz2⟩ := info_parts infoInt
  go_enter Tryd.func39, Tryd.ntmps39
  have hbW : Below w.heap.size w (w.alloc (.cells #[.int .i64 f, .int .i64 s] 24)) := (Below.refl _ _).alloc (Nat.le_refl _) _
  have hB0 := Blk.made w 24 #[.int .i64 f, .int .i64 s]
  have hW1 : w.heap.size + 1 = (w.alloc (.cells #[.int .i64 f, .int .i64 s] 24)).heap.size := by simp
  have HW1 := Lib.hid hW1
  clear hW1
  go_wp2_with fail
  generalize w.alloc _ = W at hbW hB0 HW1 ⊢
  have hO := own_made W 3 1
  have hbV : Below W.heap.size W (W.alloc (.cells #[] 3)) := (Below.refl _ _).alloc (Nat.le_refl _) _
  rw [HW1.out]
  have hw0 : W.heap.size + 1 ≤ (W.alloc (.cells #[] 3)).heap.size := by simp
  generalize W.alloc _ = w0 at hbV hO hw0 ⊢
  replace hO := own_hi hO hw0
  clear hw0
  replace hs := hs.next hbW
  refine (sCastEnd_any _ _ _ _ (hs.next hbV) hn _ _).mono ?_
  rintro _ w1 ⟨rfl, hb⟩
  replace hO := hO.below hb
  have hOs := hb.size
  replace hbV := below_next hbV hb
  clear hb
  cases hok : (heatsOk h && casterOk ⟨f, s⟩) with
  | false =>
    have hlate : castLate h ⟨f, s⟩ = [] := by simp [castLate, hok]
    rw [castEnd_bad hok]
    have Hlate := Lib.hid hlate
    clear hlate hok
    go_wp2_with fail
    go_loop [5, 7] (fun v i => v = .slice (some ⟨W.heap.size, 0, none⟩) 0 0 ∧ i = .int .i64 0) (fun _ _ => 0)
    case atStart => exact ⟨rfl, rfl⟩
    case round =>
      obtain ⟨rfl, rfl⟩ := hrel
      go_wp2_with fail
      go_ret
      rw [Hlate.out]
      exact ⟨some ⟨W.heap.size, 0, none⟩, 0, rfl, own_lo (own_hi hO hOs) hbW.size, below_next hbW hbV⟩
  | true =>
    have hlate : castLate h ⟨f, s⟩ = lateFrom f (castEnd h ⟨f, s⟩) h.length := by simp [castLate, hok]
    simp only [Bool.and_eq_true] at hok
    obtain ⟨hok1, hok2⟩ := hok
    obtain ⟨he0, he1⟩ := castEnd_bounds hok1 hok2
    have hcb := caster_bounds hok2
    simp only at hcb
    obtain ⟨hf1, hf2, hf3⟩ := hcb
    have hh6 := heats_len hok1
    have Hlate := Lib.hid hlate
    clear hlate hok1 hok2
    generalize castEnd h ⟨f, s⟩ = e at he0 he1 Hlate ⊢
    go_wp2_with fail
    go_loopw [5, 7] (fun v i wr => ∃ k : Nat, ∃ (Ao : Option Addr) (co : Nat), k ≤ h.length + 1 ∧ i = .int .i64 k ∧ v = .slice Ao k co ∧ Own wr W.heap.size wr.heap.size 3 1 Ao k co (ints ((lateFrom f e h.length).take k)) ∧ Below W.heap.size W wr) (fun _ i _ => h.length + 1 - (intOf i).toNat)
    case atStart => exact ⟨0, _, _, Nat.zero_le _, rfl, rfl, own_hi hO hOs, hbV⟩
    case round =>
      obtain ⟨k, Ao, co, hk, rfl, rfl, hO, hb⟩ := hrel
      have hB := hB0.below hb hB0.lt
      have cB := hB.cell
      by_cases hlt : k ≤ h.length
      · have hd0 : 0 ≤ (h.length : Int) - k := by omega
        have hms0 : 0 ≤ ((h.length : Int) - k) * f := Int.mul_nonneg hd0 (by omega)
        have hms1 : ((h.length : Int) - k) * f ≤ 6 * 99 := Int.mul_le_mul (by omega) (by omega) (by omega) (by omega)
        have hsn := lateFrom_snoc f e h.length k hlt
        have Hsn := Lib.hid hsn
        clear hsn
        go_wp2_with (at_builtin; refine wpList_app _ rfl (.tmp 22) (.tmp 32) _ rfl 3 i0 _ 1 8 Tryd.underlying39 hi hz0 hz1 hz2 rfl (by omega) rfl (hO.alloc _) rfl (sees_one _ _ _) (by simp [ints]) (one_ints _) (by omega) (by omega) (by have := hb.size; simp; omega) ?_; intro A2 c2 w2' hO2 hon; have hb2 := below_only (hb.alloc hb.size _) hon (Nat.le_refl _) (Nat.le_refl _))
        go_roundw
        case rel => exact ⟨k + 1, A2, c2, by omega, by go_num, rfl, by rw [Hsn.out, ints_append]; exact hO2, hb2⟩
        case measure => simp [intOf]; omega
      · go_wp2_with fail
        go_ret
        have e : k = h.length + 1 := by omega
        rw [Hlate.out, lateFrom_length]
        rw [e, List.take_of_length_le (by rw [lateFrom_length]; omega)] at hO
        exact ⟨Ao, co, ret_slice (by rw [e]), own_lo hO hbW.size, below_next hbW hb⟩
set_option maxHeartbeats 2000000 in
theorem castLate_any (A : Option Addr) (c : Nat) (h : List Heat) (w : World) (hs : Sees w w.heap.size A (ints (flatH h))) (hn : h.length ≤ 1048576) (hcap : h.length ≤ c) (f s : Int) :
    Calls Tryd.prog 38 #[.slice A h.length c, .agg #[.int .i64 f, .int .i64 s]] w (RetRow w 3 (castLate h ⟨f, s⟩).length (castLate h ⟨f, s⟩)) := by
  go_enter Tryd.func38, Tryd.ntmps38
  have hbW : Below w.heap.size w (w.alloc (.cells #[.int .i64 f, .int .i64 s] 24)) := (Below.refl _ _).alloc (Nat.le_refl _) _
  have hB0 := Blk.made w 24 #[.int .i64 f, .int .i64 s]
  go_wp2_with fail
  generalize w.alloc _ = W at hbW hB0 ⊢
  refine (castTimes_any _ _ _ _ (hs.next hbW) hn hcap _ _).mono ?_
  rintro _ w1 ⟨A1, c1, rfl, hO, hb⟩
  have hB1 := hB0.below hb hB0.lt
  have hltB := hB0.lt
  cases hok : (heatsOk h && casterOk ⟨f, s⟩) with
  | false =>
    have hlate : castLate h ⟨f, s⟩ = [] := by simp [castLate, hok]
    have htimes : castTimes h ⟨f, s⟩ = [] := by simp [castTimes, hok]
    rw [htimes] at hO ⊢
    have Hlate := Lib.hid hlate
    clear hlate hok htimes
    go_wp2_with fail
    go_loop [6] (fun i => i = .int .i64 (-2)) (fun _ => 0)
    case atStart => exact rfl
    case round =>
      obtain rfl := hrel
      go_wp2_with fail
      go_ret
      rw [Hlate.out]
      exact ⟨A1, c1, rfl, own_lo hO hbW.size, below_next hbW hb⟩
  | true =>
    have hlate : castLate h ⟨f, s⟩ = lateFrom f (castEnd h ⟨f, s⟩) h.length := by simp [castLate, hok]
    simp only [Bool.and_eq_true] at hok
    obtain ⟨hok1, hok2⟩ := hok
    obtain ⟨he0, he1⟩ := castEnd_bounds hok1 hok2
    have hcb := caster_bounds hok2
    simp only at hcb
    obtain ⟨hf1, hf2, hf3⟩ := hcb
    have hh6 := heats_len hok1
    have hTl := castTimes_len hok1 hok2
    have Hlate := Lib.hid hlate
    clear hlate hok1 hok2
    have hend : castEnd h ⟨f, s⟩ = (castTimes h ⟨f, s⟩).getLastD (-1) := rfl
    rw [hTl] at hO ⊢
    obtain ⟨g, cs0, rfl, h1, h2, hnc, hcm, hB, hsz, hx⟩ := hO.block (by omega)
    rw [Nat.mul_one] at hx hsz
    have hcs0 : cs0[h.length]? = some (.int .i64 (castEnd h ⟨f, s⟩)) := by
      have hx' := List.getElem?_eq_getElem (l := castTimes h ⟨f, s⟩) (i := h.length) (by omega)
      rw [hend, getLastD_at _ h.length (-1) _ hTl hx', ← Array.getElem?_toList]
      have := congrArg (fun l => l[h.length]?) hx
      simp only [List.getElem?_take, if_pos (Nat.lt_succ_self h.length)] at this
      rw [this, ints_get hx']
    generalize castEnd h ⟨f, s⟩ = e at he0 he1 Hlate hcs0
    have Hsz := Lib.hid hsz
    clear hO hx hsz hend hTl
    go_wp2_with fail
    go_loopw [6] (fun i wr => ∃ k : Nat, ∃ cs : Array Value, k ≤ h.length ∧ i = .int .i64 ((k : Int) - 1) ∧ Blk wr g 3 cs ∧ cs.size = c1 ∧ (∀ j, k ≤ j → j ≤ h.length → cs[j]? = some (.int .i64 (e - ((h.length : Int) - j) * f))) ∧ Below W.heap.size W wr) (fun i _ => (intOf i + 1).toNat)
    case atStart =>
      refine ⟨h.length, cs0, Nat.le_refl _, int_eq (by omega), hB, Hsz.out, ?_, hb⟩
      intro j hj1 hj2
      have ej : j = h.length := by omega
      subst ej
      rw [hcs0, Int.sub_self, Int.zero_mul, Int.sub_zero]
    case round =>
      obtain ⟨k, cs, hk, rfl, hB, hsz, hcs, hb⟩ := hrel
      have Hsz := Lib.hid hsz
      have Hcs := Lib.hid hcs
      clear hsz hcs
      have hBc := hB0.below hb hB0.lt
      have cB := hBc.cell
      cases k with
      | zero =>
        go_wp2_with fail
        go_ret
        rw [Hlate.out, lateFrom_length]
        have ht := lateFrom_ints f e h.length (by rw [Hsz.out]; omega) (fun j hj => Hcs.out j (by omega) hj)
        exact ⟨some ⟨g, 0, none⟩, c1, rfl, own_lo (Own.mk_ h1 hB.lt hnc hcm hB (by rw [Hsz.out]; omega) (by rw [Nat.mul_one]; exact ht)) hbW.size, below_next hbW hb⟩
      | succ m =>
        rw [show ((m + 1 : Nat) : Int) - 1 = (m : Int) from by omega]
        have hd0 : 0 ≤ (h.length : Int) - ((m + 1 : Nat) : Int) := by omega
        have hms0 : 0 ≤ ((h.length : Int) - ((m + 1 : Nat) : Int)) * f := Int.mul_nonneg hd0 (by omega)
        have hms1 : ((h.length : Int) - ((m + 1 : Nat) : Int)) * f ≤ 6 * 99 := Int.mul_le_mul (by omega) (by omega) (by omega) (by omega)
        have hv := Hcs.out (m + 1) (Nat.le_refl _) (by omega)
        obtain ⟨v, hvv⟩ : ∃ v, v = e - ((h.length : Int) - ((m + 1 : Nat) : Int)) * f := ⟨_, rfl⟩
        rw [← hvv] at hv
        have hv0 : -1000 ≤ v := by omega
        have hv1 : v ≤ 2000 := by omega
        have hnew : v - f = e - ((h.length : Int) - (m : Int)) * f := by
          rw [hvv, show ((h.length : Int) - (m : Int)) = ((h.length : Int) - ((m + 1 : Nat) : Int)) + 1 from by omega, Int.add_mul, Int.one_mul]; omega
        have Hnew := Lib.hid hnew
        clear hnew hvv hms0 hms1 hd0
        have hc1 := hB.cell (m + 1)
        rw [hv] at hc1
        have hf := hB.frozen
        have hszO := Hsz.out
        obtain ⟨v0, e0⟩ := cell_is hB (i := m) (by omega)
        clear hszO
        have hlt1 : m + 1 < h.length + 1 := by omega
        have hidx : ((m : Int) + 1).toNat = m + 1 := by omega
        have hidx0 : (0 : Int) ≤ (m : Int) + 1 := by omega
        have hidx1 : (m : Int) + 1 < ((h.length + 1 : Nat) : Int) := by omega
        have hidx2 : (m : Int) < ((h.length + 1 : Nat) : Int) := by omega
        have hwr1 : IntKind.i64.wrap ((m : Int) + 1) = (m : Int) + 1 := wrap_in (by omega) (by omega)
        have hwr2 : IntKind.i64.wrap (v - f) = v - f := wrap_in (by omega) (by omega)
        go_wp2_with fail
        go_region
        clear hwr1 hwr2
        all_goals go_wp2_with fail
        go_roundw
        case rel =>
          refine ⟨m, cs.setIfInBounds m (.int .i64 (v - f)), by omega, int_eq (by omega), ?_, by simp [Hsz.out], ?_, ?_⟩
          · exact Blk.drew (hB.put _ _)
          · intro j hj1 hj2
            rw [Array.getElem?_setIfInBounds]
            have hszO := Hsz.out
            by_cases ej : m = j
            · subst ej
              rw [if_pos rfl, if_pos (by omega), Hnew.out]
            · rw [if_neg ej]
              exact Hcs.out j (by omega) hj2
          · exact (hb.setCell h1 _).drew
        case measure => simp [intOf] <;> omega
end Go.Proofs.YtdobfpdfbfaohaaDoor
