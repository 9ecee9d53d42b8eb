/-
  Contracts of CastTimes, CastEnd and CastLate in the program and in the reference.
-/
import Derived.Test.YtdobfpdfbfaohaaDoorCk
import Derived.Test.YtdobfpdfbfaohaaDoorApp
namespace Go.Proofs.YtdobfpdfbfaohaaDoor
open Go.RowKit
set_option linter.unusedVariables false
attribute [local go_sem high] run_maxI run_minI
theorem own_nil (w : World) (lo hi : Nat) (t : TypeId) (size : Nat) : Own w lo hi t size none 0 0 [] := ⟨World.ownsRow_nil _ _ _ _, fun g hg => by simp [Value.ownBlock] at hg⟩
theorem own_lo {w : World} {lo lo' hi : Nat} {t : TypeId} {size n c : Nat} {A : Option Addr} {xs : List Value} (h : Own w lo hi t size A n c xs) (hl : lo' ≤ lo) : Own w lo' hi t size A n c xs := ⟨own_base h.1 hl, h.2⟩
theorem own_hi {w : World} {lo hi hi' : Nat} {t : TypeId} {size n c : Nat} {A : Option Addr} {xs : List Value} (h : Own w lo hi t size A n c xs) (hl : hi ≤ hi') : Own w lo hi' t size A n c xs := ⟨h.1, fun g hg => Nat.lt_of_lt_of_le (h.2 g hg) hl⟩
theorem own_made (w : World) (t : TypeId) (size : Nat) : Own (w.alloc (.cells #[] t)) w.heap.size (w.heap.size + 1) t size (some ⟨w.heap.size, 0, none⟩) 0 0 [] :=
  Own.mk_ (Nat.le_refl _) (by omega) (Nat.le_refl _) (Nat.zero_le _) (Blk.made _ _ _) (by simp) (by simp)
theorem Own.alloc {w : World} {lo hi : Nat} {t : TypeId} {size n c : Nat} {A : Option Addr} {xs : List Value} (h : Own w lo hi t size A n c xs) (o : Obj) : Own (w.alloc o) lo hi t size A n c xs := h.below ((Below.refl _ _).alloc (Nat.le_refl _) _)
/-- A slice of one number, just made. -/
theorem sees_one (w : World) (t : TypeId) (v : Int) : Sees (w.alloc (.cells #[.int .i64 v] t)) (w.heap.size + 1) (some ⟨w.heap.size, 0, none⟩) (ints [v]) := by
  refine .inr ⟨w.heap.size, 0, rfl, by omega, fun j u hu => ?_⟩
  rw [(Blk.made w t #[.int .i64 v]).cell]
  cases j with
  | zero => simpa [ints] using hu
  | succ j => simp [ints] at hu
theorem ret_slice {A : Option Addr} {n m c : Nat} (h : n = m) : Ending.returned (.slice A n c) = .returned (.slice A m c) := by rw [h]
theorem heats_mem {h : List Heat} (hk : heatsOk h = true) : ∀ a ∈ h, a.r ≤ 999 := by
  intro a ha
  obtain ⟨k, hk'⟩ := List.getElem?_of_mem ha
  have := heat_bounds hk hk'
  omega
theorem castTimes_len {h : List Heat} {c : Caster} (h1 : heatsOk h = true) (h2 : casterOk c = true) : (castTimes h c).length = h.length + 1 := by
  simp [castTimes, h1, h2, timesFrom_length]
theorem castTimes_eq {h : List Heat} {c : Caster} (h1 : heatsOk h = true) (h2 : casterOk c = true) : castTimes h c = timesFrom c 0 h := by
  simp [castTimes, h1, h2]
theorem castTimes_le (h : List Heat) (c : Caster) : (castTimes h c).length ≤ 7 := by
  unfold castTimes
  split
  · rename_i hq
    simp only [Bool.and_eq_true] at hq
    have := heats_len hq.1
    rw [timesFrom_length]; omega
  · simp
/-- What a call hands back: a slice in memory of its own. -/
def RetRow (w : World) (t : TypeId) (n : Nat) (l : List Int) (e : Ending) (w' : World) : Prop :=
  ∃ A c, e = .returned (.slice A n c) ∧ Own w' w.heap.size w'.heap.size t 1 A n c (ints l) ∧ Below w.heap.size w w'
set_option maxHeartbeats 1000000 in
theorem l2Need_any (A : Option Addr) (c : Nat) (h : List Heat) (w : World) (hs : Sees w w.heap.size A (ints (flatH h))) (hok : heatsOk h = true) (f s : Int) (hs0 : 0 ≤ s) (hs1 : s ≤ 99) (k : Nat) (hk : k ≤ h.length) :
    Calls Tryd.prog 58 #[.slice A h.length c, .agg #[.int .i64 f, .int .i64 s], .int .i64 k] w fun e w' => e = .returned (.int .i64 (needF s 0 0 (h.drop k))) ∧ Below w.heap.size w w' := by
  have hh6 := heats_len hok
  have Hok := Lib.hid hok
  clear hok
  go_enter Tryd.func58, Tryd.ntmps58
  have hbW : Below w.heap.size w (w.alloc (.cells #[.int .i64 f, .int .i64 s] 24)) := (Below.refl _ _).alloc (Nat.le_refl _) _
  have hB0 := Blk.made w 24 #[.int .i64 f, .int .i64 s]
  go_wp2_with fail
  generalize w.alloc _ = W at hbW hB0 ⊢
  replace hs := hs.next hbW
  go_loopw [7, 8] (fun u i wr => ∃ j : Nat, ∃ v : Int, k ≤ j ∧ j ≤ h.length ∧ i = .int .i64 j ∧ u = .int .i64 v ∧ v = needF s 0 0 ((h.drop k).take (j - k)) ∧ 0 ≤ v ∧ v ≤ 999 ∧ Below W.heap.size W wr) (fun _ i _ => h.length - (intOf i).toNat)
  case atStart => exact ⟨k, 0, by omega, by omega, rfl, rfl, by simp [needF], by omega, by omega, Below.refl _ _⟩
  case round =>
    obtain ⟨j, v, hkj, hj, rfl, rfl, hv, hv0, hv1, hb⟩ := hrel
    have Hv := Lib.hid hv
    clear hv
    have hB := hB0.below hb hB0.lt
    have cB := hB.cell
    by_cases hlt : j < h.length
    · obtain ⟨b, off, a1, a2, a3, rfl, hbB, hl, c0, c1, c2⟩ := (hs.below hb).heat_at hlt
      have hab := heat_bounds Hok.out hl
      simp only at hab
      have hr1 : 0 ≤ a3 := by omega
      have hr2 : a3 ≤ 999 := by omega
      clear hab
      have hld : (h.drop k)[j - k]? = some ⟨a1, a2, a3⟩ := by rw [List.getElem?_drop, show k + (j - k) = j from by omega]; exact hl
      have Hl := Lib.hid hld
      clear hl hld
      have hd0 : 0 ≤ (j : Int) - k := by omega
      have hms0 : 0 ≤ ((j : Int) - k) * s := Int.mul_nonneg hd0 hs0
      have hms1 : ((j : Int) - k) * s ≤ 6 * 99 := Int.mul_le_mul (by omega) hs1 hs0 (by omega)
      have hwr1 : IntKind.i64.wrap ((j : Int) - k) = (j : Int) - k := wrap_in (by omega) (by omega)
      have hwr2 : IntKind.i64.wrap (((j : Int) - k) * s) = ((j : Int) - k) * s := wrap_in (by omega) (by omega)
      have hwr3 : IntKind.i64.wrap (a3 - ((j : Int) - k) * s) = a3 - ((j : Int) - k) * s := wrap_in (by omega) (by omega)
      go_wp2_with fail
      go_quiet (fail)
      clear hwr1 hwr2 hwr3
      go_wp2_with fail
      go_roundw
      case rel =>
        refine ⟨j + 1, _, by omega, by omega, by go_num, rfl, ?_, ?_, ?_, below_drewN hb _⟩
        · rw [show j + 1 - k = (j - k) + 1 from by omega, needF_take _ _ _ _ _ Hl.out, ← Hv.out, show ((j - k : Nat) : Int) = (j : Int) - k from by omega]
        · rw [maxI_eq]; omega
        · rw [maxI_eq]; omega
      case measure => simp [intOf]; omega
    · go_wp2_with fail
      go_ret
      have e : j = h.length := by omega
      have hz := Hv.out
      rw [e, List.take_of_length_le (by simp)] at hz
      exact ⟨ret_int hz, below_next hbW hb⟩
set_option maxHeartbeats 2000000 in
theorem sCastTimes_any (A : Option Addr) (c : Nat) (h : List Heat) (w : World) (hs : Sees w w.heap.size A (ints (flatH h))) (hn : h.length ≤ 1048576) (f s : Int) :
    Calls Tryd.prog 33 #[.slice A h.length c, .agg #[.int .i64 f, .int .i64 s]] w (RetRow w 3 (castTimes h ⟨f, s⟩).length (castTimes h ⟨f, s⟩)) := by
  obtain ⟨i0, hi, hz0, hz1, hz2⟩ := info_parts infoInt
  go_enter Tryd.func33, Tryd.ntmps33
  have hbW : Below w.heap.size w (w.alloc (.cells #[.int .i64 f, .int .i64 s] 24)) := (Below.refl _ _).alloc (Nat.le_refl _) _
  have hB0 := Blk.made w 24 #[.int .i64 f, .int .i64 s]
  have hW1 : w.heap.size + 1 = (w.alloc (.cells #[.int .i64 f, .int .i64 s] 24)).heap.size := by simp
  have HW1 := Lib.hid hW1
  clear hW1
  go_wp2_with fail
  generalize w.alloc _ = W at hbW hB0 HW1 ⊢
  have hO := own_made W 3 1
  have hbV : Below W.heap.size W (W.alloc (.cells #[] 3)) := (Below.refl _ _).alloc (Nat.le_refl _) _
  rw [HW1.out]
  have hw0 : W.heap.size + 1 ≤ (W.alloc (.cells #[] 3)).heap.size := by simp
  generalize W.alloc _ = w0 at hbV hO hw0 ⊢
  replace hO := own_hi hO hw0
  clear hw0
  replace hs := hs.next hbW
  refine (sHeatsValid_any _ _ _ _ (hs.next hbV) hn).mono ?_
  rintro _ w1 ⟨rfl, hb⟩
  replace hO := hO.below hb
  have hOs := hb.size
  replace hbV := below_next hbV hb
  clear hb
  have hB1 := hB0.below hbV hB0.lt
  cases hok : heatsOk h with
  | false =>
    go_wp2_with fail
    go_ret
    exact ⟨some ⟨W.heap.size, 0, none⟩, 0, ret_slice (by simp [castTimes, hok]), by simpa [castTimes, hok, ints] using own_lo (own_hi hO hOs) hbW.size, below_next hbW hbV⟩
  | true =>
  have c0 := hB1.cell
  go_wp2_with fail
  clear c0 hB1
  refine (sCasterValid_any _ _ _).mono ?_
  rintro _ w2 ⟨rfl, hb⟩
  replace hO := hO.below hb
  have hOs2 := hb.size
  replace hbV := below_next hbV hb
  clear hb
  cases hcs : casterOk ⟨f, s⟩ with
  | false =>
    go_wp2_with fail
    go_ret
    exact ⟨some ⟨W.heap.size, 0, none⟩, 0, ret_slice (by simp [castTimes, hcs]), by simpa [castTimes, hcs, ints] using own_lo (own_hi hO (Nat.le_trans hOs hOs2)) hbW.size, below_next hbW hbV⟩
  | true =>
  have hcb := caster_bounds hcs
  simp only at hcb
  obtain ⟨hf1, hf2, hf3⟩ := hcb
  have hh6 := heats_len hok
  have Hlen := Lib.hid (castTimes_len hok hcs)
  have Heq := Lib.hid (castTimes_eq hok hcs)
  have Hok := Lib.hid hok
  clear hok hcs
  go_wp2_with fail
  go_loopw [5, 6, 7] (fun v u i wr => ∃ k : Nat, ∃ nx : Int, ∃ acc : List Int, ∃ (Ao : Option Addr) (co : Nat), k ≤ h.length ∧ i = .int .i64 k ∧ u = .int .i64 nx ∧ v = .slice Ao k co ∧ Own wr W.heap.size wr.heap.size 3 1 Ao k co (ints acc) ∧ acc ++ timesFrom ⟨f, s⟩ nx (h.drop k) = timesFrom ⟨f, s⟩ 0 h ∧ 0 ≤ nx ∧ nx ≤ 999 + 99 * (k : Int) ∧ Below W.heap.size W wr) (fun _ _ i _ => h.length - (intOf i).toNat)
  case atStart => exact ⟨0, 0, [], _, _, Nat.zero_le _, rfl, rfl, rfl, own_hi hO (Nat.le_trans hOs hOs2), by simp, by omega, by omega, hbV⟩
  case round =>
    obtain ⟨k, nx, acc, Ao, co, hk, rfl, rfl, rfl, hO, hacc, hn0, hn1, hb⟩ := hrel
    have Hacc := Lib.hid hacc
    clear hacc
    have hB := hB0.below hb hB0.lt
    have cB := hB.cell
    by_cases hlt : k < h.length
    · go_wp2_with fail
      refine (l2Need_any _ _ _ _ (hs.next hb) Hok.out _ _ (by omega) (by omega) _ (by omega)).mono ?_
      rintro _ wx ⟨rfl, hb1⟩
      replace hO := hO.below hb1
      have hz := hb1.size
      replace hb := below_next hb hb1
      clear hb1 cB hB
      have hB := hB0.below hb hB0.lt
      have cB := hB.cell
      have hgB := hB.lt
      have hq := needF_zero s nx (h.drop k) hn0
      have hge := needF_ge s (h.drop k) nx 0
      have hle := needF_le s (by omega) (h.drop k) (fun a ha => heats_mem Hok.out a (List.mem_of_mem_drop ha)) nx 0 (999 + 99 * (k : Int)) (by omega) (by omega) (by omega)
      have Hq := Lib.hid hq
      clear hq
      rw [← Hq.out] at hge hle
      have Ht := Lib.hid (timesFrom_drop ⟨f, s⟩ h k nx hlt)
      have h0 : 0 ≤ maxI nx (needF s 0 0 (h.drop k)) := by omega
      go_wp2_with (at_builtin; refine wpList_app _ rfl (.tmp 30) (.tmp 32) _ rfl 3 i0 _ 1 8 Tryd.underlying39 hi hz0 hz1 hz2 rfl (by omega) rfl (hO.alloc _) rfl (sees_one _ _ _) (by simp [ints]) (one_ints _) (by omega) (by omega) (by have := hb.size; simp; omega) ?_; intro A2 c2 w2' hO2 hon; have hb2 := below_only (hb.alloc hb.size _) hon (Nat.le_refl _) (Nat.le_refl _); have cB2 := (hB0.below hb2 hB0.lt).cell)
      go_roundw
      case rel =>
        refine ⟨k + 1, maxI nx (needF s 0 0 (h.drop k)) + f, acc ++ [maxI nx (needF s 0 0 (h.drop k))], A2, c2, by omega, by go_num, rfl, rfl, ?_, ?_, by omega, by omega, hb2⟩
        · rw [ints_append]; exact hO2
        · rw [List.append_assoc, ← Hacc.out, Ht.out, Hq.out]; rfl
      case measure => simp [intOf]; omega
    · go_wp2_with (at_builtin; refine wpList_app _ rfl (.tmp 38) (.tmp 40) _ rfl 3 i0 _ 1 8 Tryd.underlying39 hi hz0 hz1 hz2 rfl (by omega) rfl (hO.alloc _) rfl (sees_one _ _ _) (by simp [ints]) (one_ints _) (by omega) (by omega) (by have := hb.size; simp; omega) ?_; intro A2 c2 w2' hO2 hon)
      go_ret
      have hb2 := below_only (hb.alloc hb.size _) hon (Nat.le_refl _) (Nat.le_refl _)
      have e : k = h.length := by omega
      have ha := Hacc.out
      rw [e, List.drop_length] at ha
      rw [Hlen.out, Heq.out, ← ha]
      rw [e] at hO2
      refine ⟨A2, c2, ret_slice (by rw [e]), ?_, below_next hbW hb2⟩
      have := own_lo hO2 hbW.size
      rwa [← ints_append] at this
theorem toNat_succ (n : Nat) : ((n : Int) + 1).toNat = n + 1 := by omega
set_option maxHeartbeats 2000000 in
theorem castTimes_any (A : Option Addr) (c : Nat) (h : List Heat) (w : World) (hs : Sees w w.heap.size A (ints (flatH h))) (hn : h.length ≤ 1048576) (hcap : h.length ≤ c) (f s : Int) :
    Calls Tryd.prog 31 #[.slice A h.length c, .agg #[.int .i64 f, .int .i64 s]] w (RetRow w 3 (castTimes h ⟨f, s⟩).length (castTimes h ⟨f, s⟩)) := by
  obtain ⟨i0, hi, hz0, hz1, hz2⟩ := info_parts infoInt
  have hmk := fun W => run_make (P := Tryd.prog) W 39 3 i0 _ Tryd.underlying39 hi hz0 .i64 .i64 0 ((h.length : Int) + 1) (by omega) (by omega) (by rw [hz2]; omega) (by omega)
  simp only [Int.toNat_zero, toNat_succ, hz1] at hmk
  go_enter Tryd.func31, Tryd.ntmps31
  have hbW : Below w.heap.size w (w.alloc (.cells #[.int .i64 f, .int .i64 s] 24)) := (Below.refl _ _).alloc (Nat.le_refl _) _
  have hB0 := Blk.made w 24 #[.int .i64 f, .int .i64 s]
  go_wp2_with fail
  generalize w.alloc _ = W at hbW hB0 ⊢
  replace hs := hs.next hbW
  have hbV : Below W.heap.size W W := Below.refl _ _
  refine (heatsValid_any _ _ _ _ (hs.next hbV) hn).mono ?_
  rintro _ w1 ⟨rfl, hb⟩
  replace hbV := below_next hbV hb
  clear hb
  have hB1 := hB0.below hbV hB0.lt
  cases hok : heatsOk h with
  | false =>
    go_wp2_with fail
    go_ret
    exact ⟨none, 0, ret_slice (by simp [castTimes, hok]), by simpa [castTimes, hok, ints] using own_nil _ _ _ _ _, below_next hbW hbV⟩
  | true =>
  have c0 := hB1.cell
  go_wp2_with fail
  clear c0 hB1
  refine (casterValid_any _ _ _).mono ?_
  rintro _ w2 ⟨rfl, hb⟩
  replace hbV := below_next hbV hb
  clear hb
  cases hcs : casterOk ⟨f, s⟩ with
  | false =>
    go_wp2_with fail
    go_ret
    exact ⟨none, 0, ret_slice (by simp [castTimes, hcs]), by simpa [castTimes, hcs, ints] using own_nil _ _ _ _ _, below_next hbW hbV⟩
  | true =>
  have hcb := caster_bounds hcs
  simp only at hcb
  obtain ⟨hf1, hf2, hf3⟩ := hcb
  have hh6 := heats_len hok
  have Hlen := Lib.hid (castTimes_len hok hcs)
  have Heq := Lib.hid (castTimes_eq hok hcs)
  have Hok := Lib.hid hok
  clear hok hcs
  go_wp2_with fail
  clear hmk
  go_loopw [5, 6, 25] (fun v u i wr => ∃ k : Nat, ∃ nx : Int, ∃ acc : List Int, ∃ (Ao : Option Addr) (co : Nat), k ≤ h.length ∧ i = .int .i64 k ∧ u = .int .i64 nx ∧ v = .slice Ao k co ∧ Own wr W.heap.size wr.heap.size 3 1 Ao k co (ints acc) ∧ acc ++ timesFrom ⟨f, s⟩ nx (h.drop k) = timesFrom ⟨f, s⟩ 0 h ∧ 0 ≤ nx ∧ nx ≤ 999 + 99 * (k : Int) ∧ Below W.heap.size W wr) (fun _ _ i _ => h.length - (intOf i).toNat)
  case atStart => exact ⟨0, 0, [], _, _, Nat.zero_le _, rfl, rfl, rfl, Own.mk_ hbV.size (by simp) (Nat.zero_le _) (by unfold maxLen; omega) (Blk.made _ _ _) ((size_madeCells _ _).trans (by omega)) (by simp [ints]), by simp, by omega, by omega, hbV.alloc hbV.size _⟩
  case round =>
    obtain ⟨k, nx, acc, Ao, co, hk, rfl, rfl, rfl, hO, hacc, hn0, hn1, hb⟩ := hrel
    have Hacc := Lib.hid hacc
    clear hacc
    obtain ⟨wo, rfl⟩ : ∃ wo : World, wo = wr := ⟨_, rfl⟩
    have hB := hB0.below hb hB0.lt
    have hgB := hB.lt
    by_cases hlt : k < h.length
    · obtain ⟨b, off, _, _, _, hA, hbB, _, _, _, _⟩ := (hs.below hb).heat_at hlt
      subst hA
      have hkc : (k : Int) ≤ h.length := by omega
      have hkc2 : (h.length : Int) ≤ c := by omega
      have Ht := Lib.hid (timesFrom_drop ⟨f, s⟩ h k nx hlt)
      go_wp2_with fail
      go_loopw [8, 33] (fun u i wi => ∃ j : Nat, ∃ v : Int, j ≤ h.length - k ∧ i = .int .i64 j ∧ u = .int .i64 v ∧ v = needF s nx 0 ((h.drop k).take j) ∧ nx ≤ v ∧ v ≤ 999 + 99 * (k : Int) ∧ Below wo.heap.size wo wi) (fun _ i _ => (h.length - k) - (intOf i).toNat)
      case atStart => exact ⟨0, nx, Nat.zero_le _, rfl, rfl, by simp [needF], by omega, by omega, Below.refl _ _⟩
      case round =>
        obtain ⟨j, v, hj, rfl, rfl, hv, hv0, hv1, hbi⟩ := hrel
        have Hv := Lib.hid hv
        clear hv
        have hbx := below_next hb hbi
        have hBx := hB0.below hbx hB0.lt
        have cB := hBx.cell
        have hgBx := hBx.lt
        have hw1 : b < wr.heap.size := by have := hbx.size; omega
        by_cases hjl : j < h.length - k
        · obtain ⟨b2, off2, a1, a2, a3, hA, hbB2, hl, c0, c1, c2⟩ := (hs.below hbx).heat_at (k := k + j) (by omega)
          injection hA with hA
          injection hA with e1 e2
          subst e1; subst e2
          have hab := heat_bounds Hok.out hl
          simp only at hab
          have hr1 : 0 ≤ a3 := by omega
          have hr2 : a3 ≤ 999 := by omega
          clear hab
          have hld : (h.drop k)[j]? = some ⟨a1, a2, a3⟩ := by rw [List.getElem?_drop]; exact hl
          have Hl := Lib.hid hld
          clear hl hld
          rw [show off + (k + j) * 3 = off + k * 3 + j * 3 from by omega] at c0 c1 c2
          have hms0 : 0 ≤ (j : Int) * s := Int.mul_nonneg (by omega) (by omega)
          have hms1 : (j : Int) * s ≤ 6 * 99 := Int.mul_le_mul (by omega) hf3 (by omega) (by omega)
          go_wp2_with fail
          go_roundw
          case rel =>
            refine ⟨j + 1, maxI v (a3 - (j : Int) * s), by omega, by go_num, rfl, ?_, ?_, ?_, hbi.alloc hbi.size _⟩
            · rw [needF_take _ _ _ _ _ Hl.out, ← Hv.out]
            · rw [maxI_eq]; omega
            · rw [maxI_eq]; omega
          case measure => simp [intOf]; omega
        · have e : j = h.length - k := by omega
          have hz := Hv.out
          rw [e, List.take_of_length_le (by simp)] at hz
          have Hz := Lib.hid hz
          clear hz e
          replace hO := hO.below hbi
          have hzi := hbi.size
          go_wp2_with (at_builtin; refine wpList_app _ rfl (.tmp 48) (.tmp 50) _ rfl 3 i0 _ 1 8 Tryd.underlying39 hi hz0 hz1 hz2 rfl (by omega) rfl (hO.alloc _) rfl (sees_one _ _ _) (by simp [ints]) (one_ints _) (by omega) (by omega) (by have := hbx.size; simp; omega) ?_; intro A2 c2 w2' hO2 hon; have hb2 := below_only (hbx.alloc hbx.size _) hon (Nat.le_refl _) (Nat.le_refl _); have cB2 := (hB0.below hb2 hB0.lt).cell)
          go_roundw
          case rel =>
            refine ⟨k + 1, v + f, acc ++ [v], A2, c2, by omega, by go_num, rfl, rfl, ?_, ?_, by omega, by omega, hb2⟩
            · rw [ints_append]; exact hO2
            · rw [List.append_assoc, ← Hacc.out, Ht.out, ← Hz.out]; rfl
          case measure => simp [intOf]; omega
    · go_wp2_with (at_builtin; refine wpList_app _ rfl (.tmp 57) (.tmp 59) _ rfl 3 i0 _ 1 8 Tryd.underlying39 hi hz0 hz1 hz2 rfl (by omega) rfl (hO.alloc _) rfl (sees_one _ _ _) (by simp [ints]) (one_ints _) (by omega) (by omega) (by have := hb.size; simp; omega) ?_; intro A2 c2 w2' hO2 hon)
      go_ret
      have hb2 := below_only (hb.alloc hb.size _) hon (Nat.le_refl _) (Nat.le_refl _)
      have e : k = h.length := by omega
      have ha := Hacc.out
      rw [e, List.drop_length] at ha
      rw [Hlen.out, Heq.out, ← ha]
      rw [e] at hO2
      refine ⟨A2, c2, ret_slice (by rw [e]), ?_, below_next hbW hb2⟩
      have := own_lo hO2 hbW.size
      rwa [← ints_append] at this
theorem castEnd_any (A : Option Addr) (c : Nat) (h : List Heat) (w : World) (hs : Sees w w.heap.size A (ints (flatH h))) (hn : h.length ≤ 1048576) (hcap : h.length ≤ c) (f s : Int) :
    Calls Tryd.prog 28 #[.slice A h.length c, .agg #[.int .i64 f, .int .i64 s]] w fun e w' => e = .returned (.int .i64 (castEnd h ⟨f, s⟩)) ∧ Below w.heap.size w w' := by
  go_enter Tryd.func28, Tryd.ntmps28
  have hbW : Below w.heap.size w (w.alloc (.cells #[.int .i64 f, .int .i64 s] 24)) := (Below.refl _ _).alloc (Nat.le_refl _) _
  go_wp2_with fail
  generalize w.alloc _ = W at hbW ⊢
  refine (castTimes_any _ _ _ _ (hs.next hbW) hn hcap _ _).mono ?_
  rintro _ w1 ⟨A1, c1, rfl, hO, hb⟩
  have hend : castEnd h ⟨f, s⟩ = (castTimes h ⟨f, s⟩).getLastD (-1) := rfl
  have Hend := Lib.hid hend
  clear hend
  have hT7 := castTimes_le h ⟨f, s⟩
  generalize castTimes h ⟨f, s⟩ = T at hO Hend hT7 ⊢
  obtain ⟨m, hm⟩ : ∃ m, m = T.length := ⟨_, rfl⟩
  rw [← hm] at hO ⊢
  cases m with
  | zero =>
    obtain rfl := List.eq_nil_of_length_eq_zero hm.symm
    clear hm
    go_wp2_with fail
    go_ret
    exact ⟨ret_int Hend.out.symm, below_next hbW hb⟩
  | succ m =>
    obtain ⟨g, cs, rfl, h1, h2, hnc, hcm, hB, hsz, hx⟩ := hO.block (by omega)
    obtain ⟨b, off, x, hA, hbB, hl, c0⟩ := hO.sees.int_at (k := m) (by omega)
    have Hx := Lib.hid (getLastD_at T m (-1) x hm.symm hl)
    have hm1 : m ≤ 6 := by omega
    clear hT7
    have hne : (((m + 1 : Nat) : Int) == 0) = false := by rw [beq_eq_false_iff_ne]; omega
    clear hl hx hsz hm hB hO
    injection hA with hA
    injection hA with e1 e2
    subst e1; subst e2
    rw [Nat.zero_add] at c0
    go_wp2_with fail
    go_ret
    exact ⟨ret_int (by rw [Hend.out, Hx.out]), below_next hbW hb⟩
theorem sCastEnd_any (A : Option Addr) (c : Nat) (h : List Heat) (w : World) (hs : Sees w w.heap.size A (ints (flatH h))) (hn : h.length ≤ 1048576) (f s : Int) :
    Calls Tryd.prog 29 #[.slice A h.length c, .agg #[.int .i64 f, .int .i64 s]] w fun e w' => e = .returned (.int .i64 (castEnd h ⟨f, s⟩)) ∧ Below w.heap.size w w' := by
  go_enter Tryd.func29, Tryd.ntmps29
  have hbW : Below w.heap.size w (w.alloc (.cells #[.int .i64 f, .int .i64 s] 24)) := (Below.refl _ _).alloc (Nat.le_refl _) _
  go_wp2_with fail
  generalize w.alloc _ = W at hbW ⊢
  refine (sCastTimes_any _ _ _ _ (hs.next hbW) hn _ _).mono ?_
  rintro _ w1 ⟨A1, c1, rfl, hO, hb⟩
  have hend : castEnd h ⟨f, s⟩ = (castTimes h ⟨f, s⟩).getLastD (-1) := rfl
  have Hend := Lib.hid hend
  clear hend
  have hT7 := castTimes_le h ⟨f, s⟩
  generalize castTimes h ⟨f, s⟩ = T at hO Hend hT7 ⊢
  obtain ⟨m, hm⟩ : ∃ m, m = T.length := ⟨_, rfl⟩
  rw [← hm] at hO ⊢
  cases m with
  | zero =>
    obtain rfl := List.eq_nil_of_length_eq_zero hm.symm
    clear hm
    go_wp2_with fail
    go_ret
    exact ⟨ret_int Hend.out.symm, below_next hbW hb⟩
  | succ m =>
    obtain ⟨g, cs, rfl, h1, h2, hnc, hcm, hB, hsz, hx⟩ := hO.block (by omega)
    obtain ⟨b, off, x, hA, hbB, hl, c0⟩ := hO.sees.int_at (k := m) (by omega)
    have Hx := Lib.hid (getLastD_at T m (-1) x hm.symm hl)
    have hm1 : m ≤ 6 := by omega
    clear hT7
    have hne : (((m + 1 : Nat) : Int) == 0) = false := by rw [beq_eq_false_iff_ne]; omega
    clear hl hx hsz hm hB hO
    injection hA with hA
    injection hA with e1 e2
    subst e1; subst e2
    rw [Nat.zero_add] at c0
    go_wp2_with fail
    go_ret
    exact ⟨ret_int (by rw [Hend.out, Hx.out]), below_next hbW hb⟩
end Go.Proofs.YtdobfpdfbfaohaaDoor
