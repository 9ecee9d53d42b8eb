/-
  How the program and the reference read a number.
-/
import Derived.Test.YtlhjncefckidjaaDoorTx
namespace Go.Proofs.YtlhjncefckidjaaDoor
open Go.RowKit
set_option linter.unusedVariables false
def numB (s : ByteArray) : Bool := (rdNum s.data.toList).isSome
def numV (s : ByteArray) : Int := (rdNum s.data.toList).getD 0
theorem num_none {s : ByteArray} (h : rdNum s.data.toList = none) : numV s = 0 ∧ numB s = false := by simp [numV, numB, h]
theorem num_some {s : ByteArray} {n : Int} (h : rdNum s.data.toList = some n) : numV s = n ∧ numB s = true := by simp [numV, numB, h]
theorem ret_num {a b : Int} {c d : Bool} (h1 : a = b) (h2 : c = d) : Ending.returned (.tuple #[.int .i64 a, .bool c]) = .returned (.tuple #[.int .i64 b, .bool d]) := by rw [h1, h2]
theorem drop_at (s : ByteArray) (k : Nat) (h : k < s.size) : s.data.toList.drop k = s[k] :: s.data.toList.drop (k + 1) := by
  have h' : k < s.data.toList.length := by rw [← Lib.size_eq]; exact h
  rw [List.drop_eq_getElem_cons h']
  rfl
set_option maxRecDepth 20000 in
set_option maxHeartbeats 1000000 in
theorem readNumber_any (s : ByteArray) (hs : s.size ≤ 1048576) (w : World) : Calls Tryd.prog 59 #[.string s, .int .i64 999] w fun e w' => e = .returned (.tuple #[.int .i64 (numV s), .bool (numB s)]) ∧ w = w' := by
  by_cases h0 : 0 < s.size
  case neg =>
    have hl : s.data.toList = [] := List.length_eq_zero_iff.1 (by rw [← Lib.size_eq]; omega)
    have h1 : s.toList = [] := by rw [Lib.toList_data, hl]
    have h2 : s.toList.isEmpty = true := by rw [h1]; rfl
    obtain ⟨q1, q2⟩ := num_none (s := s) (by rw [hl]; rfl)
    rw [q1, q2]
    clear q1 q2 hl
    go_enter Tryd.func59, Tryd.ntmps59
    go_wp2_with fail
    go_ret2
    exact ⟨rfl, rfl⟩
  have hd0 := drop_at s 0 h0
  rw [List.drop_zero] at hd0
  have hne : s.data.toList ≠ [] := by rw [hd0]; simp
  have h1 : ¬ s.toList = [] := by rw [Lib.toList_data]; exact hne
  have h2 : s.toList.isEmpty = false := by rw [List.isEmpty_eq_false_iff]; exact h1
  have hzl : zeroLed s.data.toList = (decide (s[0] = 48) && decide (1 < s.size)) := by
    rw [Lib.size_eq, zeroLed, hd0]
    simp
  have hb48 : (s[0] = 48) ↔ (s[0].toNat : Int) = 48 := by
    rw [← UInt8.toNat_inj]
    have h48 : (48 : UInt8).toNat = 48 := rfl
    omega
  have hem : s.data.toList.isEmpty = false := by rw [hd0]; rfl
  by_cases hz : zeroLed s.data.toList = true
  · obtain ⟨q1, q2⟩ := num_none (s := s) (by unfold rdNum; rw [hz]; simp)
    rw [q1, q2]
    rw [hzl] at hz
    simp only [Bool.and_eq_true, decide_eq_true_eq] at hz
    have hz1 := hb48.1 hz.1
    have hz2 : (1 : Int) < (s.size : Int) := by omega
    clear q1 q2 hd0 hne hzl hb48 hz hem
    go_enter Tryd.func59, Tryd.ntmps59
    go_wp2_with fail
    go_ret2
    exact ⟨rfl, rfl⟩
  · have hr : rdNum s.data.toList = numF s.data.toList 0 := by
      unfold rdNum
      rw [if_neg (by rw [hem, Bool.false_or]; exact hz)]
    have hzz : ¬ ((s[0].toNat : Int) = 48) ∨ (s.size : Int) ≤ 1 := by
      by_cases h : (s[0].toNat : Int) = 48
      · right
        rw [hzl] at hz
        simp only [Bool.and_eq_true, decide_eq_true_eq, not_and] at hz
        have := hz (hb48.2 h)
        omega
      · exact .inl h
    have Hr := Lib.hid hr
    clear hr hz hzl hb48 hem hd0 hne
    have key : ∀ (C : Prop), ((s[0].toNat : Int) = 48 → (s.size : Int) ≤ 1 → C) → (¬ (s[0].toNat : Int) = 48 → C) → C := fun C a b => by
      by_cases h : (s[0].toNat : Int) = 48
      · exact a h (by omega)
      · exact b h
    clear hzz
    refine key _ (fun hz1 hz2 => ?_) (fun hz1 => ?_)
    all_goals
      clear key
      go_enter Tryd.func59, Tryd.ntmps59
      go_wp2_with fail
      go_loop [6, 7] (fun nv iv => ∃ (k : Nat) (v : Int), k ≤ s.size ∧ iv = .int .i64 k ∧ nv = .int .i64 v ∧ 0 ≤ v ∧ v ≤ 999 ∧ numF (s.data.toList.drop k) v = numF s.data.toList 0) (fun _ iv => s.size - (intOf iv).toNat)
      case atStart => exact ⟨0, 0, Nat.zero_le _, rfl, rfl, by omega, by omega, by rw [List.drop_zero]⟩
      case round =>
        obtain ⟨k, v, hk, rfl, rfl, hv0, hv1, hN⟩ := hrel
        have HN := Lib.hid hN
        clear hN
        by_cases hlt : k < s.size
        · have hdk := drop_at s k hlt
          have Hdk := Lib.hid hdk
          clear hdk
          cases hdg : isDig s[k] with
          | false =>
            have hno : rdNum s.data.toList = none := by rw [Hr.out, ← HN.out, Hdk.out, numF, hdg]; rfl
            have Q := Lib.hid (num_none hno)
            have hdd : (s[k].toNat : Int) < 48 ∨ 57 < (s[k].toNat : Int) := by
              simp only [isDig, Bool.and_eq_false_iff, decide_eq_false_iff_not] at hdg
              omega
            clear hno hdg
            rcases hdd with hdd | hdd
            · go_wp2_with fail
              go_ret2
              exact ⟨ret_num Q.out.1.symm Q.out.2.symm, rfl⟩
            · go_wp2_with fail
              go_ret2
              exact ⟨ret_num Q.out.1.symm Q.out.2.symm, rfl⟩
          | true =>
            have hn1 : numF (s.data.toList.drop k) v = if 10 * v + ((s[k].toNat : Int) - 48) > 999 then none else numF (s.data.toList.drop (k + 1)) (10 * v + ((s[k].toNat : Int) - 48)) := by rw [Hdk.out, numF, hdg]; rfl
            have hdd : 48 ≤ (s[k].toNat : Int) ∧ (s[k].toNat : Int) ≤ 57 := by
              simp only [isDig, Bool.and_eq_true, decide_eq_true_eq] at hdg
              omega
            have Hn1 := Lib.hid hn1
            clear hn1 hdg
            by_cases hbig : 10 * v + ((s[k].toNat : Int) - 48) > 999
            · have hno : rdNum s.data.toList = none := by rw [Hr.out, ← HN.out, Hn1.out, if_pos hbig]
              have Q := Lib.hid (num_none hno)
              clear hno
              go_wp2_with fail
              go_ret2
              exact ⟨ret_num Q.out.1.symm Q.out.2.symm, rfl⟩
            · go_wp2_with fail
              go_round
              case rel => exact ⟨k + 1, 10 * v + ((s[k].toNat : Int) - 48), by omega, by go_num, by go_num, by omega, by omega, by rw [← HN.out, Hn1.out, if_neg hbig]⟩
              case measure => simp [intOf]; omega
        · go_wp2_with fail
          go_ret2
          have hkl : k = s.size := by omega
          have hN := HN.out
          rw [hkl, Lib.size_eq, List.drop_length, numF] at hN
          obtain ⟨q1, q2⟩ := num_some (s := s) (by rw [Hr.out, ← hN])
          exact ⟨ret_num q1.symm q2.symm, rfl⟩
theorem numS_take (l : List UInt8) : ∀ n : Int, numS l n = if l.all isDig then l.foldl (fun a x => 10 * a + digV x) n else -1 := by
  induction l with
  | nil => intro n; simp [numS]
  | cons x l ih =>
    intro n
    unfold numS
    cases hx : isDig x with
    | true => simp only [if_true, ih, List.all_cons, hx, Bool.true_and, List.foldl_cons]
    | false => simp [hx]
set_option maxRecDepth 20000 in
set_option maxHeartbeats 1000000 in
theorem l1Read_any (s : ByteArray) (hs : s.size ≤ 1048576) (w : World) : Calls Tryd.prog 61 #[.string s] w fun e w' => e = .returned (.int .i64 (rdOne s.data.toList)) ∧ w = w' := by
  have hle : s.data.toList.length = s.size := (Lib.size_eq s).symm
  by_cases hlen : 1 ≤ s.size ∧ s.size ≤ 4
  case neg =>
    have hin : inB (s.size : Int) 1 4 = false := by
      cases h : inB (s.size : Int) 1 4 with
      | false => rfl
      | true => rw [inB_iff] at h; omega
    have hr : rdOne s.data.toList = -1 := by
      unfold rdOne
      rw [hle]
      have : (decide (1 ≤ s.size) && decide (s.size ≤ 4)) = false := by
        cases h : (decide (1 ≤ s.size) && decide (s.size ≤ 4)) with
        | false => rfl
        | true => simp at h; omega
      rw [this]
      simp
    have Hr := Lib.hid hr
    clear hr hle
    go_enter Tryd.func61, Tryd.ntmps61
    go_wp2_with fail
    refine (l1In_any _ _ _ _).mono ?_
    rintro _ _ ⟨rfl, rfl⟩
    rw [hin]
    go_wp2_with fail
    go_ret
    exact ⟨ret_int Hr.out.symm, rfl⟩
  have hin : inB (s.size : Int) 1 4 = true := by rw [inB_iff]; omega
  have h0 : 0 < s.size := by omega
  have hd0 := drop_at s 0 h0
  rw [List.drop_zero] at hd0
  have hzl : zeroLed s.data.toList = (decide (s[0] = 48) && decide (1 < s.size)) := by
    rw [Lib.size_eq, zeroLed, hd0]
    simp
  have hb48 : (s[0] = 48) ↔ (s[0].toNat : Int) = 48 := by
    rw [← UInt8.toNat_inj]
    have h48 : (48 : UInt8).toNat = 48 := rfl
    omega
  have hgo : (decide (1 ≤ s.data.toList.length) && decide (s.data.toList.length ≤ 4)) = true := by rw [hle]; simp; omega
  by_cases hz : zeroLed s.data.toList = true
  · have hr : rdOne s.data.toList = -1 := by unfold rdOne; rw [hz]; simp
    have Hr := Lib.hid hr
    rw [hzl] at hz
    simp only [Bool.and_eq_true, decide_eq_true_eq] at hz
    have hz1 := hb48.1 hz.1
    have hz2 : (1 : Int) < (s.size : Int) := by omega
    clear hr hd0 hzl hb48 hz hgo hle
    go_enter Tryd.func61, Tryd.ntmps61
    go_wp2_with fail
    refine (l1In_any _ _ _ _).mono ?_
    rintro _ _ ⟨rfl, rfl⟩
    rw [hin]
    go_wp2_with fail
    go_ret
    exact ⟨ret_int Hr.out.symm, rfl⟩
  · have hr : rdOne s.data.toList = numS s.data.toList 0 := by
      unfold rdOne
      rw [hgo, if_neg (by simpa using hz)]
    have hzz : ¬ ((s[0].toNat : Int) = 48) ∨ (s.size : Int) ≤ 1 := by
      by_cases h : (s[0].toNat : Int) = 48
      · right
        rw [hzl] at hz
        simp only [Bool.and_eq_true, decide_eq_true_eq, not_and] at hz
        have := hz (hb48.2 h)
        omega
      · exact .inl h
    have Hr := Lib.hid hr
    clear hr hz hzl hb48 hd0 hgo hle
    have key : ∀ (C : Prop), ((s.size : Int) ≤ 1 → C) → (¬ (s[0].toNat : Int) = 48 → 1 < (s.size : Int) → ((s[0].toNat : Int) == 48) = false → C) → C := fun C a b => by
      by_cases h : (s.size : Int) ≤ 1
      · exact a h
      · exact b (by omega) (by omega) (by rw [beq_eq_false_iff_ne]; omega)
    clear hzz
    have hlt4 : s.size ≤ 4 := hlen.2
    clear hlen
    refine key _ (fun hz2 => ?_) (fun hz1 hz2 hbq => ?_)
    all_goals
      clear key
      go_enter Tryd.func61, Tryd.ntmps61
      go_wp2_with fail
      refine (l1In_any _ _ _ _).mono ?_
      rintro _ _ ⟨rfl, rfl⟩
      rw [hin]
      go_wp2_with fail
      go_loop [3, 4] (fun nv iv => ∃ (k : Nat) (v : Int), k ≤ s.size ∧ iv = .int .i64 k ∧ nv = .int .i64 v ∧ 0 ≤ v ∧ v ≤ 10000 ∧ (k = 0 → v = 0) ∧ (k = 1 → v ≤ 9) ∧ (k = 2 → v ≤ 99) ∧ (k = 3 → v ≤ 999) ∧ numS (s.data.toList.drop k) v = numS s.data.toList 0) (fun _ iv => s.size - (intOf iv).toNat)
      case atStart => exact ⟨0, 0, Nat.zero_le _, rfl, rfl, by omega, by omega, by omega, by omega, by omega, by omega, by rw [List.drop_zero]⟩
      case round =>
        obtain ⟨k, v, hk, rfl, rfl, hv0, hv1, hv2, hv3, hv4, hv5, hN⟩ := hrel
        have HN := Lib.hid hN
        have Hv := Lib.hid (⟨hv2, hv3, hv4, hv5⟩ : (k = 0 → v = 0) ∧ (k = 1 → v ≤ 9) ∧ (k = 2 → v ≤ 99) ∧ (k = 3 → v ≤ 999))
        clear hN hv2 hv3 hv4 hv5
        by_cases hlt : k < s.size
        · have hdk := drop_at s k hlt
          have Hdk := Lib.hid hdk
          clear hdk
          cases hdg : isDig s[k] with
          | false =>
            have hno : rdOne s.data.toList = -1 := by rw [Hr.out, ← HN.out, Hdk.out, numS, hdg]; rfl
            have Q := Lib.hid hno
            have hdd : (s[k].toNat : Int) < 48 ∨ 57 < (s[k].toNat : Int) := by
              simp only [isDig, Bool.and_eq_false_iff, decide_eq_false_iff_not] at hdg
              omega
            clear hno hdg
            rcases hdd with hdd | hdd
            · go_wp2_with fail
              go_ret
              exact ⟨ret_int Q.out.symm, rfl⟩
            · go_wp2_with fail
              go_ret
              exact ⟨ret_int Q.out.symm, rfl⟩
          | true =>
            have hn1 : numS (s.data.toList.drop k) v = numS (s.data.toList.drop (k + 1)) (10 * v + digV s[k]) := by rw [Hdk.out, numS, hdg]; rfl
            have hdd : 48 ≤ (s[k].toNat : Int) ∧ (s[k].toNat : Int) ≤ 57 := by
              simp only [isDig, Bool.and_eq_true, decide_eq_true_eq] at hdg
              omega
            have Hn1 := Lib.hid hn1
            clear hn1 hdg
            go_wp2_with fail
            go_round
            case rel =>
              obtain ⟨a1, a2, a3, a4⟩ := Hv.out
              exact ⟨k + 1, 10 * v + ((s[k].toNat : Int) - 48), by omega, by go_num, by go_num, by omega, by omega, by omega, by omega, by omega, by omega, by rw [← HN.out, Hn1.out]; rfl⟩
            case measure => simp [intOf]; omega
        · go_wp2_with fail
          go_ret
          have hkl : k = s.size := by omega
          have hN := HN.out
          rw [hkl, Lib.size_eq, List.drop_length, numS] at hN
          exact ⟨ret_int (by rw [Hr.out, ← hN]), rfl⟩
end Go.Proofs.YtlhjncefckidjaaDoor
