/-
  Contracts of CastOk in the program and in the reference.
-/
import Derived.Test.YtblfbllhkmcbbaaHt
import Derived.Test.YtblfbllhkmcbbaaOwn
import Derived.Test.YtblfbllhkmcbbaaPc
namespace Go.Proofs.Ytblfbllhkmcbbaa
open Go.RowKit
set_option linter.unusedVariables false
theorem wrap_in {n : Int} (h1 : -9223372036854775808 ≤ n) (h2 : n ≤ 9223372036854775807) : IntKind.i64.wrap n = n := by rw [IntKind.wrap_i64]; omega
/-- A callee that leaves the world alone, met in a region that only reads. -/
theorem quiet_same' {P : Program} {f : FuncId} {args : Array Value} {w : World} {n : Nat} {v : Value}
    (h : Calls P f args (w.drewN n) fun e w' => e = .returned v ∧ w.drewN n = w') : Calls P f args (w.drewN n) fun e w'' => e = .returned v ∧ ∃ m, w'' = w.drewN m :=
  h.mono fun _ _ ⟨he, hm⟩ => ⟨he, n, hm.symm⟩
set_option maxHeartbeats 1000000 in
theorem castOk_any (A A' : Option Addr) (c c' : Nat) (h : List Heat) (t : List Int) (w : World) (hs : Sees w w.heap.size A (ints (flatH h))) (hn : h.length ≤ 1048576) (hs' : Sees w w.heap.size A' (ints t)) (hn' : t.length ≤ 1048576) (f s : Int) :
    Calls Try.prog 68 #[.slice A h.length c, .agg #[.int .i64 f, .int .i64 s], .slice A' t.length c'] w fun e w' => e = .returned (.bool (castOk h ⟨f, s⟩ t)) ∧ Below w.heap.size w w' := by
  go_enter Try.func68, Try.ntmps68
  go_wp2_with fail
  have hbW : Below w.heap.size w (w.alloc (.cells #[.int .i64 f, .int .i64 s] 61)) := (Below.refl _ _).alloc (Nat.le_refl _) _
  have hB0 := Blk.made w 61 #[.int .i64 f, .int .i64 s]
  generalize w.alloc _ = W at hbW hB0 ⊢
  replace hs := hs.next hbW
  replace hs' := hs'.next hbW
  refine (heatsValid_any _ _ _ _ hs hn).mono ?_
  rintro _ w1 ⟨rfl, hb⟩
  replace hs := hs.next hb
  replace hs' := hs'.next hb
  replace hB0 := hB0.below hb hB0.lt
  replace hbW := below_next hbW hb
  clear hb
  cases hok : heatsOk h with
  | false =>
    go_wp2_with fail
    go_ret
    exact ⟨ret_bool (by simp [castOk, hok]), hbW⟩
  | true =>
  have c0 := hB0.cell
  go_wp2_with fail
  clear c0
  refine (casterValid_any _ _ _).mono ?_
  rintro _ w2 ⟨rfl, hb⟩
  replace hs := hs.next hb
  replace hs' := hs'.next hb
  replace hB0 := hB0.below hb hB0.lt
  replace hbW := below_next hbW hb
  clear hb
  cases hcs : casterOk ⟨f, s⟩ with
  | false =>
    go_wp2_with fail
    go_ret
    exact ⟨ret_bool (by simp [castOk, hcs]), hbW⟩
  | true =>
  have hcb := caster_bounds hcs
  simp only at hcb
  obtain ⟨hf1, hf2, hf3⟩ := hcb
  have hh6 := heats_len hok
  have Hok := Lib.hid hok
  have Hcs := Lib.hid hcs
  clear hok hcs
  by_cases hlen : t.length = h.length + 1
  case neg =>
    have hne : ((t.length : Int) == (h.length : Int) + 1) = false := by rw [beq_eq_false_iff_ne]; omega
    have hne' : ((t.length : Int) != (h.length : Int) + 1) = true := by rw [bne_iff_ne]; omega
    go_wp2_with fail
    go_ret
    exact ⟨ret_bool (by simp [castOk, sameLen, hlen]), hbW⟩
  have hne : ((t.length : Int) == (h.length : Int) + 1) = true := by rw [beq_iff_eq]; omega
  have hne' : ((t.length : Int) != (h.length : Int) + 1) = false := by simp only [bne, hne, Bool.not_true]
  have Hlen := Lib.hid hlen
  have hl1 : t.length ≤ 7 := by omega
  clear hlen
  go_wp2_with fail
  clear hne hne'
  go_loop [31] (fun i => ∃ k : Nat, k ≤ t.length ∧ i = .int .i64 k ∧ (t.take k).all minuteB = true) (fun i => t.length - (intOf i).toNat)
  case atStart => exact ⟨0, Nat.zero_le _, rfl, by simp⟩
  case round =>
    obtain ⟨k, hk, rfl, hall⟩ := hrel
    have Hall := Lib.hid hall
    clear hall
    by_cases hlt : k < t.length
    · obtain ⟨b', off', y, rfl, hbB', hx, d0⟩ := hs'.int_at (k := k) hlt
      have Hx := Lib.hid hx
      clear hx
      cases hp : inB y 0 9999 with
      | true =>
        go_wp2_with (go_at_call 52; refine (within_any _ _ _ _).mono ?_; rintro e w' ⟨rfl, rfl⟩)
        go_round
        case rel => exact ⟨k + 1, by omega, by go_num, by rw [all_take_succ _ _ _ _ Hx.out, Hall.out]; simp [minuteB, hp]⟩
        case measure => simp [intOf]; omega
      | false =>
        go_wp2_with (go_at_call 52; refine (within_any _ _ _ _).mono ?_; rintro e w' ⟨rfl, rfl⟩)
        go_ret
        exact ⟨ret_bool (by simp [castOk, all_false_at minuteB _ _ _ Hx.out hp]), hbW⟩
    · have e : k = t.length := by omega
      have hm := Hall.out
      rw [e, List.take_length] at hm
      have Hm := Lib.hid hm
      clear hm e Hall
      go_wp2_with fail
      go_loopw [41] (fun i wr => ∃ k : Nat, k ≤ h.length ∧ i = .int .i64 k ∧ ((trip h t).take k).all (castB ⟨f, s⟩) = true ∧ Below w2.heap.size w2 wr) (fun i _ => h.length - (intOf i).toNat)
      case atStart => exact ⟨0, Nat.zero_le _, rfl, by simp, Below.refl _ _⟩
      case round =>
        obtain ⟨k, hk, rfl, hall, hb⟩ := hrel
        have Hall := Lib.hid hall
        clear hall
        have hB := hB0.below hb hB0.lt
        have hltB := hB.lt
        by_cases hlt : k < h.length
        · obtain ⟨b, off, a1, a2, a3, rfl, hbB, hl, c0, c1, c2⟩ := (hs.below hb).heat_at hlt
          have hlenO := Hlen.out
          obtain ⟨b', off', x, hA, hbB', hx, d0⟩ := (hs'.below hb).int_at (k := k) (by omega)
          subst hA
          obtain ⟨b2, off2, y, hA, hbB2, hy, d1⟩ := (hs'.below hb).int_at (k := k + 1) (by omega)
          injection hA with hA
          injection hA with e1 e2
          subst e1; subst e2
          have hxb := minute_bounds Hm.out hx
          have hyb := minute_bounds Hm.out hy
          obtain ⟨hx1, hx2⟩ := hxb
          obtain ⟨hy1, hy2⟩ := hyb
          have Hl := Lib.hid (trip_at hl hx hy)
          have hk1 : k + 1 < t.length := by omega
          have hk2 : (k : Int) + 1 < t.length := by omega
          have hk3 : (k : Int) < t.length := by omega
          clear hl hx hy hlenO
          have hw1 : b < wr.heap.size := by have := hb.size; omega
          have hw2 : b' < wr.heap.size := by have := hb.size; omega
          have cB := hB.cell
          have hidx : ((k : Int) + 1).toNat = k + 1 := by omega
          have hidx0 : (0 : Int) ≤ (k : Int) + 1 := by omega
          have hwr : IntKind.i64.wrap ((k : Int) + 1) = (k : Int) + 1 := wrap_in (by omega) (by omega)
          by_cases hr : x < a3
          · go_wp2_with fail
            go_quiet (fail)
            clear hwr
            go_wp2_with fail
            go_ret
            exact ⟨ret_bool (by simp [castOk, all_false_at (castB ⟨f, s⟩) _ _ _ Hl.out (by simp [castB]; omega)]), below_next hbW (below_drewN (hb.alloc hb.size _) _)⟩
          · cases hp : inB y (x + f) (x + s) with
            | true =>
              go_wp2_with fail
              go_quiet (fail)
              clear hwr
              go_wp2_with (go_at_call 52; refine (within_any _ _ _ _).mono ?_; rintro e w' ⟨rfl, rfl⟩)
              go_roundw
              case rel => exact ⟨k + 1, by omega, by go_num, by rw [all_take_succ _ _ _ _ Hl.out, Hall.out]; simp [castB, hp]; omega, below_drewN (hb.alloc hb.size _) _⟩
              case measure => simp [intOf]; omega
            | false =>
              go_wp2_with fail
              go_quiet (fail)
              clear hwr
              go_wp2_with (go_at_call 52; refine (within_any _ _ _ _).mono ?_; rintro e w' ⟨rfl, rfl⟩)
              go_ret
              exact ⟨ret_bool (by simp [castOk, all_false_at (castB ⟨f, s⟩) _ _ _ Hl.out (by simp [castB, hp])]), below_next hbW (below_drewN (hb.alloc hb.size _) _)⟩
        · go_wp2_with fail
          go_ret
          have e : k = h.length := by omega
          have ha := Hall.out
          rw [e, List.take_of_length_le (by rw [trip_length _ _ Hlen.out]; omega)] at ha
          exact ⟨ret_bool (by simp [castOk, sameLen, Hok.out, Hcs.out, Hlen.out, Hm.out, ha]), below_next hbW hb⟩
set_option maxHeartbeats 1000000 in
theorem sCastOk_any (A A' : Option Addr) (c c' : Nat) (h : List Heat) (t : List Int) (w : World) (hs : Sees w w.heap.size A (ints (flatH h))) (hn : h.length ≤ 1048576) (hs' : Sees w w.heap.size A' (ints t)) (hn' : t.length ≤ 1048576) (f s : Int) :
    Calls Try.prog 67 #[.slice A h.length c, .agg #[.int .i64 f, .int .i64 s], .slice A' t.length c'] w fun e w' => e = .returned (.bool (castOk h ⟨f, s⟩ t)) ∧ Below w.heap.size w w' := by
  go_enter Try.func67, Try.ntmps67
  go_wp2_with fail
  have hbW : Below w.heap.size w (w.alloc (.cells #[.int .i64 f, .int .i64 s] 61)) := (Below.refl _ _).alloc (Nat.le_refl _) _
  have hB0 := Blk.made w 61 #[.int .i64 f, .int .i64 s]
  generalize w.alloc _ = W at hbW hB0 ⊢
  replace hs := hs.next hbW
  replace hs' := hs'.next hbW
  refine (sHeatsValid_any _ _ _ _ hs hn).mono ?_
  rintro _ w1 ⟨rfl, hb⟩
  replace hs := hs.next hb
  replace hs' := hs'.next hb
  replace hB0 := hB0.below hb hB0.lt
  replace hbW := below_next hbW hb
  clear hb
  cases hok : heatsOk h with
  | false =>
    go_wp2_with fail
    go_ret
    exact ⟨ret_bool (by simp [castOk, hok]), hbW⟩
  | true =>
  have c0 := hB0.cell
  go_wp2_with fail
  clear c0
  refine (sCasterValid_any _ _ _).mono ?_
  rintro _ w2 ⟨rfl, hb⟩
  replace hs := hs.next hb
  replace hs' := hs'.next hb
  replace hB0 := hB0.below hb hB0.lt
  replace hbW := below_next hbW hb
  clear hb
  cases hcs : casterOk ⟨f, s⟩ with
  | false =>
    go_wp2_with fail
    go_ret
    exact ⟨ret_bool (by simp [castOk, hcs]), hbW⟩
  | true =>
  have hcb := caster_bounds hcs
  simp only at hcb
  obtain ⟨hf1, hf2, hf3⟩ := hcb
  have hh6 := heats_len hok
  have Hok := Lib.hid hok
  have Hcs := Lib.hid hcs
  clear hok hcs
  by_cases hlen : t.length = h.length + 1
  case neg =>
    have hne : ((t.length : Int) == (h.length : Int) + 1) = false := by rw [beq_eq_false_iff_ne]; omega
    have hne' : ((t.length : Int) != (h.length : Int) + 1) = true := by rw [bne_iff_ne]; omega
    go_wp2_with fail
    go_ret
    exact ⟨ret_bool (by simp [castOk, sameLen, hlen]), hbW⟩
  have hne : ((t.length : Int) == (h.length : Int) + 1) = true := by rw [beq_iff_eq]; omega
  have hne' : ((t.length : Int) != (h.length : Int) + 1) = false := by simp only [bne, hne, Bool.not_true]
  have Hlen := Lib.hid hlen
  have hl1 : t.length ≤ 7 := by omega
  have hl0 : 0 < t.length := by omega
  clear hlen
  obtain ⟨bt, offt, t0, rfl, hbt, ht0, d00⟩ := hs'.int_at (k := 0) hl0
  have Ht0 := Lib.hid ht0
  clear ht0
  rw [Nat.add_zero] at d00
  cases hp0 : inB t0 0 9999 with
  | false =>
    go_wp2_with (go_at_call 46; refine (l1In_any _ _ _ _).mono ?_; rintro e w' ⟨rfl, rfl⟩)
    go_ret
    exact ⟨ret_bool (by simp [castOk, all_false_at minuteB _ _ _ Ht0.out hp0]), hbW⟩
  | true =>
  go_wp2_with (go_at_call 46; refine (l1In_any _ _ _ _).mono ?_; rintro e w' ⟨rfl, rfl⟩)
  clear hne hne' d00
  go_loopw [7] (fun i wr => ∃ k : Nat, k ≤ h.length ∧ i = .int .i64 k ∧ ((trip h t).take k).all (castB ⟨f, s⟩) = true ∧ (t.take (k + 1)).all minuteB = true ∧ Below w2.heap.size w2 wr) (fun i _ => h.length - (intOf i).toNat)
  case atStart => exact ⟨0, Nat.zero_le _, rfl, by simp, by rw [all_take_succ _ _ _ _ Ht0.out]; simp [minuteB, hp0], Below.refl _ _⟩
  case round =>
    obtain ⟨k, hk, rfl, hall, hmin, hb⟩ := hrel
    have Hall := Lib.hid hall
    have Hmin := Lib.hid hmin
    clear hall hmin
    have hB := hB0.below hb hB0.lt
    have hltB := hB.lt
    by_cases hlt : k < h.length
    · obtain ⟨b, off, a1, a2, a3, rfl, hbB, hl, c0, c1, c2⟩ := (hs.below hb).heat_at hlt
      have hlenO := Hlen.out
      obtain ⟨b', off', x, hA, hbB', hx, d0⟩ := (hs'.below hb).int_at (k := k) (by omega)
      injection hA with hA
      injection hA with e1 e2
      subst e1; subst e2
      obtain ⟨b2, off2, y, hA, hbB2, hy, d1⟩ := (hs'.below hb).int_at (k := k + 1) (by omega)
      injection hA with hA
      injection hA with e1 e2
      subst e1; subst e2
      have hxt : (t.take (k + 1))[k]? = some x := by rw [List.getElem?_take, if_pos (by omega)]; exact hx
      obtain ⟨hx1, hx2⟩ := minute_bounds Hmin.out hxt
      have Hl := Lib.hid (trip_at hl hx hy)
      have Hy := Lib.hid hy
      have hk1 : k + 1 < t.length := by omega
      have hk2 : (k : Int) + 1 < t.length := by omega
      have hk3 : (k : Int) < t.length := by omega
      clear hl hx hy hlenO hxt
      have hidx : ((k : Int) + 1).toNat = k + 1 := by omega
      have hidx0 : (0 : Int) ≤ (k : Int) + 1 := by omega
      have cB := hB.cell
      have hwr : IntKind.i64.wrap ((k : Int) + 1) = (k : Int) + 1 := wrap_in (by omega) (by omega)
      have hwr1 : IntKind.i64.wrap (x + f) = x + f := wrap_in (by omega) (by omega)
      have hwr2 : IntKind.i64.wrap (x + s) = x + s := wrap_in (by omega) (by omega)
      cases hp : inB y (x + f) (x + s) with
      | false =>
        go_wp2_with fail
        go_quiet ((go_at_call 46; exact quiet_same' (l1In_any _ _ _ _)))
        clear hwr hwr1 hwr2
        go_wp2_with fail
        go_ret
        exact ⟨ret_bool (by simp [castOk, all_false_at (castB ⟨f, s⟩) _ _ _ Hl.out (by simp [castB, hp])]), below_next hbW (below_drewN hb _)⟩
      | true =>
      by_cases hr : x < a3
      · have hr' : decide (x < a3) = true := by simp [hr]
        go_wp2_with fail
        go_quiet ((go_at_call 46; exact quiet_same' (l1In_any _ _ _ _)))
        clear hwr hwr1 hwr2
        go_wp2_with fail
        go_ret
        exact ⟨ret_bool (by simp [castOk, all_false_at (castB ⟨f, s⟩) _ _ _ Hl.out (by simp [castB]; omega)]), below_next hbW (below_drewN hb _)⟩
      · have hr' : decide (x < a3) = false := by simp [hr]
        by_cases hq : 9999 < y
        · have hq' : decide (9999 < y) = true := by simp [hq]
          go_wp2_with fail
          go_quiet ((go_at_call 46; exact quiet_same' (l1In_any _ _ _ _)))
          clear hwr hwr1 hwr2
          go_wp2_with fail
          go_ret
          exact ⟨ret_bool (by simp [castOk, all_false_at minuteB _ _ _ Hy.out (by simp [minuteB, inB]; omega)]), below_next hbW (below_drewN hb _)⟩
        · have hq' : decide (9999 < y) = false := by simp [hq]
          have hyb := hp
          rw [inB_iff] at hyb
          obtain ⟨hyb1, hyb2⟩ := hyb
          go_wp2_with fail
          go_quiet ((go_at_call 46; exact quiet_same' (l1In_any _ _ _ _)))
          clear hwr hwr1 hwr2
          go_wp2_with fail
          go_roundw
          case rel => exact ⟨k + 1, by omega, by go_num, by rw [all_take_succ _ _ _ _ Hl.out, Hall.out]; simp [castB, hp]; omega, by rw [all_take_succ _ _ _ _ Hy.out, Hmin.out]; simp [minuteB, inB]; omega, below_drewN hb _⟩
          case measure => simp [intOf]; omega
    · go_wp2_with fail
      go_ret
      have e : k = h.length := by omega
      have ha := Hall.out
      have hm := Hmin.out
      rw [e, List.take_of_length_le (by rw [trip_length _ _ Hlen.out]; omega)] at ha
      rw [e, List.take_of_length_le (by rw [Hlen.out]; omega)] at hm
      exact ⟨ret_bool (by simp [castOk, sameLen, Hok.out, Hcs.out, Hlen.out, hm, ha]), below_next hbW hb⟩
end Go.Proofs.Ytblfbllhkmcbbaa
