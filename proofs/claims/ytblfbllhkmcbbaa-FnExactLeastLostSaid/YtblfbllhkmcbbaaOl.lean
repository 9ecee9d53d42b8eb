/-
  Contracts of orders and of OrderLost in the program and in the reference.
-/
import Derived.Test.YtblfbllhkmcbbaaTb
import Derived.Test.YtblfbllhkmcbbaaCk
namespace Go.Proofs.Ytblfbllhkmcbbaa
open Go.RowKit
set_option linter.unusedVariables false
theorem made1 (v : Value) (n j : Nat) (h : j < n) : (madeCells #[v] n)[j]? = some v := by
  simp [madeCells]
  exact ⟨j, by simp [h], by simp [Nat.mod_one]⟩
theorem pair_at {o : List Int} {k : Nat} {x y : Int} (h1 : o[k]? = some x) (h2 : o[k + 1]? = some y) : (o.zip o.tail)[k]? = some (x, y) := zip_at h1 (by rw [List.getElem?_tail]; exact h2)
theorem order_parts {o : List Int} {n : Nat} (h : orderOk o n = true) : o.length = n ∧ ∀ x ∈ o, 0 ≤ x ∧ x ≤ (n : Int) - 1 := by
  simp only [orderOk, Bool.and_eq_true, sameLen, decide_eq_true_eq] at h
  exact ⟨h.1, ordB_all _ _ _ h.2⟩
theorem l1Has_any (A : Option Addr) (n c : Nat) (l : List Int) (x : Int) (w : World) (hs : Sees w w.heap.size A (ints l)) (hl : l.length = n) (hn : n ≤ 1048576) :
    Calls Try.prog 91 #[.slice A n c, .int .i64 x] w fun e w' => e = .returned (.bool (hasB l x)) ∧ w = w' := by
  subst hl
  go_enter Try.func91, Try.ntmps91
  go_wp2_with fail
  go_loop [5] (fun i => ∃ k : Nat, k ≤ l.length ∧ i = .int .i64 k ∧ hasB (l.take k) x = false) (fun i => l.length - (intOf i).toNat)
  case atStart => exact ⟨0, Nat.zero_le _, rfl, by simp [hasB]⟩
  case round =>
    obtain ⟨k, hk, rfl, hno⟩ := hrel
    have Hno := Lib.hid hno
    clear hno
    by_cases hlt : k < l.length
    · obtain ⟨b, off, y, rfl, hbB, hl, c0⟩ := hs.int_at hlt
      have Hl := Lib.hid hl
      clear hl
      by_cases hxy : y = x
      · subst hxy
        go_wp2_with fail
        go_ret
        exact ⟨ret_bool (decide_eq_true (List.mem_of_getElem? Hl.out)).symm, rfl⟩
      · have hne : (y == x) = false := by rw [beq_eq_false_iff_ne]; exact hxy
        go_wp2_with fail
        go_round
        case rel =>
          refine ⟨k + 1, by omega, by go_num, ?_⟩
          obtain ⟨hk', hy⟩ := List.getElem?_eq_some_iff.1 Hl.out
          rw [List.take_succ_eq_append_getElem hk', hy, hasB_snoc, Hno.out]
          simp
          exact fun h => hxy h.symm
        case measure => simp [intOf]; omega
    · go_wp2_with fail
      go_ret
      have e : k = l.length := by omega
      have ha := Hno.out
      rw [e, List.take_length] at ha
      exact ⟨ret_bool ha.symm, rfl⟩
set_option maxHeartbeats 1000000 in
theorem l2Order_any (A : Option Addr) (c : Nat) (o : List Int) (n : Nat) (w : World) (hs : Sees w w.heap.size A (ints o)) (hn : o.length ≤ 1048576) (hcap : o.length ≤ c) (hnn : n ≤ 1048576) :
    Calls Try.prog 83 #[.slice A o.length c, .int .i64 n] w fun e w' => e = .returned (.bool (orderOk o n)) ∧ Below w.heap.size w w' := by
  go_enter Try.func83, Try.ntmps83
  go_wp2_with fail
  go_loopw [5] (fun i wr => ∃ k : Nat, k ≤ o.length ∧ i = .int .i64 k ∧ ordB n [] o = ordB n (o.take k) (o.drop k) ∧ Below w.heap.size w wr) (fun i _ => o.length - (intOf i).toNat)
  case atStart => exact ⟨0, Nat.zero_le _, rfl, by simp, Below.refl _ _⟩
  case round =>
    obtain ⟨k, hk, rfl, hord, hb⟩ := hrel
    have Hord := Lib.hid hord
    clear hord
    by_cases hlt : k < o.length
    · obtain ⟨b, off, x, rfl, hbB, hx, c0⟩ := (hs.next hb).int_at hlt
      have Hst := Lib.hid (ordB_step n o k x hx)
      clear hx
      have hsub : Sees wr wr.heap.size (some ⟨b, off, none⟩) (ints (o.take k)) := by
        have := (hs.next hb).take (k := k)
        rwa [show (ints o).take k = ints (o.take k) from by simp [ints]] at this
      have hlk : (o.take k).length = k := by simp; omega
      have Hlk := Lib.hid hlk
      clear hlk
      have hwr : IntKind.i64.wrap ((n : Int) - 1) = (n : Int) - 1 := wrap_in (by omega) (by omega)
      have hk0 : (k : Int) < o.length := by omega
      have hkc : (k : Int) ≤ c := by omega
      have hkc2 : k ≤ c := by omega
      cases hp : inB x 0 ((n : Int) - 1) with
      | false =>
        go_wp2_with fail
        go_quiet ((first | (go_at_call 46; exact quiet_same' (l1In_any _ _ _ _)) | (go_at_call 91; exact quiet_same' (l1Has_any _ _ _ (o.take k) _ _ (by exact hsub) Hlk.out (by omega)))))
        clear hwr
        go_wp2_with fail
        go_ret
        exact ⟨ret_bool (by simp [orderOk, Hord.out, Hst.out, hp]), below_drewN hb _⟩
      | true =>
      cases hc : hasB (o.take k) x with
      | true =>
        go_wp2_with fail
        go_quiet ((first | (go_at_call 46; exact quiet_same' (l1In_any _ _ _ _)) | (go_at_call 91; exact quiet_same' (l1Has_any _ _ _ (o.take k) _ _ (by exact hsub) Hlk.out (by omega)))))
        clear hwr
        rw [hc]
        go_wp2_with fail
        go_ret
        exact ⟨ret_bool (by rw [orderOk, Hord.out, Hst.out, hp, hc]; simp), below_drewN hb _⟩
      | false =>
        go_wp2_with fail
        go_quiet ((first | (go_at_call 46; exact quiet_same' (l1In_any _ _ _ _)) | (go_at_call 91; exact quiet_same' (l1Has_any _ _ _ (o.take k) _ _ (by exact hsub) Hlk.out (by omega)))))
        clear hwr
        rw [hc]
        go_wp2_with fail
        go_roundw
        case rel => exact ⟨k + 1, by omega, by go_num, by rw [Hord.out, Hst.out, hp, hc]; simp, below_drewN hb _⟩
        case measure => simp [intOf]; omega
    · have e : k = o.length := by omega
      have ho := Hord.out
      rw [e, List.drop_length] at ho
      have Ho := Lib.hid ho
      clear ho e Hord
      go_wp2_with fail
      go_ret
      exact ⟨ret_bool (by
        simp only [orderOk, Ho.out, ordB, Bool.and_true, sameLen]
        rw [Bool.eq_iff_iff]
        simp
        try omega), hb⟩
theorem infoBool : (Try.prog.info? 4).map (fun i => (i.zero, i.size, i.bytes)) = some (some (.bool false), 1, 1) := by kernel_rfl
set_option maxHeartbeats 1000000 in
theorem isOrder_any (A : Option Addr) (c : Nat) (o : List Int) (n : Nat) (w : World) (hs : Sees w w.heap.size A (ints o)) (hn : o.length ≤ 1048576) (hnn : n ≤ 1048576) :
    Calls Try.prog 84 #[.slice A o.length c, .int .i64 n] w fun e w' => e = .returned (.bool (orderOk o n)) ∧ Below w.heap.size w w' := by
  by_cases hlen : o.length = n
  case neg =>
    have hne : ((o.length : Int) == (n : Int)) = false := by rw [beq_eq_false_iff_ne]; omega
    have hne' : ((o.length : Int) != (n : Int)) = true := by rw [bne_iff_ne]; omega
    go_enter Try.func84, Try.ntmps84
    go_wp2_with fail
    go_ret
    exact ⟨ret_bool (by simp [orderOk, sameLen, hlen]), Below.refl _ _⟩
  subst hlen
  obtain ⟨i0, hi, hz0, hz1, hz2⟩ := info_parts infoBool
  have hmk := fun W => run_make (P := Try.prog) W 104 4 i0 _ Try.underlying104 hi hz0 .i64 .i64 o.length o.length (by omega) (by omega) (by rw [hz2]; omega) (by omega)
  simp only [Int.toNat_natCast, hz1] at hmk
  go_enter Try.func84, Try.ntmps84
  go_wp2_with fail
  clear hmk
  go_loopw [16] (fun i wr => ∃ k : Nat, ∃ cs : Array Value, k ≤ o.length ∧ i = .int .i64 k ∧ ordB o.length [] o = ordB o.length (o.take k) (o.drop k) ∧ Blk wr w.heap.size 4 cs ∧ cs.size = o.length ∧ (∀ j : Nat, j < o.length → cs[j]? = some (.bool (hasB (o.take k) (j : Int)))) ∧ Below w.heap.size w wr) (fun i _ => o.length - (intOf i).toNat)
  case atStart =>
    refine ⟨0, _, Nat.zero_le _, rfl, by simp, Blk.made _ _ _, (size_madeCells _ _).trans (by omega), ?_, (Below.refl _ _).alloc (Nat.le_refl _) _⟩
    intro j hj
    rw [show hasB (o.take 0) (j : Int) = false from by simp [hasB]]
    exact made1 _ _ _ hj
  case round =>
    obtain ⟨k, cs, hk, rfl, hord, hB, hsz, hcs, hb⟩ := hrel
    have Hord := Lib.hid hord
    have Hsz := Lib.hid hsz
    have Hcs := Lib.hid hcs
    clear hord hsz hcs
    by_cases hlt : k < o.length
    · obtain ⟨b, off, x, rfl, hbB, hx, c0⟩ := (hs.next hb).int_at hlt
      have Hst := Lib.hid (ordB_step o.length o k x hx)
      have Hx := Lib.hid hx
      clear hx
      cases hp : inB x 0 ((o.length : Int) - 1) with
      | false =>
        go_wp2_with (go_at_call 52; refine (within_any _ _ _ _).mono ?_; rintro e w' ⟨rfl, rfl⟩)
        go_ret
        exact ⟨ret_bool (by simp [orderOk, Hord.out, Hst.out, hp]), hb⟩
      | true =>
      have hxb := hp
      rw [inB_iff] at hxb
      obtain ⟨xn, rfl⟩ : ∃ xn : Nat, x = xn := ⟨x.toNat, by omega⟩
      have hxn : xn < o.length := by omega
      have hxi : (xn : Int) < o.length := by omega
      have hc := hB.cell xn
      rw [Hcs.out xn hxn] at hc
      have hf := hB.frozen
      clear hxb
      cases hq : hasB (o.take k) (xn : Int) with
      | true =>
        rw [hq] at hc
        go_wp2_with (go_at_call 52; refine (within_any _ _ _ _).mono ?_; rintro e w' ⟨rfl, rfl⟩)
        go_ret
        exact ⟨ret_bool (by rw [orderOk, Hord.out, Hst.out, hp, hq]; simp), hb⟩
      | false =>
        rw [hq] at hc
        go_wp2_with (go_at_call 52; refine (within_any _ _ _ _).mono ?_; rintro e w' ⟨rfl, rfl⟩)
        go_roundw
        case rel =>
          refine ⟨k + 1, _, by omega, by go_num, by rw [Hord.out, Hst.out, hp, hq]; simp, hB.put _ _, by simp [Hsz.out], ?_, hb.setCell (Nat.le_refl _) _⟩
          intro j hj
          obtain ⟨hk', hy⟩ := List.getElem?_eq_some_iff.1 Hx.out
          have hszO := Hsz.out
          rw [Array.getElem?_setIfInBounds, List.take_succ_eq_append_getElem hk', hy]
          rw [hasB_snoc]
          by_cases ej : xn = j
          · subst ej
            rw [if_pos rfl, if_pos (by omega)]
            simp
          · rw [if_neg ej, Hcs.out j hj, decide_eq_false (by omega : ¬ ((j : Int) = (xn : Int))), Bool.or_false]
        case measure => simp [intOf]; omega
    · have e : k = o.length := by omega
      have ho := Hord.out
      rw [e, List.drop_length] at ho
      have Ho := Lib.hid ho
      clear ho e Hord
      go_wp2_with fail
      go_ret
      exact ⟨ret_bool (by simp [orderOk, Ho.out, ordB, sameLen]), hb⟩
set_option maxHeartbeats 2000000 in
theorem orderLost_any (A A1 A2 : Option Addr) (c c1 c2 : Nat) (h : List Heat) (L : List (List Int)) (o : List Int) (w : World) (hs : Sees w w.heap.size A (ints (flatH h))) (hn : h.length ≤ 1048576) (ht : Tab w w.heap.size A1 L) (hn1 : L.length ≤ 1048576) (hr1 : ∀ l ∈ L, l.length ≤ 1048576)
    (hs2 : Sees w w.heap.size A2 (ints o)) (hn2 : o.length ≤ 1048576) (hcap2 : o.length ≤ c2) :
    Calls Try.prog 66 #[.slice A h.length c, .slice A1 L.length c1, .slice A2 o.length c2] w fun e w' => e = .returned (.int .i64 (orderLost h L o)) ∧ Below w.heap.size w w' := by
  have Hr1 := Lib.hid hr1
  clear hr1
  go_enter Try.func66, Try.ntmps66
  go_wp2_with fail
  refine (heatsValid_any _ _ _ _ hs hn).mono ?_
  rintro _ w1 ⟨rfl, hbV⟩
  cases hok : heatsOk h with
  | false =>
    go_wp2_with fail
    go_ret
    exact ⟨ret_int (by simp [orderLost, hok]), hbV⟩
  | true =>
  go_wp2_with fail
  refine (lostValid_any _ _ _ _ (ht.next hbV) hn1 Hr1.out).mono ?_
  rintro _ _ ⟨rfl, rfl⟩
  cases hlo : lostOk L with
  | false =>
    go_wp2_with fail
    go_ret
    exact ⟨ret_int (by simp [orderLost, hlo]), hbV⟩
  | true =>
  go_wp2_with fail
  refine (isOrder_any _ _ _ _ _ (hs2.next hbV) hn2 hn).mono ?_
  rintro _ w2 ⟨rfl, hb⟩
  replace hbV := below_next hbV hb
  clear hb
  cases hor : orderOk o h.length with
  | false =>
    go_wp2_with fail
    go_ret
    exact ⟨ret_int (by simp [orderLost, hor]), hbV⟩
  | true =>
  have hres : orderLost h L o = orderSum h L (o.zip o.tail) := by simp [orderLost, hok, hlo, hor]
  have Hres := Lib.hid hres
  have hh6 := heats_len hok
  obtain ⟨hol, hox⟩ := order_parts hor
  have ho6 : o.length ≤ 6 := by omega
  have Hol := Lib.hid hol
  have Hox := Lib.hid hox
  have Hok := Lib.hid hok
  have Hlo := Lib.hid hlo
  have hL4 := lost_len hlo
  have hL4' : L.length ≤ 4 := by omega
  have HL4 := Lib.hid hL4
  clear hres hol hox hok hlo hor hL4
  replace hs := hs.next hbV
  replace hs2 := hs2.next hbV
  replace ht := ht.next hbV
  go_wp2_with fail
  go_loopw [7, 8] (fun u i wr => ∃ k : Nat, ∃ v : Int, (k = 0 ∨ k < o.length) ∧ i = .int .i64 ((k : Int) + 1) ∧ u = .int .i64 v ∧ v = orderSum h L ((o.zip o.tail).take k) ∧ 0 ≤ v ∧ v ≤ 99 * (k : Int) ∧ Below w2.heap.size w2 wr) (fun _ i _ => o.length - (intOf i).toNat)
  case atStart => exact ⟨0, 0, .inl rfl, rfl, rfl, by simp [orderSum], by omega, by omega, Below.refl _ _⟩
  case round =>
    obtain ⟨k, v, hk, rfl, rfl, hv, hv0, hv1, hb⟩ := hrel
    have Hv := Lib.hid hv
    clear hv
    have hk6 : k ≤ 6 := by omega
    by_cases hlt : k + 1 < o.length
    · obtain ⟨b2, off2, x, hA, hbB2, hx, d0⟩ := (hs2.below hb).int_at (k := k) (by omega)
      subst hA
      obtain ⟨b3, off3, y, hA, hbB3, hy, d1⟩ := (hs2.below hb).int_at (k := k + 1) hlt
      injection hA with hA
      injection hA with e1 e2
      subst e1; subst e2
      have hxr := Hox.out x (List.mem_of_getElem? hx)
      have hyr := Hox.out y (List.mem_of_getElem? hy)
      have hpair := pair_at hx hy
      obtain ⟨xn, rfl⟩ : ∃ xn : Nat, x = xn := ⟨x.toNat, by omega⟩
      obtain ⟨yn, rfl⟩ : ∃ yn : Nat, y = yn := ⟨y.toNat, by omega⟩
      have hxn : xn < h.length := by omega
      have hyn : yn < h.length := by omega
      obtain ⟨b, off, a1, a2, a3, hA, hbB, hl, ca, cb, cc⟩ := (hs.below hb).heat_at hxn
      subst hA
      obtain ⟨b4, off4, f1, f2, f3, hA, hbB4, hl', fa, fb, fc⟩ := (hs.below hb).heat_at hyn
      injection hA with hA
      injection hA with e1 e2
      subst e1; subst e2
      have hab := heat_bounds Hok.out hl
      have hfb := heat_bounds Hok.out hl'
      simp only at hab hfb
      obtain ⟨an, rfl⟩ : ∃ an : Nat, a1 = an := ⟨a1.toNat, by omega⟩
      obtain ⟨fn, rfl⟩ : ∃ fn : Nat, f1 = fn := ⟨f1.toNat, by omega⟩
      have hL4 := HL4.out
      have han : an < L.length := by omega
      obtain ⟨b5, off5, ra, rc, r, hA, hbB5, hr, r0, hrow, hcap⟩ := (ht.below hb).row_at han
      subst hA
      have hr4 := (lost_row Hlo.out hr).1
      have hfn : fn < r.length := by omega
      obtain ⟨b6, off6, z, hA, hbB6, hz, z0⟩ := hrow.int_at hfn
      subst hA
      have hzb := lost_cell Hlo.out hr hz
      obtain ⟨hz1, hz2⟩ := hzb
      have hst : stepLoss h L ((xn : Int), (yn : Int)) = z := by unfold stepLoss; rw [kindAt_nat hl, kindAt_nat hl']; exact cellAt_nat hr hz
      have Hst := Lib.hid hst
      have Hpair := Lib.hid hpair
      have hi1 : (xn : Int) < h.length := by omega
      have hi2 : (yn : Int) < h.length := by omega
      have hi3 : (an : Int) < L.length := by omega
      have hi4 : (fn : Int) < r.length := by omega
      have hi5 : (k : Int) < o.length := by omega
      have hi6 : (k : Int) + 1 < o.length := by omega
      have hi7 : (0 : Int) ≤ (k : Int) + 1 := by omega
      have hi8 : ((k : Int) + 1).toNat = k + 1 := by omega
      clear hx hy hxr hyr hpair hl hl' hab hfb hL4 hr hz hst hr4
      have hwr1 : IntKind.i64.wrap ((k : Int) + 1 - 1) = (k : Int) := (wrap_in (by omega) (by omega)).trans (by omega)
      have hwr2 : IntKind.i64.wrap (k : Int) = (k : Int) := wrap_in (by omega) (by omega)
      have hwr3 : IntKind.i64.wrap (v + z) = v + z := wrap_in (by omega) (by omega)
      go_wp2_with fail
      go_quiet (fail)
      clear hwr1 hwr2 hwr3
      go_wp2_with fail
      go_roundw
      case rel => exact ⟨k + 1, v + z, by omega, by go_num, rfl, by unfold orderSum; rw [foldl_take_succ _ _ _ _ _ Hpair.out, Hv.out, Hst.out]; rfl, by omega, by omega, below_drewN hb _⟩
      case measure => simp [intOf]; omega
    · have hlt2 : ¬ ((k : Int) + 1 < (o.length : Int)) := by omega
      go_wp2_with fail
      go_ret
      have hz := Hv.out
      rw [List.take_of_length_le (by simp; omega)] at hz
      exact ⟨ret_int (by rw [hz, Hres.out]), below_next hbV hb⟩
set_option maxHeartbeats 2000000 in
theorem sOrderLost_any (A A1 A2 : Option Addr) (c c1 c2 : Nat) (h : List Heat) (L : List (List Int)) (o : List Int) (w : World) (hs : Sees w w.heap.size A (ints (flatH h))) (hn : h.length ≤ 1048576) (ht : Tab w w.heap.size A1 L) (hn1 : L.length ≤ 1048576) (hr1 : ∀ l ∈ L, l.length ≤ 1048576)
    (hs2 : Sees w w.heap.size A2 (ints o)) (hn2 : o.length ≤ 1048576) (hcap2 : o.length ≤ c2) :
    Calls Try.prog 65 #[.slice A h.length c, .slice A1 L.length c1, .slice A2 o.length c2] w fun e w' => e = .returned (.int .i64 (orderLost h L o)) ∧ Below w.heap.size w w' := by
  have Hr1 := Lib.hid hr1
  clear hr1
  go_enter Try.func65, Try.ntmps65
  go_wp2_with fail
  refine (sHeatsValid_any _ _ _ _ hs hn).mono ?_
  rintro _ w1 ⟨rfl, hbV⟩
  cases hok : heatsOk h with
  | false =>
    go_wp2_with fail
    go_ret
    exact ⟨ret_int (by simp [orderLost, hok]), hbV⟩
  | true =>
  go_wp2_with fail
  refine (sLostValid_any _ _ _ _ (ht.next hbV) hn1 Hr1.out).mono ?_
  rintro _ _ ⟨rfl, rfl⟩
  cases hlo : lostOk L with
  | false =>
    go_wp2_with fail
    go_ret
    exact ⟨ret_int (by simp [orderLost, hlo]), hbV⟩
  | true =>
  go_wp2_with fail
  refine (l2Order_any _ _ _ _ _ (hs2.next hbV) hn2 hcap2 hn).mono ?_
  rintro _ w2 ⟨rfl, hb⟩
  replace hbV := below_next hbV hb
  clear hb
  cases hor : orderOk o h.length with
  | false =>
    go_wp2_with fail
    go_ret
    exact ⟨ret_int (by simp [orderLost, hor]), hbV⟩
  | true =>
  have hres : orderLost h L o = orderSum h L (o.zip o.tail) := by simp [orderLost, hok, hlo, hor]
  have Hres := Lib.hid hres
  have hh6 := heats_len hok
  obtain ⟨hol, hox⟩ := order_parts hor
  have ho6 : o.length ≤ 6 := by omega
  have Hol := Lib.hid hol
  have Hox := Lib.hid hox
  have Hok := Lib.hid hok
  have Hlo := Lib.hid hlo
  have hL4 := lost_len hlo
  have hL4' : L.length ≤ 4 := by omega
  have HL4 := Lib.hid hL4
  clear hres hol hox hok hlo hor hL4
  replace hs := hs.next hbV
  replace hs2 := hs2.next hbV
  replace ht := ht.next hbV
  go_wp2_with fail
  go_loopw [7, 8] (fun u i wr => ∃ k : Nat, ∃ v : Int, (k = 0 ∨ k < o.length) ∧ i = .int .i64 ((k : Int) + 1) ∧ u = .int .i64 v ∧ v = orderSum h L ((o.zip o.tail).take k) ∧ 0 ≤ v ∧ v ≤ 99 * (k : Int) ∧ Below w2.heap.size w2 wr) (fun _ i _ => o.length - (intOf i).toNat)
  case atStart => exact ⟨0, 0, .inl rfl, rfl, rfl, by simp [orderSum], by omega, by omega, Below.refl _ _⟩
  case round =>
    obtain ⟨k, v, hk, rfl, rfl, hv, hv0, hv1, hb⟩ := hrel
    have Hv := Lib.hid hv
    clear hv
    have hk6 : k ≤ 6 := by omega
    by_cases hlt : k + 1 < o.length
    · obtain ⟨b2, off2, x, hA, hbB2, hx, d0⟩ := (hs2.below hb).int_at (k := k) (by omega)
      subst hA
      obtain ⟨b3, off3, y, hA, hbB3, hy, d1⟩ := (hs2.below hb).int_at (k := k + 1) hlt
      injection hA with hA
      injection hA with e1 e2
      subst e1; subst e2
      have hxr := Hox.out x (List.mem_of_getElem? hx)
      have hyr := Hox.out y (List.mem_of_getElem? hy)
      have hpair := pair_at hx hy
      obtain ⟨xn, rfl⟩ : ∃ xn : Nat, x = xn := ⟨x.toNat, by omega⟩
      obtain ⟨yn, rfl⟩ : ∃ yn : Nat, y = yn := ⟨y.toNat, by omega⟩
      have hxn : xn < h.length := by omega
      have hyn : yn < h.length := by omega
      obtain ⟨b, off, a1, a2, a3, hA, hbB, hl, ca, cb, cc⟩ := (hs.below hb).heat_at hxn
      subst hA
      obtain ⟨b4, off4, f1, f2, f3, hA, hbB4, hl', fa, fb, fc⟩ := (hs.below hb).heat_at hyn
      injection hA with hA
      injection hA with e1 e2
      subst e1; subst e2
      have hab := heat_bounds Hok.out hl
      have hfb := heat_bounds Hok.out hl'
      simp only at hab hfb
      obtain ⟨an, rfl⟩ : ∃ an : Nat, a1 = an := ⟨a1.toNat, by omega⟩
      obtain ⟨fn, rfl⟩ : ∃ fn : Nat, f1 = fn := ⟨f1.toNat, by omega⟩
      have hL4 := HL4.out
      have han : an < L.length := by omega
      obtain ⟨b5, off5, ra, rc, r, hA, hbB5, hr, r0, hrow, hcap⟩ := (ht.below hb).row_at han
      subst hA
      have hr4 := (lost_row Hlo.out hr).1
      have hfn : fn < r.length := by omega
      obtain ⟨b6, off6, z, hA, hbB6, hz, z0⟩ := hrow.int_at hfn
      subst hA
      have hzb := lost_cell Hlo.out hr hz
      obtain ⟨hz1, hz2⟩ := hzb
      have hst : stepLoss h L ((xn : Int), (yn : Int)) = z := by unfold stepLoss; rw [kindAt_nat hl, kindAt_nat hl']; exact cellAt_nat hr hz
      have Hst := Lib.hid hst
      have Hpair := Lib.hid hpair
      have hi1 : (xn : Int) < h.length := by omega
      have hi2 : (yn : Int) < h.length := by omega
      have hi3 : (an : Int) < L.length := by omega
      have hi4 : (fn : Int) < r.length := by omega
      have hi5 : (k : Int) < o.length := by omega
      have hi6 : (k : Int) + 1 < o.length := by omega
      have hi7 : (0 : Int) ≤ (k : Int) + 1 := by omega
      have hi8 : ((k : Int) + 1).toNat = k + 1 := by omega
      clear hx hy hxr hyr hpair hl hl' hab hfb hL4 hr hz hst hr4
      have hwr1 : IntKind.i64.wrap ((k : Int) + 1 - 1) = (k : Int) := (wrap_in (by omega) (by omega)).trans (by omega)
      have hwr2 : IntKind.i64.wrap (k : Int) = (k : Int) := wrap_in (by omega) (by omega)
      have hwr3 : IntKind.i64.wrap (v + z) = v + z := wrap_in (by omega) (by omega)
      go_wp2_with fail
      go_quiet (fail)
      clear hwr1 hwr2 hwr3
      go_wp2_with fail
      go_roundw
      case rel => exact ⟨k + 1, v + z, by omega, by go_num, rfl, by unfold orderSum; rw [foldl_take_succ _ _ _ _ _ Hpair.out, Hv.out, Hst.out]; rfl, by omega, by omega, below_drewN hb _⟩
      case measure => simp [intOf]; omega
    · have hlt2 : ¬ ((k : Int) + 1 < (o.length : Int)) := by omega
      go_wp2_with fail
      go_ret
      have hz := Hv.out
      rw [List.take_of_length_le (by simp; omega)] at hz
      exact ⟨ret_int (by rw [hz, Hres.out]), below_next hbV hb⟩
end Go.Proofs.Ytblfbllhkmcbbaa
