/-
  Contracts of the laws' helpers on tables, and of LostValid in the program and in the reference.
-/
import Derived.Test.YtblfbllhkmcbbaaTab
namespace Go.Proofs.Ytblfbllhkmcbbaa
open Go.RowKit
set_option linter.unusedVariables false
theorem ownBlock_any (a : Option Addr) (n c m d : Nat) : (Value.slice a n c).ownBlock = (Value.slice a m d).ownBlock := by cases a <;> rfl
def RetTab (w : World) (L : List (List Int)) (e : Ending) (w' : World) : Prop :=
  ∃ A c, e = .returned (.slice A L.length c) ∧ TOwn w' w.heap.size w'.heap.size 32 3 A L.length c L ∧ Below w.heap.size w w'
theorem szIntS_ok (A : Option Addr) (n c : Nat) (m : Int) (w : World) (hm : m ≤ 1048576) (hn : (n : Int) ≤ m) :
    Calls Try.prog 56 #[.slice A n c, .int .i64 m] w fun e w' => e = .returned (.int .i64 (m - n)) ∧ w = w' := by
  have h' : (0 : Int) ≤ m - (n : Int) := by omega
  go_enter Try.func56, Try.ntmps56
  go_wp2_with fail
  go_ret
  exact ⟨rfl, rfl⟩
theorem szIntS_big (A : Option Addr) (n c : Nat) (m : Int) (w : World) (hm : 0 ≤ m ∧ m ≤ 1048576) (hn : n ≤ maxLen) (h : m < n) :
    Calls Try.prog 56 #[.slice A n c, .int .i64 m] w fun e w' => e = .returned (.int .i64 (-1)) ∧ w = w' := by
  unfold maxLen at hn
  have h' : m - (n : Int) < 0 := by omega
  go_enter Try.func56, Try.ntmps56
  go_wp2_with fail
  go_ret
  exact ⟨rfl, rfl⟩
theorem szIntSS_ok (A : Option Addr) (c : Nat) (L : List (List Int)) (m : Int) (w : World) (ht : Tab w w.heap.size A L) (hm : m ≤ 1048576) (hn : ((L.length + bulkOf L : Nat) : Int) ≤ m) :
    Calls Try.prog 28 #[.slice A L.length c, .int .i64 m] w fun e w' => e = .returned (.int .i64 (m - ((L.length + bulkOf L : Nat) : Int))) ∧ w = w' := by
  have h' : (0 : Int) ≤ m - (L.length : Int) := by omega
  go_enter Try.func28, Try.ntmps28
  go_wp2_with fail
  go_loop [1, 5] (fun u i => ∃ k : Nat, ∃ v : Int, k ≤ L.length ∧ i = .int .i64 k ∧ u = .int .i64 v ∧ v = m - (L.length : Int) - (bulkOf (L.take k) : Int)) (fun _ i => L.length - (intOf i).toNat)
  case atStart => exact ⟨0, _, Nat.zero_le _, rfl, rfl, by simp [bulkOf]⟩
  case round =>
    obtain ⟨k, v, hk, rfl, rfl, hv⟩ := hrel
    by_cases hlt : k < L.length
    · obtain ⟨b, off, a, c', l, rfl, hbB, hl, c0, hrow, hcap⟩ := ht.row_at hlt
      have h1 := bulk_take_succ L k l hl
      have h2 := bulk_take_le L (k + 1)
      have hv1 : (l.length : Int) ≤ v := by omega
      have hv2 : v ≤ 1048576 := by omega
      have hv3 : v - (l.length : Int) = m - (L.length : Int) - (bulkOf (L.take (k + 1)) : Int) := by omega
      have hv4 : 0 ≤ v - (l.length : Int) := by omega
      have Hv := Lib.hid hv3
      clear hv hv3 h1 h2 hl
      go_wp2_with fail
      refine (szIntS_ok _ _ _ _ _ (by omega) (by omega)).mono ?_
      rintro _ _ ⟨rfl, rfl⟩
      go_wp2_with fail
      go_round
      case rel => exact ⟨k + 1, _, by omega, by go_num, rfl, Hv.out⟩
      case measure => simp [intOf]; omega
    · have Hv := Lib.hid hv
      clear hv
      go_wp2_with fail
      go_ret
      have e : k = L.length := by omega
      have hz := Hv.out
      rw [e, List.take_length] at hz
      exact ⟨ret_int (by omega), rfl⟩
theorem szIntSS_big (A : Option Addr) (c : Nat) (L : List (List Int)) (m : Int) (w : World) (ht : Tab w w.heap.size A L) (hL : ∀ l ∈ L, l.length ≤ maxLen) (hLm : L.length ≤ maxLen) (hm0 : 0 ≤ m) (hm : m ≤ 1048576) (hn : m < ((L.length + bulkOf L : Nat) : Int)) :
    Calls Try.prog 28 #[.slice A L.length c, .int .i64 m] w fun e w' => e = .returned (.int .i64 (-1)) ∧ w = w' := by
  have hLm' := hLm
  unfold maxLen at hLm'
  by_cases h0 : (L.length : Int) ≤ m
  · have h' : (0 : Int) ≤ m - (L.length : Int) := by omega
    go_enter Try.func28, Try.ntmps28
    go_wp2_with fail
    go_loop [1, 5] (fun u i => ∃ k : Nat, ∃ v : Int, k ≤ L.length ∧ i = .int .i64 k ∧ u = .int .i64 v ∧ v = m - (L.length : Int) - (bulkOf (L.take k) : Int) ∧ 0 ≤ v) (fun _ i => L.length - (intOf i).toNat)
    case atStart => exact ⟨0, _, Nat.zero_le _, rfl, rfl, by simp [bulkOf], by omega⟩
    case round =>
      obtain ⟨k, v, hk, rfl, rfl, hv, hv0⟩ := hrel
      by_cases hlt : k < L.length
      · obtain ⟨b, off, a, c', l, rfl, hbB, hl, c0, hrow, hcap⟩ := ht.row_at hlt
        have h1 := bulk_take_succ L k l hl
        have hlm := hL l (List.mem_of_getElem? hl)
        by_cases hv1 : (l.length : Int) ≤ v
        · have hv2 : v ≤ 1048576 := by omega
          have hv3 : v - (l.length : Int) = m - (L.length : Int) - (bulkOf (L.take (k + 1)) : Int) := by omega
          have hv4 : 0 ≤ v - (l.length : Int) := by omega
          have Hv := Lib.hid hv3
          clear hv hv3 h1 hl
          go_wp2_with fail
          refine (szIntS_ok _ _ _ _ _ (by omega) (by omega)).mono ?_
          rintro _ _ ⟨rfl, rfl⟩
          go_wp2_with fail
          go_round
          case rel => exact ⟨k + 1, _, by omega, by go_num, rfl, Hv.out, by omega⟩
          case measure => simp [intOf]; omega
        · have hv2 : v ≤ 1048576 := by omega
          clear hv h1 hl
          go_wp2_with fail
          refine (szIntS_big _ _ _ _ _ (by omega) hlm (by omega)).mono ?_
          rintro _ _ ⟨rfl, rfl⟩
          go_wp2_with fail
          go_ret
          exact ⟨rfl, rfl⟩
      · exfalso
        have e : k = L.length := by omega
        rw [e, List.take_length] at hv
        omega
  · have h' : m - (L.length : Int) < 0 := by omega
    go_enter Try.func28, Try.ntmps28
    go_wp2_with fail
    go_ret
    exact ⟨rfl, rfl⟩
theorem infoRow : (Try.prog.info? 32).map (fun i => (i.zero, i.size, i.bytes)) = some (some (.slice none 0 0), 1, 24) := by kernel_rfl
theorem heads_snoc {hd : List (Option Addr × Nat)} {L : List (List Int)} {a : Option Addr} {c k : Nat} {l : List Int} (h1 : hd.length = k) (hl : L[k]? = some l) : heads (hd ++ [(a, c)]) (L.take (k + 1)) = heads hd (L.take k) ++ [.slice a l.length c] := by
  obtain ⟨hk, rfl⟩ := List.getElem?_eq_some_iff.1 hl
  unfold heads
  rw [List.take_succ_eq_append_getElem hk, List.zip_append (by simp; omega)]
  simp
set_option maxHeartbeats 1000000 in
theorem toIntSS_any (A : Option Addr) (c : Nat) (L : List (List Int)) (w : World) (ht : Tab w w.heap.size A L) (hn : L.length ≤ 1048576) (hr : ∀ l ∈ L, l.length ≤ 1048576) :
    Calls Try.prog 31 #[.slice A L.length c] w (RetTab w L) := by
  obtain ⟨i0, hi, hz0, hz1, hz2⟩ := info_parts infoRow
  have hmk := fun W => run_make (P := Try.prog) W 46 32 i0 _ Try.underlying46 hi hz0 .i64 .i64 L.length L.length (by omega) (by omega) (by rw [hz2]; omega) (by omega)
  simp only [Int.toNat_natCast, hz1] at hmk
  have Hr := Lib.hid hr
  clear hr
  go_enter Try.func31, Try.ntmps31
  go_wp2_with fail
  clear hmk
  go_loopw [4] (fun i wr => ∃ k : Nat, ∃ (cs : Array Value) (hd : List (Option Addr × Nat)), k ≤ L.length ∧ i = .int .i64 k ∧ Below w.heap.size w wr ∧ Blk wr w.heap.size 32 cs ∧ cs.size = L.length ∧ hd.length = k ∧ (∀ j, j < k → cs[j]? = (heads hd (L.take k))[j]?) ∧
    (∀ (i : Nat) (a : Option Addr) (c' : Nat) (l : List Int), hd[i]? = some (a, c') → L[i]? = some l → Own wr w.heap.size wr.heap.size 3 1 a l.length c' (ints l)) ∧ ∀ (i : Nat) (a : Option Addr) (c' : Nat), hd[i]? = some (a, c') → ∀ g, (Value.slice a 0 c').ownBlock = some g → w.heap.size < g) (fun i _ => L.length - (intOf i).toNat)
  case atStart => exact ⟨0, _, [], Nat.zero_le _, rfl, (Below.refl _ _).alloc (Nat.le_refl _) _, Blk.made _ _ _, (size_madeCells _ _).trans (by omega), rfl, by omega, by simp, by simp⟩
  case round =>
    obtain ⟨k, cs, hd, hk, rfl, hb, hB, hsz, hhd, hcs, hrows, hne⟩ := hrel
    have Hsz := Lib.hid hsz
    have Hhd := Lib.hid hhd
    have Hcs := Lib.hid hcs
    have Hrows := Lib.hid hrows
    have Hne := Lib.hid hne
    clear hsz hcs hhd hrows hne
    by_cases hlt : k < L.length
    · obtain ⟨b, off, a, c', l, rfl, hbB, hl, c0, hrow, hcap⟩ := (ht.below hb).row_at hlt
      have hlm := Hr.out l (List.mem_of_getElem? hl)
      have Hl := Lib.hid hl
      clear hl
      go_wp2_with fail
      refine (toIntS_any _ _ _ _ (hrow.more hb.size) hlm).mono ?_
      rintro _ w1 ⟨A1, c1, rfl, ho1, hb1⟩
      have hB1 := hB.below hb1 hB.lt
      have hf := hB1.frozen
      have hlen : cs.size = L.length := Hsz.out
      obtain ⟨v0, e0⟩ := cell_is hB1 (i := k) (by omega)
      clear hlen c0
      go_wp2_with fail
      go_roundw
      case rel =>
        have hhdO := Hhd.out
        have hsn := heads_snoc (a := A1) (c := c1) hhdO Hl.out
        have hlt1 := hB.lt
        have o1 : Own w1 wr.heap.size w1.heap.size 3 1 A1 l.length c1 (ints l) := Own.of ho1
        have keepO : ∀ {a : Option Addr} {n c' : Nat} {xs : List Value} {lo : Nat}, Own w1 lo w1.heap.size 3 1 a n c' xs → (∀ g, (Value.slice a n c').ownBlock = some g → g ≠ w.heap.size) → ∀ u, Own (w1.setCell ⟨w.heap.size, k, none⟩ u) lo (w1.setCell ⟨w.heap.size, k, none⟩ u).heap.size 3 1 a n c' xs := by
          intro a n c' xs lo h hg u
          obtain ⟨⟨q1, q2⟩, q3⟩ := h
          refine ⟨⟨q1, ?_⟩, fun g hg' => by simpa using q3 g hg'⟩
          rcases q2 with q2 | ⟨g, cap, cur, hv, hg1, hg2, hr⟩
          · exact .inl q2
          · exact .inr ⟨g, cap, cur, hv, hg1, Blk.other (t := 3) hg2 (hg g (by rw [hv]; rfl)) u, hr⟩
        have blkA1 : ∀ g, (Value.slice A1 l.length c1).ownBlock = some g → w.heap.size < g := fun g hg => by
          have := (ho1.lt g hg).1
          omega
        refine ⟨k + 1, _, hd ++ [(A1, c1)], by omega, by go_num, (hb.trans (hb1.mono hb.size)).setCell (Nat.le_refl _) _, hB1.put _ _, by simp [Hsz.out], by simp [hhdO], ?_, ?_, ?_⟩
        · intro j hj
          rw [hsn, Array.getElem?_setIfInBounds, List.getElem?_append, heads_length (by simp; omega)]
          have hszO := Hsz.out
          simp only [List.length_take, Nat.min_eq_left (show k ≤ L.length by omega)]
          by_cases ej : k = j
          · subst ej
            rw [if_pos rfl, if_pos (by omega), if_neg (by omega)]
            simp
          · rw [if_neg ej, if_pos (by omega)]
            exact Hcs.out j (by omega)
        · intro i a2 c2 l2 ha hl2
          by_cases hik : i < k
          · rw [List.getElem?_append_left (by omega)] at ha
            have q := Hrows.out i a2 c2 l2 ha hl2
            have q' : Own w1 w.heap.size w1.heap.size 3 1 a2 l2.length c2 (ints l2) := by
              have := q.below hb1
              exact ⟨this.1, fun g hg => Nat.lt_of_lt_of_le (this.2 g hg) hb1.size⟩
            refine keepO q' (fun g hg => ?_) _
            have := Hne.out i a2 c2 ha g ((ownBlock_any a2 0 c2 l2.length c2).trans hg)
            omega
          · have hik' : i = k := by
              have := (List.getElem?_eq_some_iff.1 ha).1
              simp at this
              omega
            subst hik'
            rw [List.getElem?_append_right (by omega)] at ha
            simp [hhdO] at ha
            obtain ⟨rfl, rfl⟩ := ha
            rw [Hl.out] at hl2
            injection hl2 with hl2
            subst hl2
            refine keepO ⟨own_base o1.1 hb.size, o1.2⟩ (fun g hg => ?_) _
            have := blkA1 g hg
            omega
        · intro i a2 c2 ha g hg
          by_cases hik : i < k
          · rw [List.getElem?_append_left (by omega)] at ha
            exact Hne.out i a2 c2 ha g hg
          · have hik' : i = k := by
              have := (List.getElem?_eq_some_iff.1 ha).1
              simp at this
              omega
            subst hik'
            rw [List.getElem?_append_right (by omega)] at ha
            simp [hhdO] at ha
            obtain ⟨rfl, rfl⟩ := ha
            exact blkA1 g ((ownBlock_any A1 l.length c1 0 c1).trans hg)
      case measure => simp [intOf]; omega
    · go_wp2_with fail
      go_ret
      have e : k = L.length := by omega
      have hcs := Hcs.out
      rw [e, List.take_length] at hcs
      exact ⟨_, _, rfl, ⟨w.heap.size, cs, hd, rfl, Nat.le_refl _, hB.lt, hB, rfl, Nat.le_refl _, Hsz.out, by rw [Hhd.out, e], hcs, Hrows.out⟩, hb⟩
set_option maxHeartbeats 1000000 in
theorem eqIntSS_same (A A' : Option Addr) (c c' : Nat) (L : List (List Int)) (w : World) (ht : Tab w w.heap.size A L) (ht' : Tab w w.heap.size A' L) (hn : L.length ≤ 1048576) (hr : ∀ l ∈ L, l.length ≤ 1048576) :
    Calls Try.prog 34 #[.slice A L.length c, .slice A' L.length c'] w fun e w' => e = .returned (.bool true) ∧ Below w.heap.size w w' := by
  have Hr := Lib.hid hr
  clear hr
  go_enter Try.func34, Try.ntmps34
  go_wp2_with fail
  go_loopw [5] (fun i wr => ∃ k : Nat, k ≤ L.length ∧ i = .int .i64 k ∧ Below w.heap.size w wr) (fun i _ => L.length - (intOf i).toNat)
  case atStart => exact ⟨0, Nat.zero_le _, rfl, Below.refl _ _⟩
  case round =>
    obtain ⟨k, hk, rfl, hb⟩ := hrel
    by_cases hlt : k < L.length
    · obtain ⟨b, off, a, c1, l, rfl, hbB, hl, c0, hrow, hcap⟩ := (ht.next hb).row_at hlt
      obtain ⟨b', off', a', c1', l', rfl, hbB', hl', c0', hrow', hcap'⟩ := (ht'.next hb).row_at hlt
      obtain rfl : l = l' := by rw [hl] at hl'; injection hl'
      have hlm := Hr.out l (List.mem_of_getElem? hl)
      clear hl hl'
      go_wp2_with fail
      go_region_held3 (fun w' => Below wr.heap.size wr w' ∧ ∀ b o, b < wr.heap.size → w'.cell? ⟨b, o, none⟩ = wr.cell? ⟨b, o, none⟩)
        (first | exact held_of ((Below.refl _ _).drew) | exact held_call (by assumption) (by assumption))
        (first | (go_at_call 18; refine (eqIntS_same _ _ _ _ _ _ (hrow.next (And.left (by assumption))) (hrow'.next (And.left (by assumption))) hlm).mono ?_; rintro e w2 ⟨rfl, hbq⟩))
      have hb2 : Below wr.heap.size wr w2 := And.left (by assumption)
      go_wp2_with fail
      go_roundw
      case rel => exact ⟨k + 1, by omega, by go_num, below_next hb hb2⟩
      case measure => simp [intOf]; omega
    · go_wp2_with fail
      go_ret
      exact ⟨rfl, hb⟩
theorem lostValid_any (A : Option Addr) (c : Nat) (L : List (List Int)) (w : World) (ht : Tab w w.heap.size A L) (hn : L.length ≤ 1048576) (hr : ∀ l ∈ L, l.length ≤ 1048576) :
    Calls Try.prog 62 #[.slice A L.length c] w fun e w' => e = .returned (.bool (lostOk L)) ∧ w = w' := by
  have Hr := Lib.hid hr
  clear hr
  by_cases h4 : L.length = 4
  case neg =>
    have hne : ((L.length : Int) == 4) = false := by rw [beq_eq_false_iff_ne]; omega
    have hne' : ((L.length : Int) != 4) = true := by rw [bne_iff_ne]; omega
    go_enter Try.func62, Try.ntmps62
    go_wp2_with fail
    go_ret
    exact ⟨ret_bool (by simp [lostOk, sameLen, h4]), rfl⟩
  have hne : ((L.length : Int) == 4) = true := by rw [beq_iff_eq]; omega
  have hne' : ((L.length : Int) != 4) = false := by simp only [bne, hne, Bool.not_true]
  have H4 := Lib.hid h4
  have h4' : L.length ≤ 4 := by omega
  clear h4
  go_enter Try.func62, Try.ntmps62
  go_wp2_with fail
  clear hne hne'
  go_loop [12] (fun i => ∃ k : Nat, k ≤ L.length ∧ i = .int .i64 k ∧ (L.take k).all rowOk = true) (fun i => L.length - (intOf i).toNat)
  case atStart => exact ⟨0, Nat.zero_le _, rfl, by simp⟩
  case round =>
    obtain ⟨k, hk, rfl, hall⟩ := hrel
    have Hall := Lib.hid hall
    clear hall
    by_cases hlt : k < L.length
    · obtain ⟨b, off, a, c1, l, rfl, hbB, hl, c0, hrow, hcap⟩ := ht.row_at hlt
      have Hl := Lib.hid hl
      clear hl
      by_cases hl4 : l.length = 4
      case neg =>
        have hne : ((l.length : Int) == 4) = false := by rw [beq_eq_false_iff_ne]; omega
        have hne' : ((l.length : Int) != 4) = true := by rw [bne_iff_ne]; omega
        go_wp2_with fail
        go_ret
        exact ⟨ret_bool (by simp [lostOk, all_false_at rowOk _ _ _ Hl.out (by simp [rowOk, sameLen, hl4])]), rfl⟩
      have hne : ((l.length : Int) == 4) = true := by rw [beq_iff_eq]; omega
      have hne' : ((l.length : Int) != 4) = false := by simp only [bne, hne, Bool.not_true]
      have Hl4 := Lib.hid hl4
      have hl4' : l.length ≤ 4 := by omega
      clear hl4
      go_wp2_with fail
      clear hne hne'
      go_loop [21] (fun i => ∃ j : Nat, j ≤ l.length ∧ i = .int .i64 j ∧ (l.take j).all lossB = true) (fun i => l.length - (intOf i).toNat)
      case atStart => exact ⟨0, Nat.zero_le _, rfl, by simp⟩
      case round =>
        obtain ⟨j, hj, rfl, hal⟩ := hrel
        have Hal := Lib.hid hal
        clear hal
        by_cases hjl : j < l.length
        · obtain ⟨b2, off2, x, rfl, hbB2, hx, d0⟩ := hrow.int_at hjl
          have Hx := Lib.hid hx
          clear hx
          cases hp : inB x 0 99 with
          | true =>
            go_wp2_with (go_at_call 52; refine (within_any _ _ _ _).mono ?_; rintro e w' ⟨rfl, rfl⟩)
            go_round
            case rel => exact ⟨j + 1, by omega, by go_num, by rw [all_take_succ _ _ _ _ Hx.out, Hal.out]; simp [lossB, hp]⟩
            case measure => simp [intOf]; omega
          | false =>
            go_wp2_with (go_at_call 52; refine (within_any _ _ _ _).mono ?_; rintro e w' ⟨rfl, rfl⟩)
            go_ret
            exact ⟨ret_bool (by simp [lostOk, all_false_at rowOk _ _ _ Hl.out (by simp [rowOk, all_false_at lossB _ _ _ Hx.out hp])]), rfl⟩
        · have e : j = l.length := by omega
          have hal := Hal.out
          rw [e, List.take_length] at hal
          have Hal2 := Lib.hid hal
          clear hal e Hal
          go_wp2_with fail
          go_round
          case rel => exact ⟨k + 1, by omega, by go_num, by rw [all_take_succ _ _ _ _ Hl.out, Hall.out]; simp [rowOk, sameLen, Hl4.out, Hal2.out]⟩
          case measure => simp [intOf]; omega
    · go_wp2_with fail
      go_ret
      have e : k = L.length := by omega
      have ha := Hall.out
      rw [e, List.take_length] at ha
      exact ⟨ret_bool (by simp [lostOk, sameLen, H4.out, ha]), rfl⟩
theorem sLostValid_any (A : Option Addr) (c : Nat) (L : List (List Int)) (w : World) (ht : Tab w w.heap.size A L) (hn : L.length ≤ 1048576) (hr : ∀ l ∈ L, l.length ≤ 1048576) :
    Calls Try.prog 58 #[.slice A L.length c] w fun e w' => e = .returned (.bool (lostOk L)) ∧ w = w' := by
  have Hr := Lib.hid hr
  clear hr
  go_enter Try.func58, Try.ntmps58
  go_wp2_with fail
  go_loop [3] (fun i => ∃ k : Nat, k ≤ L.length ∧ i = .int .i64 k ∧ (L.take k).all rowOk = true) (fun i => L.length - (intOf i).toNat)
  case atStart => exact ⟨0, Nat.zero_le _, rfl, by simp⟩
  case round =>
    obtain ⟨k, hk, rfl, hall⟩ := hrel
    have Hall := Lib.hid hall
    clear hall
    by_cases hlt : k < L.length
    · obtain ⟨b, off, a, c1, l, rfl, hbB, hl, c0, hrow, hcap⟩ := ht.row_at hlt
      have Hl := Lib.hid hl
      clear hl
      by_cases hl4 : l.length = 4
      case neg =>
        have hne : ((l.length : Int) == 4) = false := by rw [beq_eq_false_iff_ne]; omega
        have hne' : ((l.length : Int) != 4) = true := by rw [bne_iff_ne]; omega
        go_wp2_with fail
        go_ret
        exact ⟨ret_bool (by simp [lostOk, all_false_at rowOk _ _ _ Hl.out (by simp [rowOk, sameLen, hl4])]), rfl⟩
      have hne : ((l.length : Int) == 4) = true := by rw [beq_iff_eq]; omega
      have hne' : ((l.length : Int) != 4) = false := by simp only [bne, hne, Bool.not_true]
      have Hl4 := Lib.hid hl4
      have hl4' : l.length ≤ 4 := by omega
      clear hl4
      go_wp2_with fail
      clear hne hne'
      go_loop [4] (fun i => ∃ j : Nat, j ≤ l.length ∧ i = .int .i64 j ∧ (l.take j).all lossB = true) (fun i => l.length - (intOf i).toNat)
      case atStart => exact ⟨0, Nat.zero_le _, rfl, by simp⟩
      case round =>
        obtain ⟨j, hj, rfl, hal⟩ := hrel
        have Hal := Lib.hid hal
        clear hal
        by_cases hjl : j < l.length
        · obtain ⟨b2, off2, x, rfl, hbB2, hx, d0⟩ := hrow.int_at hjl
          have Hx := Lib.hid hx
          clear hx
          cases hp : inB x 0 99 with
          | true =>
            go_wp2_with (go_at_call 46; refine (l1In_any _ _ _ _).mono ?_; rintro e w' ⟨rfl, rfl⟩)
            go_round
            case rel => exact ⟨j + 1, by omega, by go_num, by rw [all_take_succ _ _ _ _ Hx.out, Hal.out]; simp [lossB, hp]⟩
            case measure => simp [intOf]; omega
          | false =>
            go_wp2_with (go_at_call 46; refine (l1In_any _ _ _ _).mono ?_; rintro e w' ⟨rfl, rfl⟩)
            go_ret
            exact ⟨ret_bool (by simp [lostOk, all_false_at rowOk _ _ _ Hl.out (by simp [rowOk, all_false_at lossB _ _ _ Hx.out hp])]), rfl⟩
        · have e : j = l.length := by omega
          have hal := Hal.out
          rw [e, List.take_length] at hal
          have Hal2 := Lib.hid hal
          clear hal e Hal
          go_wp2_with fail
          go_round
          case rel => exact ⟨k + 1, by omega, by go_num, by rw [all_take_succ _ _ _ _ Hl.out, Hall.out]; simp [rowOk, sameLen, Hl4.out, Hal2.out]⟩
          case measure => simp [intOf]; omega
    · go_wp2_with fail
      go_ret
      have e : k = L.length := by omega
      have ha := Hall.out
      rw [e, List.take_length] at ha
      exact ⟨ret_bool (by
        simp only [lostOk, ha, sameLen, Bool.and_true]
        rw [Bool.eq_iff_iff]
        simp
        try omega), rfl⟩
end Go.Proofs.Ytblfbllhkmcbbaa
