/-
  Contracts of the functions on single heats and casters and on lists of heats, in the program, the reference and the laws' helpers. Each writes nothing that was there.
-/
import Derived.Test.YtblfbllhkmcbbaaSl
namespace Go.Proofs.Ytblfbllhkmcbbaa
open Go.RowKit
set_option linter.unusedVariables false
theorem toHeat_any (a b c : Int) (w : World) : Calls Try.prog 60 #[.agg #[.int .i64 a, .int .i64 b, .int .i64 c]] w fun E w' => E = .returned (.agg #[.int .i64 a, .int .i64 b, .int .i64 c]) ∧ Below w.heap.size w w' := by
  go_enter Try.func60, Try.ntmps60
  go_wp2
  refine bodyPost_ret (v := .agg #[.int .i64 a, .int .i64 b, .int .i64 c]) (by simp [results, Try.results60, go_sem]) rfl ⟨rfl, ?_⟩
  exact (((Below.refl _ _).alloc (Nat.le_refl _) _).alloc (by simp) _).alloc (by simp; omega) _
theorem toCaster_any (a b : Int) (w : World) : Calls Try.prog 40 #[.agg #[.int .i64 a, .int .i64 b]] w fun E w' => E = .returned (.agg #[.int .i64 a, .int .i64 b]) ∧ Below w.heap.size w w' := by
  go_enter Try.func40, Try.ntmps40
  go_wp2
  refine bodyPost_ret (v := .agg #[.int .i64 a, .int .i64 b]) (by simp [results, Try.results40, go_sem]) rfl ⟨rfl, ?_⟩
  exact (((Below.refl _ _).alloc (Nat.le_refl _) _).alloc (by simp) _).alloc (by simp; omega) _
theorem heatValid_any (a b c : Int) (w : World) : Calls Try.prog 82 #[.agg #[.int .i64 a, .int .i64 b, .int .i64 c]] w fun E w' => E = .returned (.bool (heatOk ⟨a, b, c⟩)) ∧ Below w.heap.size w w' := by
  go_enter Try.func82, Try.ntmps82
  go_wp2_with (go_at_call 52; refine (within_any _ _ _ _).mono ?_; rintro e w' ⟨rfl, rfl⟩)
  all_goals
    go_ret
    exact ⟨ret_bool (by simp [heatOk, *]), (Below.refl _ _).alloc (Nat.le_refl _) _⟩
theorem casterValid_any (a b : Int) (w : World) : Calls Try.prog 86 #[.agg #[.int .i64 a, .int .i64 b]] w fun E w' => E = .returned (.bool (casterOk ⟨a, b⟩)) ∧ Below w.heap.size w w' := by
  go_enter Try.func86, Try.ntmps86
  go_wp2_with (go_at_call 52; refine (within_any _ _ _ _).mono ?_; rintro e w' ⟨rfl, rfl⟩)
  all_goals
    go_ret
    exact ⟨ret_bool (by simp [casterOk, *]), (Below.refl _ _).alloc (Nat.le_refl _) _⟩
theorem sHeatValid_any (a b c : Int) (w : World) : Calls Try.prog 81 #[.agg #[.int .i64 a, .int .i64 b, .int .i64 c]] w fun E w' => E = .returned (.bool (heatOk ⟨a, b, c⟩)) ∧ Below w.heap.size w w' := by
  go_enter Try.func81, Try.ntmps81
  go_wp2_with (go_at_call 46; refine (l1In_any _ _ _ _).mono ?_; rintro e w' ⟨rfl, rfl⟩)
  all_goals
    go_ret
    exact ⟨ret_bool (by simp [heatOk, *]), (Below.refl _ _).alloc (Nat.le_refl _) _⟩
theorem sCasterValid_any (a b : Int) (w : World) : Calls Try.prog 85 #[.agg #[.int .i64 a, .int .i64 b]] w fun E w' => E = .returned (.bool (casterOk ⟨a, b⟩)) ∧ Below w.heap.size w w' := by
  go_enter Try.func85, Try.ntmps85
  go_wp2_with (go_at_call 46; refine (l1In_any _ _ _ _).mono ?_; rintro e w' ⟨rfl, rfl⟩)
  all_goals
    go_ret
    exact ⟨ret_bool (by simp [casterOk, *]), (Below.refl _ _).alloc (Nat.le_refl _) _⟩
theorem infoHeat : (Try.prog.info? 83).map (fun i => (i.zero, i.size, i.bytes)) = some (some (.agg #[.int .i64 0, .int .i64 0, .int .i64 0]), 3, 24) := by kernel_rfl
theorem toHeatS_any (A : Option Addr) (c : Nat) (l : List Heat) (w : World) (hs : Sees w w.heap.size A (ints (flatH l))) (hn : l.length ≤ 1048576) :
    Calls Try.prog 30 #[.slice A l.length c] w (RetOwn w 83 3 l.length (ints (flatH l))) := by
  obtain ⟨i0, hi, hz0, hz1, hz2⟩ := info_parts infoHeat
  have hmk := fun W => run_make (P := Try.prog) W 50 83 i0 _ Try.underlying50 hi hz0 .i64 .i64 l.length l.length (by omega) (by omega) (by rw [hz2]; omega) (by omega)
  simp only [Int.toNat_natCast, hz1] at hmk
  go_enter Try.func30, Try.ntmps30
  go_wp2_with fail
  clear hmk
  go_loopw [4] (fun i wr => ∃ k : Nat, ∃ cs : Array Value, k ≤ l.length ∧ i = .int .i64 k ∧ Below w.heap.size w wr ∧ Blk wr w.heap.size 83 cs ∧ cs.size = l.length * 3 ∧ (∀ j, j < k * 3 → cs[j]? = (ints (flatH l))[j]?)) (fun i _ => l.length - (intOf i).toNat)
  case atStart => exact ⟨0, _, Nat.zero_le _, rfl, (Below.refl _ _).alloc (Nat.le_refl _) _, Blk.made _ _ _, size_madeCells _ _, by omega⟩
  case round =>
    obtain ⟨k, cs, hk, rfl, hb, hB, hsz, hcs⟩ := hrel
    have Hsz := Lib.hid hsz
    have Hcs := Lib.hid hcs
    clear hsz hcs
    by_cases hlt : k < l.length
    · obtain ⟨b, off, a1, a2, a3, rfl, hbB, hl, c0, c1, c2⟩ := (hs.below hb).heat_at hlt
      have Hl := Lib.hid hl
      clear hl
      go_wp2_with fail
      refine (toHeat_any _ _ _ _).mono ?_
      rintro _ w1 ⟨rfl, hb1⟩
      have hB1 := hB.below hb1 hB.lt
      have hf := hB1.frozen
      have hlen : cs.size = l.length * 3 := Hsz.out
      obtain ⟨v0, e0⟩ := cell_is hB1 (i := k * 3) (by omega)
      obtain ⟨v1, e1⟩ := cell_is hB1 (i := k * 3 + 1) (by omega)
      obtain ⟨v2, e2⟩ := cell_is hB1 (i := k * 3 + 2) (by omega)
      clear hlen c0 c1 c2
      go_wp2_with fail
      go_roundw
      case rel =>
        obtain ⟨g0, g1, g2⟩ := flatH_at Hl.out
        obtain ⟨q1, q2⟩ := put3 Hsz.out hlt Hcs.out (ints_get g0) (ints_get g1) (ints_get g2)
        exact ⟨k + 1, _, by omega, by go_num, (((hb.trans (hb1.mono hb.size)).setCell (by simp) _).setCell (by simp) _).setCell (by simp) _, ((hB1.put _ _).put _ _).put _ _, q1, q2⟩
      case measure => simp [intOf]; omega
    · go_wp2_with fail
      go_ret
      have e : k = l.length := by omega
      have hcs := Hcs.out
      rw [e] at hcs
      exact ⟨_, _, rfl, own_of_blk hB (Nat.le_refl _) (by omega) Hsz.out (list_of_all Hsz.out (by rw [ints_length, flatH_length]) hcs), hb⟩
theorem szHeatS_ok (A : Option Addr) (n c : Nat) (m : Int) (w : World) (hm : m ≤ 1048576) (hn : (n : Int) ≤ m) :
    Calls Try.prog 27 #[.slice A n c, .int .i64 m] w fun e w' => e = .returned (.int .i64 (m - n)) ∧ w = w' := by
  have h' : (0 : Int) ≤ m - (n : Int) := by omega
  go_enter Try.func27, Try.ntmps27
  go_wp2_with fail
  go_ret
  exact ⟨rfl, rfl⟩
theorem szHeatS_big (A : Option Addr) (n c : Nat) (m : Int) (w : World) (hm : 0 ≤ m ∧ m ≤ 1048576) (hn : n ≤ maxLen) (h : m < n) :
    Calls Try.prog 27 #[.slice A n c, .int .i64 m] w fun e w' => e = .returned (.int .i64 (-1)) ∧ w = w' := by
  unfold maxLen at hn
  have h' : m - (n : Int) < 0 := by omega
  go_enter Try.func27, Try.ntmps27
  go_wp2_with fail
  go_ret
  exact ⟨rfl, rfl⟩
theorem eqHeat_same (a b c : Int) (w : World) : Calls Try.prog 64 #[.agg #[.int .i64 a, .int .i64 b, .int .i64 c], .agg #[.int .i64 a, .int .i64 b, .int .i64 c]] w fun E w' => E = .returned (.bool true) ∧ Below w.heap.size w w' := by
  go_enter Try.func64, Try.ntmps64
  go_wp2_with fail
  go_ret
  exact ⟨rfl, ((Below.refl _ _).alloc (Nat.le_refl _) _).alloc (by simp) _⟩
theorem eqHeatS_same (A A' : Option Addr) (c c' : Nat) (l : List Heat) (w : World) (hs : Sees w w.heap.size A (ints (flatH l))) (hs' : Sees w w.heap.size A' (ints (flatH l))) (hn : l.length ≤ 1048576) :
    Calls Try.prog 33 #[.slice A l.length c, .slice A' l.length c'] w fun e w' => e = .returned (.bool true) ∧ Below w.heap.size w w' := by
  go_enter Try.func33, Try.ntmps33
  go_wp2_with fail
  go_loopw [5] (fun i wr => ∃ k : Nat, k ≤ l.length ∧ i = .int .i64 k ∧ Below w.heap.size w wr) (fun i _ => l.length - (intOf i).toNat)
  case atStart => exact ⟨0, Nat.zero_le _, rfl, Below.refl _ _⟩
  case round =>
    obtain ⟨k, hk, rfl, hb⟩ := hrel
    by_cases hlt : k < l.length
    · obtain ⟨b, off, a1, a2, a3, rfl, hbB, hl, c0, c1, c2⟩ := (hs.below hb).heat_at hlt
      obtain ⟨b', off', a1', a2', a3', rfl, hbB', hl', c0', c1', c2'⟩ := (hs'.below hb).heat_at hlt
      rw [hl] at hl'
      injection hl' with hl'
      injection hl' with h1 h2 h3
      subst h1; subst h2; subst h3
      clear hl
      have hw1 : b < wr.heap.size := by have := hb.size; omega
      have hw2 : b' < wr.heap.size := by have := hb.size; omega
      go_wp2_with fail
      go_region_held3 (fun w' => Below wr.heap.size wr w' ∧ ∀ b o, b < wr.heap.size → w'.cell? ⟨b, o, none⟩ = wr.cell? ⟨b, o, none⟩)
        (first | exact held_of ((Below.refl _ _).drew) | exact held_of (below_next (And.left (by assumption)) (by assumption)))
        (first | (go_at_call 64; refine (eqHeat_same _ _ _ _).mono ?_; rintro e w' ⟨rfl, hbq⟩))
      rename_i hHeld
      go_wp2_with fail
      go_roundw
      case rel => exact ⟨k + 1, by omega, by go_num, hb.trans (hHeld.1.mono hb.size)⟩
      case measure => simp [intOf]; omega
    · go_wp2_with fail
      go_ret
      exact ⟨rfl, hb⟩
theorem heatsValid_any (A : Option Addr) (c : Nat) (l : List Heat) (w : World) (hs : Sees w w.heap.size A (ints (flatH l))) (hn : l.length ≤ 1048576) :
    Calls Try.prog 61 #[.slice A l.length c] w fun e w' => e = .returned (.bool (heatsOk l)) ∧ Below w.heap.size w w' := by
  by_cases h4 : l.length ≤ 6
  · go_enter Try.func61, Try.ntmps61
    go_wp2_with fail
    go_loopw [10] (fun i wr => ∃ k : Nat, k ≤ l.length ∧ i = .int .i64 k ∧ (l.take k).all heatOk = true ∧ Below w.heap.size w wr) (fun i _ => l.length - (intOf i).toNat)
    case atStart => exact ⟨0, Nat.zero_le _, rfl, by simp, Below.refl _ _⟩
    case round =>
      obtain ⟨k, hk, rfl, hall, hb⟩ := hrel
      have Hall := Lib.hid hall
      clear hall
      by_cases hlt : k < l.length
      · obtain ⟨b, off, a1, a2, a3, rfl, hbB, hl, c0, c1, c2⟩ := (hs.below hb).heat_at hlt
        have Hl := Lib.hid hl
        clear hl
        cases hok : heatOk ⟨a1, a2, a3⟩ with
        | true =>
          go_wp2_with (go_at_call 82; refine (heatValid_any _ _ _ _).mono ?_; rintro e w' ⟨rfl, hb2⟩)
          go_roundw
          case rel => exact ⟨k + 1, by omega, by go_num, by rw [all_take_succ _ _ _ _ Hl.out, Hall.out, hok]; rfl, hb.trans (((Below.refl _ _).alloc hb.size _).trans (hb2.mono (by simp; have := hb.size; omega)))⟩
          case measure => simp [intOf]; omega
        | false =>
          go_wp2_with (go_at_call 82; refine (heatValid_any _ _ _ _).mono ?_; rintro e w' ⟨rfl, hb2⟩)
          go_ret
          exact ⟨ret_bool (by simp [heatsOk, all_false_at _ _ _ _ Hl.out hok]), hb.trans (((Below.refl _ _).alloc hb.size _).trans (hb2.mono (by simp; have := hb.size; omega)))⟩
      · go_wp2_with fail
        go_ret
        have e : k = l.length := by omega
        have ha := Hall.out
        rw [e, List.take_length] at ha
        exact ⟨ret_bool (by simp [heatsOk, h4, ha]), hb⟩
  · go_enter Try.func61, Try.ntmps61
    go_wp2_with fail
    go_ret
    exact ⟨ret_bool (by simp [heatsOk, h4]), Below.refl _ _⟩
theorem sHeatsValid_any (A : Option Addr) (c : Nat) (l : List Heat) (w : World) (hs : Sees w w.heap.size A (ints (flatH l))) (hn : l.length ≤ 1048576) :
    Calls Try.prog 57 #[.slice A l.length c] w fun e w' => e = .returned (.bool (heatsOk l)) ∧ Below w.heap.size w w' := by
  go_enter Try.func57, Try.ntmps57
  go_wp2_with fail
  go_loopw [3] (fun i wr => ∃ k : Nat, k ≤ l.length ∧ i = .int .i64 k ∧ (l.take k).all heatOk = true ∧ Below w.heap.size w wr) (fun i _ => l.length - (intOf i).toNat)
  case atStart => exact ⟨0, Nat.zero_le _, rfl, by simp, Below.refl _ _⟩
  case round =>
    obtain ⟨k, hk, rfl, hall, hb⟩ := hrel
    have Hall := Lib.hid hall
    clear hall
    by_cases hlt : k < l.length
    · obtain ⟨b, off, a1, a2, a3, rfl, hbB, hl, c0, c1, c2⟩ := (hs.below hb).heat_at hlt
      have Hl := Lib.hid hl
      clear hl
      cases hok : heatOk ⟨a1, a2, a3⟩ with
      | true =>
        go_wp2_with (go_at_call 81; refine (sHeatValid_any _ _ _ _).mono ?_; rintro e w' ⟨rfl, hb2⟩)
        go_roundw
        case rel => exact ⟨k + 1, by omega, by go_num, by rw [all_take_succ _ _ _ _ Hl.out, Hall.out, hok]; rfl, hb.trans (hb2.mono hb.size)⟩
        case measure => simp [intOf]; omega
      | false =>
        go_wp2_with (go_at_call 81; refine (sHeatValid_any _ _ _ _).mono ?_; rintro e w' ⟨rfl, hb2⟩)
        go_ret
        exact ⟨ret_bool (by simp [heatsOk, all_false_at _ _ _ _ Hl.out hok]), hb.trans (hb2.mono hb.size)⟩
    · go_wp2_with fail
      go_ret
      have e : k = l.length := by omega
      have ha := Hall.out
      rw [e, List.take_length] at ha
      exact ⟨ret_bool (by simp [heatsOk, ha]; omega), hb⟩
end Go.Proofs.Ytblfbllhkmcbbaa
