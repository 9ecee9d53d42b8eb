/-
  Contracts of the laws' own helpers on slices (copy in, compare, count). Each writes nothing that was there.
-/
import Derived.Test.YtblfbllhkmcbbaaVal
namespace Go.Proofs.Ytblfbllhkmcbbaa
open Go.RowKit
theorem infoInt : (Try.prog.info? 3).map (fun i => (i.zero, i.size, i.bytes)) = some (some (.int .i64 0), 1, 8) := by kernel_rfl
theorem toIntS_any (A : Option Addr) (c : Nat) (l : List Int) (w : World) (hs : Sees w w.heap.size A (ints l)) (hn : l.length ≤ 1048576) :
    Calls Try.prog 41 #[.slice A l.length c] w (RetOwn w 3 1 l.length (ints l)) := by
  obtain ⟨i0, hi, hz0, hz1, hz2⟩ := info_parts infoInt
  have hmk := fun W => run_make (P := Try.prog) W 32 3 i0 _ Try.underlying32 hi hz0 .i64 .i64 l.length l.length (by omega) (by omega) (by rw [hz2]; omega) (by omega)
  simp only [Int.toNat_natCast, hz1] at hmk
  go_enter Try.func41, Try.ntmps41
  go_wp2_with fail
  clear hmk
  go_loopw [4] (fun i wr => ∃ k : Nat, ∃ cs : Array Value, k ≤ l.length ∧ i = .int .i64 k ∧ Below w.heap.size w wr ∧ Blk wr w.heap.size 3 cs ∧ cs.size = l.length ∧ (∀ j, j < k → cs[j]? = (ints l)[j]?)) (fun i _ => l.length - (intOf i).toNat)
  case atStart => exact ⟨0, _, Nat.zero_le _, rfl, (Below.refl _ _).alloc (Nat.le_refl _) _, Blk.made _ _ _, (size_madeCells _ _).trans (by omega), by omega⟩
  case round =>
    obtain ⟨k, cs, hk, rfl, hb, hB, hsz, hcs⟩ := hrel
    have Hsz := Lib.hid hsz
    have Hcs := Lib.hid hcs
    clear hsz hcs
    by_cases hlt : k < l.length
    · obtain ⟨b, off, x, rfl, hbB, hl, c0⟩ := (hs.below hb).int_at hlt
      have Hl := Lib.hid hl
      clear hl
      have hf := hB.frozen
      have hlen : cs.size = l.length := Hsz.out
      obtain ⟨v0, e0⟩ := cell_is hB (i := k) (by omega)
      clear hlen
      go_wp2_with fail
      go_roundw
      case rel =>
        obtain ⟨q1, q2⟩ := put1 Hsz.out hlt Hcs.out (ints_get Hl.out)
        exact ⟨k + 1, _, by omega, by go_num, hb.setCell (by simp) _, hB.put _ _, q1, q2⟩
      case measure => simp [intOf]; omega
    · go_wp2_with fail
      go_ret
      have e : k = l.length := by omega
      have hcs := Hcs.out
      rw [e] at hcs
      exact ⟨_, _, rfl, own_of_blk hB (Nat.le_refl _) (by omega) (Hsz.out.trans (by omega)) (list_of_all Hsz.out (by rw [ints_length]) hcs), hb⟩
theorem eqIntS_same (A A' : Option Addr) (c c' : Nat) (l : List Int) (w : World) (hs : Sees w w.heap.size A (ints l)) (hs' : Sees w w.heap.size A' (ints l)) (hn : l.length ≤ 1048576) :
    Calls Try.prog 18 #[.slice A l.length c, .slice A' l.length c'] w fun e w' => e = .returned (.bool true) ∧ Below w.heap.size w w' := by
  go_enter Try.func18, Try.ntmps18
  go_wp2_with fail
  go_loopw [5] (fun i wr => ∃ k : Nat, k ≤ l.length ∧ i = .int .i64 k ∧ Below w.heap.size w wr) (fun i _ => l.length - (intOf i).toNat)
  case atStart => exact ⟨0, Nat.zero_le _, rfl, Below.refl _ _⟩
  case round =>
    obtain ⟨k, hk, rfl, hb⟩ := hrel
    by_cases hlt : k < l.length
    · obtain ⟨b, off, x, rfl, hbB, hl, c0⟩ := (hs.below hb).int_at hlt
      obtain ⟨b', off', x', rfl, hbB', hl', c0'⟩ := (hs'.below hb).int_at hlt
      obtain rfl : x = x' := by rw [hl] at hl'; injection hl'
      clear hl hl'
      go_wp2_with fail
      go_quiet (fail)
      go_wp2_with fail
      go_roundw
      case rel => exact ⟨k + 1, by omega, by go_num, below_drewN hb _⟩
      case measure => simp [intOf]; omega
    · go_wp2_with fail
      go_ret
      exact ⟨rfl, hb⟩
theorem infoStuff : (Try.prog.info? 72).map (fun i => (i.zero, i.size, i.bytes)) = some (some (.agg #[.int .i64 0, .int .i64 0, .int .i64 0, .int .i64 0, .int .i64 0]), 5, 40) := by kernel_rfl
theorem toStuffS_any (A : Option Addr) (c : Nat) (l : List Stuff) (w : World) (hs : Sees w w.heap.size A (ints (flatS l))) (hn : l.length ≤ 1048576) :
    Calls Try.prog 16 #[.slice A l.length c] w (RetOwn w 72 5 l.length (ints (flatS l))) := by
  obtain ⟨i0, hi, hz0, hz1, hz2⟩ := info_parts infoStuff
  have hmk := fun W => run_make (P := Try.prog) W 35 72 i0 _ Try.underlying35 hi hz0 .i64 .i64 l.length l.length (by omega) (by omega) (by rw [hz2]; omega) (by omega)
  simp only [Int.toNat_natCast, hz1] at hmk
  go_enter Try.func16, Try.ntmps16
  go_wp2_with fail
  clear hmk
  go_loopw [4] (fun i wr => ∃ k : Nat, ∃ cs : Array Value, k ≤ l.length ∧ i = .int .i64 k ∧ Below w.heap.size w wr ∧ Blk wr w.heap.size 72 cs ∧ cs.size = l.length * 5 ∧ (∀ j, j < k * 5 → cs[j]? = (ints (flatS l))[j]?)) (fun i _ => l.length - (intOf i).toNat)
  case atStart => exact ⟨0, _, Nat.zero_le _, rfl, (Below.refl _ _).alloc (Nat.le_refl _) _, Blk.made _ _ _, size_madeCells _ _, by omega⟩
  case round =>
    obtain ⟨k, cs, hk, rfl, hb, hB, hsz, hcs⟩ := hrel
    have Hsz := Lib.hid hsz
    have Hcs := Lib.hid hcs
    clear hsz hcs
    by_cases hlt : k < l.length
    · obtain ⟨b, off, a1, a2, a3, a4, a5, rfl, hbB, hl, c0, c1, c2, c3, c4⟩ := (hs.below hb).stuff_at hlt
      have Hl := Lib.hid hl
      clear hl
      go_wp2_with fail
      refine (toStuff_any _ _ _ _ _ _).mono ?_
      rintro _ w1 ⟨rfl, hb1⟩
      have hB1 := hB.below hb1 hB.lt
      have hf := hB1.frozen
      have hlen : cs.size = l.length * 5 := Hsz.out
      obtain ⟨v0, e0⟩ := cell_is hB1 (i := k * 5) (by omega)
      obtain ⟨v1, e1⟩ := cell_is hB1 (i := k * 5 + 1) (by omega)
      obtain ⟨v2, e2⟩ := cell_is hB1 (i := k * 5 + 2) (by omega)
      obtain ⟨v3, e3⟩ := cell_is hB1 (i := k * 5 + 3) (by omega)
      obtain ⟨v4, e4⟩ := cell_is hB1 (i := k * 5 + 4) (by omega)
      clear hlen c0 c1 c2 c3 c4
      go_wp2_with fail
      go_roundw
      case rel =>
        obtain ⟨g0, g1, g2, g3, g4⟩ := flatS_at Hl.out
        obtain ⟨q1, q2⟩ := put5 Hsz.out hlt Hcs.out (ints_get g0) (ints_get g1) (ints_get g2) (ints_get g3) (ints_get g4)
        exact ⟨k + 1, _, by omega, by go_num, (((((hb.trans (hb1.mono hb.size)).setCell (by simp) _).setCell (by simp) _).setCell (by simp) _).setCell (by simp) _).setCell (by simp) _, ((((hB1.put _ _).put _ _).put _ _).put _ _).put _ _, q1, q2⟩
      case measure => simp [intOf]; omega
    · go_wp2_with fail
      go_ret
      have e : k = l.length := by omega
      have hcs := Hcs.out
      rw [e] at hcs
      exact ⟨_, _, rfl, own_of_blk hB (Nat.le_refl _) (by omega) Hsz.out (list_of_all Hsz.out (by rw [ints_length, flatS_length]) hcs), hb⟩
theorem szStuffS_ok (A : Option Addr) (n c : Nat) (m : Int) (w : World) (hm : m ≤ 1048576) (hn : (n : Int) ≤ m) :
    Calls Try.prog 14 #[.slice A n c, .int .i64 m] w fun e w' => e = .returned (.int .i64 (m - n)) ∧ w = w' := by
  have h' : (0 : Int) ≤ m - (n : Int) := by omega
  go_enter Try.func14, Try.ntmps14
  go_wp2_with fail
  go_ret
  exact ⟨rfl, rfl⟩
theorem szStuffS_big (A : Option Addr) (n c : Nat) (m : Int) (w : World) (hm : 0 ≤ m ∧ m ≤ 1048576) (hn : n ≤ maxLen) (h : m < n) :
    Calls Try.prog 14 #[.slice A n c, .int .i64 m] w fun e w' => e = .returned (.int .i64 (-1)) ∧ w = w' := by
  unfold maxLen at hn
  have h' : m - (n : Int) < 0 := by omega
  go_enter Try.func14, Try.ntmps14
  go_wp2_with fail
  go_ret
  exact ⟨rfl, rfl⟩
theorem eqStuff_same (a b c d e : Int) (w : World) : Calls Try.prog 54 #[.agg #[.int .i64 a, .int .i64 b, .int .i64 c, .int .i64 d, .int .i64 e], .agg #[.int .i64 a, .int .i64 b, .int .i64 c, .int .i64 d, .int .i64 e]] w fun E w' => E = .returned (.bool true) ∧ Below w.heap.size w w' := by
  go_enter Try.func54, Try.ntmps54
  go_wp2_with fail
  go_ret
  exact ⟨rfl, ((Below.refl _ _).alloc (Nat.le_refl _) _).alloc (by simp) _⟩
theorem eqStuffS_same (A A' : Option Addr) (c c' : Nat) (l : List Stuff) (w : World) (hs : Sees w w.heap.size A (ints (flatS l))) (hs' : Sees w w.heap.size A' (ints (flatS l))) (hn : l.length ≤ 1048576) :
    Calls Try.prog 19 #[.slice A l.length c, .slice A' l.length c'] w fun e w' => e = .returned (.bool true) ∧ Below w.heap.size w w' := by
  go_enter Try.func19, Try.ntmps19
  go_wp2_with fail
  go_loopw [5] (fun i wr => ∃ k : Nat, k ≤ l.length ∧ i = .int .i64 k ∧ Below w.heap.size w wr) (fun i _ => l.length - (intOf i).toNat)
  case atStart => exact ⟨0, Nat.zero_le _, rfl, Below.refl _ _⟩
  case round =>
    obtain ⟨k, hk, rfl, hb⟩ := hrel
    by_cases hlt : k < l.length
    · obtain ⟨b, off, a1, a2, a3, a4, a5, rfl, hbB, hl, c0, c1, c2, c3, c4⟩ := (hs.below hb).stuff_at hlt
      obtain ⟨b', off', a1', a2', a3', a4', a5', rfl, hbB', hl', c0', c1', c2', c3', c4'⟩ := (hs'.below hb).stuff_at hlt
      rw [hl] at hl'
      injection hl' with hl'
      injection hl' with h1 h2 h3 h4 h5
      subst h1; subst h2; subst h3; subst h4; subst h5
      clear hl
      have hw1 : b < wr.heap.size := by have := hb.size; omega
      have hw2 : b' < wr.heap.size := by have := hb.size; omega
      go_wp2_with fail
      go_region_held3 (fun w' => Below wr.heap.size wr w' ∧ ∀ b o, b < wr.heap.size → w'.cell? ⟨b, o, none⟩ = wr.cell? ⟨b, o, none⟩)
        (first | exact held_of ((Below.refl _ _).drew) | exact held_of (below_next (And.left (by assumption)) (by assumption)))
        (first | (go_at_call 54; refine (eqStuff_same _ _ _ _ _ _).mono ?_; rintro e w' ⟨rfl, hbq⟩))
      rename_i hHeld
      go_wp2_with fail
      go_roundw
      case rel => exact ⟨k + 1, by omega, by go_num, hb.trans (hHeld.1.mono hb.size)⟩
      case measure => simp [intOf]; omega
    · go_wp2_with fail
      go_ret
      exact ⟨rfl, hb⟩
end Go.Proofs.Ytblfbllhkmcbbaa
