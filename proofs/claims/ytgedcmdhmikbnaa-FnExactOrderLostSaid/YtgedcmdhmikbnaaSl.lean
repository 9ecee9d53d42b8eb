/-
  Contracts of the laws' own helpers on slices (copy in, compare, count). Each writes nothing that was there.
-/
import Derived.Test.YtgedcmdhmikbnaaVal
namespace Go.Proofs.Ytgedcmdhmikbnaa
open Go.RowKit
theorem infoInt : (Try.prog.info? 3).map (fun i => (i.zero, i.size, i.bytes)) = some (some (.int .i64 0), 1, 8) := by kernel_rfl
theorem toIntS_any (A : Option Addr) (c : Nat) (l : List Int) (w : World) (hs : Sees w w.heap.size A (ints l)) (hn : l.length ≤ 1048576) :
    Calls Try.prog 32 #[.slice A l.length c] w (RetOwn w 3 1 l.length (ints l)) := by
  obtain ⟨i0, hi, hz0, hz1, hz2⟩ := info_parts infoInt
  have hmk := fun W => run_make (P := Try.prog) W 46 3 i0 _ Try.underlying46 hi hz0 .i64 .i64 l.length l.length (by omega) (by omega) (by rw [hz2]; omega) (by omega)
  simp only [Int.toNat_natCast, hz1] at hmk
  go_enter Try.func32, Try.ntmps32
  go_wp2_with fail
  clear hmk
  go_loopw [4] (fun i wr => ∃ k : Nat, ∃ cs : Array Value, k ≤ l.length ∧ i = .int .i64 k ∧ Below w.heap.size w wr ∧ Blk wr w.heap.size 3 cs ∧ cs.size = l.length ∧ (∀ j, j < k → cs[j]? = (ints l)[j]?)) (fun i _ => l.length - (intOf i).toNat)
  case atStart => exact ⟨0, _, Nat.zero_le _, rfl, (Below.refl _ _).alloc (Nat.le_refl _) _, Blk.made _ _ _, (size_madeCells _ _).trans (by omega), by omega⟩
  case round =>
    obtain ⟨k, cs, hk, rfl, hb, hB, hsz, hcs⟩ := hrel
    have Hsz := Lib.hid hsz
    have Hcs := Lib.hid hcs
    clear hsz hcs
    by_cases hlt : k < l.length
    · obtain ⟨b, off, x, rfl, hbB, hl, c0⟩ := (hs.below hb).int_at hlt
      have Hl := Lib.hid hl
      clear hl
      have hf := hB.frozen
      have hlen : cs.size = l.length := Hsz.out
      obtain ⟨v0, e0⟩ := cell_is hB (i := k) (by omega)
      clear hlen
      go_wp2_with fail
      go_roundw
      case rel =>
        obtain ⟨q1, q2⟩ := put1 Hsz.out hlt Hcs.out (ints_get Hl.out)
        exact ⟨k + 1, _, by omega, by go_num, hb.setCell (by simp) _, hB.put _ _, q1, q2⟩
      case measure => simp [intOf]; omega
    · go_wp2_with fail
      go_ret
      have e : k = l.length := by omega
      have hcs := Hcs.out
      rw [e] at hcs
      exact ⟨_, _, rfl, own_of_blk hB (Nat.le_refl _) (by omega) (Hsz.out.trans (by omega)) (list_of_all Hsz.out (by rw [ints_length]) hcs), hb⟩
theorem eqIntS_same (A A' : Option Addr) (c c' : Nat) (l : List Int) (w : World) (hs : Sees w w.heap.size A (ints l)) (hs' : Sees w w.heap.size A' (ints l)) (hn : l.length ≤ 1048576) :
    Calls Try.prog 34 #[.slice A l.length c, .slice A' l.length c'] w fun e w' => e = .returned (.bool true) ∧ Below w.heap.size w w' := by
  go_enter Try.func34, Try.ntmps34
  go_wp2_with fail
  go_loopw [5] (fun i wr => ∃ k : Nat, k ≤ l.length ∧ i = .int .i64 k ∧ Below w.heap.size w wr) (fun i _ => l.length - (intOf i).toNat)
  case atStart => exact ⟨0, Nat.zero_le _, rfl, Below.refl _ _⟩
  case round =>
    obtain ⟨k, hk, rfl, hb⟩ := hrel
    by_cases hlt : k < l.length
    · obtain ⟨b, off, x, rfl, hbB, hl, c0⟩ := (hs.below hb).int_at hlt
      obtain ⟨b', off', x', rfl, hbB', hl', c0'⟩ := (hs'.below hb).int_at hlt
      obtain rfl : x = x' := by rw [hl] at hl'; injection hl'
      clear hl hl'
      go_wp2_with fail
      go_quiet (fail)
      go_wp2_with fail
      go_roundw
      case rel => exact ⟨k + 1, by omega, by go_num, below_drewN hb _⟩
      case measure => simp [intOf]; omega
    · go_wp2_with fail
      go_ret
      exact ⟨rfl, hb⟩
end Go.Proofs.Ytgedcmdhmikbnaa
