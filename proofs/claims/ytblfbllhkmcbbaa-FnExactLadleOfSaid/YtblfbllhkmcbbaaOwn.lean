/-
  Rows that a call made, with the bounds of the blocks in which they lie; the laws' helpers mark and held on them.
-/
import Derived.Test.YtblfbllhkmcbbaaSl
namespace Go.Proofs.Ytblfbllhkmcbbaa
open Go.RowKit
set_option linter.unusedVariables false

theorem Blk.drew {w : World} {g : Nat} {t : TypeId} {cs : Array Value} (h : Blk w g t cs) : Blk w.drew g t cs := h
theorem Blk.drewN {w : World} {g : Nat} {t : TypeId} {cs : Array Value} (h : Blk w g t cs) (n : Nat) : Blk (w.drewN n) g t cs := h
/-- Only blocks from lo on and below hi, and new ones, have turned. -/
structure Only (lo hi : Nat) (w w' : World) : Prop where
  os : w'.os = w.os
  tape : w'.tape = w.tape
  output : w'.output = w.output
  size : w.heap.size ≤ w'.heap.size
  block : ∀ i, i < w.heap.size → (i < lo ∨ hi ≤ i) → w'.heap[i]? = w.heap[i]?
section
variable {w w' w'' : World} {lo hi lo' hi' B : Nat}
theorem Only.refl (lo hi : Nat) (w : World) : Only lo hi w w := ⟨rfl, rfl, rfl, Nat.le_refl _, fun _ _ _ => rfl⟩
theorem Only.trans (h : Only lo hi w w') (k : Only lo hi w' w'') : Only lo hi w w'' :=
  ⟨k.os.trans h.os, k.tape.trans h.tape, k.output.trans h.output, Nat.le_trans h.size k.size, fun i hi' hr => (k.block i (Nat.lt_of_lt_of_le hi' h.size) hr).trans (h.block i hi' hr)⟩
theorem Only.below (h : Only lo hi w w') (hB : B ≤ lo) (hw : B ≤ w.heap.size) : Below B w w' := ⟨h.os, h.tape, h.output, h.size, fun i hi' => h.block i (by omega) (.inl (by omega))⟩
theorem Only.setCell (h : Only lo hi w w') {p : Addr} (h1 : lo ≤ p.block) (h2 : p.block < hi) (u : Value) : Only lo hi w (w'.setCell p u) :=
  ⟨h.os, h.tape, h.output, by simpa using h.size, fun i hi' hr => (Below.heap_setCell w' p u i (by omega)).trans (h.block i hi' hr)⟩
theorem Only.drewN (h : Only lo hi w w') (n : Nat) : Only lo hi w (w'.drewN n) := ⟨h.os, h.tape, h.output, h.size, h.block⟩
theorem Only.alloc (h : Only lo hi w w') (o : Obj) : Only lo hi w (w'.alloc o) :=
  ⟨h.os, h.tape, h.output, by have := h.size; simp; omega, fun i hi' hr => (Below.heap_alloc w' o i (Nat.lt_of_lt_of_le hi' h.size)).trans (h.block i hi' hr)⟩
theorem Only.of_below (h : Below w.heap.size w w') (lo hi : Nat) : Only lo hi w w' := ⟨h.os, h.tape, h.output, h.size, fun i hi' _ => h.block i hi'⟩
/-- Below a bound B, then only in blocks from B on. -/
theorem below_only (hb : Below B w w') (k : Only lo hi w' w'') (h : B ≤ lo) (hw : B ≤ w.heap.size) : Below B w w'' := hb.trans (k.below h (Nat.le_trans hw hb.size))
end

/-- The slice A n c is a row of the call's own: its block lies from lo on and below hi, and it shows xs. -/
def Own (w : World) (lo hi : Nat) (t : TypeId) (size : Nat) (A : Option Addr) (n c : Nat) (xs : List Value) : Prop :=
  w.ownsRow lo t size (.slice A n c) n xs ∧ ∀ g, (Value.slice A n c).ownBlock = some g → g < hi
section
variable {w w' : World} {lo hi lo' hi' size n c B : Nat} {t : TypeId} {A : Option Addr} {xs : List Value}
theorem Own.of (h : w.ownsRow lo t size (.slice A n c) n xs) : Own w lo w.heap.size t size A n c xs := ⟨h, fun g hg => (h.lt g hg).2⟩
theorem Own.sees (h : Own w lo hi t size A n c xs) : Sees w w.heap.size A xs := Sees.of_own h.1
theorem Own.cap (h : Own w lo hi t size A n c xs) : n ≤ c := by
  rcases h.1.2 with ⟨hv, rfl⟩ | ⟨g, cap, cur, hv, _, _, hn, _⟩
  · exact Nat.zero_le _
  · injection hv with _ _ hc; omega
/-- Where the row is not empty: its block. -/
theorem Own.block (h : Own w lo hi t size A n c xs) (hn : 0 < n) : ∃ g cs, A = some ⟨g, 0, none⟩ ∧ lo ≤ g ∧ g < hi ∧ n ≤ c ∧ c ≤ maxLen ∧ Blk w g t cs ∧ cs.size = c * size ∧ cs.toList.take (n * size) = xs := by
  obtain ⟨⟨hl, hv⟩, hh⟩ := h
  rcases hv with ⟨_, h0⟩ | ⟨g, cap, cur, hv, hg, hb, hn', hm, hs, hx⟩
  · omega
  · injection hv with h1 h2 h3
    subst h3
    subst h1
    exact ⟨g, cur, rfl, hg, hh g rfl, hn', hm, hb, hs, hx⟩
theorem Own.mk_ {g : Nat} {cs : Array Value} (h1 : lo ≤ g) (h2 : g < hi) (hn : n ≤ c) (hm : c ≤ maxLen) (hb : Blk w g t cs) (hs : cs.size = c * size) (hx : cs.toList.take (n * size) = xs) : Own w lo hi t size (some ⟨g, 0, none⟩) n c xs := by
  refine ⟨⟨?_, .inr ⟨g, c, cs, rfl, h1, hb, hn, hm, hs, hx⟩⟩, fun g' hg' => ?_⟩
  · rw [← hx, List.length_take, Array.length_toList, hs]
    exact Nat.min_eq_left (Nat.mul_le_mul_right _ hn)
  · simp [Value.ownBlock] at hg'
    omega
theorem Own.keep (h : Own w lo hi t size A n c xs) (hk : ∀ i, lo ≤ i → i < hi → i < w.heap.size → w'.heap[i]? = w.heap[i]?) : Own w' lo hi t size A n c xs := by
  obtain ⟨⟨hl, hv⟩, hh⟩ := h
  refine ⟨⟨hl, ?_⟩, hh⟩
  rcases hv with hv | ⟨g, cap, cur, hv, hg, hb, hr⟩
  · exact .inl hv
  · exact .inr ⟨g, cap, cur, hv, hg, (hk g hg (hh g (by rw [hv]; rfl)) (Blk.lt (t := t) hb)).trans hb, hr⟩
theorem Own.below (h : Own w lo hi t size A n c xs) (hb : Below w.heap.size w w') : Own w' lo hi t size A n c xs := h.keep fun i _ _ h3 => hb.block i h3
theorem Own.only (h : Own w lo hi t size A n c xs) (hb : Only lo' hi' w w') (hd : hi ≤ lo' ∨ hi' ≤ lo) : Own w' lo hi t size A n c xs := h.keep fun i h1 h2 h3 => hb.block i h3 (by omega)
theorem Own.empty (h : Own w lo hi t size A 0 c xs) : xs = [] := List.eq_nil_of_length_eq_zero (by have := h.1.1; omega)
theorem Own.zero (h : Own w lo hi t size A 0 c xs) (xs' : List Value) (hx : xs' = []) : Own w' lo hi t size A 0 c xs' → True := fun _ => trivial
theorem Sees.only (h : Sees w B A xs) (hb : Only lo' hi' w w') (hB : B ≤ lo') (hw : B ≤ w.heap.size) : Sees w' B A xs := h.below (hb.below hB hw)
end
theorem take_of_all {cs : Array Value} {L : List Value} {N : Nat} (hs : N ≤ cs.size) (hl : L.length = N) (h : ∀ j, j < N → cs[j]? = L[j]?) : cs.toList.take N = L := by
  apply List.ext_getElem?
  intro j
  by_cases hj : j < N
  · rw [List.getElem?_take, if_pos hj, Array.getElem?_toList]; exact h j hj
  · rw [List.getElem?_eq_none (by simp; omega), List.getElem?_eq_none (by omega)]
/-- The numbers from k on. -/
def upto (k : Int) (n : Nat) : List Int := (List.range n).map fun (i : Nat) => k + (i : Int)
theorem upto_length (k : Int) (n : Nat) : (upto k n).length = n := by simp [upto]
theorem upto_at (k : Int) (n j : Nat) (h : j < n) : (upto k n)[j]? = some (k + j) := by simp [upto, h]
theorem int_eq {a b : Int} (h : a = b) : Value.int .i64 a = .int .i64 b := by rw [h]
theorem some_int {a b : Int} (h : a = b) : some (Value.int .i64 a) = some (.int .i64 b) := by rw [h]
theorem ints_upto_at (k : Int) (n j : Nat) (h : j < n) : (ints (upto k n))[j]? = some (.int .i64 (k + j)) := ints_get (upto_at k n j h)
set_option maxHeartbeats 800000 in
theorem markIntS_any (A : Option Addr) (n c : Nat) (lo hi : Nat) (xs : List Value) (k : Int) (w : World) (hO : Own w lo hi 3 1 A n c xs) (hn : n ≤ 1048576) (hk0 : 0 ≤ k) (hk1 : k ≤ 1099511627776) :
    Calls Try.prog 21 #[.slice A n c, .int .i64 k] w fun e w' => e = .returned (.int .i64 (k + (n : Int))) ∧ Own w' lo hi 3 1 A n c (ints (upto k (n))) ∧ Only lo hi w w' := by
  by_cases hpos : 0 < n
  · obtain ⟨g, cs0, rfl, h1, h2, hnc, hcm, hB0, hsz0, hx0⟩ := hO.block hpos
    have Hsz0 := Lib.hid hsz0
    clear hsz0 hx0 hO
    go_enter Try.func21, Try.ntmps21
    go_wp2_with fail
    go_loopw [1, 5] (fun s i wr => ∃ j : Nat, ∃ cs : Array Value, j ≤ n ∧ i = .int .i64 j ∧ s = .int .i64 (k + (j : Int)) ∧ Blk wr g 3 cs ∧ cs.size = c ∧ (∀ m, m < j → cs[m]? = (ints (upto k (n)))[m]?) ∧ Only lo hi w wr) (fun _ i _ => n - (intOf i).toNat)
    case atStart => exact ⟨0, cs0, Nat.zero_le _, rfl, by simp, hB0, by rw [Hsz0.out]; omega, by omega, Only.refl _ _ _⟩
    case round =>
      obtain ⟨j, cs, hj, rfl, rfl, hB, hsz, hcs, ho⟩ := hrel
      have Hsz := Lib.hid hsz
      have Hcs := Lib.hid hcs
      clear hsz hcs
      by_cases hlt : j < n
      · have hf := hB.frozen
        have hlen : cs.size = c := Hsz.out
        obtain ⟨v0, e0⟩ := cell_is hB (i := j) (by omega)
        clear hlen
        go_wp2_with fail
        go_roundw
        case rel =>
          have g0 : (ints (upto k (n)))[j]? = some (.int .i64 (k + (j : Int))) := (ints_upto_at k (n) (j) (by omega)).trans (some_int (by omega))
          obtain ⟨q1, q2⟩ := put1 Hsz.out (Nat.lt_of_lt_of_le hlt hnc) Hcs.out g0
          refine ⟨j + 1, _, by omega, by go_num, ?_, (hB.put _ _), ?_, ?_, (ho.setCell h1 h2 _)⟩
          · exact int_eq (by omega)
          · exact q1
          · exact q2
        case measure => simp [intOf]; omega
      · go_wp2_with fail
        go_ret
        have e : j = n := by omega
        have hcs := Hcs.out
        rw [e] at hcs
        exact ⟨ret_int (by rw [e]), Own.mk_ h1 h2 hnc hcm hB (Hsz.out.trans (by omega)) (by rw [Nat.mul_one]; exact take_of_all (by rw [Hsz.out]; omega) (by rw [ints_length, upto_length]) hcs), ho⟩
  · obtain rfl : n = 0 := by omega
    have hx := hO.empty
    subst hx
    go_enter Try.func21, Try.ntmps21
    go_wp2_with fail
    go_loopw [1, 5] (fun s i wr => i = .int .i64 0 ∧ s = .int .i64 k ∧ wr = w) (fun _ i _ => 0)
    case atStart => exact ⟨rfl, rfl, rfl⟩
    case round =>
      obtain ⟨rfl, rfl, rfl⟩ := hrel
      go_wp2_with fail
      go_ret
      exact ⟨by simp, by simpa [upto, ints] using hO, Only.refl _ _ _⟩
set_option maxHeartbeats 800000 in
theorem heldIntS_any (A : Option Addr) (n c : Nat) (k : Int) (w : World) (hs : Sees w w.heap.size A (ints (upto k (n)))) (hn : n ≤ 1048576) (hk0 : 0 ≤ k) (hk1 : k ≤ 1099511627776) :
    Calls Try.prog 22 #[.slice A n c, .int .i64 k] w fun e w' => e = .returned (.int .i64 (k + (n : Int))) ∧ w = w' := by
  go_enter Try.func22, Try.ntmps22
  go_wp2_with fail
  go_loop [1, 5] (fun s i => ∃ j : Nat, j ≤ n ∧ i = .int .i64 j ∧ s = .int .i64 (k + (j : Int))) (fun _ i => n - (intOf i).toNat)
  case atStart => exact ⟨0, Nat.zero_le _, rfl, by simp⟩
  case round =>
    obtain ⟨j, hj, rfl, rfl⟩ := hrel
    by_cases hlt : j < n
    · obtain ⟨b, off, rfl, hbB, hc⟩ := hs.at_ (k := j) (by rw [ints_length, upto_length]; omega)
      have c0 := hc _ _ (ints_upto_at k (n) (j) (by omega))
      rw [show k + ((j : Nat) : Int) = k + (j : Int) from by omega] at c0
      clear hc
      go_wp2_with fail
      go_round
      case rel => exact ⟨j + 1, by omega, by go_num, int_eq (by omega)⟩
      case measure => simp [intOf]; omega
    · go_wp2_with fail
      go_ret
      have e : j = n := by omega
      exact ⟨ret_int (by rw [e]), rfl⟩
set_option maxHeartbeats 800000 in
theorem markHeatS_any (A : Option Addr) (n c : Nat) (lo hi : Nat) (xs : List Value) (k : Int) (w : World) (hO : Own w lo hi 83 3 A n c xs) (hn : n ≤ 1048576) (hk0 : 0 ≤ k) (hk1 : k ≤ 1099511627776) :
    Calls Try.prog 35 #[.slice A n c, .int .i64 k] w fun e w' => e = .returned (.int .i64 (k + (n : Int) * 3)) ∧ Own w' lo hi 83 3 A n c (ints (upto k (n * 3))) ∧ Only lo hi w w' := by
  by_cases hpos : 0 < n
  · obtain ⟨g, cs0, rfl, h1, h2, hnc, hcm, hB0, hsz0, hx0⟩ := hO.block hpos
    have Hsz0 := Lib.hid hsz0
    clear hsz0 hx0 hO
    go_enter Try.func35, Try.ntmps35
    go_wp2_with fail
    go_loopw [1, 5] (fun s i wr => ∃ j : Nat, ∃ cs : Array Value, j ≤ n ∧ i = .int .i64 j ∧ s = .int .i64 (k + (j : Int) * 3) ∧ Blk wr g 83 cs ∧ cs.size = c * 3 ∧ (∀ m, m < j * 3 → cs[m]? = (ints (upto k (n * 3)))[m]?) ∧ Only lo hi w wr) (fun _ i _ => n - (intOf i).toNat)
    case atStart => exact ⟨0, cs0, Nat.zero_le _, rfl, by simp, hB0, by rw [Hsz0.out], by omega, Only.refl _ _ _⟩
    case round =>
      obtain ⟨j, cs, hj, rfl, rfl, hB, hsz, hcs, ho⟩ := hrel
      have Hsz := Lib.hid hsz
      have Hcs := Lib.hid hcs
      clear hsz hcs
      by_cases hlt : j < n
      · have hf := hB.frozen
        have hlen : cs.size = c * 3 := Hsz.out
        obtain ⟨v0, e0⟩ := cell_is hB (i := j * 3) (by omega)
        obtain ⟨v1, e1⟩ := cell_is hB (i := j * 3 + 1) (by omega)
        obtain ⟨v2, e2⟩ := cell_is hB (i := j * 3 + 2) (by omega)
        clear hlen
        go_wp2_with fail
        go_roundw
        case rel =>
          have g0 : (ints (upto k (n * 3)))[j * 3]? = some (.int .i64 (k + (j : Int) * 3)) := (ints_upto_at k (n * 3) (j * 3) (by omega)).trans (some_int (by omega))
          have g1 : (ints (upto k (n * 3)))[j * 3 + 1]? = some (.int .i64 (k + (j : Int) * 3 + 1)) := (ints_upto_at k (n * 3) (j * 3 + 1) (by omega)).trans (some_int (by omega))
          have g2 : (ints (upto k (n * 3)))[j * 3 + 2]? = some (.int .i64 (k + (j : Int) * 3 + 1 + 1)) := (ints_upto_at k (n * 3) (j * 3 + 2) (by omega)).trans (some_int (by omega))
          obtain ⟨q1, q2⟩ := put3 Hsz.out (Nat.lt_of_lt_of_le hlt hnc) Hcs.out g0 g1 g2
          refine ⟨j + 1, _, by omega, by go_num, ?_, (((hB.put _ _).put _ _).put _ _), ?_, ?_, (((ho.setCell h1 h2 _).setCell h1 h2 _).setCell h1 h2 _)⟩
          · exact int_eq (by omega)
          · exact q1
          · exact q2
        case measure => simp [intOf]; omega
      · go_wp2_with fail
        go_ret
        have e : j = n := by omega
        have hcs := Hcs.out
        rw [e] at hcs
        exact ⟨ret_int (by rw [e]), Own.mk_ h1 h2 hnc hcm hB (Hsz.out.trans (by omega)) (by exact take_of_all (by rw [Hsz.out]; omega) (by rw [ints_length, upto_length]) hcs), ho⟩
  · obtain rfl : n = 0 := by omega
    have hx := hO.empty
    subst hx
    go_enter Try.func35, Try.ntmps35
    go_wp2_with fail
    go_loopw [1, 5] (fun s i wr => i = .int .i64 0 ∧ s = .int .i64 k ∧ wr = w) (fun _ i _ => 0)
    case atStart => exact ⟨rfl, rfl, rfl⟩
    case round =>
      obtain ⟨rfl, rfl, rfl⟩ := hrel
      go_wp2_with fail
      go_ret
      exact ⟨by simp, by simpa [upto, ints] using hO, Only.refl _ _ _⟩
set_option maxHeartbeats 800000 in
theorem markStuffS_any (A : Option Addr) (n c : Nat) (lo hi : Nat) (xs : List Value) (k : Int) (w : World) (hO : Own w lo hi 72 5 A n c xs) (hn : n ≤ 1048576) (hk0 : 0 ≤ k) (hk1 : k ≤ 1099511627776) :
    Calls Try.prog 20 #[.slice A n c, .int .i64 k] w fun e w' => e = .returned (.int .i64 (k + (n : Int) * 5)) ∧ Own w' lo hi 72 5 A n c (ints (upto k (n * 5))) ∧ Only lo hi w w' := by
  by_cases hpos : 0 < n
  · obtain ⟨g, cs0, rfl, h1, h2, hnc, hcm, hB0, hsz0, hx0⟩ := hO.block hpos
    have Hsz0 := Lib.hid hsz0
    clear hsz0 hx0 hO
    go_enter Try.func20, Try.ntmps20
    go_wp2_with fail
    go_loopw [1, 5] (fun s i wr => ∃ j : Nat, ∃ cs : Array Value, j ≤ n ∧ i = .int .i64 j ∧ s = .int .i64 (k + (j : Int) * 5) ∧ Blk wr g 72 cs ∧ cs.size = c * 5 ∧ (∀ m, m < j * 5 → cs[m]? = (ints (upto k (n * 5)))[m]?) ∧ Only lo hi w wr) (fun _ i _ => n - (intOf i).toNat)
    case atStart => exact ⟨0, cs0, Nat.zero_le _, rfl, by simp, hB0, by rw [Hsz0.out], by omega, Only.refl _ _ _⟩
    case round =>
      obtain ⟨j, cs, hj, rfl, rfl, hB, hsz, hcs, ho⟩ := hrel
      have Hsz := Lib.hid hsz
      have Hcs := Lib.hid hcs
      clear hsz hcs
      by_cases hlt : j < n
      · have hf := hB.frozen
        have hlen : cs.size = c * 5 := Hsz.out
        obtain ⟨v0, e0⟩ := cell_is hB (i := j * 5) (by omega)
        obtain ⟨v1, e1⟩ := cell_is hB (i := j * 5 + 1) (by omega)
        obtain ⟨v2, e2⟩ := cell_is hB (i := j * 5 + 2) (by omega)
        obtain ⟨v3, e3⟩ := cell_is hB (i := j * 5 + 3) (by omega)
        obtain ⟨v4, e4⟩ := cell_is hB (i := j * 5 + 4) (by omega)
        clear hlen
        go_wp2_with fail
        go_roundw
        case rel =>
          have g0 : (ints (upto k (n * 5)))[j * 5]? = some (.int .i64 (k + (j : Int) * 5)) := (ints_upto_at k (n * 5) (j * 5) (by omega)).trans (some_int (by omega))
          have g1 : (ints (upto k (n * 5)))[j * 5 + 1]? = some (.int .i64 (k + (j : Int) * 5 + 1)) := (ints_upto_at k (n * 5) (j * 5 + 1) (by omega)).trans (some_int (by omega))
          have g2 : (ints (upto k (n * 5)))[j * 5 + 2]? = some (.int .i64 (k + (j : Int) * 5 + 1 + 1)) := (ints_upto_at k (n * 5) (j * 5 + 2) (by omega)).trans (some_int (by omega))
          have g3 : (ints (upto k (n * 5)))[j * 5 + 3]? = some (.int .i64 (k + (j : Int) * 5 + 1 + 1 + 1)) := (ints_upto_at k (n * 5) (j * 5 + 3) (by omega)).trans (some_int (by omega))
          have g4 : (ints (upto k (n * 5)))[j * 5 + 4]? = some (.int .i64 (k + (j : Int) * 5 + 1 + 1 + 1 + 1)) := (ints_upto_at k (n * 5) (j * 5 + 4) (by omega)).trans (some_int (by omega))
          obtain ⟨q1, q2⟩ := put5 Hsz.out (Nat.lt_of_lt_of_le hlt hnc) Hcs.out g0 g1 g2 g3 g4
          refine ⟨j + 1, _, by omega, by go_num, ?_, (((((hB.put _ _).put _ _).put _ _).put _ _).put _ _), ?_, ?_, (((((ho.setCell h1 h2 _).setCell h1 h2 _).setCell h1 h2 _).setCell h1 h2 _).setCell h1 h2 _)⟩
          · exact int_eq (by omega)
          · exact q1
          · exact q2
        case measure => simp [intOf]; omega
      · go_wp2_with fail
        go_ret
        have e : j = n := by omega
        have hcs := Hcs.out
        rw [e] at hcs
        exact ⟨ret_int (by rw [e]), Own.mk_ h1 h2 hnc hcm hB (Hsz.out.trans (by omega)) (by exact take_of_all (by rw [Hsz.out]; omega) (by rw [ints_length, upto_length]) hcs), ho⟩
  · obtain rfl : n = 0 := by omega
    have hx := hO.empty
    subst hx
    go_enter Try.func20, Try.ntmps20
    go_wp2_with fail
    go_loopw [1, 5] (fun s i wr => i = .int .i64 0 ∧ s = .int .i64 k ∧ wr = w) (fun _ i _ => 0)
    case atStart => exact ⟨rfl, rfl, rfl⟩
    case round =>
      obtain ⟨rfl, rfl, rfl⟩ := hrel
      go_wp2_with fail
      go_ret
      exact ⟨by simp, by simpa [upto, ints] using hO, Only.refl _ _ _⟩
end Go.Proofs.Ytblfbllhkmcbbaa
