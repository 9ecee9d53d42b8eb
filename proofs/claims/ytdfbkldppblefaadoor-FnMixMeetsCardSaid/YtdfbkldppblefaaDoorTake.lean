/-
  Contracts of MixTake in the program and in the reference.
-/
import Derived.Test.YtdfbkldppblefaaDoorMx
import Derived.Test.YtdfbkldppblefaaDoorApp
namespace Go.Proofs.YtdfbkldppblefaaDoor
open Go.RowKit
set_option linter.unusedVariables false
/-- What a call hands back: a slice in memory of its own and a bool. -/
def RetOwn2 (w : World) (t : TypeId) (size n : Nat) (xs : List Value) (b : Bool) (e : Ending) (w' : World) : Prop :=
  ∃ A c, e = .returned (.tuple #[.slice A n c, .bool b]) ∧ Own w' w.heap.size w'.heap.size t size A n c xs ∧ Below w.heap.size w w'
theorem own_nil (w : World) (lo hi : Nat) (t : TypeId) (size : Nat) : Own w lo hi t size none 0 0 [] := ⟨World.ownsRow_nil _ _ _ _, fun g hg => by simp [Value.ownBlock] at hg⟩
theorem own_lo {w : World} {lo lo' hi : Nat} {t : TypeId} {size n c : Nat} {A : Option Addr} {xs : List Value} (h : Own w lo hi t size A n c xs) (hl : lo' ≤ lo) : Own w lo' hi t size A n c xs := ⟨own_base h.1 hl, h.2⟩
theorem own_hi {w : World} {lo hi hi' : Nat} {t : TypeId} {size n c : Nat} {A : Option Addr} {xs : List Value} (h : Own w lo hi t size A n c xs) (hl : hi ≤ hi') : Own w lo hi' t size A n c xs := ⟨h.1, fun g hg => Nat.lt_of_lt_of_le (h.2 g hg) hl⟩
/-- The cells of stuff after stuff. -/
def Row5 (cs : Array Value) (L : List Stuff) : Prop := ∀ (i : Nat) (s : Stuff), L[i]? = some s → cs[i * 5]? = some (.int .i64 s.c) ∧ cs[i * 5 + 1]? = some (.int .i64 s.m) ∧ cs[i * 5 + 2]? = some (.int .i64 s.s) ∧ cs[i * 5 + 3]? = some (.int .i64 s.p) ∧ cs[i * 5 + 4]? = some (.int .i64 s.k)
theorem Row5.of_take {cs : Array Value} {L : List Stuff} (h : cs.toList.take (L.length * 5) = ints (flatS L)) : Row5 cs L := by
  intro i s hs
  have hi : i < L.length := (List.getElem?_eq_some_iff.1 hs).1
  have at_ : ∀ j, j < L.length * 5 → cs[j]? = (ints (flatS L))[j]? := by
    intro j hj
    rw [← h, List.getElem?_take, if_pos hj, Array.getElem?_toList]
  obtain ⟨h0, h1, h2, h3, h4⟩ := flatS_at hs
  refine ⟨?_, ?_, ?_, ?_, ?_⟩
  · rw [at_ _ (by omega)]; exact ints_get h0
  · rw [at_ _ (by omega)]; exact ints_get h1
  · rw [at_ _ (by omega)]; exact ints_get h2
  · rw [at_ _ (by omega)]; exact ints_get h3
  · rw [at_ _ (by omega)]; exact ints_get h4
theorem Row5.take {cs : Array Value} {L : List Stuff} (h : Row5 cs L) (hs : L.length * 5 ≤ cs.size) : cs.toList.take (L.length * 5) = ints (flatS L) := by
  refine take_of_all hs (by rw [ints_length, flatS_length]) fun j hj => ?_
  obtain ⟨q, r, hr, rfl⟩ : ∃ q r, r < 5 ∧ j = q * 5 + r := ⟨j / 5, j % 5, Nat.mod_lt _ (by omega), by omega⟩
  have hq : q < L.length := by omega
  have hL := List.getElem?_eq_getElem hq
  obtain ⟨h0, h1, h2, h3, h4⟩ := h q _ hL
  obtain ⟨g0, g1, g2, g3, g4⟩ := flatS_at hL
  rcases r with _ | _ | _ | _ | _ | r
  · rw [Nat.add_zero, h0, ints_get g0]
  · rw [h1, ints_get g1]
  · rw [h2, ints_get g2]
  · rw [h3, ints_get g3]
  · rw [h4, ints_get g4]
  · omega
theorem Row5.put {cs : Array Value} {L : List Stuff} {k : Nat} {s : Stuff} (v : Int) (h : Row5 cs L) (hs : L.length * 5 ≤ cs.size) (hk : L[k]? = some s) : Row5 (cs.setIfInBounds (k * 5 + 4) (.int .i64 v)) (L.set k ⟨s.c, s.m, s.s, s.p, v⟩) := by
  intro i s' hs'
  have hkl : k < L.length := (List.getElem?_eq_some_iff.1 hk).1
  rw [List.getElem?_set] at hs'
  simp only [Array.getElem?_setIfInBounds]
  by_cases e : k = i
  · subst e
    rw [if_pos rfl, if_pos hkl] at hs'
    injection hs' with hs'
    subst hs'
    obtain ⟨h0, h1, h2, h3, h4⟩ := h k s hk
    rw [if_neg (by omega), if_neg (by omega), if_neg (by omega), if_neg (by omega), if_pos rfl, if_pos (by omega)]
    exact ⟨h0, h1, h2, h3, rfl⟩
  · rw [if_neg e] at hs'
    rw [if_neg (by omega), if_neg (by omega), if_neg (by omega), if_neg (by omega), if_neg (by omega)]
    exact h i s' hs'
theorem own_made (w : World) (t : TypeId) (size : Nat) : Own (w.alloc (.cells #[] t)) w.heap.size (w.heap.size + 1) t size (some ⟨w.heap.size, 0, none⟩) 0 0 [] :=
  Own.mk_ (Nat.le_refl _) (by omega) (Nat.le_refl _) (Nat.zero_le _) (Blk.made _ _ _) (by simp) (by simp)
theorem midS_length (l : List Stuff) (x : List Int) (k : Nat) (h : x.length = l.length) (hk : k ≤ l.length) : (midS l x k).length = l.length := by
  simp [midS, h]; omega
theorem takenS_le (l : List Stuff) (x : List Int) (h : l.length ≤ 1048576) : (takenS l x).length ≤ 1048576 := by
  unfold takenS; split
  · simp; omega
  · simp
theorem mixTake_any (A A' : Option Addr) (c c' : Nat) (l : List Stuff) (x : List Int) (w : World) (hs : Sees w w.heap.size A (ints (flatS l))) (hn : l.length ≤ 1048576) (hs' : Sees w w.heap.size A' (ints x)) (hn' : x.length ≤ 1048576) :
    Calls Tryd.prog 43 #[.slice A l.length c, .slice A' x.length c'] w (RetOwn2 w 24 5 (takenS l x).length (ints (flatS (takenS l x))) (mixOk l x)) := by
  obtain ⟨i0, hi, hz0, hz1, hz2⟩ := info_parts infoStuff
  have hmk := fun W => run_make (P := Tryd.prog) W 41 24 i0 _ Tryd.underlying41 hi hz0 .i64 .i64 l.length l.length (by omega) (by omega) (by rw [hz2]; omega) (by omega)
  simp only [Int.toNat_natCast, hz1] at hmk
  go_enter Tryd.func43, Tryd.ntmps43
  go_wp2_with fail
  refine (mixValid_any _ _ _ _ _ _ _ hs hn hs' hn').mono ?_
  rintro _ w1 ⟨rfl, hb1⟩
  replace hs := hs.next hb1
  replace hs' := hs'.next hb1
  cases hok : mixOk l x with
  | false =>
    go_wp2_with fail
    go_ret2
    exact ⟨none, 0, by simp [takenS, hok], by simpa [takenS, hok, flatS, ints] using own_nil _ _ _ _ _, hb1⟩
  | true =>
    have hlen := mixOk_len hok
    have htl : (takenS l x).length = l.length := by simp [takenS, hok, hlen]
    have htk : takenS l x = (l.zip x).map takeS := by simp [takenS, hok]
    have Hok := Lib.hid hok
    have Htl := Lib.hid htl
    have Htk := Lib.hid htk
    clear htl htk hok
    go_wp2_with fail
    clear hmk
    go_loopw [18] (fun i wr => ∃ k : Nat, ∃ cs : Array Value, k ≤ l.length ∧ i = .int .i64 k ∧ Below w1.heap.size w1 wr ∧ Blk wr w1.heap.size 24 cs ∧ cs.size = l.length * 5 ∧ (∀ j, j < k * 5 → cs[j]? = (ints (flatS ((l.zip x).map takeS)))[j]?)) (fun i _ => l.length - (intOf i).toNat)
    case atStart => exact ⟨0, _, Nat.zero_le _, rfl, (Below.refl _ _).alloc (Nat.le_refl _) _, Blk.made _ _ _, size_madeCells _ _, by omega⟩
    case round =>
      obtain ⟨k, cs, hk, rfl, hb, hB, hsz, hcs⟩ := hrel
      have Hsz := Lib.hid hsz
      have Hcs := Lib.hid hcs
      clear hsz hcs
      by_cases hlt : k < l.length
      · obtain ⟨b, off, a1, a2, a3, a4, a5, rfl, hbB, hl, c0, c1, c2, c3, c4⟩ := (hs.below hb).stuff_at hlt
        obtain ⟨b', off', y, rfl, hbB', hx, d0⟩ := (hs'.below hb).int_at (k := k) (by omega)
        have Hl := Lib.hid (zip_at hl hx)
        clear hl hx
        have hlt1 := hB.lt
        have hf := hB.frozen
        have hlb : b < wr.heap.size := by omega
        have hlb' : b' < wr.heap.size := by omega
        have hlen' : cs.size = l.length * 5 := Hsz.out
        obtain ⟨v0, e0⟩ := cell_is hB (i := k * 5) (by omega)
        obtain ⟨v1, e1⟩ := cell_is hB (i := k * 5 + 1) (by omega)
        obtain ⟨v2, e2⟩ := cell_is hB (i := k * 5 + 2) (by omega)
        obtain ⟨v3, e3⟩ := cell_is hB (i := k * 5 + 3) (by omega)
        obtain ⟨v4, e4⟩ := cell_is hB (i := k * 5 + 4) (by omega)
        clear hlen'
        go_wp2_with fail
        go_region
        all_goals go_wp2_with fail
        go_roundw
        case rel =>
          have hzt : ((l.zip x).map takeS)[k]? = some (takeS (⟨a1, a2, a3, a4, a5⟩, y)) := by rw [List.getElem?_map, Hl.out]; rfl
          obtain ⟨g0, g1, g2, g3, g4⟩ := flatS_at hzt
          obtain ⟨q1, q2⟩ := put5 Hsz.out hlt Hcs.out (ints_get g0) (ints_get g1) (ints_get g2) (ints_get g3) (ints_get g4)
          rw [wrap_w64]
          exact ⟨k + 1, _, by omega, by go_num, (Below.alloc (((((hb.setCell (Nat.le_refl _) _).setCell (Nat.le_refl _) _).setCell (Nat.le_refl _) _).setCell (Nat.le_refl _) _).setCell (Nat.le_refl _) _) (by simp; exact hb.size) _).drew, Blk.drew (Blk.alloc (((((hB.put _ _).put _ _).put _ _).put _ _).put _ _) _), q1, q2⟩
        case measure => simp [intOf]; omega
      · go_wp2_with fail
        go_ret2
        have e : k = l.length := by omega
        have hcs := Hcs.out
        rw [e] at hcs
        rw [Htl.out, Htk.out, Hok.out]
        exact ⟨_, _, rfl, Own.of (own_base (own_of_blk hB (Nat.le_refl _) (by omega) Hsz.out (list_of_all Hsz.out (by rw [ints_length, flatS_length]; simp [hlen]) hcs)) hb1.size), below_next hb1 hb⟩
theorem sMixTake_any (A A' : Option Addr) (c c' : Nat) (l : List Stuff) (x : List Int) (w : World) (hs : Sees w w.heap.size A (ints (flatS l))) (hn : l.length ≤ 1048576) (hs' : Sees w w.heap.size A' (ints x)) (hn' : x.length ≤ 1048576) :
    Calls Tryd.prog 44 #[.slice A l.length c, .slice A' x.length c'] w (RetOwn2 w 24 5 (takenS l x).length (ints (flatS (takenS l x))) (mixOk l x)) := by
  obtain ⟨i0, hi, hz0, hz1, hz2⟩ := info_parts infoStuff
  go_enter Tryd.func44, Tryd.ntmps44
  go_wp2_with fail
  refine (sMixValid_any _ _ _ _ _ _ _ hs hn hs' hn').mono ?_
  rintro _ w1 ⟨rfl, hb1⟩
  replace hs := hs.next hb1
  replace hs' := hs'.next hb1
  cases hok : mixOk l x with
  | false =>
    go_wp2_with fail
    go_ret2
    exact ⟨some ⟨w1.heap.size, 0, none⟩, 0, by simp [takenS, hok], by simpa [takenS, hok, flatS, ints] using own_lo (own_made w1 24 5) hb1.size, hb1.alloc hb1.size _⟩
  | true =>
    have hlen := mixOk_len hok
    have htl : (takenS l x).length = l.length := by simp [takenS, hok, hlen]
    have htk : takenS l x = (l.zip x).map takeS := by simp [takenS, hok]
    have Hok := Lib.hid hok
    have Htl := Lib.hid htl
    have Htk := Lib.hid htk
    clear htl htk hok
    go_wp2_with (at_builtin; refine wpList_app _ rfl (.tmp 13) (.tmp 14) _ rfl 24 i0 _ 5 40 Tryd.underlying41 hi hz0 hz1 hz2 rfl (by omega) rfl (own_made w1 24 5) rfl (hs.below ((Below.refl _ _).alloc (Nat.le_refl _) _)) (by rw [ints_length, flatS_length]) (one_ints _) (by omega) (by omega) (by simp) ?_; intro A2 c2 w2 hO hon)
    rw [Nat.zero_add, List.nil_append] at hO
    have hb2 : Below w1.heap.size w1 w2 := below_only ((Below.refl _ _).alloc (Nat.le_refl _) _) hon (Nat.le_refl _) (Nat.le_refl _)
    by_cases hpos : 0 < l.length
    · obtain ⟨g, cs0, rfl, h1, h2, hnc, hcm, hB0, hsz0, hx0⟩ := hO.block hpos
      have hR0 := Row5.of_take hx0
      have Hsz0 := Lib.hid hsz0
      clear hsz0 hx0 hO
      go_loopw [7] (fun i wr => ∃ k : Nat, ∃ cs : Array Value, k ≤ l.length ∧ i = .int .i64 k ∧ Below w1.heap.size w1 wr ∧ Blk wr g 24 cs ∧ cs.size = c2 * 5 ∧ Row5 cs (midS l x k)) (fun i _ => l.length - (intOf i).toNat)
      case atStart => exact ⟨0, cs0, Nat.zero_le _, rfl, hb2, hB0, Hsz0.out, by rw [midS_zero]; exact hR0⟩
      case round =>
        obtain ⟨k, cs, hk, rfl, hb, hB, hsz, hR⟩ := hrel
        have Hsz := Lib.hid hsz
        clear hsz
        by_cases hlt : k < l.length
        · obtain ⟨b', off', y, rfl, hbB', hx, d0⟩ := (hs'.below hb).int_at (k := k) (by omega)
          have hl := List.getElem?_eq_getElem hlt
          have hm := midS_at l x k hlen hlt
          rw [hl] at hm
          have hc4 := (hR k _ hm).2.2.2.2
          have Hm := Lib.hid hm
          have Hs := Lib.hid (midS_succ l x k _ y hlen hl hx)
          clear hl hm hx
          have hf := hB.frozen
          have hc := hB.cell (k * 5 + 4)
          rw [hc4] at hc
          clear hc4
          generalize l[k] = s at hc Hm Hs
          go_wp2_with fail
          go_region
          all_goals go_wp2_with fail
          go_roundw
          case rel =>
            rw [wrap_w64]
            refine ⟨k + 1, _, by omega, by go_num, ?_, Blk.drew (hB.put _ _), by simp [Hsz.out], ?_⟩
            · exact (hb.setCell h1 _).drew
            · rw [Hs.out]
              exact hR.put _ (by rw [Hsz.out, midS_length _ _ _ hlen hk]; exact Nat.mul_le_mul_right _ hnc) Hm.out
          case measure => simp [intOf]; omega
        · go_wp2_with fail
          go_ret2
          have e : k = l.length := by omega
          rw [Htl.out, Htk.out, Hok.out]
          rw [e, midS_all l x hlen] at hR
          have hlz : ((l.zip x).map takeS).length = l.length := by simp [hlen]
          have ht := hR.take (by rw [Hsz.out, hlz]; exact Nat.mul_le_mul_right _ hnc)
          rw [hlz] at ht
          exact ⟨_, _, rfl, own_lo (Own.mk_ h1 hB.lt hnc hcm hB Hsz.out ht) hb1.size, below_next hb1 hb⟩
    · have h0 : l.length = 0 := by omega
      obtain rfl := List.eq_nil_of_length_eq_zero h0
      go_loopw [7] (fun i wr => i = .int .i64 0 ∧ wr = w2) (fun i _ => 0)
      case atStart => exact ⟨rfl, rfl⟩
      case round =>
        obtain ⟨rfl, rfl⟩ := hrel
        go_wp2_with fail
        go_ret2
        rw [Htl.out, Htk.out, Hok.out]
        exact ⟨_, _, rfl, by simpa using own_lo hO hb1.size, below_next hb1 hb2⟩
end Go.Proofs.YtdfbkldppblefaaDoor
