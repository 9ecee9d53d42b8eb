/-
  Contracts of drawn heats with a caster, of sameInts, and words for rows of numbers that a call made.
-/
import Derived.Test.YtdobfpdfbfaohaaDoorDi
import Derived.Test.YtdobfpdfbfaohaaDoorDc
import Derived.Test.YtdobfpdfbfaohaaDoorCl
namespace Go.Proofs.YtdobfpdfbfaohaaDoor
open Go.RowKit
set_option linter.unusedVariables false
theorem infoInt2 : (Tryd.prog.info? 3).map (fun i => (i.zero, i.size, i.bytes)) = some (some (.int .i64 0), 1, 8) := by kernel_rfl
section
variable {w w' : World} {lo hi size n c : Nat} {t : TypeId} {A : Option Addr} {xs : List Value}
theorem Own.setCell (h : Own w lo hi t size A n c xs) {p : Addr} (hp : p.block < lo ∨ hi ≤ p.block) (u : Value) : Own (w.setCell p u) lo hi t size A n c xs :=
  h.keep fun i h1 h2 _ => Below.heap_setCell w p u i (by omega)
theorem own_zero' (h : Own w lo hi t size A (0 + n) c ([] ++ xs)) : Own w lo hi t size A n c xs := by rwa [Nat.zero_add, List.nil_append] at h
/-- A number of a row of the call's own: where it lies, and the row when it is stored anew. -/
theorem Own.num_at {l : List Int} {k : Nat} {x : Int} (h : Own w lo hi t 1 A n c (ints l)) (hx : l[k]? = some x) :
    ∃ g, A = some ⟨g, 0, none⟩ ∧ lo ≤ g ∧ g < hi ∧ g < w.heap.size ∧ w.cell? ⟨g, k, none⟩ = some (.int .i64 x) ∧ w.frozen? ⟨g, k, none⟩ = false ∧
      ∀ v, Own (w.setCell ⟨g, k, none⟩ (.int .i64 v)) lo hi t 1 (some ⟨g, 0, none⟩) n c (ints (l.set k v)) := by
  have hk := (List.getElem?_eq_some_iff.1 hx).1
  have hln : l.length = n := by
    have := h.1.1
    rw [ints_length] at this
    omega
  obtain ⟨g, cs, rfl, h1, h2, hn, hm, hB, hsz, hx'⟩ := h.block (by omega)
  refine ⟨g, rfl, h1, h2, hB.lt, ?_, hB.frozen k, fun v => ?_⟩
  · rw [hB.cell, ← ints_get hx, ← hx', List.getElem?_take, if_pos (by omega), Array.getElem?_toList]
  · refine Own.mk_ h1 h2 hn hm (hB.put k _) (by simpa using hsz) ?_
    rw [Array.toList_setIfInBounds, List.take_set, hx']
    simp [ints, List.map_set]
end
theorem sameInts_same (A A' : Option Addr) (c c' : Nat) (l : List Int) (w : World) (hs : Sees w w.heap.size A (ints l)) (hs' : Sees w w.heap.size A' (ints l)) (hn : l.length ≤ 1048576) :
    Calls Tryd.prog 32 #[.slice A l.length c, .slice A' l.length c'] w fun e w' => e = .returned (.bool true) ∧ Below w.heap.size w w' := by
  go_enter Tryd.func32, Tryd.ntmps32
  go_wp2_with fail
  go_loopw [5] (fun i wr => ∃ k : Nat, k ≤ l.length ∧ i = .int .i64 k ∧ Below w.heap.size w wr) (fun i _ => l.length - (intOf i).toNat)
  case atStart => exact ⟨0, Nat.zero_le _, rfl, Below.refl _ _⟩
  case round =>
    obtain ⟨k, hk, rfl, hb⟩ := hrel
    by_cases hlt : k < l.length
    · obtain ⟨b, off, x, rfl, hbB, hl, c0⟩ := (hs.below hb).int_at hlt
      obtain ⟨b', off', x', rfl, hbB', hl', c0'⟩ := (hs'.below hb).int_at hlt
      obtain rfl : x = x' := by rw [hl] at hl'; injection hl'
      clear hl hl'
      go_wp2_with fail
      go_quiet (fail)
      go_wp2_with fail
      go_roundw
      case rel => exact ⟨k + 1, by omega, by go_num, below_drewN hb _⟩
      case measure => simp [intOf]; omega
    · go_wp2_with fail
      go_ret
      exact ⟨rfl, hb⟩
/-- Heats and a caster are drawn out of a code. -/
def DrawnHC (w : World) (e : Ending) (w' : World) : Prop :=
  ∃ (l : List Heat) (A : Option Addr) (c : Nat) (s : Caster), (∀ h ∈ l, smallH h) ∧ l.length ≤ 7 ∧ smallC s ∧ e = .returned (.tuple #[.slice A l.length c, cv s]) ∧ Own w' w.heap.size w'.heap.size 30 3 A l.length c (ints (flatH l)) ∧ Below w.heap.size w w'
theorem drawCastTimes_any (A : Option Addr) (n c : Nat) (l : List Int) (w : World) (hs : Sees w w.heap.size A (bys l)) (hl : l.length = n) (hby : ∀ z ∈ l, byteB z) (hc : n ≤ c) (hm : c ≤ maxLen) :
    Calls Tryd.prog 30 #[.slice A n c] w (DrawnHC w) := by
  go_enter Tryd.func30, Tryd.ntmps30
  have hB := Blk.made w 24 #[.int .i64 0, .int .i64 0]
  have hb : Below w.heap.size w (w.alloc (.cells #[.int .i64 0, .int .i64 0] 24)) := (Below.refl _ _).alloc (Nat.le_refl _) _
  go_wp2_with fail
  generalize w.alloc _ = W at hB hb ⊢
  refine (l20Open_any A n c l _ (hs.next hb) hl hby hc hm).mono ?_
  rintro _ w1 ⟨rfl, hR, hb1⟩
  have hlt := hB.lt
  replace hB := hB.below hb1 hB.lt
  have hz1 := hb1.size
  replace hb := below_next hb hb1
  clear hb1
  go_wp2_with fail
  refine (l20Heats_any _ _ _ 9 _ hR (by omega) (by omega)).mono ?_
  rintro _ w2 ⟨hts, A2, c2, p', hsm, hlen, hp', rfl, hQ, hR2, hO⟩
  have hRl := hR.lt
  replace hB := hB.only hO (by omega)
  replace hb := below_only hb hO (by omega) (Nat.le_refl _)
  clear hR hO
  go_wp2_with fail
  refine (l20Caster_any _ _ _ 9 _ hR2 (by omega) (by omega)).mono ?_
  rintro _ w3 ⟨s, p'', hsc, hp'', rfl, hR3, hO⟩
  replace hB := hB.only hO (by omega)
  replace hb := below_only hb hO (by omega) (Nat.le_refl _)
  replace hQ := own_hi (hQ.only hO (by omega)) hO.size
  clear hO hR2 hR3
  have c4 := hB.cell
  have f4 := hB.frozen
  go_wp2_with fail
  refine bodyPost_ret (v := .tuple #[.slice A2 hts.length c2, cv s]) (by simp [results, Tryd.results30, go_sem, c4]) rfl ⟨hts, A2, c2, s, hsm, hlen, hsc, rfl, ?_, ?_⟩
  · simpa using own_lo ((hQ.setCell (p := ⟨w.heap.size, 0, none⟩) (.inl (by show w.heap.size < _; omega)) (.int .i64 s.f)).setCell (p := ⟨w.heap.size, 1, none⟩) (.inl (by show w.heap.size < _; omega)) (.int .i64 s.s)) (by omega)
  · exact ((hb.setCell (Nat.le_refl _) _).setCell (Nat.le_refl _) _)
theorem drawCastEnd_any (A : Option Addr) (n c : Nat) (l : List Int) (w : World) (hs : Sees w w.heap.size A (bys l)) (hl : l.length = n) (hby : ∀ z ∈ l, byteB z) (hc : n ≤ c) (hm : c ≤ maxLen) :
    Calls Tryd.prog 27 #[.slice A n c] w (DrawnHC w) := by
  go_enter Tryd.func27, Tryd.ntmps27
  have hB := Blk.made w 24 #[.int .i64 0, .int .i64 0]
  have hb : Below w.heap.size w (w.alloc (.cells #[.int .i64 0, .int .i64 0] 24)) := (Below.refl _ _).alloc (Nat.le_refl _) _
  go_wp2_with fail
  generalize w.alloc _ = W at hB hb ⊢
  refine (drawCastTimes_any A n c l _ (hs.next hb) hl hby hc hm).mono ?_
  rintro _ w1 ⟨hts, A2, c2, s, hsm, hlen, hsc, rfl, hQ, hb1⟩
  have hlt := hB.lt
  replace hB := hB.below hb1 hB.lt
  replace hb := below_next hb hb1
  clear hb1
  have c4 := hB.cell
  have f4 := hB.frozen
  go_wp2_with fail
  refine bodyPost_ret (v := .tuple #[.slice A2 hts.length c2, cv s]) (by simp [results, Tryd.results27, go_sem, c4]) rfl ⟨hts, A2, c2, s, hsm, hlen, hsc, rfl, ?_, ?_⟩
  · simpa using own_lo ((hQ.setCell (p := ⟨w.heap.size, 0, none⟩) (.inl (by show w.heap.size < _; omega)) (.int .i64 s.f)).setCell (p := ⟨w.heap.size, 1, none⟩) (.inl (by show w.heap.size < _; omega)) (.int .i64 s.s)) (by omega)
  · exact ((hb.setCell (Nat.le_refl _) _).setCell (Nat.le_refl _) _)
theorem drawCastLate_any (A : Option Addr) (n c : Nat) (l : List Int) (w : World) (hs : Sees w w.heap.size A (bys l)) (hl : l.length = n) (hby : ∀ z ∈ l, byteB z) (hc : n ≤ c) (hm : c ≤ maxLen) :
    Calls Tryd.prog 37 #[.slice A n c] w (DrawnHC w) := by
  go_enter Tryd.func37, Tryd.ntmps37
  have hB := Blk.made w 24 #[.int .i64 0, .int .i64 0]
  have hb : Below w.heap.size w (w.alloc (.cells #[.int .i64 0, .int .i64 0] 24)) := (Below.refl _ _).alloc (Nat.le_refl _) _
  go_wp2_with fail
  generalize w.alloc _ = W at hB hb ⊢
  refine (drawCastTimes_any A n c l _ (hs.next hb) hl hby hc hm).mono ?_
  rintro _ w1 ⟨hts, A2, c2, s, hsm, hlen, hsc, rfl, hQ, hb1⟩
  have hlt := hB.lt
  replace hB := hB.below hb1 hB.lt
  replace hb := below_next hb hb1
  clear hb1
  have c4 := hB.cell
  have f4 := hB.frozen
  go_wp2_with fail
  refine bodyPost_ret (v := .tuple #[.slice A2 hts.length c2, cv s]) (by simp [results, Tryd.results37, go_sem, c4]) rfl ⟨hts, A2, c2, s, hsm, hlen, hsc, rfl, ?_, ?_⟩
  · simpa using own_lo ((hQ.setCell (p := ⟨w.heap.size, 0, none⟩) (.inl (by show w.heap.size < _; omega)) (.int .i64 s.f)).setCell (p := ⟨w.heap.size, 1, none⟩) (.inl (by show w.heap.size < _; omega)) (.int .i64 s.s)) (by omega)
  · exact ((hb.setCell (Nat.le_refl _) _).setCell (Nat.le_refl _) _)
end Go.Proofs.YtdobfpdfbfaohaaDoor
