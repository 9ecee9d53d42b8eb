/-
  Contracts of drawn rows of stuffs.
-/
import Derived.Test.YtlhjncefckidjaaDoorDs
import Derived.Deep.DrawnRows
import Derived.Test.YtlhjncefckidjaaDoorTake
import Derived.Deep.RegionLaw
namespace Go.Proofs.YtlhjncefckidjaaDoor
open Go.RowKit
set_option linter.unusedVariables false
attribute [local go_sem ↓] Go.wp_at_zero Go.wp_at_succ
attribute [local go_sem high] run_maxI run_minI
section
variable {w w' w'' : World} {lo hi lo' hi' size n c : Nat} {t : TypeId} {A : Option Addr} {xs : List Value}
/-- What turned new blocks alone has turned nothing of the old ones. -/
theorem Only.fresh (h : Only lo hi w w') (k : Only lo' hi' w' w'') (hl : w.heap.size ≤ lo') : Only lo hi w w'' :=
  ⟨k.os.trans h.os, k.tape.trans h.tape, k.output.trans h.output, Nat.le_trans h.size k.size, fun i hi' hr => (k.block i (Nat.lt_of_lt_of_le hi' h.size) (by omega)).trans (h.block i hi' hr)⟩
theorem Own.alloc (h : Own w lo hi t size A n c xs) (o : Obj) : Own (w.alloc o) lo hi t size A n c xs := h.below ((Below.refl _ _).alloc (Nat.le_refl _) _)
theorem Own.setCell (h : Own w lo hi t size A n c xs) {p : Addr} (hp : p.block < lo ∨ hi ≤ p.block) (u : Value) : Own (w.setCell p u) lo hi t size A n c xs :=
  h.keep fun i h1 h2 _ => Below.heap_setCell w p u i (by omega)
theorem Own.addr (h : Own w lo hi t size A n c xs) : (A = none ∧ n = 0 ∧ c = 0) ∨ ∃ g, A = some ⟨g, 0, none⟩ := by
  rcases h.1.2 with ⟨hv, h0⟩ | ⟨g, cap, cur, hv, _⟩
  · injection hv with h1 h2 h3
    exact .inl ⟨h1, h2, h3⟩
  · injection hv with h1 h2 h3
    exact .inr ⟨g, h1⟩
theorem own_zero' (h : Own w lo hi t size A (0 + n) c ([] ++ xs)) : Own w lo hi t size A n c xs := by rwa [Nat.zero_add, List.nil_append] at h
theorem ret_slice {m : Nat} (h : n = m) : Ending.returned (.slice A n c) = .returned (.slice A m c) := by rw [h]
/-- A slice of one number, just made. -/
theorem sees_one (w : World) (t : TypeId) (v : Int) : Sees (w.alloc (.cells #[.int .i64 v] t)) (w.heap.size + 1) (some ⟨w.heap.size, 0, none⟩) (ints [v]) := by
  refine .inr ⟨w.heap.size, 0, rfl, by omega, fun j u hu => ?_⟩
  rw [(Blk.made w t #[.int .i64 v]).cell]
  cases j with
  | zero => simpa [ints] using hu
  | succ j => simp [ints] at hu
end
theorem infoInt2 : (Tryd.prog.info? 3).map (fun i => (i.zero, i.size, i.bytes)) = some (some (.int .i64 0), 1, 8) := by kernel_rfl
theorem infoStuff2 : (Tryd.prog.info? 42).map (fun i => (i.zero, i.size, i.bytes)) = some (some (.agg #[.int .i64 0, .int .i64 0, .int .i64 0, .int .i64 0, .int .i64 0]), 5, 40) := by kernel_rfl
theorem sees_stuff (w : World) (t : TypeId) (a b c d e : Int) : Sees (w.alloc (.cells #[.int .i64 a, .int .i64 b, .int .i64 c, .int .i64 d, .int .i64 e] t)) (w.heap.size + 1) (some ⟨w.heap.size, 0, none⟩) (ints (flatS [⟨a, b, c, d, e⟩])) := by
  refine .inr ⟨w.heap.size, 0, rfl, by omega, fun j u hu => ?_⟩
  rw [(Blk.made w t #[.int .i64 a, .int .i64 b, .int .i64 c, .int .i64 d, .int .i64 e]).cell]
  match j, hu with
  | 0, hu => simpa [ints, flatS] using hu
  | 1, hu => simpa [ints, flatS] using hu
  | 2, hu => simpa [ints, flatS] using hu
  | 3, hu => simpa [ints, flatS] using hu
  | 4, hu => simpa [ints, flatS] using hu
  | j + 5, hu => simp [ints, flatS] at hu
theorem own_stuff (w : World) (t : TypeId) (a b c d e : Int) : Own (w.alloc (.cells #[.int .i64 a, .int .i64 b, .int .i64 c, .int .i64 d, .int .i64 e] t)) w.heap.size (w.heap.size + 1) t 5 (some ⟨w.heap.size, 0, none⟩) 1 1 (ints (flatS [⟨a, b, c, d, e⟩])) :=
  Own.mk_ (Nat.le_refl _) (by omega) (Nat.le_refl _) (by unfold maxLen; omega) (Blk.made _ _ _) (by simp) (by simp [ints, flatS])
theorem made25s : (madeCells #[.int .i64 0, .int .i64 0, .int .i64 0, .int .i64 0, .int .i64 0] 25).size = 5 * 5 := by kernel_rfl
theorem made25 : (madeCells #[.int .i64 0, .int .i64 0, .int .i64 0, .int .i64 0, .int .i64 0] 25).toList.take (5 * 5) = ints (flatS (List.replicate 5 ⟨0, 0, 0, 0, 0⟩)) := by kernel_rfl
theorem flatS_drop1 (l : List Stuff) : ints (flatS (l.drop 1)) = (ints (flatS l)).drop 5 := by cases l <;> rfl
/-- A row of stuffs is drawn. -/
def DrewSs (w : World) (B r p : Nat) (e : Ending) (w' : World) : Prop :=
  ∃ (l : List Stuff) (A : Option Addr) (c p' : Nat), (∀ h ∈ l, smallS h) ∧ l.length ≤ 5 ∧ p' ≤ p + 100 ∧ e = .returned (.slice A l.length c) ∧ Own w' w.heap.size w'.heap.size 42 5 A l.length c (ints (flatS l)) ∧ Rd w' B r p' ∧ Only r (r + 1) w w'
set_option maxHeartbeats 4000000 in
set_option maxRecDepth 20000 in
theorem l20Stuffs_any (B r p n : Nat) (w : World) (h : Rd w B r p) (hp : p ≤ 50000) (hn' : n ≤ 1000000) :
    Calls Tryd.prog 38 #[.pointer (some ⟨r, 0, none⟩), .int .i64 n] w (DrewSs w B r p) := by
  have hrw := h.lt
  have hBr := h.le
  obtain ⟨i0, hi, hz0, hz1, hz2⟩ := info_parts infoStuff2
  go_enter Tryd.func38, Tryd.ntmps38
  have hQ := own_made w 42 5
  have hR := h.alloc (.cells #[] 42)
  have hO : Only r (r + 1) w (w.alloc (.cells #[] 42)) := (Only.refl _ _ _).alloc _
  replace hQ := own_hi hQ (show w.heap.size + 1 ≤ (w.alloc (.cells #[] 42)).heap.size by simp)
  go_wp2_with fail
  generalize w.alloc _ = W at hQ hR hO ⊢
  refine (pick_any B r _ 4 _ hR (by omega) (by omega) (by omega)).mono ?_
  rintro _ w1 ⟨v1, hv1, rfl, hR1, hO1⟩
  replace hQ := own_hi (hQ.only hO1 (by omega)) hO1.size
  replace hO := hO.trans hO1
  clear hR hO1
  go_wp2_with fail
  refine (pick_any B r _ 2 _ hR1 (by omega) (by omega) (by omega)).mono ?_
  rintro _ w1' ⟨v2, hv2, rfl, hR, hO1⟩
  replace hQ := own_hi (hQ.only hO1 (by omega)) hO1.size
  replace hO := hO.trans hO1
  clear hR1 hO1
  go_wp2_with fail
  go_loopw [5, 6] (fun u i wr => ∃ (j : Nat) (l : List Stuff) (A : Option Addr) (c p' : Nat), l.length + j ≤ 4 ∧ u = .slice A l.length c ∧ i = .int .i64 j ∧ (∀ h ∈ l, smallS h) ∧ p' + 10 * j ≤ p + 42 ∧ Own wr w.heap.size wr.heap.size 42 5 A l.length c (ints (flatS l)) ∧ Rd wr B r p' ∧ Only r (r + 1) w wr) (fun _ i _ => (intOf i).toNat)
  case atStart => exact ⟨v1 + v2, [], _, _, p + 1 + 1, by simp; omega, rfl, by go_num, by simp, by omega, hQ, hR, hO⟩
  case round =>
    clear hQ hR hO
    obtain ⟨j, l, A, c, p', hlj, rfl, rfl, hl, hp', hQ, hR, hO⟩ := hrel
    have Hl := Lib.hid hl
    clear hl
    by_cases hj : 0 < j
    · go_wp2_with fail
      refine (l20Stuff_any B r _ 0 _ hR (by omega) (by omega)).mono ?_
      rintro _ w2 ⟨s, p2, hsm, hp2, rfl, hR2, hO1⟩
      replace hQ := own_hi (hQ.only hO1 (by omega)) hO1.size
      replace hO := hO.trans hO1
      clear hR hO1
      go_wp2_with (at_builtin; refine wpList_app _ rfl (.tmp 17) (.tmp 20) _ rfl 42 i0 _ 5 40 Tryd.underlying23 hi hz0 hz1 hz2 rfl (by omega) rfl (hQ.alloc _) rfl (sees_stuff _ _ _ _ _ _ _) (by simp [ints, flatS]) (one_ints _) (by omega) (by omega) (by have := hO.size; simp; omega) ?_; intro A2 c2 w2' hQ2 hon)
      have hz := hO.size
      have hR3 := (hR2.alloc (.cells #[.int .i64 s.c, .int .i64 s.m, .int .i64 s.s, .int .i64 s.p, .int .i64 s.k] 42)).only hon (by omega) (by omega)
      have hO3 := (hO.alloc (.cells #[.int .i64 s.c, .int .i64 s.m, .int .i64 s.s, .int .i64 s.p, .int .i64 s.k] 42)).fresh hon (Nat.le_refl _)
      go_roundw
      case rel =>
        refine ⟨j - 1, l ++ [s], A2, c2, p2, by simp; omega, by simp, by go_num, ?_, by omega, ?_, hR3, hO3⟩
        · intro x hx
          rcases List.mem_append.1 hx with hx | hx
          · exact Hl.out x hx
          · rw [List.mem_singleton.1 hx]; exact hsm
        · rw [flatS_append, ints_append, List.length_append]; exact hQ2
      case measure => simp [intOf]; omega
    · go_wp2_with fail
      refine (odd_any B r _ n _ hR (by omega) hn').mono ?_
      rintro _ w2 ⟨b, p6, hp6, rfl, hR1, hO1⟩
      replace hQ := own_hi (hQ.only hO1 (by omega)) hO1.size
      replace hO := hO.trans hO1
      clear hR hO1
      cases b with
      | false =>
        go_wp2_with fail
        go_ret
        exact ⟨l, A, c, p6, Hl.out, by omega, by omega, rfl, hQ, hR1, hO⟩
      | true =>
        go_wp2_with fail
        refine (pick_any B r _ 2 _ hR1 (by omega) (by omega) (by omega)).mono ?_
        rintro _ w3 ⟨v, hv, rfl, hR, hO1⟩
        replace hQ := own_hi (hQ.only hO1 (by omega)) hO1.size
        replace hO := hO.trans hO1
        clear hR1 hO1
        have hv2 : v = 0 ∨ v = 1 := by omega
        clear hv
        rcases hv2 with rfl | rfl
        · have hmk := fun W => run_make (P := Tryd.prog) W 23 42 i0 _ Tryd.underlying23 hi hz0 .i64 .i64 5 5 (by omega) (by omega) (by rw [hz2]; omega) (by omega)
          simp only [show (5 : Int).toNat = 5 from rfl, hz1] at hmk
          go_wp2_with fail
          go_ret
          have hz := hO.size
          refine ⟨List.replicate 5 ⟨0, 0, 0, 0, 0⟩, _, _, _, ?_, by simp, ?_, rfl, ?_, hR.alloc _, hO.alloc _⟩
          · intro x hx
            rw [List.eq_of_mem_replicate hx]
            unfold smallS; simp only; omega
          · omega
          · exact Own.mk_ hz (by simp) (Nat.le_refl _) (by unfold maxLen; omega) (Blk.made _ _ _) made25s made25
        · have hz := hO.size
          have hcap := hQ.cap
          have hr3 := hR.lt
          rcases hQ.addr with ⟨rfl, h0, rfl⟩ | ⟨g, rfl⟩
          · obtain rfl := List.eq_nil_of_length_eq_zero h0
            have hmin : minI 1 0 = 0 := rfl
            go_wp2_with fail
            go_region_held3 (fun _ => True) (exact trivial)
              (first
                | (go_at_call 62; refine (l20Stuff_any B r _ 1 _ (by exact hR) (by omega) (by omega)).mono ?_; rintro _ w4 ⟨s, p2, hsm, hp2, rfl, hR2, hO4⟩; have hQ4 := own_hi (Own.only (by exact hQ) hO4 (by omega)) hO4.size; have hz4 := hO4.size))
            all_goals
              replace hO := hO.trans hO4.of_drew
              have hzz := hO.size
              go_wp2_with fail
              all_goals
                go_ret
                refine ⟨[s], _, _, p2, ?_, by simp, by omega, rfl, own_lo (own_hi (own_stuff w4 42 _ _ _ _ _) (by simp)) hzz, hR2.alloc _, hO.alloc _⟩
                intro x hx
                rw [List.mem_singleton.1 hx]; exact hsm
          · by_cases h0 : l.length = 0
            · obtain rfl := List.eq_nil_of_length_eq_zero h0
              have hmin : minI 1 0 = 0 := rfl
              go_wp2_with fail
              go_region_held3 (fun _ => True) (exact trivial)
                (first
                  | (go_at_call 62; refine (l20Stuff_any B r _ 1 _ (by exact hR) (by omega) (by omega)).mono ?_; rintro _ w4 ⟨s, p2, hsm, hp2, rfl, hR2, hO4⟩; have hQ4 := own_hi (Own.only (by exact hQ) hO4 (by omega)) hO4.size; have hz4 := hO4.size))
              all_goals
                replace hO := hO.trans hO4.of_drew
                have hzz := hO.size
                go_wp2_with fail
                all_goals
                  go_ret
                  refine ⟨[s], _, _, p2, ?_, by simp, by omega, rfl, own_lo (own_hi (own_stuff w4 42 _ _ _ _ _) (by simp)) hzz, hR2.alloc _, hO.alloc _⟩
                  intro x hx
                  rw [List.mem_singleton.1 hx]; exact hsm
            · by_cases h1 : c = 1
              · subst h1
                rcases l with _ | ⟨a, _ | ⟨b, l⟩⟩
                · simp at h0
                · clear h0
                  have hmin : minI 1 1 = 1 := rfl
                  go_wp2_with fail
                  go_region_held3 (fun _ => True) (exact trivial)
                    (first
                      | (go_at_call 62; refine (l20Stuff_any B r _ 1 _ (by exact hR) (by omega) (by omega)).mono ?_; rintro _ w4 ⟨s, p2, hsm, hp2, rfl, hR2, hO4⟩; have hQ4 := own_hi (Own.only (by exact hQ) hO4 (by omega)) hO4.size; have hz4 := hO4.size))
                  all_goals
                    replace hO := hO.trans hO4.of_drew
                    have hzz := hO.size
                    go_wp2_with fail
                    all_goals
                      go_ret
                      refine ⟨[s], _, _, p2, ?_, by simp, by omega, rfl, own_lo (own_hi (own_stuff w4 42 _ _ _ _ _) (by simp)) hzz, hR2.alloc _, hO.alloc _⟩
                      intro x hx
                      rw [List.mem_singleton.1 hx]; exact hsm
                · simp at hcap
              · have hi1 : (1 : Int) ≤ (l.length : Int) := by omega
                have hi2 : (l.length : Int) ≤ (c : Int) := by omega
                have hi3 : (1 : Int) ≤ (c : Int) := by omega
                have hi4 : (l = []) = False := by rw [eq_iff_iff, iff_false]; rintro rfl; exact h0 rfl
                have hi5 : ¬ ((l.length : Int) < 1) := by omega
                have hi6 : ¬ ((c : Int) = 1) := by omega
                go_wp2_with fail
                have hmin : minI 1 (l.length : Int) = 1 := by unfold minI; rw [if_neg (by omega)]
                go_region_held3 (fun _ => True) (exact trivial) (first
                    | (refine step_app _ (by rfl) (.tmp 31) (.tmp 36) _ (by rfl) 42 i0 _ 5 40 Tryd.underlying23 hi hz0 hz1 hz2 (by rfl) (by omega) (by rfl) (own_stuff _ _ _ _ _ _ _) (by rfl) (by exact (flatS_drop1 l) ▸ ((hQ4.sees.drop (k := 5)).below ((Below.refl _ _).alloc (Nat.le_refl _) _))) (by rw [ints_length, flatS_length, List.length_drop]) (one_ints _) (by omega) (by omega) (by simp) ?_; intro A2 c2 w5 hQ2 hon)
                    | (go_at_call 62; refine (l20Stuff_any B r _ 1 _ (by exact hR) (by omega) (by omega)).mono ?_; rintro _ w4 ⟨s, p2, hsm, hp2, rfl, hR2, hO4⟩; have hQ4 := own_hi (Own.only (by exact hQ) hO4 (by omega)) hO4.size; have hz4 := hO4.size))
                all_goals
                  replace hO := hO.trans hO4.of_drew
                  have hzz := hO.size
                  have hR3 := (hR2.alloc (.cells #[.int .i64 s.c, .int .i64 s.m, .int .i64 s.s, .int .i64 s.p, .int .i64 s.k] 42)).only hon (by omega) (by omega)
                  have hO3 := (hO.alloc (.cells #[.int .i64 s.c, .int .i64 s.m, .int .i64 s.s, .int .i64 s.p, .int .i64 s.k] 42)).fresh hon hzz
                  go_wp2_with fail
                  go_ret
                  refine ⟨[s] ++ l.drop 1, A2, c2, p2, ?_, by simp; omega, by omega, ?_, ?_, hR3, hO3⟩
                  · intro x hx
                    rcases List.mem_append.1 hx with hx | hx
                    · rw [List.mem_singleton.1 hx]; exact hsm
                    · exact Hl.out x (List.mem_of_mem_drop hx)
                  · exact ret_slice (by simp; omega)
                  · rw [flatS_append, ints_append]
                    have := own_lo hQ2 hzz
                    simpa [Nat.add_comm] using this
end Go.Proofs.YtlhjncefckidjaaDoor
