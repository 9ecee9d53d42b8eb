/-
  Contracts of drawn mixtures, and of stuffs with a mixture that are drawn out of a code.
-/
import Derived.Test.YtlhjncefckidjaaDoorDt
import Derived.Test.YtlhjncefckidjaaDoorDq
import Derived.Deep.DrawnRows
namespace Go.Proofs.YtlhjncefckidjaaDoor
open Go.RowKit
set_option linter.unusedVariables false
attribute [local go_sem ↓] Go.wp_at_zero Go.wp_at_succ
attribute [local go_sem high] run_maxI run_minI
theorem Own.num_here {w : World} {lo hi n c g k : Nat} {t : TypeId} {l : List Int} {x : Int} (h : Own w lo hi t 1 (some ⟨g, 0, none⟩) n c (ints l)) (hx : l[k]? = some x) :
    lo ≤ g ∧ g < hi ∧ g < w.heap.size ∧ w.cell? ⟨g, k, none⟩ = some (.int .i64 x) ∧ w.frozen? ⟨g, k, none⟩ = false ∧
      ∀ v, Own (w.setCell ⟨g, k, none⟩ (.int .i64 v)) lo hi t 1 (some ⟨g, 0, none⟩) n c (ints (l.set k v)) := by
  have hk := (List.getElem?_eq_some_iff.1 hx).1
  have hln : l.length = n := by
    have := h.1.1
    rw [ints_length] at this
    omega
  obtain ⟨g', cs, hA, h1, h2, hn, hm, hB, hsz, hx'⟩ := h.block (by omega)
  injection hA with hA
  injection hA with e
  subst e
  refine ⟨h1, h2, hB.lt, ?_, hB.frozen k, fun v => ?_⟩
  · rw [hB.cell, ← ints_get hx, ← hx', List.getElem?_take, if_pos (by omega), Array.getElem?_toList]
  · refine Own.mk_ h1 h2 hn hm (hB.put k _) (by simpa using hsz) ?_
    rw [Array.toList_setIfInBounds, List.take_set, hx']
    simp [ints, List.map_set]
theorem own_set {w : World} {lo hi size n c : Nat} {t : TypeId} {A : Option Addr} {xs : List Value} {p : Addr} {u : Value} (h : Own (w.setCell p u) lo hi t size A n c xs) (hl : hi = w.heap.size) : Own (w.setCell p u) lo (w.setCell p u).heap.size t size A n c xs := by
  subst hl
  simpa using h
theorem only_cell {w w' : World} {lo hi b i : Nat} (h : Only lo hi w w') (hb : b < w.heap.size) (hd : b < lo ∨ hi ≤ b) : w'.cell? ⟨b, i, none⟩ = w.cell? ⟨b, i, none⟩ := by
  simp [World.cell?, h.block b hb hd]
def smallX (y : Int) : Prop := -1 ≤ y ∧ y ≤ 1001
theorem maxI_nat (k : Int) (h : k ≤ 1000) : ∃ q : Nat, maxI k 0 = (q : Int) ∧ q ≤ 1000 := by
  unfold maxI
  by_cases h0 : 0 > k
  · exact ⟨0, by rw [if_pos h0]; rfl, by omega⟩
  · exact ⟨k.toNat, by rw [if_neg h0]; omega, by omega⟩
/-- A mixture of m stuffs is drawn. -/
def DrewMix (w : World) (B r p m : Nat) (e : Ending) (w' : World) : Prop :=
  ∃ (x : List Int) (A : Option Addr) (c p' : Nat), x.length ≤ m + 1 ∧ (∀ y ∈ x, smallX y) ∧ p' ≤ p + 20 ∧ e = .returned (.slice A x.length c) ∧ Own w' w.heap.size w'.heap.size 3 1 A x.length c (ints x) ∧ Rd w' B r p' ∧ Only r (r + 1) w w'
set_option maxHeartbeats 4000000 in
theorem l20Mix_any (B r p n : Nat) (w : World) (h : Rd w B r p) (hp : p ≤ 50000) (hn' : n ≤ 1000000) (A : Option Addr) (c lo hi : Nat) (l : List Stuff) (hQ : Own w lo hi 42 5 A l.length c (ints (flatS l))) (hlo : r < lo) (hhi : hi ≤ w.heap.size) (hsm : ∀ s ∈ l, smallS s) (hl5 : l.length ≤ 5) :
    Calls Tryd.prog 39 #[.pointer (some ⟨r, 0, none⟩), .slice A l.length c, .int .i64 n] w (DrewMix w B r p l.length) := by
  have hrw := h.lt
  have hBr := h.le
  have Hsm := Lib.hid hsm
  clear hsm
  obtain ⟨j0, ji, jz0, jz1, jz2⟩ := info_parts infoInt2
  go_enter Tryd.func39, Tryd.ntmps39
  have hX := own_made w 3 1
  have hR := h.alloc (.cells #[] 3)
  replace hQ := hQ.alloc (.cells #[] 3)
  have hO : Only r (r + 1) w (w.alloc (.cells #[] 3)) := (Only.refl _ _ _).alloc _
  replace hX := own_hi hX (show w.heap.size + 1 ≤ (w.alloc (.cells #[] 3)).heap.size by simp)
  go_wp2_with fail
  generalize w.alloc _ = W at hX hQ hR hO ⊢
  go_loopw [7, 8] (fun t7 i wr => ∃ (k : Nat) (x : List Int) (A7 : Option Addr) (c7 p' : Nat), k ≤ l.length ∧ i = .int .i64 k ∧ t7 = .slice A7 k c7 ∧ Hid (x.length = k) ∧ Hid (∀ y ∈ x, smallX y) ∧ p' ≤ p + 2 * k ∧ Own wr w.heap.size wr.heap.size 3 1 A7 k c7 (ints x) ∧ Own wr lo hi 42 5 A l.length c (ints (flatS l)) ∧ Rd wr B r p' ∧ Only r (r + 1) w wr) (fun _ i _ => l.length - (intOf i).toNat)
  case atStart => exact ⟨0, [], _, _, p, by omega, rfl, rfl, Lib.hid rfl, Lib.hid (by simp), by omega, hX, hQ, hR, hO⟩
  case round =>
    clear hX hQ hR hO
    obtain ⟨k, x, A7, c7, p', hk, rfl, rfl, Hx, Hxs, hp', hX, hQ, hR, hO⟩ := hrel
    by_cases hlt : k < l.length
    · obtain ⟨b, off, a1, a2, a3, a4, a5, rfl, hbB, hl, q0, q1, q2, q3, q4⟩ := hQ.sees.stuff_at hlt
      have ha5 := (Hsm.out _ (List.mem_of_getElem? hl)).2.2.2.2
      simp only at ha5
      clear hl q0 q1 q2 q3
      obtain ⟨q, hq, hq1⟩ := maxI_nat a5 ha5.2
      go_wp2_with fail
      have hcall := pick_any B r p' (q + 1) wr hR (by omega) (by omega) (by omega)
      rw [show ((q + 1 : Nat) : Int) = (q : Int) + 1 from by omega] at hcall
      refine hcall.mono ?_
      rintro _ w1 ⟨v, hv, rfl, hR1, hO1⟩
      clear hcall hq
      replace hX := own_hi (hX.only hO1 (.inr (by omega))) hO1.size
      replace hQ := hQ.only hO1 (.inr (by omega))
      replace hO := hO.trans hO1
      clear hR hO1 q4
      go_wp2_with fail
      refine (pick_any B r _ 3 _ hR1 (by omega) (by omega) (by omega)).mono ?_
      rintro _ w2 ⟨u, hu, rfl, hR, hO1⟩
      replace hX := own_hi (hX.only hO1 (.inr (by omega))) hO1.size
      replace hQ := hQ.only hO1 (.inr (by omega))
      replace hO := hO.trans hO1
      clear hR1 hO1
      have hz := hO.size
      have hne : ((1 : Int) + (u : Int) == 0) = false := by rw [beq_eq_false_iff_ne]; omega
      go_wp2_with (at_builtin; refine wpList_app _ rfl (.tmp 16) (.tmp 30) _ rfl 3 j0 _ 1 8 Tryd.underlying28 ji jz0 jz1 jz2 rfl (by omega) rfl (hX.alloc _) rfl (sees_one _ _ _) (by simp [ints]) (one_ints _) (by omega) (by omega) (by simp; omega) ?_; intro A6 c6 w6 hX6 hon)
      have g1 : (0 : Int) ≤ (v : Int) / (1 + (u : Int)) := Int.ediv_nonneg (by omega) (by omega)
      have g2 : (v : Int) / (1 + (u : Int)) ≤ (v : Int) := Int.ediv_le_self _ (by omega)
      have e6 : wrap64 ((v : Int) / (1 + (u : Int))) = (v : Int) / (1 + (u : Int)) := by
        generalize (v : Int) / (1 + (u : Int)) = z at g1 g2
        rw [wrap_w64, w64_in (by omega) (by omega)]
      rw [e6] at hX6
      clear e6
      go_roundw
      case rel =>
        refine ⟨k + 1, x ++ [(v : Int) / (1 + (u : Int))], A6, c6, p' + 1 + 1, by omega, by go_num, rfl, Lib.hid (by simp [Hx.out]), Lib.hid ?_, by omega, by rw [ints_append]; exact hX6, (hQ.alloc _).only hon (by omega), (hR.alloc _).only hon (by omega) (by omega), (hO.alloc _).fresh hon (Nat.le_refl _)⟩
        intro y hy
        rcases List.mem_append.1 hy with hy | hy
        · exact Hxs.out y hy
        · rw [List.mem_singleton.1 hy]
          generalize (v : Int) / (1 + (u : Int)) = z at g1 g2
          unfold smallX
          omega
      case measure => simp [intOf]; omega
    · have hkl : k = l.length := by omega
      subst hkl
      go_wp2_with fail
      refine (odd_any B r _ n _ hR (by omega) hn').mono ?_
      rintro _ w2 ⟨b, p6, hp6, rfl, hR1, hO1⟩
      replace hX := own_hi (hX.only hO1 (.inr (by omega))) hO1.size
      replace hQ := hQ.only hO1 (.inr (by omega))
      replace hO := hO.trans hO1
      clear hR hO1
      have hz := hO.size
      cases b with
      | false =>
        have hx := Hx.out
        rw [← hx] at hX ⊢
        have Hx2 := Lib.hid hx
        clear hx
        go_wp2_with fail
        go_ret
        exact ⟨x, A7, c7, p6, by have := Hx2.out; omega, Hxs.out, by omega, rfl, hX, hR1, hO⟩
      | true =>
        by_cases h0 : 0 < l.length
        · have hd0 : decide (0 < l.length) = true := by simpa using h0
          go_wp2_with fail
          refine (pick_any B r _ 2 _ hR1 (by omega) (by omega) (by omega)).mono ?_
          rintro _ w3 ⟨v, hv, rfl, hR, hO1⟩
          replace hX := own_hi (hX.only hO1 (.inr (by omega))) hO1.size
          replace hQ := hQ.only hO1 (.inr (by omega))
          replace hO := hO.trans hO1
          have hz3 := hO.size
          clear hR1 hO1
          have hv2 : v = 0 ∨ v = 1 := by omega
          clear hv
          rcases hv2 with rfl | rfl
          · obtain ⟨x0, hx0⟩ : ∃ y, x[0]? = some y := ⟨_, List.getElem?_eq_getElem (by rw [Hx.out]; exact h0)⟩
            obtain ⟨g, cs, rfl, hg1, hg2, -, -, hB7, -, -⟩ := hX.block (by omega)
            obtain ⟨b, cs', rfl, hb1, hb2, -, -, hBb, -, -⟩ := hQ.block (by omega)
            have hbl := hBb.lt
            clear hBb hB7
            obtain ⟨b', off, a1, a2, a3, a4, a5, hA, hbB, hl, q0, q1, q2, q3, q4⟩ := hQ.sees.stuff_at h0
            injection hA with hA
            injection hA with e1 e2
            subst e1; subst e2
            have ha5 := (Hsm.out _ (List.mem_of_getElem? hl)).2.2.2.2
            simp only at ha5
            simp only [Nat.zero_mul, Nat.zero_add] at q4
            clear hl q0 q1 q2 q3
            have Hx0 := Lib.hid hx0
            clear hx0
            have cx := (hX.num_here Hx0.out).2.2.2.1
            have fx := (hX.num_here Hx0.out).2.2.2.2.1
            have hi1 : (0 : Int) < (l.length : Int) := by omega
            have hgl := (hX.num_here Hx0.out).2.2.1
            have hwr : IntKind.i64.wrap (a5 + 1) = a5 + 1 := wrap_in' (by omega) (by omega)
            go_wp2_with fail
            have hrb : r ≠ b := by omega
            obtain ⟨u, hu, hdet⟩ := pick_det B r _ 2 _ hR (by omega) (by omega) (by omega)
            have Hdet := Lib.hid hdet
            clear hdet
            have hu2 : u = 0 ∨ u = 1 := by omega
            clear hu
            rcases hu2 with rfl | rfl
            · go_wp2_with fail
              go_region_with (go_at_call 41; refine (Hdet.out _ (by first | exact (Below.refl _ _).drew | exact ((Below.refl _ _).alloc (Nat.le_refl _) _).drew)).mono ?_; rintro _ w4 ⟨rfl, hR6, hO6⟩; have hz4 : w3.heap.size ≤ w4.heap.size := (by have := hO6.size; simp at this; omega); have hX6 := own_hi (Own.only (by first | exact hX | exact Own.alloc hX _) hO6 (.inr (by omega))) hz4; have c6 := (hX6.num_here Hx0.out).2.2.2.1; have f6 := (hX6.num_here Hx0.out).2.2.2.2.1; have hgl4 : g < w4.heap.size := (hX6.num_here Hx0.out).2.2.1; have hbl4 : b < w4.heap.size := (by omega); have q6 : w4.cell? ⟨b, 4, none⟩ = some (.int .i64 a5) := (only_cell hO6 (by simp; omega) (by omega)).trans (by first | exact q4 | exact (((Below.refl w3.heap.size w3).alloc (Nat.le_refl _) _).cell (p := ⟨b, 4, none⟩) hbl).trans q4); (first | (have cS := (Blk.only (by exact Blk.made w3 3 #[.int .i64 (-1), .int .i64 (a5 + 1)]) hO6 (by omega)).cell) | skip))
              all_goals
                go_wp2_with fail
                go_ret
                refine ⟨x.set 0 (-1), some ⟨g, 0, none⟩, c7, p6 + 1 + 1, by simp [Hx.out], ?_, by omega, ret_slice (by simp [Hx.out]), ?_, ?_, ?_⟩
                · intro y hy
                  rcases List.mem_or_eq_of_mem_set hy with hy | rfl
                  · exact Hxs.out y hy
                  · unfold smallX; omega
                · rw [List.length_set, Hx.out]
                  first | exact own_set ((hX6.num_here Hx0.out).2.2.2.2.2 _) rfl | exact own_hi ((own_set ((hX6.num_here Hx0.out).2.2.2.2.2 _) rfl).alloc _) (by simp)
                · first | exact hR6.setCell (q := ⟨g, 0, none⟩) (by show r < g; omega) _ | exact (hR6.setCell (q := ⟨g, 0, none⟩) (by show r < g; omega) _).alloc _
                · first | exact ((hO.alloc _).trans hO6.of_drew).setNew (q := ⟨g, 0, none⟩) hg1 _ | exact ((hO.trans hO6.of_drew).setNew (q := ⟨g, 0, none⟩) hg1 _).alloc _
            · go_wp2_with fail
              go_region_with (go_at_call 41; refine (Hdet.out _ (by first | exact (Below.refl _ _).drew | exact ((Below.refl _ _).alloc (Nat.le_refl _) _).drew)).mono ?_; rintro _ w4 ⟨rfl, hR6, hO6⟩; have hz4 : w3.heap.size ≤ w4.heap.size := (by have := hO6.size; simp at this; omega); have hX6 := own_hi (Own.only (by first | exact hX | exact Own.alloc hX _) hO6 (.inr (by omega))) hz4; have c6 := (hX6.num_here Hx0.out).2.2.2.1; have f6 := (hX6.num_here Hx0.out).2.2.2.2.1; have hgl4 : g < w4.heap.size := (hX6.num_here Hx0.out).2.2.1; have hbl4 : b < w4.heap.size := (by omega); have q6 : w4.cell? ⟨b, 4, none⟩ = some (.int .i64 a5) := (only_cell hO6 (by simp; omega) (by omega)).trans (by first | exact q4 | exact (((Below.refl w3.heap.size w3).alloc (Nat.le_refl _) _).cell (p := ⟨b, 4, none⟩) hbl).trans q4); (first | (have cS := (Blk.only (by exact Blk.made w3 3 #[.int .i64 (-1), .int .i64 (a5 + 1)]) hO6 (by omega)).cell) | skip))
              all_goals
                go_wp2_with fail
                go_ret
                refine ⟨x.set 0 (a5 + 1), some ⟨g, 0, none⟩, c7, p6 + 1 + 1, by simp [Hx.out], ?_, by omega, ret_slice (by simp [Hx.out]), ?_, ?_, ?_⟩
                · intro y hy
                  rcases List.mem_or_eq_of_mem_set hy with hy | rfl
                  · exact Hxs.out y hy
                  · unfold smallX; omega
                · rw [List.length_set, Hx.out]
                  first | exact own_set ((hX6.num_here Hx0.out).2.2.2.2.2 _) rfl | exact own_hi ((own_set ((hX6.num_here Hx0.out).2.2.2.2.2 _) rfl).alloc _) (by simp)
                · first | exact hR6.setCell (q := ⟨g, 0, none⟩) (by show r < g; omega) _ | exact (hR6.setCell (q := ⟨g, 0, none⟩) (by show r < g; omega) _).alloc _
                · first | exact ((hO.alloc _).trans hO6.of_drew).setNew (q := ⟨g, 0, none⟩) hg1 _ | exact ((hO.trans hO6.of_drew).setNew (q := ⟨g, 0, none⟩) hg1 _).alloc _
          · go_wp2_with (at_builtin; refine wpList_app _ rfl (.tmp 56) (.tmp 57) _ rfl 3 j0 _ 1 8 Tryd.underlying28 ji jz0 jz1 jz2 rfl (by omega) rfl (hX.alloc _) rfl (sees_one _ _ _) (by simp [ints]) (one_ints _) (by omega) (by omega) (by simp; omega) ?_; intro A6 c6 w6 hX6 hon)
            go_ret
            have hx := Hx.out
            refine ⟨x ++ [0], A6, c6, p6 + 1, by rw [List.length_append, hx]; simp, ?_, by omega, ret_slice (by simp [hx]), by rw [ints_append, List.length_append, hx]; exact hX6, (hR.alloc _).only hon (by omega) (by omega), (hO.alloc _).fresh hon (Nat.le_refl _)⟩
            intro y hy
            rcases List.mem_append.1 hy with hy | hy
            · exact Hxs.out y hy
            · rw [List.mem_singleton.1 hy]; unfold smallX; omega
        · have hd0 : decide (0 < l.length) = false := by simpa using h0
          go_wp2_with (at_builtin; refine wpList_app _ rfl (.tmp 56) (.tmp 57) _ rfl 3 j0 _ 1 8 Tryd.underlying28 ji jz0 jz1 jz2 rfl (by omega) rfl (hX.alloc _) rfl (sees_one _ _ _) (by simp [ints]) (one_ints _) (by omega) (by omega) (by simp; omega) ?_; intro A6 c6 w6 hX6 hon)
          go_ret
          have hx := Hx.out
          refine ⟨x ++ [0], A6, c6, p6, by rw [List.length_append, hx]; simp, ?_, by omega, ret_slice (by simp [hx]), by rw [ints_append, List.length_append, hx]; exact hX6, (hR1.alloc _).only hon (by omega) (by omega), (hO.alloc _).fresh hon (Nat.le_refl _)⟩
          intro y hy
          rcases List.mem_append.1 hy with hy | hy
          · exact Hxs.out y hy
          · rw [List.mem_singleton.1 hy]; unfold smallX; omega
end Go.Proofs.YtlhjncefckidjaaDoor
