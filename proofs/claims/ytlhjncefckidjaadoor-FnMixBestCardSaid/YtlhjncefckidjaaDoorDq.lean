/-
  The reader of a code: what a pick gives does not hang on the world.
-/
import Derived.Test.YtlhjncefckidjaaDoorDr
namespace Go.Proofs.YtlhjncefckidjaaDoor
open Go.RowKit Go.ChangeShapes Go.WideShapes Go.Deep
set_option linter.unusedVariables false
set_option maxHeartbeats 2000000 in
theorem pick_det (B r p n : Nat) (w0 : World) (h : Rd w0 B r p) (hp : p ≤ 1000000) (hn : 1 ≤ n) (hn' : n ≤ 1000000) :
    ∃ v : Nat, v < n ∧ ∀ w, Below w0.heap.size w0 w → Calls Tryd.prog 41 #[.pointer (some ⟨r, 0, none⟩), .int .i64 n] w fun e w' => e = .returned (.int .i64 v) ∧ Rd w' B r (p + 1) ∧ Only r (r + 1) w w' := by
  obtain ⟨A, m, c, l, hB0, hBr, hs0, hl, hm, hby⟩ := h
  have hn1 : ¬ ((n : Int) < 1) := by omega
  by_cases hm0 : m = 0
  · subst hm0
    refine ⟨0, by omega, fun w hbw => ?_⟩
    have hB := hB0.below hbw hB0.lt
    have hs := hs0.below (hbw.mono (Nat.le_trans hBr (Nat.le_of_lt hB0.lt)))
    have hlt := hB.lt
    have hc := hB.cell
    have hf := hB.frozen
    have H' : Rd (w.setCell ⟨r, 1, none⟩ (.int .i64 ((p : Int) + 1))) B r (p + 1) := ⟨A, _, c, l, by have := hB.put 1 (.int .i64 ((p : Int) + 1)); simpa using this, hBr, hs.below ((Below.refl _ _).setCell hBr _), hl, hm, hby⟩
    have O' : Only r (r + 1) w (w.setCell ⟨r, 1, none⟩ (.int .i64 ((p : Int) + 1))) := (Only.refl r (r + 1) w).setCell (p := ⟨r, 1, none⟩) (Nat.le_refl r) (by show r < r + 1; omega) _
    clear hs0 hB0
    go_enter Tryd.func41, Tryd.ntmps41
    go_wp2_with fail
    go_ret
    exact ⟨rfl, H', O'⟩
  have hmb : ((m : Int) == 0) = false := by rw [beq_eq_false_iff_ne]; omega
  by_cases hpm : p < m
  · obtain ⟨x, hx⟩ : ∃ x, l[p]? = some x := ⟨_, List.getElem?_eq_getElem (by omega)⟩
    have hxb := hby x (List.mem_of_getElem? hx)
    obtain ⟨hx0, hx1⟩ := hxb
    obtain ⟨v, hv, hve⟩ := emod_lt (x := x) (n := n) hx0 (by omega)
    have Hve := Lib.hid hve
    clear hve
    refine ⟨v, hv, fun w hbw => ?_⟩
    have hB := hB0.below hbw hB0.lt
    have hs := hs0.below (hbw.mono (Nat.le_trans hBr (Nat.le_of_lt hB0.lt)))
    have hlt := hB.lt
    have hc := hB.cell
    have hf := hB.frozen
    have H' : Rd (w.setCell ⟨r, 1, none⟩ (.int .i64 ((p : Int) + 1))) B r (p + 1) := ⟨A, m, c, l, by have := hB.put 1 (.int .i64 ((p : Int) + 1)); simpa using this, hBr, hs.below ((Below.refl _ _).setCell hBr _), hl, hm, hby⟩
    have O' : Only r (r + 1) w (w.setCell ⟨r, 1, none⟩ (.int .i64 ((p : Int) + 1))) := (Only.refl r (r + 1) w).setCell (p := ⟨r, 1, none⟩) (Nat.le_refl r) (by show r < r + 1; omega) _
    obtain ⟨b, off, x', rfl, hbB, hx', c0⟩ := hs.byte_at (k := p) (by omega)
    obtain rfl : x = x' := by rw [hx] at hx'; injection hx'
    have hbr : b ≠ r := by omega
    clear hx hx' hl hby hs0 hB0
    go_enter Tryd.func41, Tryd.ntmps41
    go_wp2_with fail
    go_ret
    exact ⟨ret_int Hve.out, H', O'⟩
  · obtain ⟨a1, ha1⟩ : ∃ a1, a1 = p % m := ⟨_, rfl⟩
    obtain ⟨a2, ha2⟩ : ∃ a2, a2 = (p * 7 + 3) % m := ⟨_, rfl⟩
    obtain ⟨d, hd⟩ : ∃ d, d = p / m := ⟨_, rfl⟩
    have i1 : a1 < m := by rw [ha1]; exact Nat.mod_lt _ (by omega)
    have i2 : a2 < m := by rw [ha2]; exact Nat.mod_lt _ (by omega)
    have i3 : d ≤ p := by rw [hd]; exact Nat.div_le_self _ _
    have f1 : Int.tmod (p : Int) (m : Int) = (a1 : Int) := by rw [ha1]; exact tmod_nat p m
    have f2 : Int.tmod ((p : Int) * 7 + 3) (m : Int) = (a2 : Int) := by rw [ha2]; exact tmod_nat (p * 7 + 3) m
    have f3 : Int.tdiv (p : Int) (m : Int) = (d : Int) := by rw [hd]; exact tdiv_nat p m
    clear ha1 ha2 hd
    have F1 := Lib.hid f1
    have F2 := Lib.hid f2
    have F3 := Lib.hid f3
    clear f1 f2 f3
    obtain ⟨x, hx⟩ : ∃ x, l[a1]? = some x := ⟨_, List.getElem?_eq_getElem (by omega)⟩
    obtain ⟨y, hy⟩ : ∃ y, l[a2]? = some y := ⟨_, List.getElem?_eq_getElem (by omega)⟩
    have hxb := hby x (List.mem_of_getElem? hx)
    obtain ⟨hx0, hx1⟩ := hxb
    have hyb := hby y (List.mem_of_getElem? hy)
    obtain ⟨hy0, hy1⟩ := hyb
    obtain ⟨X, hX⟩ : ∃ X : Nat, (X : Int) = x * 131 + y * 1117 + (p : Int) * 29 + (d : Int) * 53 := ⟨(x * 131 + y * 1117 + (p : Int) * 29 + (d : Int) * 53).toNat, by omega⟩
    have hX1 : X ≤ 1000000000 := by omega
    have HX := Lib.hid hX
    clear hX
    obtain ⟨Z, hZ⟩ : ∃ Z : Nat, bits .xor .i64 (X : Int) ((X : Int) / 64) = (Z : Int) := ⟨X ^^^ (X / 64), i64_xor_nat X (X / 64) (by omega) (by omega)⟩
    have HZ := Lib.hid hZ
    clear hZ
    obtain ⟨v, hv, hve⟩ := emod_lt (x := (Z : Int)) (n := n) (by omega) (by omega)
    have Hve := Lib.hid hve
    clear hve
    refine ⟨v, hv, fun w hbw => ?_⟩
    have hB := hB0.below hbw hB0.lt
    have hs := hs0.below (hbw.mono (Nat.le_trans hBr (Nat.le_of_lt hB0.lt)))
    have hlt := hB.lt
    have hc := hB.cell
    have hf := hB.frozen
    have H' : Rd (w.setCell ⟨r, 1, none⟩ (.int .i64 ((p : Int) + 1))) B r (p + 1) := ⟨A, m, c, l, by have := hB.put 1 (.int .i64 ((p : Int) + 1)); simpa using this, hBr, hs.below ((Below.refl _ _).setCell hBr _), hl, hm, hby⟩
    have O' : Only r (r + 1) w (w.setCell ⟨r, 1, none⟩ (.int .i64 ((p : Int) + 1))) := (Only.refl r (r + 1) w).setCell (p := ⟨r, 1, none⟩) (Nat.le_refl r) (by show r < r + 1; omega) _
    obtain ⟨b, off, x', rfl, hbB, hx', c0⟩ := hs.byte_at (k := a1) (by omega)
    obtain ⟨b2, off2, y', hA, hbB2, hy', c1⟩ := hs.byte_at (k := a2) (by omega)
    obtain rfl : x = x' := by rw [hx] at hx'; injection hx'
    obtain rfl : y = y' := by rw [hy] at hy'; injection hy'
    injection hA with hA
    injection hA with e1 e2
    subst e1; subst e2
    have hbr : b ≠ r := by omega
    clear hx hx' hy hy' hl hby hs0 hB0
    have hpm' : ¬ ((p : Int) < m) := by omega
    go_enter Tryd.func41, Tryd.ntmps41
    go_wp2_with fail
    have j1 : (a1 : Int) < m := by omega
    have j2 : (a2 : Int) < m := by omega
    have q1 : IntKind.i64.wrap x = x := wrap_in' (by omega) (by omega)
    have q2 : IntKind.i64.wrap y = y := wrap_in' (by omega) (by omega)
    have q3 : IntKind.i64.wrap (x * 131) = x * 131 := wrap_in' (by omega) (by omega)
    have q4 : IntKind.i64.wrap ((p : Int) * 7) = (p : Int) * 7 := wrap_in' (by omega) (by omega)
    have q5 : IntKind.i64.wrap ((p : Int) * 7 + 3) = (p : Int) * 7 + 3 := wrap_in' (by omega) (by omega)
    have q6 : IntKind.i64.wrap (y * 1117) = y * 1117 := wrap_in' (by omega) (by omega)
    have q7 : IntKind.i64.wrap (x * 131 + y * 1117) = x * 131 + y * 1117 := wrap_in' (by omega) (by omega)
    have q8 : IntKind.i64.wrap ((p : Int) * 29) = (p : Int) * 29 := wrap_in' (by omega) (by omega)
    have q9 : IntKind.i64.wrap (x * 131 + y * 1117 + (p : Int) * 29) = x * 131 + y * 1117 + (p : Int) * 29 := wrap_in' (by omega) (by omega)
    have qa : IntKind.i64.wrap ((d : Int) * 53) = (d : Int) * 53 := wrap_in' (by omega) (by omega)
    have qb : IntKind.i64.wrap (x * 131 + y * 1117 + (p : Int) * 29 + (d : Int) * 53) = x * 131 + y * 1117 + (p : Int) * 29 + (d : Int) * 53 := wrap_in' (by omega) (by omega)
    have qc : IntKind.i64.wrap (d : Int) = (d : Int) := wrap_in' (by omega) (by omega)
    have qd : IntKind.i64.wrap (a1 : Int) = (a1 : Int) := wrap_in' (by omega) (by omega)
    have qe : IntKind.i64.wrap (a2 : Int) = (a2 : Int) := wrap_in' (by omega) (by omega)
    have f1 := F1.out
    have f2 := F2.out
    have f3 := F3.out
    go_quiet (fail)
    clear f1 f2 f3 q1 q2 q3 q4 q5 q6 q7 q8 q9 qa qb qc qd qe
    rw [← HX.out]
    have hZ := HZ.out
    go_wp2_with fail
    go_ret
    exact ⟨ret_int Hve.out, H', O'.drewN _⟩
end Go.Proofs.YtlhjncefckidjaaDoor
