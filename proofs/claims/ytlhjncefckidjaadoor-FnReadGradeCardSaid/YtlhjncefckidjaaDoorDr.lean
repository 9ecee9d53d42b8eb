/-
  The reader of a code: how the argument opens, what the reader's block holds, pick and odd.
-/
import Derived.Test.YtlhjncefckidjaaDoorOwn
import Derived.Laws.BitsAllLaws
import Derived.Laws.BitsLemmas
namespace Go.Proofs.YtlhjncefckidjaaDoor
open Go.RowKit Go.ChangeShapes Go.WideShapes Go.Deep
set_option linter.unusedVariables false
def bys (l : List Int) : List Value := l.map (Value.int .u8)
theorem bys_length (l : List Int) : (bys l).length = l.length := by simp [bys]
theorem bys_get {l : List Int} {k : Nat} {x : Int} (h : l[k]? = some x) : (bys l)[k]? = some (.int .u8 x) := by simp [bys, h]
def byteB (x : Int) : Prop := 0 ≤ x ∧ x ≤ 255
section
variable {H : Type} {enc : TypeId × Value → H} {P : Program} {w : World} {base : Nat} {held : Bool}
/-- A slice of bytes. -/
theorem open_byterow {t q : TypeId} {A : Option Addr} {n c : Nat} {d : DataW H} {p : List MemPlace} (hs : P.underlying t = some (.slice q)) (hq : P.underlying q = some (.int .u8))
    (hC : P.cellsOf q = 1) (h : DataW.Trod enc P w base (fun _ => true) held t (.slice A n c) d p) :
    ∃ zs : List Int, Sees w w.heap.size A (bys zs) ∧ zs.length = n ∧ (∀ z ∈ zs, byteB z) ∧ n ≤ c ∧ c ≤ maxLen := by
  obtain ⟨fuel, hf⟩ := h
  rcases open_ints hs hq hC hf with ⟨hcs, _⟩ | ⟨a, l, c', zs, hcs, _, hl, hm, hz, _, hcell, hwz⟩
  · simp [Value.cells] at hcs
    obtain ⟨rfl, rfl, rfl⟩ := hcs
    exact ⟨[], .inl rfl, by simp, by simp, Nat.le_refl _, Nat.zero_le _⟩
  · simp [Value.cells] at hcs
    obtain ⟨rfl, rfl, rfl⟩ := hcs
    have hz' : zs.length = c := by simpa using hz
    refine ⟨zs.take n, seen_of_cells (fun j u hu => ?_) (fun u hu => cell_lt hu), by simp; omega, fun z h => ?_, hl, hm⟩
    · have hj : j < n := by
        have := (List.getElem?_eq_some_iff.1 hu).1
        rw [bys_length, List.length_take] at this
        omega
      have hc := hcell j (by omega)
      rw [hc, ← hu]
      have hzj : zs[j]? = some zs[j] := List.getElem?_eq_getElem (by omega)
      simp [bys, hj, hzj]
    · have := hwz z (List.mem_of_mem_take h)
      simpa [byteB, Lit.wf, IntKind.min, IntKind.max, IntKind.signed, IntKind.bits] using this
end
theorem Sees.byte_at {w : World} {B : Nat} {A : Option Addr} {l : List Int} {k : Nat} (h : Sees w B A (bys l)) (hk : k < l.length) : ∃ b off x, A = some ⟨b, off, none⟩ ∧ b < B ∧ l[k]? = some x ∧ w.cell? ⟨b, off + k, none⟩ = some (.int .u8 x) := by
  obtain ⟨b, off, hA, hb, hc⟩ := h.at_ (k := k) (by rw [bys_length]; exact hk)
  have hx := List.getElem?_eq_getElem hk
  exact ⟨b, off, _, hA, hb, hx, hc k _ (bys_get hx)⟩
/-- Block r is a reader of a code that lies below B; it stands at place p. -/
def Rd (w : World) (B r p : Nat) : Prop :=
  ∃ (A : Option Addr) (n c : Nat) (l : List Int), Blk w r 86 #[.slice A n c, .int .i64 p] ∧ B ≤ r ∧ Sees w B A (bys l) ∧ l.length = n ∧ n ≤ 2000 ∧ ∀ x ∈ l, byteB x
section
variable {w w' : World} {B r p lo hi : Nat}
theorem Rd.lt (h : Rd w B r p) : r < w.heap.size := by
  obtain ⟨A, n, c, l, hB, _⟩ := h
  exact hB.lt
theorem Rd.le (h : Rd w B r p) : B ≤ r := by
  obtain ⟨A, n, c, l, hB, h1, _⟩ := h
  exact h1
theorem Rd.below (h : Rd w B r p) (hb : Below w.heap.size w w') : Rd w' B r p := by
  have hlt := h.lt
  obtain ⟨A, n, c, l, hB, h1, h2, h3⟩ := h
  exact ⟨A, n, c, l, hB.below hb hB.lt, h1, h2.below (hb.mono (by omega)), h3⟩
theorem Rd.only (h : Rd w B r p) (hb : Only lo hi w w') (hd : r < lo ∨ hi ≤ r) (hB' : B ≤ lo) : Rd w' B r p := by
  have hlt := h.lt
  obtain ⟨A, n, c, l, hB, h1, h2, h3⟩ := h
  exact ⟨A, n, c, l, (hb.block r hlt (by omega)).trans hB, h1, h2.below (hb.below hB' (by omega)), h3⟩
theorem Only.mono {lo' hi' : Nat} (h : Only lo hi w w') (h1 : lo' ≤ lo) (h2 : hi ≤ hi') : Only lo' hi' w w' := ⟨h.os, h.tape, h.output, h.size, fun i hi hr => h.block i hi (by omega)⟩
end
/-- What a pick hands back: a number below n; the reader stands one place further. -/
def Picked (w : World) (B r p n : Nat) (e : Ending) (w' : World) : Prop :=
  ∃ v : Nat, v < n ∧ e = .returned (.int .i64 v) ∧ Rd w' B r (p + 1) ∧ Only r (r + 1) w w'
theorem wrap_in' {n : Int} (h1 : -9223372036854775808 ≤ n) (h2 : n ≤ 9223372036854775807) : IntKind.i64.wrap n = n := by rw [IntKind.wrap_i64]; omega
theorem tmod_nat (a b : Nat) : Int.tmod (a : Int) (b : Int) = ((a % b : Nat) : Int) := by rw [Int.tmod_eq_emod_of_nonneg (by omega)]; rfl
theorem tdiv_nat (a b : Nat) : Int.tdiv (a : Int) (b : Int) = ((a / b : Nat) : Int) := by rw [Int.tdiv_eq_ediv_of_nonneg (by omega)]; rfl
theorem emod_lt {x : Int} {n : Nat} (h0 : 0 ≤ x) (hn : 0 < n) : ∃ v : Nat, v < n ∧ x % (n : Int) = (v : Int) := by
  have h1 := Int.emod_nonneg x (show (n : Int) ≠ 0 by omega)
  have h2 := Int.emod_lt_of_pos x (show (0 : Int) < n by omega)
  exact ⟨(x % (n : Int)).toNat, by omega, by omega⟩
theorem ofInt_i64 (a : Nat) (ha : a < 9223372036854775808) : (BitVec.ofInt 64 (a : Int)).toNat = a := by
  rw [BitVec.ofInt_natCast, BitVec.toNat_ofNat]; exact Nat.mod_eq_of_lt (by omega)
theorem i64_xor_nat (a b : Nat) (ha : a < 9223372036854775808) (hb : b < 9223372036854775808) : bits .xor .i64 (a : Int) (b : Int) = ((a ^^^ b : Nat) : Int) := by
  have hx : a ^^^ b < 2 ^ 63 := Nat.xor_lt_two_pow (by omega) (by omega)
  show IntKind.i64.wrap ((BitVec.ofInt 64 (a : Int) ^^^ BitVec.ofInt 64 (b : Int)).toNat : Int) = _
  rw [BitVec.toNat_xor, ofInt_i64 a ha, ofInt_i64 b hb, IntKind.wrap_i64]
  omega
set_option maxHeartbeats 2000000 in
theorem pick_any (B r p n : Nat) (w : World) (h : Rd w B r p) (hp : p ≤ 1000000) (hn : 1 ≤ n) (hn' : n ≤ 1000000) :
    Calls Tryd.prog 41 #[.pointer (some ⟨r, 0, none⟩), .int .i64 n] w (Picked w B r p n) := by
  obtain ⟨A, m, c, l, hB, hBr, hs, hl, hm, hby⟩ := h
  have hlt := hB.lt
  have hc := hB.cell
  have hf := hB.frozen
  have H' : Rd (w.setCell ⟨r, 1, none⟩ (.int .i64 ((p : Int) + 1))) B r (p + 1) := ⟨A, m, c, l, by have := hB.put 1 (.int .i64 ((p : Int) + 1)); simpa using this, hBr, hs.below ((Below.refl _ _).setCell hBr _), hl, hm, hby⟩
  have O' : Only r (r + 1) w (w.setCell ⟨r, 1, none⟩ (.int .i64 ((p : Int) + 1))) := (Only.refl r (r + 1) w).setCell (p := ⟨r, 1, none⟩) (Nat.le_refl r) (by show r < r + 1; omega) _
  have hn1 : ¬ ((n : Int) < 1) := by omega
  by_cases hm0 : m = 0
  · subst hm0
    go_enter Tryd.func41, Tryd.ntmps41
    go_wp2_with fail
    go_ret
    exact ⟨0, by omega, rfl, H', O'⟩
  have hmb : ((m : Int) == 0) = false := by rw [beq_eq_false_iff_ne]; omega
  by_cases hpm : p < m
  · obtain ⟨b, off, x, rfl, hbB, hx, c0⟩ := hs.byte_at (k := p) (by omega)
    have hxb := hby x (List.mem_of_getElem? hx)
    obtain ⟨hx0, hx1⟩ := hxb
    have hbr : b ≠ r := by omega
    obtain ⟨v, hv, hve⟩ := emod_lt (x := x) (n := n) hx0 (by omega)
    have Hve := Lib.hid hve
    clear hve hx hl hby
    go_enter Tryd.func41, Tryd.ntmps41
    go_wp2_with fail
    go_ret
    exact ⟨v, hv, ret_int Hve.out, H', O'⟩
  · obtain ⟨a1, ha1⟩ : ∃ a1, a1 = p % m := ⟨_, rfl⟩
    obtain ⟨a2, ha2⟩ : ∃ a2, a2 = (p * 7 + 3) % m := ⟨_, rfl⟩
    obtain ⟨d, hd⟩ : ∃ d, d = p / m := ⟨_, rfl⟩
    have i1 : a1 < m := by rw [ha1]; exact Nat.mod_lt _ (by omega)
    have i2 : a2 < m := by rw [ha2]; exact Nat.mod_lt _ (by omega)
    have i3 : d ≤ p := by rw [hd]; exact Nat.div_le_self _ _
    have f1 : Int.tmod (p : Int) (m : Int) = (a1 : Int) := by rw [ha1]; exact tmod_nat p m
    have f2 : Int.tmod ((p : Int) * 7 + 3) (m : Int) = (a2 : Int) := by rw [ha2]; exact tmod_nat (p * 7 + 3) m
    have f3 : Int.tdiv (p : Int) (m : Int) = (d : Int) := by rw [hd]; exact tdiv_nat p m
    clear ha1 ha2 hd
    have F1 := Lib.hid f1
    have F2 := Lib.hid f2
    have F3 := Lib.hid f3
    clear f1 f2 f3
    obtain ⟨b, off, x, rfl, hbB, hx, c0⟩ := hs.byte_at (k := a1) (by omega)
    obtain ⟨b2, off2, y, hA, hbB2, hy, c1⟩ := hs.byte_at (k := a2) (by omega)
    injection hA with hA
    injection hA with e1 e2
    subst e1; subst e2
    have hxb := hby x (List.mem_of_getElem? hx)
    obtain ⟨hx0, hx1⟩ := hxb
    have hyb := hby y (List.mem_of_getElem? hy)
    obtain ⟨hy0, hy1⟩ := hyb
    have hbr : b ≠ r := by omega
    clear hx hy hl hby
    have hpm' : ¬ ((p : Int) < m) := by omega
    go_enter Tryd.func41, Tryd.ntmps41
    go_wp2_with fail
    have j1 : (a1 : Int) < m := by omega
    have j2 : (a2 : Int) < m := by omega
    have q1 : IntKind.i64.wrap x = x := wrap_in' (by omega) (by omega)
    have q2 : IntKind.i64.wrap y = y := wrap_in' (by omega) (by omega)
    have q3 : IntKind.i64.wrap (x * 131) = x * 131 := wrap_in' (by omega) (by omega)
    have q4 : IntKind.i64.wrap ((p : Int) * 7) = (p : Int) * 7 := wrap_in' (by omega) (by omega)
    have q5 : IntKind.i64.wrap ((p : Int) * 7 + 3) = (p : Int) * 7 + 3 := wrap_in' (by omega) (by omega)
    have q6 : IntKind.i64.wrap (y * 1117) = y * 1117 := wrap_in' (by omega) (by omega)
    have q7 : IntKind.i64.wrap (x * 131 + y * 1117) = x * 131 + y * 1117 := wrap_in' (by omega) (by omega)
    have q8 : IntKind.i64.wrap ((p : Int) * 29) = (p : Int) * 29 := wrap_in' (by omega) (by omega)
    have q9 : IntKind.i64.wrap (x * 131 + y * 1117 + (p : Int) * 29) = x * 131 + y * 1117 + (p : Int) * 29 := wrap_in' (by omega) (by omega)
    have qa : IntKind.i64.wrap ((d : Int) * 53) = (d : Int) * 53 := wrap_in' (by omega) (by omega)
    have qb : IntKind.i64.wrap (x * 131 + y * 1117 + (p : Int) * 29 + (d : Int) * 53) = x * 131 + y * 1117 + (p : Int) * 29 + (d : Int) * 53 := wrap_in' (by omega) (by omega)
    have qc : IntKind.i64.wrap (d : Int) = (d : Int) := wrap_in' (by omega) (by omega)
    have qd : IntKind.i64.wrap (a1 : Int) = (a1 : Int) := wrap_in' (by omega) (by omega)
    have qe : IntKind.i64.wrap (a2 : Int) = (a2 : Int) := wrap_in' (by omega) (by omega)
    obtain ⟨X, hX⟩ : ∃ X : Nat, (X : Int) = x * 131 + y * 1117 + (p : Int) * 29 + (d : Int) * 53 := ⟨(x * 131 + y * 1117 + (p : Int) * 29 + (d : Int) * 53).toNat, by omega⟩
    have hX1 : X ≤ 1000000000 := by omega
    have HX := Lib.hid hX
    clear hX
    have f1 := F1.out
    have f2 := F2.out
    have f3 := F3.out
    go_quiet (fail)
    clear f1 f2 f3 q1 q2 q3 q4 q5 q6 q7 q8 q9 qa qb qc qd qe
    rw [← HX.out]
    obtain ⟨Z, hZ⟩ : ∃ Z : Nat, bits .xor .i64 (X : Int) ((X : Int) / 64) = (Z : Int) := ⟨X ^^^ (X / 64), i64_xor_nat X (X / 64) (by omega) (by omega)⟩
    obtain ⟨v, hv, hve⟩ := emod_lt (x := (Z : Int)) (n := n) (by omega) (by omega)
    have Hve := Lib.hid hve
    clear hve
    go_wp2_with fail
    go_ret
    exact ⟨v, hv, ret_int Hve.out, H', O'.drewN _⟩
end Go.Proofs.YtlhjncefckidjaaDoor
