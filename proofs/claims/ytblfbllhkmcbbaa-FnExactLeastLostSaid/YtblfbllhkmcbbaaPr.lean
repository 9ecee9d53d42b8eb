/-
  The order in which the least is lost, in plain words: what is lost behind a set of heats, the pick of the next heat, the order.
-/
import Derived.Test.YtblfbllhkmcbbaaPc
namespace Go.Proofs.Ytblfbllhkmcbbaa
set_option linter.unusedVariables false
/-- One more place is looked at: the least so far of what is lost behind it. -/
def minStep (c T : Nat → Nat → Int) (s last : Nat) (o : Option Int) (next : Nat) : Option Int :=
  if s.testBit next then o else
    match o with
    | none => some (c last next + T (s ||| 1 <<< next) next)
    | some b => if c last next + T (s ||| 1 <<< next) next < b then some (c last next + T (s ||| 1 <<< next) next) else some b
def minK (c T : Nat → Nat → Int) (s last : Nat) : Nat → Option Int
  | 0 => none
  | k + 1 => minStep c T s last (minK c T s last k) k
def restF (c : Nat → Nat → Int) (n : Nat) : Nat → Nat → Nat → Int
  | 0, _, _ => 0
  | f + 1, s, last => (minK c (restF c n f) s last n).getD 0
/-- What is lost behind the heats of a set, the last of which is given. -/
def rest (c : Nat → Nat → Int) (n s last : Nat) : Int := restF c n 64 s last
theorem bit_addF : ∀ (s : Fin 64) (i : Fin 6), s.val.testBit i.val = false → (s.val ||| 1 <<< i.val = s.val + 2 ^ i.val ∧ s.val < s.val ||| 1 <<< i.val) ∧ (s.val ||| 1 <<< i.val).testBit i.val = true := by decide +kernel
theorem pow_le64 : ∀ n < 7, 2 ^ n ≤ 64 := by decide
theorem bit_add (n : Nat) (hn : n < 7) (s : Nat) (hs : s < 2 ^ n) (i : Nat) (hi : i < n) (hb : s.testBit i = false) : s ||| 1 <<< i = s + 2 ^ i ∧ s ||| 1 <<< i < 2 ^ n ∧ s < s ||| 1 <<< i ∧ (s ||| 1 <<< i).testBit i = true := by
  have h64 := pow_le64 n hn
  obtain ⟨⟨h1, h2⟩, h3⟩ := bit_addF ⟨s, by omega⟩ ⟨i, by omega⟩ hb
  refine ⟨h1, Nat.or_lt_two_pow hs ?_, h2, h3⟩
  rw [Nat.one_shiftLeft]
  exact Nat.pow_lt_pow_right (by omega) hi
theorem bit_free : ∀ n < 7, ∀ s < 2 ^ n - 1, ∃ i < n, s.testBit i = false := by decide +kernel
theorem bit_full : ∀ n < 7, ∀ i < n, (2 ^ n - 1).testBit i = true := by decide +kernel
theorem minK_same {c T T' : Nat → Nat → Int} {s last : Nat} (n : Nat) : ∀ k ≤ n, (∀ i < n, s.testBit i = false → T (s ||| 1 <<< i) i = T' (s ||| 1 <<< i) i) → minK c T s last k = minK c T' s last k := by
  intro k
  induction k with
  | zero => intro _ _; rfl
  | succ k ih =>
    intro hk h
    rw [minK, minK, ih (by omega) h]
    unfold minStep
    cases hb : s.testBit k with
    | true => rfl
    | false => rw [h k (by omega) hb]
theorem restF_more {c : Nat → Nat → Int} {n : Nat} (hn : n < 7) (f : Nat) : ∀ s last, s < 2 ^ n → 64 ≤ f + s → restF c n f s last = restF c n (f + 1) s last := by
  have h64 : 2 ^ n ≤ 64 := by
    have : ∀ n < 7, 2 ^ n ≤ 64 := by decide
    exact this n hn
  induction f with
  | zero => intro s last hs hf; omega
  | succ f ih =>
    intro s last hs hf
    rw [restF, restF]
    rw [minK_same n n (Nat.le_refl _) (T' := restF c n (f + 1)) fun i hi hb => ?_]
    obtain ⟨h1, h2, h3, h4⟩ := bit_add n hn s hs i hi hb
    exact ih _ _ h2 (by omega)
theorem rest_eq {c : Nat → Nat → Int} {n : Nat} (hn : n < 7) {s : Nat} (last : Nat) (hs : s < 2 ^ n) : rest c n s last = (minK c (rest c n) s last n).getD 0 := by
  show restF c n 64 s last = _
  rw [restF]
  rw [minK_same n n (Nat.le_refl _) (T' := rest c n) fun i hi hb => ?_]
  obtain ⟨h1, h2, h3, h4⟩ := bit_add n hn s hs i hi hb
  exact restF_more hn 63 _ _ h2 (by omega)
theorem minK_bound {c T : Nat → Nat → Int} {s last : Nat} {B : Int} (hc : ∀ a b, 0 ≤ c a b ∧ c a b ≤ 99) (hT : ∀ a b, 0 ≤ T a b ∧ T a b ≤ B) : ∀ k v, minK c T s last k = some v → 0 ≤ v ∧ v ≤ B + 99 := by
  intro k
  induction k with
  | zero => intro v h; cases h
  | succ k ih =>
    intro v h
    have h1 := hc last k
    have h2 := hT (s ||| 1 <<< k) k
    rw [minK] at h
    unfold minStep at h
    split at h
    · exact ih v h
    · split at h
      · injection h with h; omega
      · rename_i b hb
        split at h
        · injection h with h; omega
        · injection h with h; subst h; exact ih _ hb
theorem restF_bound {c : Nat → Nat → Int} {n : Nat} (hc : ∀ a b, 0 ≤ c a b ∧ c a b ≤ 99) (f : Nat) : ∀ s last, 0 ≤ restF c n f s last ∧ restF c n f s last ≤ 99 * (f : Int) := by
  induction f with
  | zero => intro s last; simp [restF]
  | succ f ih =>
    intro s last
    rw [restF]
    cases h : minK c (restF c n f) s last n with
    | none => simp; omega
    | some v =>
      have := minK_bound hc ih n v h
      simp only [Option.getD_some]
      omega
theorem rest_bound {c : Nat → Nat → Int} (hc : ∀ a b, 0 ≤ c a b ∧ c a b ≤ 99) (n s last : Nat) : 0 ≤ rest c n s last ∧ rest c n s last ≤ 6336 := by
  have := restF_bound (n := n) hc 64 s last
  unfold rest
  omega
theorem minK_some {c T : Nat → Nat → Int} {s last i : Nat} (hb : s.testBit i = false) : ∀ k, i < k → (minK c T s last k).isSome = true := by
  intro k
  induction k with
  | zero => intro h; omega
  | succ k ih =>
    intro h
    rw [minK]
    unfold minStep
    by_cases hik : i = k
    · subst hik
      rw [hb]
      simp only [Bool.false_eq_true, if_false]
      split
      · rfl
      · split <;> rfl
    · have h1 := ih (by omega)
      split
      · exact h1
      · split
        · rfl
        · split <;> rfl
theorem minK_full {c T : Nat → Nat → Int} {s last : Nat} : ∀ k, (∀ i < k, s.testBit i = true) → minK c T s last k = none := by
  intro k
  induction k with
  | zero => intro _; rfl
  | succ k ih =>
    intro h
    rw [minK]
    unfold minStep
    rw [if_pos (h k (by omega))]
    exact ih fun i hi => h i (by omega)
theorem rest_full {c : Nat → Nat → Int} {n : Nat} (hn : n < 7) (last : Nat) : rest c n (2 ^ n - 1) last = 0 := by
  have h2 : 0 < 2 ^ n := Nat.two_pow_pos n
  rw [rest_eq hn last (by omega), minK_full n fun i hi => bit_full n hn i hi]
  rfl

/-! ### the pick of the next heat -/
def pickX (c T : Nat → Nat → Int) (s : Nat) (last : Option Nat) (next : Nat) : Int :=
  match last with
  | none => T (s ||| 1 <<< next) next
  | some l => T (s ||| 1 <<< next) next + c l next
def pickStep (c T : Nat → Nat → Int) (s : Nat) (last : Option Nat) (o : Option (Nat × Int)) (next : Nat) : Option (Nat × Int) :=
  if s.testBit next then o else
    match o with
    | none => some (next, pickX c T s last next)
    | some b => if pickX c T s last next < b.2 then some (next, pickX c T s last next) else some b
def pickK (c T : Nat → Nat → Int) (s : Nat) (last : Option Nat) : Nat → Option (Nat × Int)
  | 0 => none
  | k + 1 => pickStep c T s last (pickK c T s last k) k
theorem pickK_in {c T : Nat → Nat → Int} {s : Nat} {last : Option Nat} : ∀ k b, pickK c T s last k = some b → b.1 < k ∧ s.testBit b.1 = false ∧ b.2 = pickX c T s last b.1 := by
  intro k
  induction k with
  | zero => intro b h; cases h
  | succ k ih =>
    intro b h
    rw [pickK] at h
    unfold pickStep at h
    split at h
    · have := ih b h; exact ⟨by omega, this.2⟩
    · rename_i hb
      have hb' : s.testBit k = false := by simpa using hb
      split at h
      · injection h with h; subst h; exact ⟨by simp, hb', rfl⟩
      · rename_i d hd
        split at h
        · injection h with h; subst h; exact ⟨by simp, hb', rfl⟩
        · injection h with h; subst h
          have := ih _ hd
          exact ⟨by omega, this.2⟩
theorem pickK_some {c T : Nat → Nat → Int} {s i : Nat} {last : Option Nat} (hb : s.testBit i = false) : ∀ k, i < k → (pickK c T s last k).isSome = true := by
  intro k
  induction k with
  | zero => intro h; omega
  | succ k ih =>
    intro h
    rw [pickK]
    unfold pickStep
    by_cases hik : i = k
    · subst hik
      rw [hb]
      simp only [Bool.false_eq_true, if_false]
      split
      · rfl
      · split <;> rfl
    · have h1 := ih (by omega)
      split
      · exact h1
      · split
        · rfl
        · split <;> rfl

/-! ### the order -/
/-- How many heats of the first n a set holds. -/
def cntB (n s : Nat) : Nat := ((List.range n).filter fun i => s.testBit i).length
theorem cnt_addF : ∀ (n : Fin 7) (s : Fin 64) (i : Fin 6), i.val < n.val → s.val.testBit i.val = false → cntB n.val (s.val ||| 1 <<< i.val) = cntB n.val s.val + 1 := by decide +kernel
theorem cnt_add (n : Nat) (hn : n < 7) (s : Nat) (hs : s < 2 ^ n) (i : Nat) (hi : i < n) (hb : s.testBit i = false) : cntB n (s ||| 1 <<< i) = cntB n s + 1 := by
  have h64 := pow_le64 n hn
  exact cnt_addF ⟨n, hn⟩ ⟨s, by omega⟩ ⟨i, by omega⟩ hi hb
theorem cnt_full : ∀ n < 7, ∀ s < 2 ^ n, (cntB n s = n ↔ s = 2 ^ n - 1) := by decide +kernel
theorem cnt_le : ∀ n < 7, ∀ s < 2 ^ n, cntB n s ≤ n := by decide +kernel
theorem cnt_zero (n : Nat) : cntB n 0 = 0 := by simp [cntB]
/-- What stands behind j picks: the heats picked, in order, and their set. -/
def ordS (c T : Nat → Nat → Int) (n : Nat) : Nat → List Nat × Nat
  | 0 => ([], 0)
  | j + 1 => let p := ordS c T n j
    let b := ((pickK c T p.2 p.1.getLast? n).getD (0, 0)).1
    (p.1 ++ [b], p.2 ||| 1 <<< b)
theorem ordS_facts {c T : Nat → Nat → Int} {n : Nat} (hn : n < 7) (j : Nat) : j ≤ n → (ordS c T n j).1.length = j ∧ (ordS c T n j).2 < 2 ^ n ∧ cntB n (ordS c T n j).2 = j ∧ ∀ x ∈ (ordS c T n j).1, x < n := by
  induction j with
  | zero => intro _; exact ⟨rfl, Nat.two_pow_pos n, cnt_zero n, fun x hx => by cases hx⟩
  | succ j ih =>
    intro hj
    obtain ⟨h1, h2, h3, h4⟩ := ih (by omega)
    have hne : (ordS c T n j).2 < 2 ^ n - 1 := by
      have := cnt_full n hn _ h2
      omega
    obtain ⟨i, hi, hb⟩ := bit_free n hn _ hne
    have hs := pickK_some (c := c) (T := T) (last := (ordS c T n j).1.getLast?) hb n hi
    obtain ⟨b, hbk⟩ := Option.isSome_iff_exists.1 hs
    obtain ⟨b1, b2, b3⟩ := pickK_in n b hbk
    obtain ⟨k1, k2, k3, k4⟩ := bit_add n hn _ h2 b.1 b1 b2
    simp only [ordS, hbk, Option.getD_some]
    refine ⟨by simp [h1], k2, by rw [cnt_add n hn _ h2 b.1 b1 b2, h3], fun x hx => ?_⟩
    rcases List.mem_append.1 hx with hx | hx
    · exact h4 x hx
    · simp at hx
      omega
end Go.Proofs.Ytblfbllhkmcbbaa
