/-
  The order of heats that loses least, in plain words, as both programs find it; what is read of the row of heats picked.
-/
import Derived.Test.YtblfbllhkmcbbaaRg
import Derived.Test.YtblfbllhkmcbbaaCt
import Derived.Test.YtblfbllhkmcbbaaApp1
namespace Go.Proofs.Ytblfbllhkmcbbaa
open Go.RowKit
set_option linter.unusedVariables false
def natsI (l : List Nat) : List Int := l.map fun (x : Nat) => (x : Int)
def bestOrder (h : List Heat) (L : List (List Int)) : List Int := if heatsOk h = true ∧ lostOk L = true then natsI (ordS (lossN h L) (rest (lossN h L) h.length) h.length h.length).1 else []
def lastI : Option Nat → Int
  | none => -1
  | some x => x
def pickB : Option (Nat × Int) → Int
  | none => -1
  | some b => b.1
def pickC : Option (Nat × Int) → Int
  | none => 0
  | some b => b.2
def lenV : Value → Nat
  | .slice _ n _ => n
  | _ => 0
theorem natsI_len (l : List Nat) : (natsI l).length = l.length := by simp [natsI]
theorem natsI_snoc (l : List Nat) (x : Nat) : natsI (l ++ [x]) = natsI l ++ [(x : Int)] := by simp [natsI]
theorem natsI_at {l : List Nat} {k x : Nat} (h : l[k]? = some x) : (natsI l)[k]? = some (x : Int) := by simp [natsI, h]
theorem bestOrder_le (h : List Heat) (L : List (List Int)) : (bestOrder h L).length ≤ 6 := by
  unfold bestOrder
  split
  · rename_i hk
    have h6 := heats_len hk.1
    rw [natsI_len, (ordS_facts (by omega) h.length (Nat.le_refl _)).1]
    exact h6
  · simp
theorem bestOrder_eq {h : List Heat} {L : List (List Int)} (h1 : heatsOk h = true) (h2 : lostOk L = true) : bestOrder h L = natsI (ordS (lossN h L) (rest (lossN h L) h.length) h.length h.length).1 := if_pos ⟨h1, h2⟩
theorem bestOrder_bad1 {h : List Heat} {L : List (List Int)} (h1 : heatsOk h = false) : bestOrder h L = [] := if_neg fun hk => by rw [h1] at hk; exact absurd hk.1 (by decide)
theorem bestOrder_bad2 {h : List Heat} {L : List (List Int)} (h1 : lostOk L = false) : bestOrder h L = [] := if_neg fun hk => by rw [h1] at hk; exact absurd hk.2 (by decide)
theorem pick_next {c T : Nat → Nat → Int} {s j : Nat} {last : Option Nat} {o : Option (Nat × Int)} (ho : pickK c T s last j = o) (hb : s.testBit j = false) :
    (o = none → pickK c T s last (j + 1) = some (j, pickX c T s last j)) ∧ ∀ b, o = some b → pickK c T s last (j + 1) = if pickX c T s last j < b.2 then some (j, pickX c T s last j) else some b := by
  rw [pickK, ho]
  unfold pickStep
  rw [if_neg (by rw [hb]; decide)]
  exact ⟨fun h => by rw [h], fun b h => by rw [h]⟩
theorem pick_skip {c T : Nat → Nat → Int} {s j : Nat} {last : Option Nat} (hb : s.testBit j = true) : pickK c T s last (j + 1) = pickK c T s last j := by
  rw [pickK]
  unfold pickStep
  rw [if_pos hb]
/-- What holds behind k picks of n: fewer than n heats are taken, a next one is found. -/
theorem ord_more {c T : Nat → Nat → Int} {n k : Nat} {p : List Nat × Nat} (hn : n < 7) (hp : p = ordS c T n k) (hk : k < n) :
    p.1.length = k ∧ p.2 < 2 ^ n ∧ p.2 ≠ 2 ^ n - 1 ∧ (∀ x ∈ p.1, x < n) ∧ ∃ b, pickK c T p.2 p.1.getLast? n = some b ∧ b.1 < n ∧ p.2.testBit b.1 = false ∧ ordS c T n (k + 1) = (p.1 ++ [b.1], p.2 ||| 1 <<< b.1) := by
  subst hp
  obtain ⟨h1, h2, h3, h4⟩ := ordS_facts (c := c) (T := T) hn k (by omega)
  have hne : (ordS c T n k).2 ≠ 2 ^ n - 1 := by
    have := cnt_full n hn _ h2
    omega
  obtain ⟨i, hi, hb⟩ := bit_free n hn (ordS c T n k).2 (by omega)
  have hs := pickK_some (c := c) (T := T) (last := (ordS c T n k).1.getLast?) hb n hi
  obtain ⟨b, hbk⟩ := Option.isSome_iff_exists.1 hs
  obtain ⟨b1, b2, b3⟩ := pickK_in n b hbk
  exact ⟨h1, h2, hne, h4, b, hbk, b1, b2, by simp only [ordS, hbk, Option.getD_some]⟩
theorem ord_done {c T : Nat → Nat → Int} {n : Nat} {p : List Nat × Nat} (hn : n < 7) (hp : p = ordS c T n n) : p.1.length = n ∧ p.2 = 2 ^ n - 1 := by
  subst hp
  obtain ⟨h1, h2, h3, h4⟩ := ordS_facts (c := c) (T := T) hn n (Nat.le_refl _)
  exact ⟨h1, (cnt_full n hn _ h2).1 h3⟩
/-- The last heat picked. -/
theorem last_of {p : List Nat} {k n : Nat} (h : p.length = k) (hm : ∀ x ∈ p, x < n) : (k = 0 ∧ p.getLast? = none) ∨ ∃ k' l, k = k' + 1 ∧ p.getLast? = some l ∧ l < n ∧ p[k']? = some l := by
  cases k with
  | zero => exact .inl ⟨rfl, by rw [List.eq_nil_of_length_eq_zero h]; rfl⟩
  | succ k' =>
    have hlt : k' < p.length := by omega
    refine .inr ⟨k', p[k'], rfl, ?_, hm _ (List.getElem_mem _), List.getElem?_eq_getElem _⟩
    rw [List.getLast?_eq_getElem?, h]
    exact List.getElem?_eq_getElem _
theorem pickX_bound {c T : Nat → Nat → Int} {s j : Nat} {last : Option Nat} (hc : ∀ a b, 0 ≤ c a b ∧ c a b ≤ 99) (hT : ∀ a b, 0 ≤ T a b ∧ T a b ≤ 6336) : 0 ≤ pickX c T s last j ∧ pickX c T s last j ≤ 6435 := by
  unfold pickX
  cases last with
  | none => have := hT (s ||| 1 <<< j) j; simp only; omega
  | some l => have := hT (s ||| 1 <<< j) j; have := hc l j; simp only; omega
theorem own_cap (w : World) (n : Nat) (hn : n ≤ 1000) : Own (w.alloc (.cells (madeCells #[.int .i64 0] n) 3)) w.heap.size (w.heap.size + 1) 3 1 (some ⟨w.heap.size, 0, none⟩) 0 n (ints (natsI [])) :=
  Own.mk_ (Nat.le_refl _) (by omega) (Nat.zero_le _) (by unfold maxLen; omega) (Blk.made _ _ _) ((size_madeCells _ _).trans (by simp)) (by simp [ints, natsI])
theorem wrap64_near {n : Int} (h1 : -1000 ≤ n) (h2 : n ≤ 100000) : wrap64 n = n := by unfold wrap64; omega
theorem bit_plus {t P s2 : Nat} (h : s2 = t + P) (hb : s2 < 64) : wrap64 ((t : Int) + (P : Int)) = (s2 : Int) ∧ IntKind.i64.wrap ((t : Int) + (P : Int)) = (s2 : Int) := by
  subst h
  exact ⟨(wrap64_near (by omega) (by omega)).trans (by omega), (wrap_in (by omega) (by omega)).trans (by omega)⟩
/-- A set with one heat more, as it is reckoned: its shift and its sum. -/
theorem bit_join {n s i : Nat} (hn : n < 7) (hs : s < 2 ^ n) (hi : i < n) (hb : s.testBit i = false) :
    ∃ P s2 : Nat, s2 = s ||| 1 <<< i ∧ 0 < s2 ∧ s2 < 2 ^ n ∧ s2 < 64 ∧ s2.testBit i = true ∧ wrap64 ((2 : Int) ^ i) = (P : Int) ∧ wrap64 ((s : Int) + (P : Int)) = (s2 : Int) ∧ IntKind.i64.wrap ((s : Int) + (P : Int)) = (s2 : Int) ∧ bits BinOp.or IntKind.i64 (s : Int) (P : Int) = (s2 : Int) := by
  obtain ⟨h1, h2, h3, h4⟩ := bit_add n hn s hs i hi hb
  have h64 := pow_le64 n hn
  have hP64 := pow_le64 i (by omega)
  have hPi : (2 : Int) ^ i = ((2 ^ i : Nat) : Int) := by simp
  have hor := bit_or (s := s) (k := i) (by omega) (by omega)
  rw [hPi] at hor
  have hsum := bit_plus h1 (by omega)
  refine ⟨2 ^ i, s ||| 1 <<< i, rfl, by omega, h2, by omega, h4, ?_, hsum.1, hsum.2, hor⟩
  rw [hPi]
  exact wrap64_near (by omega) (by omega)
theorem ret_rows {g k c n : Nat} (h : k = n) : Ending.returned (.slice (some ⟨g, 0, none⟩) k c) = .returned (.slice (some ⟨g, 0, none⟩) n c) := by rw [h]
end Go.Proofs.Ytblfbllhkmcbbaa
