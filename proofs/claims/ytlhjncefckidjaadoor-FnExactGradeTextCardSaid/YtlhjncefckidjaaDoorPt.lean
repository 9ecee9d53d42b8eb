/-
  Plain laws of texts of grades: how a text is cut, how a number is read, that both readers give a grade exactly where the text is its text. No program in sight.
-/
import Derived.Test.YtlhjncefckidjaaDoorPn
import Derived.Lib.Split
import Derived.Lib.ItoaNum
namespace Go.Proofs.YtlhjncefckidjaaDoor
set_option linter.unusedVariables false
/-! ### cutting -/
/-- What stands between the bytes c of a text. -/
def pieces (c : UInt8) : List UInt8 → List (List UInt8)
  | [] => [[]]
  | x :: l => if x = c then [] :: pieces c l else match pieces c l with
    | [] => [[x]]
    | p :: ps => (x :: p) :: ps
theorem pieces_cons (c x : UInt8) (l : List UInt8) : pieces c (x :: l) = if x = c then [] :: pieces c l else match pieces c l with
    | [] => [[x]]
    | p :: ps => (x :: p) :: ps := rfl
theorem pieces_ne (c : UInt8) (l : List UInt8) : pieces c l ≠ [] := by
  cases l with
  | nil => simp [pieces]
  | cons x l =>
    rw [pieces_cons]
    split
    · simp
    · split <;> simp
theorem pieces_app (c : UInt8) (a b : List UInt8) (h : c ∉ a) : pieces c (a ++ c :: b) = a :: pieces c b := by
  induction a with
  | nil => simp [pieces]
  | cons x a ih =>
    have hx : ¬ x = c := fun e => h (by rw [e]; exact List.mem_cons_self)
    have ha : c ∉ a := fun e => h (List.mem_cons_of_mem _ e)
    rw [List.cons_append, pieces_cons, if_neg hx, ih ha]
theorem pieces_none (c : UInt8) (a : List UInt8) (h : c ∉ a) : pieces c a = [a] := by
  induction a with
  | nil => rfl
  | cons x a ih =>
    have hx : ¬ x = c := fun e => h (by rw [e]; exact List.mem_cons_self)
    have ha : c ∉ a := fun e => h (List.mem_cons_of_mem _ e)
    rw [pieces_cons, if_neg hx, ih ha]
theorem first_cases (c : UInt8) (l : List UInt8) : (c ∉ l ∧ Lib.indexByte l c = -1) ∨ ∃ a b, l = a ++ c :: b ∧ c ∉ a ∧ Lib.indexByte l c = (a.length : Int) := by
  induction l with
  | nil => exact .inl ⟨by simp, rfl⟩
  | cons x l ih =>
    by_cases hx : x = c
    · subst hx
      exact .inr ⟨[], l, rfl, by simp, by simp [Lib.indexByte]⟩
    · have hb : (x == c) = false := by rw [beq_eq_false_iff_ne]; exact hx
      rcases ih with ⟨h1, h2⟩ | ⟨a, b, rfl, h1, h2⟩
      · refine .inl ⟨?_, by simp [Lib.indexByte, hb, h2]⟩
        intro hm
        rcases List.mem_cons.1 hm with e | e
        · exact hx e.symm
        · exact h1 e
      · refine .inr ⟨x :: a, b, rfl, ?_, ?_⟩
        · intro hm
          rcases List.mem_cons.1 hm with e | e
          · exact hx e.symm
          · exact h1 e
        · have hn : ((a.length : Int) == -1) = false := by rw [beq_eq_false_iff_ne]; omega
          simp only [Lib.indexByte, hb, h2, hn, Bool.false_eq_true, if_false, List.length_cons]
          omega
theorem splitK_pieces (c : UInt8) (n : Nat) : ∀ l : List UInt8, l.length ≤ n → Lib.splitK [c] 0 (Lib.count l [c]) l = pieces c l := by
  induction n with
  | zero =>
    intro l hl
    have h0 : l = [] := List.eq_nil_of_length_eq_zero (by omega)
    subst h0
    rfl
  | succ n ih =>
    intro l hl
    rcases first_cases c l with ⟨h1, h2⟩ | ⟨a, b, rfl, h1, h2⟩
    · rw [Lib.count_miss (by rw [Lib.index_one]; exact h2), pieces_none c l h1]
      rfl
    · have hi : Lib.index (a ++ c :: b) [c] = (a.length : Int) := by rw [Lib.index_one]; exact h2
      have hd : (a ++ c :: b).drop (a.length + 1) = b := by rw [← List.drop_drop]; simp
      have hnm : ¬ (Lib.index (a ++ c :: b) [c] == -1) = true := fun e => by have := beq_iff_eq.1 e; omega
      rw [Lib.count_hit (by simp) hi]
      simp only [List.length_singleton]
      rw [hd, Nat.add_comm 1, Lib.splitK, if_neg hnm, hi, pieces_app c a b h1]
      simp only [Int.toNat_natCast, Nat.add_zero, List.length_singleton]
      rw [hd, ih b (by simp at hl; omega)]
      simp
theorem cut_hit (c : UInt8) (a b : List UInt8) (h : c ∉ a) : Lib.cut (a ++ c :: b) [c] = (a, b, true) := by
  rcases first_cases c (a ++ c :: b) with ⟨h1, _⟩ | ⟨a', b', e, h1, h2⟩
  · exact absurd (by simp) h1
  · have hp := pieces_app c a b h
    rw [e, pieces_app c a' b' h1] at hp
    have ea : a' = a := (List.cons.inj hp).1
    subst ea
    have eb : b' = b := by simpa using e.symm
    subst eb
    have hi : Lib.index (a' ++ c :: b') [c] = (a'.length : Int) := by rw [Lib.index_one]; exact h2
    have hd : (a' ++ c :: b').drop (a'.length + 1) = b' := by rw [← List.drop_drop]; simp
    unfold Lib.cut
    rw [hi, if_pos (by omega)]
    simp only [Int.toNat_natCast, List.length_singleton]
    rw [hd]
    simp
theorem cut_miss (c : UInt8) (l : List UInt8) (h : c ∉ l) : Lib.cut l [c] = (l, [], false) := by
  rcases first_cases c l with ⟨_, h2⟩ | ⟨a, b, rfl, _⟩
  · unfold Lib.cut
    rw [Lib.index_one, h2, if_neg (by omega)]
  · exact absurd (by simp) h
/-- The pieces, as a loop finds them: those that are done, and the one at hand. -/
def cutStep (c : UInt8) (st : List (List UInt8) × List UInt8) (x : UInt8) : List (List UInt8) × List UInt8 := if x = c then (st.1 ++ [st.2], []) else (st.1, st.2 ++ [x])
def preP (cur : List UInt8) : List (List UInt8) → List (List UInt8)
  | [] => [cur]
  | p :: ps => (cur ++ p) :: ps
theorem cutStep_all (c : UInt8) (l : List UInt8) : ∀ st : List (List UInt8) × List UInt8, (l.foldl (cutStep c) st).1 ++ [(l.foldl (cutStep c) st).2] = st.1 ++ preP st.2 (pieces c l) := by
  induction l with
  | nil => intro st; simp [pieces, preP]
  | cons x l ih =>
    intro st
    rw [List.foldl_cons, ih, pieces_cons]
    unfold cutStep
    by_cases hx : x = c
    · rw [if_pos hx, if_pos hx]
      cases hp : pieces c l with
      | nil => exact absurd hp (pieces_ne c l)
      | cons p ps => simp [preP]
    · rw [if_neg hx, if_neg hx]
      cases hp : pieces c l with
      | nil => exact absurd hp (pieces_ne c l)
      | cons p ps => simp [preP]
theorem pieces_loop (c : UInt8) (l : List UInt8) : (l.foldl (cutStep c) ([], [])).1 ++ [(l.foldl (cutStep c) ([], [])).2] = pieces c l := by
  rw [cutStep_all]
  cases hp : pieces c l with
  | nil => exact absurd hp (pieces_ne c l)
  | cons p ps => simp [preP]
theorem pieces_join3 {c : UInt8} {l p1 p2 p3 : List UInt8} (h : pieces c l = [p1, p2, p3]) : l = p1 ++ c :: (p2 ++ c :: p3) := by
  rcases first_cases c l with ⟨h1, _⟩ | ⟨a, b, e, h1, _⟩
  · rw [pieces_none c l h1] at h; simp at h
  · rw [e, pieces_app c a b h1] at h
    have e1 := (List.cons.inj h).1
    have k := (List.cons.inj h).2
    rcases first_cases c b with ⟨h2, _⟩ | ⟨a2, b2, e2, h2, _⟩
    · rw [pieces_none c b h2] at k; simp at k
    · rw [e2, pieces_app c a2 b2 h2] at k
      have e3 := (List.cons.inj k).1
      have k2 := (List.cons.inj k).2
      rcases first_cases c b2 with ⟨h3, _⟩ | ⟨a3, b3, e4, h3, _⟩
      · rw [pieces_none c b2 h3] at k2
        have e5 := (List.cons.inj k2).1
        rw [e, e2, e1, e3, e5]
      · rw [e4, pieces_app c a3 b3 h3] at k2
        exact absurd (List.cons.inj k2).2 (pieces_ne c b3)
/-! ### numbers -/
def dec (n : Int) : List UInt8 := Lib.decDigits n.toNat
/-- The byte of a number. -/
def digB (v : Int) : UInt8 := UInt8.ofNat v.toNat
def isDig (x : UInt8) : Bool := decide (48 ≤ x.toNat) && decide (x.toNat ≤ 57)
def digV (x : UInt8) : Int := (x.toNat : Int) - 48
/-- The program: the number that a text goes on to say, none where it is greater than 999 or no number. -/
def numF : List UInt8 → Int → Option Int
  | [], n => some n
  | x :: l, n => if isDig x then (if 10 * n + digV x > 999 then none else numF l (10 * n + digV x)) else none
def zeroLed (l : List UInt8) : Bool := decide (l.head? = some 48) && decide (1 < l.length)
def rdNum (l : List UInt8) : Option Int := if l.isEmpty || zeroLed l then none else numF l 0
/-- The reference: -1 where a text is no number. -/
def numS : List UInt8 → Int → Int
  | [], n => n
  | x :: l, n => if isDig x then numS l (10 * n + digV x) else -1
def rdOne (l : List UInt8) : Int := if !(decide (1 ≤ l.length) && decide (l.length ≤ 4)) || zeroLed l then -1 else numS l 0
theorem dec_small {n : Nat} (h : n < 10) : dec n = [digB (48 + (n : Int))] := by
  unfold dec digB
  rw [Int.toNat_natCast, Lib.decDigits, dif_pos h]
  have e : (48 + (n : Int)).toNat = 48 + n := by omega
  rw [e]
theorem dec_big {n : Nat} (h : ¬ n < 10) : dec n = dec ((n / 10 : Nat) : Int) ++ [digB (48 + ((n % 10 : Nat) : Int))] := by
  unfold dec digB
  have e : (48 + ((n % 10 : Nat) : Int)).toNat = 48 + n % 10 := by omega
  rw [Int.toNat_natCast, Int.toNat_natCast, Lib.decDigits, dif_neg h, e]
theorem digB_toNat {d : Nat} (h : d < 10) : (digB (48 + (d : Int))).toNat = 48 + d := by
  unfold digB
  have e : (48 + (d : Int)).toNat = 48 + d := by omega
  rw [e, UInt8.toNat_ofNat', Nat.mod_eq_of_lt (by omega)]
theorem digB_dig {d : Nat} (h : d < 10) : isDig (digB (48 + (d : Int))) = true ∧ digV (digB (48 + (d : Int))) = (d : Int) := by
  unfold isDig digV
  rw [digB_toNat h]
  simp
  omega
theorem dig_back {x : UInt8} (h : isDig x = true) : ∃ d : Nat, d < 10 ∧ digV x = (d : Int) ∧ x = digB (48 + (d : Int)) := by
  simp only [isDig, Bool.and_eq_true, decide_eq_true_eq] at h
  refine ⟨x.toNat - 48, by omega, by unfold digV; omega, ?_⟩
  rw [← UInt8.toNat_inj, digB_toNat (by omega)]
  omega
theorem dec_step {m d : Nat} (hm : 1 ≤ m) (hd : d < 10) : dec ((10 * m + d : Nat) : Int) = dec (m : Int) ++ [digB (48 + (d : Int))] := by
  rw [dec_big (by omega)]
  have e1 : (10 * m + d) / 10 = m := by omega
  have e2 : (10 * m + d) % 10 = d := by omega
  rw [e1, e2]
theorem numF_goes (l : List UInt8) : ∀ (m : Nat) (n : Int), 1 ≤ m → m ≤ 999 → numF l (m : Int) = some n → 0 ≤ n ∧ n ≤ 999 ∧ dec n = dec (m : Int) ++ l := by
  induction l with
  | nil =>
    intro m n h1 h2 h
    simp [numF] at h
    subst h
    exact ⟨by omega, by omega, by simp⟩
  | cons x l ih =>
    intro m n h1 h2 h
    unfold numF at h
    split at h
    · rename_i hx
      obtain ⟨d, hd, e1, e2⟩ := dig_back hx
      rw [e1] at h
      split at h
      · cases h
      · have e3 : (10 * (m : Int) + (d : Int)) = ((10 * m + d : Nat) : Int) := by omega
        rw [e3] at h
        obtain ⟨q1, q2, q3⟩ := ih (10 * m + d) n (by omega) (by omega) h
        refine ⟨q1, q2, ?_⟩
        rw [q3, dec_step h1 hd, e2]
        simp
    · cases h
theorem rdNum_is {l : List UInt8} {n : Int} (h : rdNum l = some n) : 0 ≤ n ∧ n ≤ 999 ∧ l = dec n := by
  unfold rdNum at h
  split at h
  · cases h
  · rename_i hc
    cases l with
    | nil => simp at hc
    | cons x l =>
      unfold numF at h
      split at h
      · rename_i hx
        obtain ⟨d, hd, e1, e2⟩ := dig_back hx
        rw [e1] at h
        split at h
        · cases h
        · have e3 : (10 * (0 : Int) + (d : Int)) = (d : Int) := by omega
          rw [e3] at h
          cases l with
          | nil =>
            simp [numF] at h
            subst h
            exact ⟨by omega, by omega, by rw [dec_small hd, ← e2]⟩
          | cons y l =>
            have hd1 : 1 ≤ d := by
              rcases Nat.eq_zero_or_pos d with h0 | h0
              · exfalso
                apply hc
                subst h0
                have : x = 48 := by rw [e2]; rfl
                simp [zeroLed, this]
              · exact h0
            obtain ⟨q1, q2, q3⟩ := numF_goes (y :: l) d n hd1 (by omega) h
            refine ⟨q1, q2, ?_⟩
            rw [q3, dec_small hd, ← e2]
            rfl
      · cases h
/-- The three shapes of a number's text. -/
theorem dec_shapes (n : Int) (h0 : 0 ≤ n) (h1 : n ≤ 999) : (∃ a : Nat, a < 10 ∧ n = a ∧ dec n = [digB (48 + (a : Int))]) ∨ (∃ a b : Nat, 1 ≤ a ∧ a < 10 ∧ b < 10 ∧ n = 10 * (a : Int) + b ∧ dec n = [digB (48 + (a : Int)), digB (48 + (b : Int))]) ∨
    (∃ a b c : Nat, 1 ≤ a ∧ a < 10 ∧ b < 10 ∧ c < 10 ∧ n = 10 * (10 * (a : Int) + b) + c ∧ dec n = [digB (48 + (a : Int)), digB (48 + (b : Int)), digB (48 + (c : Int))]) := by
  obtain ⟨k, rfl⟩ := Int.eq_ofNat_of_zero_le h0
  have hk : k ≤ 999 := by omega
  by_cases k1 : k < 10
  · exact .inl ⟨k, k1, rfl, dec_small k1⟩
  · by_cases k2 : k < 100
    · refine .inr (.inl ⟨k / 10, k % 10, by omega, by omega, by omega, by omega, ?_⟩)
      rw [dec_big k1, dec_small (by omega)]
      rfl
    · refine .inr (.inr ⟨k / 100, k / 10 % 10, k % 10, by omega, by omega, by omega, by omega, by omega, ?_⟩)
      rw [dec_big k1, dec_big (by omega), dec_small (by omega)]
      have e : k / 10 / 10 = k / 100 := by omega
      rw [e]
      rfl
theorem digB_ne {d : Nat} (h1 : 1 ≤ d) (h : d < 10) : digB (48 + (d : Int)) ≠ 48 := by
  intro e
  have := congrArg UInt8.toNat e
  rw [digB_toNat h] at this
  have h48 : (48 : UInt8).toNat = 48 := rfl
  omega
theorem rdNum_dec (n : Int) (h0 : 0 ≤ n) (h1 : n ≤ 999) : rdNum (dec n) = some n := by
  rcases dec_shapes n h0 h1 with ⟨a, ha, rfl, e⟩ | ⟨a, b, ha1, ha, hb, rfl, e⟩ | ⟨a, b, c, ha1, ha, hb, hc, rfl, e⟩
  · obtain ⟨a1, a2⟩ := digB_dig ha
    rw [e]
    have h : ¬ (10 * (0 : Int) + (a : Int) > 999) := by omega
    simp only [rdNum, zeroLed, List.isEmpty_cons, List.length_singleton, Nat.lt_irrefl, decide_false, Bool.and_false, Bool.or_false, Bool.false_eq_true, if_false, numF, a1, a2, if_true, if_neg h]
    simp
  · obtain ⟨a1, a2⟩ := digB_dig ha
    obtain ⟨b1, b2⟩ := digB_dig hb
    have hz : zeroLed [digB (48 + (a : Int)), digB (48 + (b : Int))] = false := by simp [zeroLed, digB_ne ha1 ha]
    rw [e]
    have k0 : 10 * (0 : Int) + (a : Int) = a := by omega
    have k1 : ¬ ((a : Int) > 999) := by omega
    have k2 : ¬ (10 * (a : Int) + (b : Int) > 999) := by omega
    simp only [rdNum, List.isEmpty_cons, hz, Bool.or_false, Bool.false_eq_true, if_false, numF, a1, a2, b1, b2, if_true, k0, if_neg k1, if_neg k2]
  · obtain ⟨a1, a2⟩ := digB_dig ha
    obtain ⟨b1, b2⟩ := digB_dig hb
    obtain ⟨c1, c2⟩ := digB_dig hc
    have hz : zeroLed [digB (48 + (a : Int)), digB (48 + (b : Int)), digB (48 + (c : Int))] = false := by simp [zeroLed, digB_ne ha1 ha]
    rw [e]
    have k0 : 10 * (0 : Int) + (a : Int) = a := by omega
    have k1 : ¬ ((a : Int) > 999) := by omega
    have k2 : ¬ (10 * (a : Int) + (b : Int) > 999) := by omega
    have k3 : ¬ (10 * (10 * (a : Int) + (b : Int)) + (c : Int) > 999) := by omega
    simp only [rdNum, List.isEmpty_cons, hz, Bool.or_false, Bool.false_eq_true, if_false, numF, a1, a2, b1, b2, c1, c2, if_true, k0, if_neg k1, if_neg k2, if_neg k3]
theorem rdOne_dec (n : Int) (h0 : 0 ≤ n) (h1 : n ≤ 999) : rdOne (dec n) = n := by
  rcases dec_shapes n h0 h1 with ⟨a, ha, rfl, e⟩ | ⟨a, b, ha1, ha, hb, rfl, e⟩ | ⟨a, b, c, ha1, ha, hb, hc, rfl, e⟩
  · obtain ⟨a1, a2⟩ := digB_dig ha
    rw [e]
    simp [rdOne, zeroLed, numS, a1, a2]
  · obtain ⟨a1, a2⟩ := digB_dig ha
    obtain ⟨b1, b2⟩ := digB_dig hb
    have hz : zeroLed [digB (48 + (a : Int)), digB (48 + (b : Int))] = false := by simp [zeroLed, digB_ne ha1 ha]
    rw [e]
    simp [rdOne, hz, numS, a1, a2, b1, b2]
  · obtain ⟨a1, a2⟩ := digB_dig ha
    obtain ⟨b1, b2⟩ := digB_dig hb
    obtain ⟨c1, c2⟩ := digB_dig hc
    have hz : zeroLed [digB (48 + (a : Int)), digB (48 + (b : Int)), digB (48 + (c : Int))] = false := by simp [zeroLed, digB_ne ha1 ha]
    rw [e]
    simp [rdOne, hz, numS, a1, a2, b1, b2, c1, c2]
theorem dec_no {c : UInt8} (hc : isDig c = false) (n : Int) (h0 : 0 ≤ n) (h1 : n ≤ 999) : c ∉ dec n := by
  have key : ∀ d : Nat, d < 10 → c ≠ digB (48 + (d : Int)) := fun d hd e => by
    rw [e, (digB_dig hd).1] at hc
    cases hc
  rcases dec_shapes n h0 h1 with ⟨a, ha, rfl, e⟩ | ⟨a, b, ha1, ha, hb, rfl, e⟩ | ⟨a, b, d, ha1, ha, hb, hd, rfl, e⟩ <;> rw [e] <;> simp only [List.mem_cons, List.not_mem_nil, or_false, not_or]
  · exact key a ha
  · exact ⟨key a ha, key b hb⟩
  · exact ⟨key a ha, key b hb, key d hd⟩
theorem dec_len (n : Int) (h0 : 0 ≤ n) (h1 : n ≤ 999) : 1 ≤ (dec n).length ∧ (dec n).length ≤ 3 := by
  rcases dec_shapes n h0 h1 with ⟨a, ha, rfl, e⟩ | ⟨a, b, ha1, ha, hb, rfl, e⟩ | ⟨a, b, d, ha1, ha, hb, hd, rfl, e⟩ <;> rw [e] <;> simp
/-! ### grades -/
def rangeT (a b : Int) : List UInt8 := dec a ++ 45 :: dec b
def textG (g : Grade) : List UInt8 := if gradeOk g then rangeT g.lc g.hc ++ 47 :: (rangeT g.lm g.hm ++ 47 :: rangeT g.ls g.hs) else []
def zeroG : Grade := ⟨0, 0, 0, 0, 0, 0⟩
def rdPart (p : List UInt8) : Option (Int × Int) := if (Lib.cut p [45]).2.2 then (rdNum (Lib.cut p [45]).1).bind fun a => (rdNum (Lib.cut p [45]).2.1).map fun b => (a, b) else none
/-- What the program reads. -/
def rdG (l : List UInt8) : Grade × Bool :=
  match (pieces 47 l).map rdPart with
  | [some (a, b), some (c, d), some (e, f)] => if gradeOk ⟨a, b, c, d, e, f⟩ then (⟨a, b, c, d, e, f⟩, true) else (zeroG, false)
  | _ => (zeroG, false)
def numsS (l : List UInt8) : List Int := (pieces 47 l).flatMap fun p => (pieces 45 p).map rdOne
/-- What the reference reads. -/
def rdS (l : List UInt8) : Grade × Bool :=
  match numsS l with
  | [a, b, c, d, e, f] => if textG ⟨a, b, c, d, e, f⟩ = l then (⟨a, b, c, d, e, f⟩, true) else (zeroG, false)
  | _ => (zeroG, false)
theorem rdPart_range (a b : Int) (ha0 : 0 ≤ a) (ha1 : a ≤ 999) (hb0 : 0 ≤ b) (hb1 : b ≤ 999) : rdPart (rangeT a b) = some (a, b) := by
  unfold rdPart rangeT
  rw [cut_hit 45 (dec a) (dec b) (dec_no (by decide) a ha0 ha1)]
  simp [rdNum_dec a ha0 ha1, rdNum_dec b hb0 hb1]
theorem rdPart_is {p : List UInt8} {a b : Int} (h : rdPart p = some (a, b)) : p = rangeT a b := by
  unfold rdPart at h
  rcases first_cases 45 p with ⟨h1, _⟩ | ⟨x, y, rfl, h1, _⟩
  · rw [cut_miss 45 p h1] at h
    simp at h
  · rw [cut_hit 45 x y h1] at h
    simp only [if_true, Option.bind_eq_some_iff, Option.map_eq_some_iff, Prod.mk.injEq] at h
    obtain ⟨a', q1, b', q2, rfl, rfl⟩ := h
    rw [rangeT, ← (rdNum_is q1).2.2, ← (rdNum_is q2).2.2]
theorem range_no (a b : Int) (ha0 : 0 ≤ a) (ha1 : a ≤ 999) (hb0 : 0 ≤ b) (hb1 : b ≤ 999) : (47 : UInt8) ∉ rangeT a b := by
  unfold rangeT
  simp only [List.mem_append, List.mem_cons, not_or]
  exact ⟨dec_no (by decide) a ha0 ha1, by decide, dec_no (by decide) b hb0 hb1⟩
theorem text_pieces {g : Grade} (h : gradeOk g = true) : pieces 47 (textG g) = [rangeT g.lc g.hc, rangeT g.lm g.hm, rangeT g.ls g.hs] := by
  have hb := grade_bounds h
  simp only [textG, h, if_true]
  rw [pieces_app _ _ _ (range_no _ _ (by omega) (by omega) (by omega) (by omega)), pieces_app _ _ _ (range_no _ _ (by omega) (by omega) (by omega) (by omega)), pieces_none _ _ (range_no _ _ (by omega) (by omega) (by omega) (by omega))]
theorem rdG_text {g : Grade} (h : gradeOk g = true) : rdG (textG g) = (g, true) := by
  have hb := grade_bounds h
  unfold rdG
  rw [text_pieces h]
  simp only [List.map_cons, List.map_nil]
  rw [rdPart_range _ _ (by omega) (by omega) (by omega) (by omega), rdPart_range _ _ (by omega) (by omega) (by omega) (by omega), rdPart_range _ _ (by omega) (by omega) (by omega) (by omega)]
  simp [h]
theorem range_pieces (a b : Int) (ha0 : 0 ≤ a) (ha1 : a ≤ 999) (hb0 : 0 ≤ b) (hb1 : b ≤ 999) : (pieces 45 (rangeT a b)).map rdOne = [a, b] := by
  unfold rangeT
  rw [pieces_app _ _ _ (dec_no (by decide) a ha0 ha1), pieces_none _ _ (dec_no (by decide) b hb0 hb1)]
  simp [rdOne_dec a ha0 ha1, rdOne_dec b hb0 hb1]
theorem rdS_text {g : Grade} (h : gradeOk g = true) : rdS (textG g) = (g, true) := by
  have hb := grade_bounds h
  have e : numsS (textG g) = [g.lc, g.hc, g.lm, g.hm, g.ls, g.hs] := by
    unfold numsS
    rw [text_pieces h]
    simp only [List.flatMap_cons, List.flatMap_nil]
    rw [range_pieces _ _ (by omega) (by omega) (by omega) (by omega), range_pieces _ _ (by omega) (by omega) (by omega) (by omega), range_pieces _ _ (by omega) (by omega) (by omega) (by omega)]
    rfl
  unfold rdS
  rw [e]
  simp
theorem rdG_is (l : List UInt8) : rdG l = (zeroG, false) ∨ ∃ g, gradeOk g = true ∧ l = textG g := by
  unfold rdG
  split
  · rename_i a b c d e f hm
    split
    · rename_i hg
      right
      refine ⟨_, hg, ?_⟩
      match hp : pieces 47 l with
      | [] => rw [hp] at hm; simp at hm
      | [p1] => rw [hp] at hm; simp at hm
      | [p1, p2] => rw [hp] at hm; simp at hm
      | p1 :: p2 :: p3 :: p4 :: ps => rw [hp] at hm; simp at hm
      | [p1, p2, p3] =>
        rw [hp] at hm
        simp only [List.map_cons, List.map_nil, List.cons.injEq, and_true] at hm
        rw [pieces_join3 hp, rdPart_is hm.1, rdPart_is hm.2.1, rdPart_is hm.2.2]
        simp [textG, hg]
    · exact .inl rfl
  · exact .inl rfl
theorem rdS_is (l : List UInt8) : rdS l = (zeroG, false) ∨ ∃ g, gradeOk g = true ∧ l = textG g := by
  unfold rdS
  split
  · rename_i a b c d e f hm
    split
    · rename_i ht
      right
      refine ⟨_, ?_, ht.symm⟩
      cases hg : gradeOk ⟨a, b, c, d, e, f⟩ with
      | true => rfl
      | false =>
        exfalso
        have h0 : l = [] := by rw [← ht]; simp [textG, hg]
        rw [h0] at hm
        have : numsS [] = [rdOne []] := rfl
        rw [this] at hm
        simp at hm
    · exact .inl rfl
  · exact .inl rfl
/-- Both readers read alike. -/
theorem readers_same (l : List UInt8) : rdS l = rdG l := by
  by_cases h : ∃ g, gradeOk g = true ∧ l = textG g
  · obtain ⟨g, hg, rfl⟩ := h
    rw [rdS_text hg, rdG_text hg]
  · rcases rdG_is l with h1 | h1
    · rcases rdS_is l with h2 | h2
      · rw [h1, h2]
      · exact absurd h2 h
    · exact absurd h1 h
end Go.Proofs.YtlhjncefckidjaaDoor
