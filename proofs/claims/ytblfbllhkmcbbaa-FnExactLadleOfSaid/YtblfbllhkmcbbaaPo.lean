/-
  Ladles in plain words: the stable order by Tap, the pick of the next heat, the ladle that it gets.
-/
import Derived.Sort.LotA
import Derived.Test.YtblfbllhkmcbbaaPc
namespace Go.Proofs.Ytblfbllhkmcbbaa
set_option linter.unusedVariables false
def tapL (T : Nat → Int) (x y : Nat) : Bool := decide (T x - T y < 0)
def lexL (T : Nat → Int) (x y : Nat) : Bool := decide (T x < T y ∨ (T x = T y ∧ x < y))
theorem lex_swo (T : Nat → Int) : Go.Sort.SWO (lexL T) := by
  refine ⟨fun x => ?_, fun x y z h1 h2 => ?_, fun x y z h1 h2 => ?_⟩
  · simp [lexL]
  · simp only [lexL, decide_eq_true_eq] at *; omega
  · simp only [lexL, decide_eq_false_iff_not] at *; omega
theorem lex_eq {T : Nat → Int} {x y : Nat} (h1 : lexL T x y = false) (h2 : lexL T y x = false) : x = y := by
  simp only [lexL, decide_eq_false_iff_not] at *
  omega
theorem lex_tap {T : Nat → Int} {x y : Nat} (h : y < x) : lexL T x y = tapL T x y := by
  unfold lexL tapL
  rw [decide_eq_decide]
  omega
open Go.Sort in
theorem inner_same {T : Nat → Int} {i : Nat} : ∀ (j : Nat) (d : Array Nat), j < d.size → d[j]! = i → (∀ k, k < j → d[k]! < i) →
    insInner (tapL T) 0 j d = insInner (lexL T) 0 j d ∧ (insInner (lexL T) 0 j d).size = d.size ∧ (∀ k, j < k → (insInner (lexL T) 0 j d)[k]! = d[k]!) ∧ (∀ k, k ≤ j → (insInner (lexL T) 0 j d)[k]! ≤ i) := by
  intro j
  induction j with
  | zero =>
    intro d h1 h2 h3
    refine ⟨rfl, rfl, fun k _ => rfl, fun k hk => ?_⟩
    obtain rfl : k = 0 := by omega
    exact Nat.le_of_eq h2
  | succ j ih =>
    intro d h1 h2 h3
    have h4 := h3 j (by omega)
    have e : lexL T d[j + 1]! d[j]! = tapL T d[j + 1]! d[j]! := lex_tap (by omega)
    rw [insInner, insInner, ← e]
    by_cases hc : (decide (j + 1 > 0) && lexL T d[j + 1]! d[j]!) = true
    · rw [if_pos hc, if_pos hc]
      have hl := swp_left d (j + 1) j (by omega) (by omega)
      have hr := swp_right d (j + 1) j (by omega)
      obtain ⟨k1, k2, k3, k4⟩ := ih (swp d (j + 1) j) (by rw [size_swp]; omega) (by rw [hr, h2]) fun k hk => by
        rw [swp_other d (j + 1) j k (by omega) (by omega)]
        exact h3 k (by omega)
      refine ⟨k1, by rw [k2, size_swp], fun k hk => ?_, fun k hk => ?_⟩
      · rw [k3 k (by omega), swp_other d (j + 1) j k (by omega) (by omega)]
      · by_cases hkj : k = j + 1
        · subst hkj
          rw [k3 (j + 1) (by omega), hl]
          omega
        · exact k4 k (by omega)
    · rw [if_neg hc, if_neg hc]
      refine ⟨rfl, rfl, fun k _ => rfl, fun k hk => ?_⟩
      by_cases hkj : k = j + 1
      · subst hkj; omega
      · exact Nat.le_of_lt (h3 k (by omega))
theorem o_go (lt : Nat → Nat → Bool) {b i : Nat} {d : Array Nat} (h : i < b) : Go.Sort.insOuter lt 0 b i d = Go.Sort.insOuter lt 0 b (i + 1) (Go.Sort.insInner lt 0 i d) := by rw [Go.Sort.insOuter, if_pos h]
theorem o_stop (lt : Nat → Nat → Bool) {b i : Nat} {d : Array Nat} (h : ¬ i < b) : Go.Sort.insOuter lt 0 b i d = d := by rw [Go.Sort.insOuter, if_neg h]
open Go.Sort in
theorem outer_same {T : Nat → Int} {n : Nat} : ∀ (m i : Nat) (d : Array Nat), n ≤ i + m → d.size = n → (∀ k, k < i → d[k]! < i) → (∀ k, i ≤ k → k < n → d[k]! = k) → insOuter (tapL T) 0 n i d = insOuter (lexL T) 0 n i d := by
  intro m
  induction m with
  | zero =>
    intro i d h0 h1 h2 h3
    rw [o_stop _ (by omega), o_stop _ (by omega)]
  | succ m ih =>
    intro i d h0 h1 h2 h3
    by_cases hi : i < n
    · rw [o_go _ hi, o_go _ hi]
      obtain ⟨k1, k2, k3, k4⟩ := inner_same (T := T) (i := i) i d (by omega) (h3 i (Nat.le_refl _) hi) h2
      rw [k1]
      refine ih (i + 1) _ (by omega) (by rw [k2, h1]) (fun k hk => ?_) fun k hk1 hk2 => ?_
      · have := k4 k (by omega); omega
      · rw [k3 k (by omega)]; exact h3 k (by omega) hk2
    · rw [o_stop _ hi, o_stop _ hi]
/-- The stable order of n heats by their taps. -/
def ordA (T : Nat → Int) (n : Nat) : Array Nat := Go.Sort.insertionSort (tapL T) (Array.range n) 0 n
theorem range_at! {n k : Nat} (h : k < n) : (Array.range n)[k]! = k := by
  rw [getElem!_pos (Array.range n) k (by simpa using h)]
  simp
theorem ordA_lex (T : Nat → Int) (n : Nat) : ordA T n = Go.Sort.insertionSort (lexL T) (Array.range n) 0 n := by
  unfold ordA Go.Sort.insertionSort
  by_cases hn : n = 0
  · subst hn
    rw [o_stop _ (by omega), o_stop _ (by omega)]
  · refine outer_same n 1 _ (by omega) (by simp) (fun k hk => ?_) fun k hk1 hk2 => range_at! hk2
    obtain rfl : k = 0 := by omega
    rw [range_at! (by omega)]
    omega
def ordL (T : Nat → Int) (n : Nat) : List Nat := (ordA T n).toList
theorem ordA_facts (T : Nat → Int) (n : Nat) : (ordA T n).size = n ∧ (ordL T n).Perm (List.range n) ∧ ∀ i j, i < j → j < n → lexL T (ordA T n)[j]! (ordA T n)[i]! = false := by
  have h := Go.Sort.insertionSort_holds (lex_swo T) (Array.range n) 0 n (Nat.zero_le _) (by simp)
  rw [← ordA_lex] at h
  obtain ⟨⟨h1, h2, h3⟩, h4⟩ := h
  have hs : (ordA T n).size = n := by rw [h1]; simp
  refine ⟨hs, ?_, fun i j hij hj => h4 i j (Nat.zero_le _) hij hj⟩
  have e1 : (ordA T n).extract 0 n = ordA T n := by
    have := Array.extract_size (xs := ordA T n)
    rwa [hs] at this
  have e2 : (Array.range n).extract 0 n = Array.range n := by
    have := Array.extract_size (xs := Array.range n)
    rwa [Array.size_range] at this
  rw [e1, e2] at h3
  unfold ordL
  simpa using h3
theorem ordL_len (T : Nat → Int) (n : Nat) : (ordL T n).length = n := by
  have := (ordA_facts T n).1
  simpa [ordL] using this
theorem ordL_mem {T : Nat → Int} {n x : Nat} : x ∈ ordL T n ↔ x < n := by
  rw [(ordA_facts T n).2.1.mem_iff, List.mem_range]
theorem ordL_nodup (T : Nat → Int) (n : Nat) : (ordL T n).Nodup := (ordA_facts T n).2.1.nodup_iff.2 List.nodup_range
theorem ordL_at! {T : Nat → Int} {n k : Nat} (h : k < n) : (ordL T n)[k]? = some (ordA T n)[k]! := by
  have hs := (ordA_facts T n).1
  unfold ordL
  rw [Array.getElem?_toList, Array.getElem?_eq_getElem (by omega), getElem!_pos (ordA T n) k (by omega)]
theorem ordL_sorted {T : Nat → Int} {n i j x y : Nat} (hij : i < j) (hx : (ordL T n)[i]? = some x) (hy : (ordL T n)[j]? = some y) : lexL T y x = false := by
  have hj := (List.getElem?_eq_some_iff.1 hy).1
  rw [ordL_len] at hj
  rw [ordL_at! (by omega)] at hx hy
  injection hx with hx
  injection hy with hy
  rw [← hx, ← hy]
  exact (ordA_facts T n).2.2 i j hij hj

/-! ### the pick of the next heat -/
def pickM (free : Nat → Bool) (T : Nat → Int) : Nat → Option Nat
  | 0 => none
  | j + 1 => if free j then (match pickM free T j with
    | none => some j
    | some b => if T j < T b then some j else some b) else pickM free T j
theorem pickM_spec {free : Nat → Bool} {T : Nat → Int} : ∀ j, (pickM free T j = none → ∀ x, x < j → free x = false) ∧ ∀ b, pickM free T j = some b → free b = true ∧ b < j ∧ ∀ x, x < j → free x = true → lexL T x b = false := by
  intro j
  induction j with
  | zero => exact ⟨fun _ x hx => by omega, fun b h => by cases h⟩
  | succ j ih =>
    obtain ⟨ih1, ih2⟩ := ih
    rw [pickM]
    by_cases hf : free j = true
    · rw [if_pos hf]
      cases hp : pickM free T j with
      | none =>
        refine ⟨fun h => (by cases h), fun b h => ?_⟩
        injection h with h
        subst h
        refine ⟨hf, by omega, fun x hx hfx => ?_⟩
        by_cases hxj : x = j
        · subst hxj; exact (lex_swo T).irrefl x
        · have := ih1 hp x (by omega)
          rw [this] at hfx; cases hfx
      | some b0 =>
        obtain ⟨k1, k2, k3⟩ := ih2 b0 hp
        simp only
        by_cases hlt : T j < T b0
        · rw [if_pos hlt]
          refine ⟨fun h => (by cases h), fun b h => ?_⟩
          injection h with h
          subst h
          refine ⟨hf, by omega, fun x hx hfx => ?_⟩
          by_cases hxj : x = j
          · subst hxj; exact (lex_swo T).irrefl x
          · have := k3 x (by omega) hfx
            simp only [lexL, decide_eq_false_iff_not] at this ⊢
            omega
        · rw [if_neg hlt]
          refine ⟨fun h => (by cases h), fun b h => ?_⟩
          injection h with h
          subst h
          refine ⟨k1, by omega, fun x hx hfx => ?_⟩
          by_cases hxj : x = j
          · subst hxj
            simp only [lexL, decide_eq_false_iff_not]
            omega
          · exact k3 x (by omega) hfx
    · rw [if_neg hf]
      refine ⟨fun h x hx => ?_, fun b h => ?_⟩
      · by_cases hxj : x = j
        · subst hxj; simpa using hf
        · exact ih1 h x (by omega)
      · obtain ⟨k1, k2, k3⟩ := ih2 b h
        refine ⟨k1, by omega, fun x hx hfx => ?_⟩
        by_cases hxj : x = j
        · subst hxj; exact absurd hfx hf
        · exact k3 x (by omega) hfx
theorem pickM_ord {free : Nat → Bool} {T : Nat → Int} {n k i : Nat} (hi : (ordL T n)[k]? = some i) (hf : ∀ x, x < n → (free x = true ↔ x ∉ (ordL T n).take k)) : pickM free T n = some i := by
  have hk := (List.getElem?_eq_some_iff.1 hi).1
  have hkn := hk
  rw [ordL_len] at hkn
  have hin : i < n := ordL_mem.1 (List.mem_of_getElem? hi)
  have hnot : i ∉ (ordL T n).take k := by
    intro hm
    obtain ⟨m, hm⟩ := List.getElem?_of_mem hm
    have hmk : m < k := by
      have := (List.getElem?_eq_some_iff.1 hm).1
      rw [List.length_take] at this
      omega
    rw [List.getElem?_take, if_pos hmk] at hm
    have := (List.getElem?_inj (by omega) (ordL_nodup T n)).1 (hm.trans hi.symm)
    omega
  obtain ⟨s1, s2⟩ := pickM_spec (free := free) (T := T) n
  cases hp : pickM free T n with
  | none =>
    have := s1 hp i hin
    rw [(hf i hin).2 hnot] at this
    cases this
  | some b =>
    obtain ⟨k1, k2, k3⟩ := s2 b hp
    have hbn := (hf b k2).1 k1
    obtain ⟨m, hm⟩ := List.getElem?_of_mem (ordL_mem.2 k2 : b ∈ ordL T n)
    have hmk : k ≤ m := by
      rcases Nat.lt_or_ge m k with h | h
      · exact absurd (List.mem_of_getElem? (by rw [List.getElem?_take, if_pos h]; exact hm : ((ordL T n).take k)[m]? = some b)) hbn
      · exact h
    have h1 := k3 i hin ((hf i hin).2 hnot)
    by_cases hmk' : m = k
    · subst hmk'
      rw [hi] at hm
      exact hm.symm
    · have h2 := ordL_sorted (by omega : k < m) hi hm
      rw [lex_eq h1 h2]

/-! ### the ladle -/
def idxLe (ends : List Int) (t : Int) : Nat := ends.findIdx fun e => decide (e ≤ t)
def ladStep (T E : Nat → Int) (s : List (Option Nat) × List Int) (i : Nat) : List (Option Nat) × List Int :=
  (s.1.set i (some (idxLe s.2 (T i))), if idxLe s.2 (T i) < s.2.length then s.2.set (idxLe s.2 (T i)) (E i) else s.2 ++ [E i])
/-- What stands behind k heats, in their order: the ladle of each, the ends of ladles. -/
def ladK (T E : Nat → Int) (n : Nat) : Nat → List (Option Nat) × List Int
  | 0 => (List.replicate n none, [])
  | k + 1 => ladStep T E (ladK T E n k) ((ordL T n).getD k 0)
structure LadOk (T E : Nat → Int) (n k : Nat) (s : List (Option Nat) × List Int) : Prop where
  len : s.1.length = n
  few : s.2.length ≤ k
  free : ∀ x, x < n → (s.1[x]? = some none ↔ x ∉ (ordL T n).take k)
  top : ∀ x l, s.1[x]? = some (some l) → ∃ e, s.2[l]? = some e ∧ E x ≤ e
  has : ∀ l e, s.2[l]? = some e → ∃ x, s.1[x]? = some (some l) ∧ e = E x
theorem idxLe_le (ends : List Int) (t : Int) : idxLe ends t ≤ ends.length := List.findIdx_le_length
theorem idxLe_at {ends : List Int} {t : Int} (h : idxLe ends t < ends.length) : ∃ e, ends[idxLe ends t]? = some e ∧ e ≤ t := by
  refine ⟨_, List.getElem?_eq_getElem h, ?_⟩
  have := List.findIdx_getElem (p := fun e => decide (e ≤ t)) (xs := ends) (w := h)
  exact of_decide_eq_true this
theorem idxLe_lt {ends : List Int} {t e : Int} {l : Nat} (h : l < idxLe ends t) (he : ends[l]? = some e) : t < e := by
  have h1 := List.not_of_lt_findIdx h
  obtain ⟨h2, h3⟩ := List.getElem?_eq_some_iff.1 he
  rw [h3] at h1
  simpa using h1
theorem ladK_ok {T E : Nat → Int} {n : Nat} (hE : ∀ i, i < n → T i ≤ E i) : ∀ k, k ≤ n → LadOk T E n k (ladK T E n k) := by
  intro k
  induction k with
  | zero =>
    intro _
    refine ⟨by simp [ladK], by simp [ladK], fun x hx => by simp [ladK, hx], fun x l h => ?_, fun l e h => by simp [ladK] at h⟩
    simp only [ladK] at h
    have := List.mem_of_getElem? h
    simp at this
  | succ k ih =>
    intro hk
    have ihk := ih (by omega)
    have hi : (ordL T n)[k]? = some ((ordL T n).getD k 0) := by
      rw [List.getD_eq_getElem?_getD, List.getElem?_eq_getElem (by rw [ordL_len]; omega)]
      rfl
    rw [ladK]
    generalize (ordL T n).getD k 0 = i at hi
    generalize ladK T E n k = s at ihk
    obtain ⟨h1, h2, h3, h4, h5⟩ := ihk
    have hin : i < n := ordL_mem.1 (List.mem_of_getElem? hi)
    have hEi := hE i hin
    have htake : (ordL T n).take (k + 1) = (ordL T n).take k ++ [i] := by
      obtain ⟨hk', hx⟩ := List.getElem?_eq_some_iff.1 hi
      rw [List.take_succ_eq_append_getElem hk', hx]
    have hnot : i ∉ (ordL T n).take k := by
      intro hm
      obtain ⟨m, hm⟩ := List.getElem?_of_mem hm
      have hmk : m < k := by
        have := (List.getElem?_eq_some_iff.1 hm).1
        rw [List.length_take] at this
        omega
      rw [List.getElem?_take, if_pos hmk] at hm
      have := (List.getElem?_inj (by rw [ordL_len]; omega) (ordL_nodup T n)).1 (hm.trans hi.symm)
      omega
    have hin0 := (h3 i hin).2 hnot
    have hle := idxLe_le s.2 (T i)
    have hfree : ∀ x, x < n → ((s.1.set i (some (idxLe s.2 (T i))))[x]? = some none ↔ x ∉ (ordL T n).take (k + 1)) := by
      intro x hx
      rw [htake, List.mem_append, List.mem_singleton, List.getElem?_set]
      by_cases hxi : i = x
      · subst hxi
        simp [h1, hin]
      · rw [if_neg hxi, h3 x hx]
        have : ¬ x = i := fun e => hxi e.symm
        simp [this]
    unfold ladStep
    by_cases hl : idxLe s.2 (T i) < s.2.length
    · rw [if_pos hl]
      obtain ⟨e0, q1, q2⟩ := idxLe_at hl
      refine ⟨by simp [h1], by simp; omega, hfree, fun x l h => ?_, fun l e h => ?_⟩
      · simp only at h ⊢
        rw [List.getElem?_set] at h
        by_cases hxi : i = x
        · subst hxi
          rw [if_pos rfl, if_pos (by omega)] at h
          injection h with h
          injection h with h
          subst h
          exact ⟨E i, by rw [List.getElem?_set_self hl], Int.le_refl _⟩
        · rw [if_neg hxi] at h
          obtain ⟨e, g1, g2⟩ := h4 x l h
          by_cases hll : idxLe s.2 (T i) = l
          · subst hll
            rw [q1] at g1
            injection g1 with g1
            exact ⟨E i, by rw [List.getElem?_set_self hl], by omega⟩
          · exact ⟨e, by rw [List.getElem?_set_ne hll]; exact g1, g2⟩
      · simp only at h ⊢
        by_cases hll : idxLe s.2 (T i) = l
        · subst hll
          rw [List.getElem?_set_self hl] at h
          injection h with h
          exact ⟨i, by rw [List.getElem?_set_self (by omega)], h.symm⟩
        · rw [List.getElem?_set_ne hll] at h
          obtain ⟨x, g1, g2⟩ := h5 l e h
          have hxi : i ≠ x := by
            intro he
            subst he
            rw [hin0] at g1
            injection g1 with g1
            cases g1
          exact ⟨x, by rw [List.getElem?_set_ne hxi]; exact g1, g2⟩
    · rw [if_neg hl]
      have hll0 : idxLe s.2 (T i) = s.2.length := by omega
      rw [hll0] at hfree ⊢
      refine ⟨by simp [h1], by simp; omega, hfree, fun x l h => ?_, fun l e h => ?_⟩
      · simp only at h ⊢
        rw [List.getElem?_set] at h
        by_cases hxi : i = x
        · subst hxi
          rw [if_pos rfl, if_pos (by omega)] at h
          injection h with h
          injection h with h
          subst h
          exact ⟨E i, by simp, Int.le_refl _⟩
        · rw [if_neg hxi] at h
          obtain ⟨e, g1, g2⟩ := h4 x l h
          have := (List.getElem?_eq_some_iff.1 g1).1
          exact ⟨e, by rw [List.getElem?_append_left this]; exact g1, g2⟩
      · simp only at h ⊢
        by_cases hls : l < s.2.length
        · rw [List.getElem?_append_left hls] at h
          obtain ⟨x, g1, g2⟩ := h5 l e h
          have hxi : i ≠ x := by
            intro he
            subst he
            rw [hin0] at g1
            injection g1 with g1
            cases g1
          exact ⟨x, by rw [List.getElem?_set_ne hxi]; exact g1, g2⟩
        · have hle2 := (List.getElem?_eq_some_iff.1 h).1
          simp at hle2
          obtain rfl : l = s.2.length := by omega
          simp at h
          exact ⟨i, by rw [List.getElem?_set_self (by omega)], h.symm⟩
/-- A ladle is not to be had at t: a heat in it ends behind t. -/
theorem ladle_full {T E : Nat → Int} {n k l : Nat} {s : List (Option Nat) × List Int} {t : Int} (h : LadOk T E n k s) (hl : l < idxLe s.2 t) : ∃ x, x < n ∧ s.1[x]? = some (some l) ∧ t < E x := by
  have hle := idxLe_le s.2 t
  obtain ⟨x, g1, g2⟩ := h.has l _ (List.getElem?_eq_getElem (by omega))
  have := idxLe_lt hl (List.getElem?_eq_getElem (by omega))
  have hx := (List.getElem?_eq_some_iff.1 g1).1
  rw [h.len] at hx
  exact ⟨x, hx, g1, by omega⟩
theorem ladle_free {T E : Nat → Int} {n k x : Nat} {s : List (Option Nat) × List Int} {t : Int} (h : LadOk T E n k s) (hx : s.1[x]? = some (some (idxLe s.2 t))) : E x ≤ t := by
  obtain ⟨e, g1, g2⟩ := h.top x _ hx
  have hl := (List.getElem?_eq_some_iff.1 g1).1
  obtain ⟨e0, q1, q2⟩ := idxLe_at hl
  rw [q1] at g1
  injection g1 with g1
  omega
theorem ladle_past {T E : Nat → Int} {n k x l : Nat} {s : List (Option Nat) × List Int} {t : Int} (h : LadOk T E n k s) (hl : l ≤ idxLe s.2 t) (hx : s.1[x]? = some (some l)) (ht : t < E x) : l < idxLe s.2 t := by
  rcases Nat.lt_or_ge l (idxLe s.2 t) with h1 | h1
  · exact h1
  · have : l = idxLe s.2 t := by omega
    subst this
    have := ladle_free h hx
    omega
def optS : Option Nat → Int
  | none => -1
  | some l => l
def optI : Option Nat → Int
  | none => 0
  | some l => l
def outS (l : List (Option Nat)) : List Int := l.map optS
def outI (l : List (Option Nat)) : List Int := l.map optI
theorem out_same {T E : Nat → Int} {n : Nat} {s : List (Option Nat) × List Int} (h : LadOk T E n n s) : outI s.1 = outS s.1 := by
  unfold outI outS
  refine List.map_congr_left fun o ho => ?_
  cases o with
  | some l => rfl
  | none =>
    obtain ⟨x, hx⟩ := List.getElem?_of_mem ho
    have hxn := (List.getElem?_eq_some_iff.1 hx).1
    rw [h.len] at hxn
    have := (h.free x hxn).1 hx
    rw [List.take_of_length_le (by rw [ordL_len]; omega)] at this
    exact absurd (ordL_mem.2 hxn) this
theorem ladK_succ {T E : Nat → Int} {n k i : Nat} (hi : (ordL T n)[k]? = some i) : ladK T E n (k + 1) = ladStep T E (ladK T E n k) i := by
  rw [ladK, List.getD_eq_getElem?_getD, hi]
  rfl
end Go.Proofs.Ytblfbllhkmcbbaa
