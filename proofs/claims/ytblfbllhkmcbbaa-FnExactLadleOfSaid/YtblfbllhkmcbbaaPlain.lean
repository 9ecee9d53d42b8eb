/-
  The plain functions: what the program's and the reference's functions compute, on Lean's own lists and integers. No program in sight.
-/
namespace Go.Proofs.Ytblfbllhkmcbbaa

structure Stuff where
  c : Int
  m : Int
  s : Int
  p : Int
  k : Int
structure Grade where
  lc : Int
  hc : Int
  lm : Int
  hm : Int
  ls : Int
  hs : Int
structure Heat where
  k : Int
  t : Int
  r : Int
structure Caster where
  f : Int
  s : Int
theorem Stuff.ext_ {a b : Stuff} (h1 : a.c = b.c) (h2 : a.m = b.m) (h3 : a.s = b.s) (h4 : a.p = b.p) (h5 : a.k = b.k) : a = b := by
  cases a; cases b; simp_all
theorem Heat.ext_ {a b : Heat} (h1 : a.k = b.k) (h2 : a.t = b.t) (h3 : a.r = b.r) : a = b := by
  cases a; cases b; simp_all

def maxI (x y : Int) : Int := if y > x then y else x
def minI (x y : Int) : Int := if y < x then y else x
theorem maxI_eq (x y : Int) : maxI x y = max x y := by unfold maxI; split <;> omega
theorem minI_eq (x y : Int) : minI x y = min x y := by unfold minI; split <;> omega
def inB (n lo hi : Int) : Bool := decide (lo ≤ n) && decide (n ≤ hi)
theorem inB_iff {n lo hi : Int} : inB n lo hi = true ↔ lo ≤ n ∧ n ≤ hi := by simp [inB]
def stuffOk (s : Stuff) : Bool := inB s.c 0 999 && inB s.m 0 999 && inB s.s 0 999 && inB s.p 0 99 && inB s.k 0 9
def rangeOk (lo hi : Int) : Bool := inB lo 0 999 && inB hi lo 999
def gradeOk (g : Grade) : Bool := rangeOk g.lc g.hc && rangeOk g.lm g.hm && rangeOk g.ls g.hs
def heatOk (h : Heat) : Bool := inB h.k 0 3 && inB h.t 0 999 && inB h.r h.t 999
def casterOk (c : Caster) : Bool := inB c.f 1 99 && inB c.s c.f 99
def leB (a b : Int) : Bool := decide (a ≤ b)
def gradeIn (a b : Grade) : Bool := gradeOk a && gradeOk b && leB b.lc a.lc && leB a.hc b.hc && leB b.lm a.lm && leB a.hm b.hm && leB b.ls a.ls && leB a.hs b.hs

def flatS (l : List Stuff) : List Int := l.flatMap fun s => [s.c, s.m, s.s, s.p, s.k]
def flatH (l : List Heat) : List Int := l.flatMap fun s => [s.k, s.t, s.r]
theorem flatS_length (l : List Stuff) : (flatS l).length = l.length * 5 := by
  induction l with
  | nil => rfl
  | cons a l ih => simp only [flatS, List.flatMap_cons, List.length_append] at ih ⊢; simp [ih]; omega
theorem flatH_length (l : List Heat) : (flatH l).length = l.length * 3 := by
  induction l with
  | nil => rfl
  | cons a l ih => simp only [flatH, List.flatMap_cons, List.length_append] at ih ⊢; simp [ih]; omega
theorem flatS_append (a b : List Stuff) : flatS (a ++ b) = flatS a ++ flatS b := by simp [flatS]
theorem flatH_append (a b : List Heat) : flatH (a ++ b) = flatH a ++ flatH b := by simp [flatH]
theorem flatS_at {l : List Stuff} {k : Nat} {s : Stuff} (h : l[k]? = some s) :
    (flatS l)[k * 5]? = some s.c ∧ (flatS l)[k * 5 + 1]? = some s.m ∧ (flatS l)[k * 5 + 2]? = some s.s ∧ (flatS l)[k * 5 + 3]? = some s.p ∧ (flatS l)[k * 5 + 4]? = some s.k := by
  induction l generalizing k with
  | nil => simp at h
  | cons a l ih =>
    have e : flatS (a :: l) = a.c :: a.m :: a.s :: a.p :: a.k :: flatS l := rfl
    cases k with
    | zero => simp at h; subst h; simp [e]
    | succ k =>
      obtain ⟨h0, h1, h2, h3, h4⟩ := ih (k := k) (by simpa using h)
      rw [e, show (k + 1) * 5 = k * 5 + 5 from by omega]
      simpa using ⟨h0, h1, h2, h3, h4⟩
theorem flatH_at {l : List Heat} {k : Nat} {s : Heat} (h : l[k]? = some s) :
    (flatH l)[k * 3]? = some s.k ∧ (flatH l)[k * 3 + 1]? = some s.t ∧ (flatH l)[k * 3 + 2]? = some s.r := by
  induction l generalizing k with
  | nil => simp at h
  | cons a l ih =>
    have e : flatH (a :: l) = a.k :: a.t :: a.r :: flatH l := rfl
    cases k with
    | zero => simp at h; subst h; simp [e]
    | succ k =>
      obtain ⟨h0, h1, h2⟩ := ih (k := k) (by simpa using h)
      rw [e, show (k + 1) * 3 = k * 3 + 3 from by omega]
      simpa using ⟨h0, h1, h2⟩
theorem unflatS (n : Nat) : ∀ zs : List Int, zs.length = n * 5 → ∃ l : List Stuff, l.length = n ∧ zs = flatS l := by
  induction n with
  | zero => exact fun zs h => ⟨[], rfl, List.eq_nil_of_length_eq_zero (by omega)⟩
  | succ n ih =>
    intro zs h
    match zs, h with
    | [], h | [_], h | [_, _], h | [_, _, _], h | [_, _, _, _], h => simp at h <;> omega
    | a :: b :: c :: d :: e :: zs, h =>
      obtain ⟨l, hl, rfl⟩ := ih zs (by simp at h; omega)
      exact ⟨⟨a, b, c, d, e⟩ :: l, by simp [hl], rfl⟩
theorem unflatH (n : Nat) : ∀ zs : List Int, zs.length = n * 3 → ∃ l : List Heat, l.length = n ∧ zs = flatH l := by
  induction n with
  | zero => exact fun zs h => ⟨[], rfl, List.eq_nil_of_length_eq_zero (by omega)⟩
  | succ n ih =>
    intro zs h
    match zs, h with
    | [], h | [_], h | [_, _], h => simp at h <;> omega
    | a :: b :: c :: zs, h =>
      obtain ⟨l, hl, rfl⟩ := ih zs (by simp at h; omega)
      exact ⟨⟨a, b, c⟩ :: l, by simp [hl], rfl⟩
theorem list5 {zs : List Int} (h : zs.length = 5) : ∃ a b c d e, zs = [a, b, c, d, e] := by
  match zs, h with
  | [a, b, c, d, e], _ => exact ⟨a, b, c, d, e, rfl⟩
theorem list6 {zs : List Int} (h : zs.length = 6) : ∃ a b c d e f, zs = [a, b, c, d, e, f] := by
  match zs, h with
  | [a, b, c, d, e, f], _ => exact ⟨a, b, c, d, e, f, rfl⟩
theorem list3 {zs : List Int} (h : zs.length = 3) : ∃ a b c, zs = [a, b, c] := by
  match zs, h with
  | [a, b, c], _ => exact ⟨a, b, c, rfl⟩
theorem list2 {zs : List Int} (h : zs.length = 2) : ∃ a b, zs = [a, b] := by
  match zs, h with
  | [a, b], _ => exact ⟨a, b, rfl⟩

/-! ### lists of stuffs, of heats -/
def stuffsOk (l : List Stuff) : Bool := decide (l.length ≤ 4) && l.all stuffOk
def heatsOk (l : List Heat) : Bool := decide (l.length ≤ 6) && l.all heatOk
def pairOk (p : Stuff × Int) : Bool := inB p.2 0 p.1.k
def mixAll (l : List Stuff) (x : List Int) : Bool := (l.zip x).all pairOk
def sameLen (a b : Nat) : Bool := decide (a = b)
def mixOk (l : List Stuff) (x : List Int) : Bool := stuffsOk l && sameLen x.length l.length && mixAll l x
theorem all_take_succ {α : Type} (f : α → Bool) (l : List α) (k : Nat) (a : α) (h : l[k]? = some a) : (l.take (k + 1)).all f = ((l.take k).all f && f a) := by
  obtain ⟨hk, rfl⟩ := List.getElem?_eq_some_iff.1 h
  rw [List.take_succ_eq_append_getElem hk, List.all_append]
  simp
theorem all_false_at {α : Type} (f : α → Bool) (l : List α) (k : Nat) (a : α) (h : l[k]? = some a) (hf : f a = false) : l.all f = false := by
  rw [List.all_eq_false]
  exact ⟨a, List.mem_of_getElem? h, by simp [hf]⟩
theorem zip_at {α β : Type} {l : List α} {x : List β} {k : Nat} {a : α} {b : β} (h : l[k]? = some a) (h' : x[k]? = some b) : (l.zip x)[k]? = some (a, b) := by
  simp [List.getElem?_zip_eq_some, h, h']
/-- The least remainder of 64 bits, as Go's int wraps. -/
def w64 (n : Int) : Int := (n + 9223372036854775808) % 18446744073709551616 - 9223372036854775808
theorem w64_in {n : Int} (h1 : -9223372036854775808 ≤ n) (h2 : n ≤ 9223372036854775807) : w64 n = n := by unfold w64; omega
def tonsOf (x : List Int) : Int := x.foldl (fun a y => w64 (a + y)) 0
def costOf (p : List (Stuff × Int)) : Int := p.foldl (fun a q => w64 (a + w64 (q.2 * q.1.p))) 0
def sumC (p : List (Stuff × Int)) : Int := p.foldl (fun a q => w64 (a + w64 (q.2 * q.1.c))) 0
def sumM (p : List (Stuff × Int)) : Int := p.foldl (fun a q => w64 (a + w64 (q.2 * q.1.m))) 0
def sumS (p : List (Stuff × Int)) : Int := p.foldl (fun a q => w64 (a + w64 (q.2 * q.1.s))) 0
theorem foldl_take_succ {α β : Type} (f : β → α → β) (z : β) (l : List α) (k : Nat) (a : α) (h : l[k]? = some a) : (l.take (k + 1)).foldl f z = f ((l.take k).foldl f z) a := by
  obtain ⟨hk, rfl⟩ := List.getElem?_eq_some_iff.1 h
  rw [List.take_succ_eq_append_getElem hk, List.foldl_append]
  rfl

def mixCost (l : List Stuff) (x : List Int) : Int := if mixOk l x then costOf (l.zip x) else -1
def mixSC (l : List Stuff) (x : List Int) : Int := if mixOk l x then sumC (l.zip x) else -1
def mixSM (l : List Stuff) (x : List Int) : Int := if mixOk l x then sumM (l.zip x) else -1
def mixSS (l : List Stuff) (x : List Int) : Int := if mixOk l x then sumS (l.zip x) else -1
def posB (n : Int) : Bool := decide (1 ≤ n)
def ofC (l : List Stuff) (x : List Int) (g : Grade) : Bool := inB (sumC (l.zip x)) (w64 (g.lc * tonsOf x)) (w64 (g.hc * tonsOf x))
def ofM (l : List Stuff) (x : List Int) (g : Grade) : Bool := inB (sumM (l.zip x)) (w64 (g.lm * tonsOf x)) (w64 (g.hm * tonsOf x))
def ofS (l : List Stuff) (x : List Int) (g : Grade) : Bool := inB (sumS (l.zip x)) (w64 (g.ls * tonsOf x)) (w64 (g.hs * tonsOf x))
def mixMeets (l : List Stuff) (x : List Int) (g : Grade) : Bool := mixOk l x && gradeOk g && posB (tonsOf x) && ofC l x g && ofM l x g && ofS l x g
theorem mixOk_len {l : List Stuff} {x : List Int} (h : mixOk l x = true) : x.length = l.length := by
  simp [mixOk, sameLen] at h
  exact h.1.2

/-! ### what is left behind a mixture -/
def takeS (p : Stuff × Int) : Stuff := ⟨p.1.c, p.1.m, p.1.s, p.1.p, w64 (p.1.k - p.2)⟩
def takenS (l : List Stuff) (x : List Int) : List Stuff := if mixOk l x then (l.zip x).map takeS else []
/-- The first k are taken from, the others not yet. -/
def midS (l : List Stuff) (x : List Int) (k : Nat) : List Stuff := ((l.zip x).map takeS).take k ++ l.drop k
theorem midS_zero (l : List Stuff) (x : List Int) : midS l x 0 = l := by simp [midS]
theorem midS_all (l : List Stuff) (x : List Int) (h : x.length = l.length) : midS l x l.length = (l.zip x).map takeS := by
  simp [midS]; rw [List.take_of_length_le (by simp [h])]
theorem midS_at (l : List Stuff) (x : List Int) (k : Nat) (h : x.length = l.length) (hk : k < l.length) : (midS l x k)[k]? = l[k]? := by
  unfold midS
  rw [List.getElem?_append_right (by simp; omega)]
  simp [List.getElem?_drop, h]
  congr 1; omega
theorem midS_succ (l : List Stuff) (x : List Int) (k : Nat) (s : Stuff) (y : Int) (h : x.length = l.length) (hs : l[k]? = some s) (hy : x[k]? = some y) : midS l x (k + 1) = (midS l x k).set k (takeS (s, y)) := by
  have hk : k < l.length := (List.getElem?_eq_some_iff.1 hs).1
  have hz : ((l.zip x).map takeS)[k]? = some (takeS (s, y)) := by rw [List.getElem?_map, zip_at hs hy]; rfl
  apply List.ext_getElem?
  intro j
  unfold midS
  rw [List.getElem?_set]
  have hl : (((l.zip x).map takeS).take k).length = k := by simp [h]; omega
  have hl' : (((l.zip x).map takeS).take (k + 1)).length = k + 1 := by simp [h]; omega
  by_cases hj : k = j
  · subst hj
    rw [if_pos rfl, List.getElem?_append_left (by omega), List.getElem?_take, if_pos (by omega), hz, if_pos (by simp [h]; omega)]
  · rw [if_neg hj]
    by_cases hlt : j < k
    · rw [List.getElem?_append_left (by omega), List.getElem?_append_left (by omega), List.getElem?_take, List.getElem?_take, if_pos (by omega), if_pos hlt]
    · rw [List.getElem?_append_right (by omega), List.getElem?_append_right (by omega), hl, hl', List.getElem?_drop, List.getElem?_drop]
      congr 1; omega

/-! ### grades -/
def meetG0 (a b : Grade) : Grade := ⟨maxI a.lc b.lc, minI a.hc b.hc, maxI a.lm b.lm, minI a.hm b.hm, maxI a.ls b.ls, minI a.hs b.hs⟩
def meetOk (a b : Grade) : Bool := gradeOk a && gradeOk b && gradeOk (meetG0 a b)
def meetG (a b : Grade) : Grade := if meetOk a b then meetG0 a b else ⟨0, 0, 0, 0, 0, 0⟩
end Go.Proofs.Ytblfbllhkmcbbaa
