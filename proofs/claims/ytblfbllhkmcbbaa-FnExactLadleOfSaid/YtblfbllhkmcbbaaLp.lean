/-
  Ladles of heats that are cast: the taps and ends of heats, the ladles as both programs give them.
-/
import Derived.Test.YtblfbllhkmcbbaaPo
import Derived.Test.YtblfbllhkmcbbaaCw
import Derived.Test.YtblfbllhkmcbbaaCt
import Derived.Test.YtblfbllhkmcbbaaApp1
import Derived.Test.YtblfbllhkmcbbaaTg
namespace Go.Proofs.Ytblfbllhkmcbbaa
open Go.RowKit
set_option linter.unusedVariables false
def tapN (h : List Heat) (x : Nat) : Int := match h[x % h.length]? with
  | some a => a.t
  | none => 0
def endN (t : List Int) (x : Nat) : Int := t.getD (x + 1) 0
theorem tapN_at {h : List Heat} {x : Nat} {a : Heat} (ha : h[x]? = some a) : tapN h x = a.t := by
  have hx := (List.getElem?_eq_some_iff.1 ha).1
  unfold tapN
  rw [Nat.mod_eq_of_lt hx, ha]
theorem endN_at {t : List Int} {x : Nat} {y : Int} (hy : t[x + 1]? = some y) : endN t x = y := by
  unfold endN
  rw [List.getD_eq_getElem?_getD, hy]
  rfl
theorem end_tap {h : List Heat} {t : List Int} {f s : Int} (hk : castOk h ⟨f, s⟩ t = true) : ∀ i, i < h.length → tapN h i ≤ endN t i := by
  intro i hi
  obtain ⟨p1, p2, p3, p4, p5⟩ := castOk_parts hk
  have h1 := List.getElem?_eq_getElem hi
  have h2 := List.getElem?_eq_getElem (l := t) (i := i) (by omega)
  have h3 := List.getElem?_eq_getElem (l := t) (i := i + 1) (by omega)
  have q := all_at p5 (trip_at h1 h2 h3)
  have hb := heat_bounds p1 h1
  have hc := caster_bounds p2
  simp only [castB, Bool.and_eq_true, decide_eq_true_eq, inB_iff] at q
  rw [tapN_at h1, endN_at h3]
  simp only at hc
  omega
def ladS (h : List Heat) (t : List Int) (k : Nat) : List (Option Nat) × List Int := ladK (tapN h) (endN t) h.length k
def ladleOf (h : List Heat) (q : Caster) (t : List Int) : List Int := if castOk h q t = true then outS (ladS h t h.length).1 else []
theorem ladleOf_eq {h : List Heat} {q : Caster} {t : List Int} (hk : castOk h q t = true) : ladleOf h q t = outS (ladS h t h.length).1 := if_pos hk
theorem ladleOf_bad {h : List Heat} {q : Caster} {t : List Int} (hk : castOk h q t = false) : ladleOf h q t = [] := if_neg (by rw [hk]; decide)
theorem outS_len (l : List (Option Nat)) : (outS l).length = l.length := by simp [outS]
theorem outS_at {l : List (Option Nat)} {k : Nat} {o : Option Nat} (h : l[k]? = some o) : (outS l)[k]? = some (optS o) := by simp [outS, h]
theorem outI_len (l : List (Option Nat)) : (outI l).length = l.length := by simp [outI]
theorem outI_at {l : List (Option Nat)} {k : Nat} {o : Option Nat} (h : l[k]? = some o) : (outI l)[k]? = some (optI o) := by simp [outI, h]
theorem outS_set (l : List (Option Nat)) (k : Nat) (o : Option Nat) : outS (l.set k o) = (outS l).set k (optS o) := by simp [outS, List.map_set]
theorem outI_set (l : List (Option Nat)) (k : Nat) (o : Option Nat) : outI (l.set k o) = (outI l).set k (optI o) := by simp [outI, List.map_set]
theorem outS_none (n : Nat) : outS (List.replicate n none) = List.replicate n (-1) := by simp [outS, optS]
theorem outI_none (n : Nat) : outI (List.replicate n none) = List.replicate n 0 := by simp [outI, optI]
theorem ladS_ok {h : List Heat} {t : List Int} {f s : Int} (hk : castOk h ⟨f, s⟩ t = true) (k : Nat) (hkn : k ≤ h.length) : LadOk (tapN h) (endN t) h.length k (ladS h t k) := ladK_ok (end_tap hk) k hkn
theorem ladleOf_le (h : List Heat) (f s : Int) (t : List Int) : (ladleOf h ⟨f, s⟩ t).length ≤ 6 := by
  unfold ladleOf
  split
  · rename_i hk
    rw [outS_len, (ladS_ok hk _ (Nat.le_refl _)).len]
    exact heats_len (castOk_parts hk).1
  · simp
theorem ladS_zero (h : List Heat) (t : List Int) : ladS h t 0 = (List.replicate h.length none, []) := rfl
theorem ord_at {h : List Heat} {k : Nat} (hk : k < h.length) : ∃ i, (ordL (tapN h) h.length)[k]? = some i ∧ i < h.length := by
  have := List.getElem?_eq_getElem (l := ordL (tapN h) h.length) (i := k) (by rw [ordL_len]; exact hk)
  exact ⟨_, this, ordL_mem.1 (List.mem_of_getElem? this)⟩
def freeN (l : List (Option Nat)) (x : Nat) : Bool := decide (l[x]? = some none)
theorem pick_is {h : List Heat} {t : List Int} {f s : Int} {k i : Nat} (hk : castOk h ⟨f, s⟩ t = true) (hkn : k < h.length) (hi : (ordL (tapN h) h.length)[k]? = some i) : pickM (freeN (ladS h t k).1) (tapN h) h.length = some i := by
  refine pickM_ord hi fun x hx => ?_
  unfold freeN
  rw [decide_eq_true_eq]
  exact (ladS_ok hk k (by omega)).free x hx
theorem pickM_skip {free : Nat → Bool} {T : Nat → Int} {j : Nat} (h : free j = false) : pickM free T (j + 1) = pickM free T j := by
  rw [pickM, if_neg (by rw [h]; decide)]
theorem pickM_next {free : Nat → Bool} {T : Nat → Int} {j : Nat} {o : Option Nat} (h : free j = true) (ho : pickM free T j = o) :
    (o = none → pickM free T (j + 1) = some j) ∧ ∀ b, o = some b → pickM free T (j + 1) = if T j < T b then some j else some b := by
  rw [pickM, if_pos h, ho]
  exact ⟨fun e => by rw [e], fun b e => by rw [e]⟩
/-- What is read of a heat. -/
theorem tap_facts {w : World} {B x : Nat} {A : Option Addr} {h : List Heat} {t : List Int} {q : Caster} (hs : Sees w B A (ints (flatH h))) (hk : castOk h q t = true) (hx : x < h.length) :
    ∃ b off, A = some ⟨b, off, none⟩ ∧ b < B ∧ w.cell? ⟨b, off + x * 3 + 1, none⟩ = some (.int .i64 (tapN h x)) ∧ 0 ≤ tapN h x ∧ tapN h x ≤ 999 := by
  obtain ⟨b, off, a1, a2, a3, hA, hbB, hl, c0, c1, c2⟩ := hs.heat_at hx
  have hb := heat_bounds (castOk_parts hk).1 hl
  have e := tapN_at hl
  simp only at hb e
  rw [e]
  exact ⟨b, off, hA, hbB, c1, hb.2.2.1, hb.2.2.2.1⟩
/-- What is read of the end of a heat. -/
theorem end_facts {w : World} {B x : Nat} {A : Option Addr} {h : List Heat} {t : List Int} {q : Caster} (hs : Sees w B A (ints t)) (hk : castOk h q t = true) (hx : x < h.length) :
    ∃ b off, A = some ⟨b, off, none⟩ ∧ b < B ∧ w.cell? ⟨b, off + (x + 1), none⟩ = some (.int .i64 (endN t x)) ∧ 0 ≤ endN t x ∧ endN t x ≤ 9999 := by
  have hl := castOk_len hk
  obtain ⟨b, off, y, hA, hbB, hy, c0⟩ := hs.int_at (k := x + 1) (by omega)
  have hb := minute_bounds (castOk_parts hk).2.2.2.1 hy
  rw [endN_at hy]
  exact ⟨b, off, hA, hbB, c0, hb.1, hb.2⟩
end Go.Proofs.Ytblfbllhkmcbbaa
