/-
  What LadleOf in the program calls: the comparison of two heats by Tap, the sort by it, the test of an end, the search by it.
-/
import Derived.Test.YtblfbllhkmcbbaaSf
import Derived.Test.YtblfbllhkmcbbaaLp
import Derived.BigQuiet
namespace Go.Proofs.Ytblfbllhkmcbbaa
open Go.RowKit Go.Sort Go.Shelf
set_option linter.unusedVariables false
set_option linter.unusedSimpArgs false
def natsO (l : List Nat) : List Int := l.map fun (x : Nat) => (x : Int)
theorem natsO_len (l : List Nat) : (natsO l).length = l.length := by simp [natsO]
theorem natsO_at {l : List Nat} {k x : Nat} (h : l[k]? = some x) : (natsO l)[k]? = some (x : Int) := by simp [natsO, h]
theorem cmp_any (W : World) (B b off x y : Nat) (h : List Heat) (c : Nat) (tx ty : Int) (hB : W.cell? ⟨B, 0, none⟩ = some (.slice (some ⟨b, off, none⟩) h.length c)) (hx : x < h.length) (hy : y < h.length)
    (cx : W.cell? ⟨b, off + x * 3 + 1, none⟩ = some (.int .i64 tx)) (cy : W.cell? ⟨b, off + y * 3 + 1, none⟩ = some (.int .i64 ty)) (b1 : 0 ≤ tx ∧ tx ≤ 999) (b2 : 0 ≤ ty ∧ ty ≤ 999) :
    Calls Try.prog 70 #[.int .i64 x, .int .i64 y, .pointer (some ⟨B, 0, none⟩)] W fun e w' => e = .returned (.int .i64 (tx - ty)) ∧ ∃ q, w' = W.drewN q := by
  have hxi : (x : Int) < h.length := by omega
  have hyi : (y : Int) < h.length := by omega
  have hw : IntKind.i64.wrap (tx - ty) = tx - ty := wrap_in (by omega) (by omega)
  go_enter Try.func70, Try.ntmps70
  go_wp2_with fail
  go_quiet (fail)
  go_wp2_with fail
  go_ret
  exact ⟨rfl, _, rfl⟩
theorem leq_any (W : World) (B B2 b off i : Nat) (h : List Heat) (c : Nat) (ti e : Int) (hB : W.cell? ⟨B, 0, none⟩ = some (.slice (some ⟨b, off, none⟩) h.length c)) (hB2 : W.cell? ⟨B2, 0, none⟩ = some (.int .i64 i)) (hi : i < h.length)
    (ci : W.cell? ⟨b, off + i * 3 + 1, none⟩ = some (.int .i64 ti)) :
    Calls Try.prog 72 #[.int .i64 e, .pointer (some ⟨B, 0, none⟩), .pointer (some ⟨B2, 0, none⟩)] W fun r w' => r = .returned (.bool (decide (e ≤ ti))) ∧ ∃ q, w' = W.drewN q := by
  have hii : (i : Int) < h.length := by omega
  go_enter Try.func72, Try.ntmps72
  go_wp2_with fail
  go_ret
  exact ⟨rfl, 0, rfl⟩
def encN (n x : Nat) : Value := .int .i64 ((x % n : Nat) : Int)
theorem grown_sort {n0 : Nat} {w : World} {g m : Nat} (d : Array Nat) : Only g (g + 1) w ((putRow (encN n0) w g 0 d).drewN m) := by
  refine ⟨rfl, rfl, rfl, by simp, fun k hk hne => ?_⟩
  have : g ≠ k := by omega
  simp [putRow, mapBlock, Array.getElem?_modify, this]
theorem tapN_mod (h : List Heat) (x : Nat) : tapN h (x % h.length) = tapN h x := by
  unfold tapN
  rw [Nat.mod_mod]
theorem sortWorld_other {α : Type} [Inhabited α] (enc : α → Value) (w : World) (g m : Nat) (dk : Array α) (os : Array Obj) (b o : Nat) (hb : b < w.heap.size) (hg : b ≠ g) : (sortWorld enc w g 0 m dk os).cell? ⟨b, o, none⟩ = w.cell? ⟨b, o, none⟩ := by
  unfold sortWorld
  rw [cell?_grow _ _ _ (by simpa [Sort.ahead] using hb), cell?_putRow_other _ _ _ _ _ _ (Or.inl hg)]
  rfl
theorem range_own {w : World} {g n cap j : Nat} (hO : Own w g (g + 1) 3 1 (some ⟨g, 0, none⟩) n cap (ints (natsO (List.range n)))) (hj : j < n) : w.cell? ⟨g, j, none⟩ = some (.int .i64 (j : Int)) ∧ w.frozen? ⟨g, j, none⟩ = false := by
  obtain ⟨h1, h2, h3⟩ := num_own hO (natsO_at (show (List.range n)[j]? = some j by simp [hj]))
  exact ⟨h1, h2⟩
set_option maxHeartbeats 1000000 in
theorem insert_any (w : World) (g cap B c lo : Nat) (A : Option Addr) (h : List Heat) (t : List Int) (q : Caster) (hk : castOk h q t = true)
    (hO : Own w g (g + 1) 3 1 (some ⟨g, 0, none⟩) h.length cap (ints (natsO (List.range h.length)))) (hg : g < w.heap.size)
    (hs : Sees w lo A (ints (flatH h))) (hB : w.cell? ⟨B, 0, none⟩ = some (.slice A h.length c)) (hBl : B < lo) (hlo : lo ≤ g) :
    Calls Try.prog 92 #[.slice (some ⟨g, 0, none⟩) h.length cap, .int .i64 0, .int .i64 h.length, .func (.func 70) #[] #[.pointer (some ⟨B, 0, none⟩)]] w fun e w' => e = .returned (.tuple #[]) ∧ Sees w' w'.heap.size (some ⟨g, 0, none⟩) (ints (natsO (ordL (tapN h) h.length))) ∧ Only g (g + 1) w w' := by
  have h6 := heats_len (castOk_parts hk).1
  by_cases h0 : h.length = 0
  · rw [h0]
    clear hO hB
    go_enter Try.func92, Try.ntmps92
    go_wp2_with fail
    go_loopw [8] (fun kv wr => kv = .int .i64 1 ∧ wr = w) (fun _ _ => 0)
    case atStart => exact ⟨rfl, rfl⟩
    case round =>
      obtain ⟨rfl, rfl⟩ := hrel
      go_wp2_with fail
      go_end0
      exact ⟨rfl, .inl (by simp [natsO, ints, List.eq_nil_of_length_eq_zero (ordL_len (tapN h) 0)]), Only.refl _ _ _⟩
  · have hn0 : 0 < h.length := by omega
    have hH : Holds (encN h.length) w g 0 (Array.range h.length) := by
      intro j hj
      rw [Array.size_range] at hj
      rw [range_at! hj, Nat.zero_add]
      have := range_own hO hj
      refine ⟨?_, this.2⟩
      rw [this.1]
      unfold encN
      rw [Nat.mod_eq_of_lt hj]
    have eg : ∀ args w, (callFunc 70 args).run Try.prog w = .ok (.enter 70 args) w := enters_of Try.func70 (by kernel_rfl) rfl
    have hcmp : CmpReads Try.prog 70 #[.pointer (some ⟨B, 0, none⟩)] (encN h.length) (fun x y => tapN h x - tapN h y) g 0 (Array.range h.length).size w := by
      intro m os dk hdk x y
      have hx : x % h.length < h.length := Nat.mod_lt _ hn0
      have hy : y % h.length < h.length := Nat.mod_lt _ hn0
      obtain ⟨b, off, rfl, hbB, cx, x0, x1⟩ := tap_facts hs hk hx
      obtain ⟨b', off', hA, hbB', cy, y0, y1⟩ := tap_facts hs hk hy
      injection hA with hA
      injection hA with e1 e2
      subst e1; subst e2
      rw [tapN_mod] at cx x0 x1 cy y0 y1
      exact cmp_any _ B b off _ _ h c _ _ ((sortWorld_other _ _ _ _ _ _ _ _ (by omega) (by omega)).trans hB) hx hy ((sortWorld_other _ _ _ _ _ _ _ _ (by omega) (by omega)).trans cx) ((sortWorld_other _ _ _ _ _ _ _ _ (by omega) (by omega)).trans cy) ⟨x0, x1⟩ ⟨y0, y1⟩
    have hcon := Any.insertionSortCmpFunc_one Try.sortL (encN h.length) (fun _ => rfl) (fun x y => tapN h x - tapN h y) 70 #[.pointer (some ⟨B, 0, none⟩)] g 0 cap 0 h.length (Array.range h.length) w eg hcmp hH (Nat.zero_le _) (by simp) (by simp; omega)
    rw [Array.size_range] at hcon
    change Calls Try.prog 92 _ _ _ at hcon
    refine hcon.mono ?_
    rintro e w' ⟨rfl, m, rfl⟩
    refine ⟨rfl, .inr ⟨g, 0, rfl, by simpa using hg, fun j u hu => ?_⟩, grown_sort _⟩
    have hj : j < h.length := by
      have := (List.getElem?_eq_some_iff.1 hu).1
      rwa [ints_length, natsO_len, ordL_len] at this
    have hA := ordL_at! (T := tapN h) hj
    have hlt := ordL_mem.1 (List.mem_of_getElem? hA)
    have hu2 := ints_get (natsO_at hA)
    rw [hu2] at hu
    injection hu with hu
    rw [← hu]
    have hP := (holds_putRow (encN h.length) w g 0 (Array.range h.length) (ordA (tapN h) h.length) hH (by rw [(ordA_facts _ _).1, Array.size_range]) j (by rw [(ordA_facts _ _).1]; exact hj)).1
    refine Eq.trans hP ?_
    unfold encN
    rw [Nat.mod_eq_of_lt hlt]
end Go.Proofs.Ytblfbllhkmcbbaa
