/-
  The stable sort of up to 20 places and the search for an end, as LadleOf in the program calls them.
-/
import Derived.Test.YtblfbllhkmcbbaaLq
namespace Go.Proofs.Ytblfbllhkmcbbaa
open Go.RowKit Go.Sort Go.Shelf
set_option linter.unusedVariables false
set_option linter.unusedSimpArgs false
def Sorted1 (w : World) (g : Nat) (h : List Heat) (e : Ending) (w' : World) : Prop := e = .returned (.tuple #[]) ∧ Sees w' w'.heap.size (some ⟨g, 0, none⟩) (ints (natsO (ordL (tapN h) h.length))) ∧ Only g (g + 1) w w'
theorem stable_any (w : World) (g cap B c lo : Nat) (A : Option Addr) (h : List Heat) (t : List Int) (q : Caster) (hk : castOk h q t = true)
    (hO : Own w g (g + 1) 3 1 (some ⟨g, 0, none⟩) h.length cap (ints (natsO (List.range h.length)))) (hg : g < w.heap.size)
    (hs : Sees w lo A (ints (flatH h))) (hB : w.cell? ⟨B, 0, none⟩ = some (.slice A h.length c)) (hBl : B < lo) (hlo : lo ≤ g) :
    Calls Try.prog 87 #[.slice (some ⟨g, 0, none⟩) h.length cap, .int .i64 h.length, .func (.func 70) #[] #[.pointer (some ⟨B, 0, none⟩)]] w (Sorted1 w g h) := by
  have h6 := heats_len (castOk_parts hk).1
  have hcon := insert_any w g cap B c lo A h t q hk hO hg hs hB hBl hlo
  have e1 : ¬ ((20 : Int) ≤ (h.length : Int)) := by omega
  have e2 : ¬ ((20 : Int) < (h.length : Int)) := by omega
  clear hO hg hs hB hBl hlo hk
  unfold Sorted1
  go_enter Try.func87, Try.ntmps87
  go_wp2_with fail
  go_loopw [7, 8] (fun a b wr => a = .int .i64 0 ∧ b = .int .i64 20 ∧ wr = w) (fun _ _ _ => 0)
  case atStart => exact ⟨rfl, rfl, rfl⟩
  case round =>
    obtain ⟨rfl, rfl, rfl⟩ := hrel
    go_wp2_with fail
    refine hcon.mono ?_
    rintro _ w2 ⟨rfl, hS, hon⟩
    clear hcon
    go_wp2_with fail
    go_loopw [6, 7, 8, 9] (fun a b d e wx => a = .int .i64 20 ∧ wx = w2) (fun _ _ _ _ _ => 0)
    case atStart => exact ⟨rfl, rfl⟩
    case round =>
      obtain ⟨rfl, rfl⟩ := hrel
      go_wp2_with fail
      go_end0
      exact ⟨rfl, hS, hon⟩
theorem sortStable_any (w : World) (g cap B c lo : Nat) (A : Option Addr) (h : List Heat) (t : List Int) (q : Caster) (hk : castOk h q t = true)
    (hO : Own w g (g + 1) 3 1 (some ⟨g, 0, none⟩) h.length cap (ints (natsO (List.range h.length)))) (hg : g < w.heap.size)
    (hs : Sees w lo A (ints (flatH h))) (hB : w.cell? ⟨B, 0, none⟩ = some (.slice A h.length c)) (hBl : B < lo) (hlo : lo ≤ g) :
    Calls Try.prog 69 #[.slice (some ⟨g, 0, none⟩) h.length cap, .func (.func 70) #[] #[.pointer (some ⟨B, 0, none⟩)]] w (Sorted1 w g h) := by
  have hcon := stable_any w g cap B c lo A h t q hk hO hg hs hB hBl hlo
  clear hO hg hs hB hBl hlo hk
  go_enter Try.func69, Try.ntmps69
  go_wp2_with fail
  refine hcon.mono ?_
  rintro _ w2 ⟨rfl, hS, hon⟩
  go_wp2_with fail
  go_end0
  exact ⟨rfl, hS, hon⟩
def idxI (ends : List Int) (t : Int) : Int := if idxLe ends t < ends.length then (idxLe ends t : Int) else -1
theorem idxBy_le (ends : List Int) (t : Int) : Lib.idxBy (fun _ y => decide (y ≤ t)) (ends.take ends.length) default = idxI ends t := by
  unfold idxI
  by_cases hl : idxLe ends t < ends.length
  · rw [if_pos hl]
    obtain ⟨e, q1, q2⟩ := idxLe_at hl
    refine Lib.idxBy_hit _ ends ends.length (idxLe ends t) default hl (Nat.le_refl _) ?_ fun j hj => ?_
    · rw [getElem!_pos ends _ hl]
      rw [List.getElem?_eq_getElem hl] at q1
      injection q1 with q1
      rw [q1]
      exact decide_eq_true q2
    · have hjl : j < ends.length := by omega
      rw [getElem!_pos ends _ hjl]
      have := idxLe_lt hj (List.getElem?_eq_getElem hjl)
      exact decide_eq_false (by omega)
  · rw [if_neg hl]
    have hle := idxLe_le ends t
    have he : idxLe ends t = ends.length := by omega
    rw [List.take_length]
    refine Lib.idxByFrom_miss _ _ ends 0 fun j hj => ?_
    rw [getElem!_pos ends _ hj]
    have := idxLe_lt (by omega : j < idxLe ends t) (List.getElem?_eq_getElem hj)
    exact decide_eq_false (by omega)
theorem index_any (w : World) (Ae A : Option Addr) (ce c B B2 lo i : Nat) (ends : List Int) (h : List Heat) (t : List Int) (q : Caster) (hk : castOk h q t = true) (hi : i < h.length)
    (hE : Sees w w.heap.size Ae (ints ends)) (hel : ends.length ≤ 6) (hs : Sees w lo A (ints (flatH h))) (hlo : lo ≤ w.heap.size) (hB : w.cell? ⟨B, 0, none⟩ = some (.slice A h.length c)) (hBl : B < w.heap.size)
    (hB2 : w.cell? ⟨B2, 0, none⟩ = some (.int .i64 i)) (hB2l : B2 < w.heap.size) :
    Calls Try.prog 71 #[.slice Ae ends.length ce, .func (.func 72) #[] #[.pointer (some ⟨B, 0, none⟩), .pointer (some ⟨B2, 0, none⟩)]] w fun e w' => e = .returned (.int .i64 (idxI ends (tapN h i))) ∧ ∃ m, w' = w.drewN m := by
  by_cases h0 : ends.length = 0
  · have hcon := AnyE.slices_IndexFunc_empty Try.idxL Ae ce (.func (.func 72) #[] #[.pointer (some ⟨B, 0, none⟩), .pointer (some ⟨B2, 0, none⟩)]) w
    change Calls Try.prog 71 _ _ _ at hcon
    rw [h0]
    refine hcon.mono ?_
    rintro _ _ ⟨rfl, rfl⟩
    exact ⟨ret_int (by unfold idxI; rw [if_neg (by omega)]), 0, rfl⟩
  · obtain ⟨be, offe, rfl, hbE, hcE⟩ := hE.at_ (k := 0) (by rw [ints_length]; omega)
    have eg : ∀ args w, (callFunc 72 args).run Try.prog w = .ok (.enter 72 args) w := enters_of Try.func72 (by kernel_rfl) rfl
    have hp : PredAt Try.prog 72 #[.pointer (some ⟨B, 0, none⟩), .pointer (some ⟨B2, 0, none⟩)] (Value.int .i64) (fun y => decide (y ≤ tapN h i)) w := by
      intro W x hb
      obtain ⟨b, off, rfl, hbB, ci, x0, x1⟩ := tap_facts (hs.below (hb.mono hlo)) hk hi
      exact leq_any W B B2 b off i h c (tapN h i) x ((hb.cell (p := ⟨B, 0, none⟩) hBl).trans hB) ((hb.cell (p := ⟨B2, 0, none⟩) hB2l).trans hB2) hi ci
    have hcon := AnyE.slices_IndexFunc Try.idxL (Value.int .i64) (fun y => decide (y ≤ tapN h i)) 72 #[.pointer (some ⟨B, 0, none⟩), .pointer (some ⟨B2, 0, none⟩)] eg be offe ends.length ce ends w hp (Nat.le_refl _) (by omega) fun j hj => by
      refine hcE j _ ?_
      rw [getElem!_pos ends j hj]
      exact ints_get (List.getElem?_eq_getElem hj)
    change Calls Try.prog 71 _ _ _ at hcon
    rw [idxBy_le] at hcon
    exact hcon
end Go.Proofs.Ytblfbllhkmcbbaa
