/-
  GradeText in the program and in the reference: the numbers' texts with hyphens and slashes between them.
-/
import Derived.Test.YtlhjncefckidjaaDoorVal
import Derived.Test.YtlhjncefckidjaaDoorSl
import Derived.Test.YtlhjncefckidjaaDoorPt
import Derived.Test.YtlhjncefckidjaaDoorSh
import Derived.Lib.SmallJoins
import Derived.MakeChecks
import Derived.Deep.DrawnRows
namespace Go.Proofs.YtlhjncefckidjaaDoor
open Go.RowKit
set_option linter.unusedVariables false
/-- The library's table of the powers of ten lies in the world. -/
def Pow (w : World) : Prop := Lib.TabIs Tryd.prog w Tryd.powN .u64 Lib.pow10Tab
theorem Pow.below {w w' : World} (h : Pow w) (hb : Below w.heap.size w w') : Pow w' := by
  obtain ⟨g, hg⟩ := Option.isSome_iff_exists.1 (show (Tryd.prog.globalNamed Tryd.powN).isSome = true by kernel_rfl)
  exact Go.Joins.tab_stays hg h hb (Nat.le_refl _)
theorem below_grow (w : World) (k : Nat) (os : Array Obj) : Below w.heap.size w (Go.Sort.grow (w.drewN k) os) :=
  ⟨rfl, rfl, rfl, by simp [Go.Sort.grow], fun i hi => by simp [Go.Sort.grow, Array.getElem?_append_left, hi]⟩
theorem itoa_any (n : Int) (h0 : 0 ≤ n) (h1 : n ≤ 999) (w : World) (ht : Pow w) : Calls Tryd.prog 69 #[.int .i64 n] w fun e w' => e = .returned (.string ⟨(dec n).toArray⟩) ∧ Below w.heap.size w w' := by
  refine (Tryd.strconv_Itoa n (by omega) (by omega) w ht).mono ?_
  rintro e w' ⟨rfl, k, os, rfl⟩
  refine ⟨?_, below_grow w k os⟩
  unfold dec Lib.itoa
  rw [if_neg (by omega)]
theorem bs_app (a b : List UInt8) : (⟨a.toArray⟩ : ByteArray) ++ ⟨b.toArray⟩ = ⟨(a ++ b).toArray⟩ := by
  apply ByteArray.ext
  simp
theorem rangeT_len {a b : Int} (ha0 : 0 ≤ a) (ha1 : a ≤ 999) (hb0 : 0 ≤ b) (hb1 : b ≤ 999) : (rangeT a b).length ≤ 7 := by
  have h1 := (dec_len a ha0 ha1).2
  have h2 := (dec_len b hb0 hb1).2
  simp [rangeT]
  omega
theorem rangeText_any (a b : Int) (ha0 : 0 ≤ a) (ha1 : a ≤ 999) (hb0 : 0 ≤ b) (hb1 : b ≤ 999) (w : World) (ht : Pow w) : Calls Tryd.prog 55 #[.int .i64 a, .int .i64 b] w fun e w' => e = .returned (.string ⟨(rangeT a b).toArray⟩) ∧ Below w.heap.size w w' := by
  go_enter Tryd.func55, Tryd.ntmps55
  go_wp2_with fail
  refine (itoa_any a ha0 ha1 w ht).mono ?_
  rintro _ w1 ⟨rfl, h1⟩
  have hla := (dec_len a ha0 ha1).2
  have hlb := (dec_len b hb0 hb1).2
  go_wp2_with fail
  refine (itoa_any b hb0 hb1 w1 (ht.below h1)).mono ?_
  rintro _ w2 ⟨rfl, h2⟩
  go_wp2_with fail
  go_ret
  refine ⟨?_, below_next h1 h2⟩
  have e : (⟨(dec a).toArray⟩ : ByteArray) ++ ⟨#[45]⟩ ++ ⟨(dec b).toArray⟩ = ⟨(rangeT a b).toArray⟩ := by
    rw [bs_app, bs_app]
    simp [rangeT]
  exact congrArg (fun s => Ending.returned (Value.string s)) e
theorem tmod_nat' (a b : Nat) : Int.tmod (a : Int) (b : Int) = ((a % b : Nat) : Int) := by rw [Int.tmod_eq_emod_of_nonneg (by omega)]; rfl
theorem tdiv_nat' (a b : Nat) : Int.tdiv (a : Int) (b : Int) = ((a / b : Nat) : Int) := by rw [Int.tdiv_eq_ediv_of_nonneg (by omega)]; rfl
theorem conv1 (W : World) (b : Nat) (v : Int) (h : W.cell? ⟨b, 0, none⟩ = some (.int .u8 v)) : (convert 22 9 (.slice (some ⟨b, 0, none⟩) 1 1)).run Tryd.prog W = .ok (.string ⟨#[digB v]⟩) W := by
  have := run_convert_bytes_arg (P := Tryd.prog) W 22 5 Tryd.underlying22 Tryd.underlying5 b 0 1 1 [v] rfl (fun i hi => by
    have h0 : i = 0 := by omega
    subst h0
    simpa using h) 9 Tryd.underlying9
  simpa [strOfNums, digB] using this
theorem conv2 {w w1 : World} {v : Int} (hb : Below (w.alloc (.cells #[.int .u8 v] 5)).drew.heap.size (w.alloc (.cells #[.int .u8 v] 5)).drew w1) : (convert 22 9 (.slice (some ⟨w.heap.size, 0, none⟩) 1 1)).run Tryd.prog w1 = .ok (.string ⟨#[digB v]⟩) w1 :=
  conv1 w1 w.heap.size v (((below_cells hb).1 w.heap.size 0 (by simp)).trans (by simp))
set_option maxRecDepth 20000 in
set_option maxHeartbeats 1000000 in
theorem l1Number_any (n : Nat) : ∀ (w : World), n ≤ 999 → Calls Tryd.prog 56 #[.int .i64 n] w fun e w' => e = .returned (.string ⟨(dec n).toArray⟩) ∧ Below w.heap.size w w' := by
  induction n using Nat.strongRecOn with
  | _ n ih =>
    intro w hn
    have Ih := Lib.hid ih
    clear ih
    by_cases hs : n < 10
    · have hcv := conv1 (w.alloc (.cells #[.int .u8 (48 + (n : Int))] 5)) w.heap.size (48 + (n : Int)) (by simp)
      go_enter Tryd.func56, Tryd.ntmps56
      go_wp2_with fail
      go_ret
      exact ⟨by rw [dec_small hs]; rfl, (Below.refl _ _).alloc (Nat.le_refl _) _⟩
    · have hbig := dec_big hs
      obtain ⟨q, hq0⟩ : ∃ q, q = n / 10 := ⟨_, rfl⟩
      obtain ⟨d, hd0⟩ : ∃ d, d = n % 10 := ⟨_, rfl⟩
      rw [← hq0, ← hd0] at hbig
      have hq1 : q < n := by omega
      have hd1 : d < 10 := by omega
      have hq : Int.tdiv (n : Int) 10 = (q : Int) := by rw [hq0]; exact tdiv_nat' n 10
      have hr : Int.tmod (n : Int) 10 = (d : Int) := by rw [hd0]; exact tmod_nat' n 10
      have hw1 : IntKind.i64.wrap (q : Int) = q := by rw [IntKind.wrap_i64]; omega
      have hw2 : IntKind.i64.wrap (d : Int) = d := by rw [IntKind.wrap_i64]; omega
      have hw3 : IntKind.i64.wrap (48 + (d : Int)) = 48 + d := by rw [IntKind.wrap_i64]; omega
      have hw4 : IntKind.u8.wrap (48 + (d : Int)) = 48 + d := by simp [IntKind.wrap, IntKind.signed, IntKind.bits]; omega
      have hcall := Ih.out q hq1
      have Hbig := Lib.hid hbig
      have Hcall := Lib.hid hcall
      have hcv : ∀ W : World, (convert 22 9 (.slice (some ⟨W.heap.size, 0, none⟩) 1 1)).run Tryd.prog (W.alloc (.cells #[.int .u8 (48 + (d : Int))] 5)) = .ok (.string ⟨#[digB (48 + (d : Int))]⟩) (W.alloc (.cells #[.int .u8 (48 + (d : Int))] 5)) := fun W => conv1 _ _ _ (by simp)
      have hcv3 := conv1 (w.alloc (.cells #[.int .u8 (48 + (d : Int))] 5)).drew w.heap.size (48 + (d : Int)) (by simp)
      have hln := (dec_len (q : Int) (by omega) (by omega)).2
      clear hq0 hd0 hbig hcall
      go_enter Tryd.func56, Tryd.ntmps56
      go_wp2_with fail
      go_region_with (go_at_call 56; refine (Hcall.out _ (by omega)).mono ?_; rintro _ w1 ⟨rfl, hb1⟩; first | (have hcv2 := conv2 hb1) | skip)
      all_goals go_wp2_with fail
      all_goals go_ret
      all_goals
        refine ⟨?_, ?_⟩
        · have e : (⟨(dec (q : Int)).toArray⟩ : ByteArray) ++ ⟨#[digB (48 + (d : Int))]⟩ = ⟨(dec (n : Int)).toArray⟩ := by
            rw [Hbig.out, bs_app]
          exact congrArg (fun s => Ending.returned (Value.string s)) e
        · first
            | exact below_next (((Below.refl _ _).alloc (Nat.le_refl _) _).drew) hb1
            | exact (below_next ((Below.refl _ _).drew) hb1).alloc hb1.size _
theorem number_any (a : Int) (h0 : 0 ≤ a) (h1 : a ≤ 999) (w : World) : Calls Tryd.prog 56 #[.int .i64 a] w fun e w' => e = .returned (.string ⟨(dec a).toArray⟩) ∧ Below w.heap.size w w' := by
  obtain ⟨n, rfl⟩ := Int.eq_ofNat_of_zero_le h0
  exact l1Number_any n w (by omega)
set_option maxHeartbeats 2000000 in
theorem gradeText_any (a b c d e f : Int) (w : World) (ht : Pow w) : Calls Tryd.prog 29 #[.agg #[.int .i64 a, .int .i64 b, .int .i64 c, .int .i64 d, .int .i64 e, .int .i64 f]] w fun E w' => E = .returned (.string ⟨(textG ⟨a, b, c, d, e, f⟩).toArray⟩) ∧ Below w.heap.size w w' := by
  go_enter Tryd.func29, Tryd.ntmps29
  go_wp2_with fail
  have hx := boxed1 w #[.int .i64 a, .int .i64 b, .int .i64 c, .int .i64 d, .int .i64 e, .int .i64 f] 25
  generalize w.alloc _ = V at hx ⊢
  obtain ⟨hbW, hgB, hcB⟩ := hx
  have ht1 := ht.below hbW
  go_wp2_with fail
  refine (gradeValid_any _ _ _ _ _ _ _).mono ?_
  rintro _ w1 ⟨rfl, hb⟩
  have hc1 : ∀ i, w1.cell? ⟨w.heap.size, i, none⟩ = _ := fun i => ((below_cells hb).1 _ i hgB).trans (hcB i)
  replace hgB : w.heap.size < w1.heap.size := Nat.lt_of_lt_of_le hgB hb.size
  have ht2 := ht1.below hb
  replace hbW := below_next hbW hb
  clear hb hcB ht ht1
  cases hg : gradeOk ⟨a, b, c, d, e, f⟩ with
  | false =>
    have ex : textG ⟨a, b, c, d, e, f⟩ = [] := by simp [textG, hg]
    clear hc1
    go_wp2_with fail
    go_ret
    exact ⟨congrArg (fun s => Ending.returned (Value.string s)) (by rw [ex]), hbW⟩
  | true =>
    have hgb := grade_bounds hg
    have ex : textG ⟨a, b, c, d, e, f⟩ = rangeT a b ++ 47 :: (rangeT c d ++ 47 :: rangeT e f) := by simp [textG, hg]
    simp only at hgb
    have l1 := rangeT_len (a := a) (b := b) (by omega) (by omega) (by omega) (by omega)
    have l2 := rangeT_len (a := c) (b := d) (by omega) (by omega) (by omega) (by omega)
    have l3 := rangeT_len (a := e) (b := f) (by omega) (by omega) (by omega) (by omega)
    have C1 := fun W hW => rangeText_any a b (by omega) (by omega) (by omega) (by omega) W hW
    have C2 := fun W hW => rangeText_any c d (by omega) (by omega) (by omega) (by omega) W hW
    have C3 := fun W hW => rangeText_any e f (by omega) (by omega) (by omega) (by omega) W hW
    have z0 : (⟨#[47]⟩ : ByteArray).size = 1 := rfl
    obtain ⟨S1, hS1⟩ : ∃ S : ByteArray, S = ⟨(rangeT a b).toArray⟩ := ⟨_, rfl⟩
    obtain ⟨S2, hS2⟩ : ∃ S : ByteArray, S = ⟨(rangeT c d).toArray⟩ := ⟨_, rfl⟩
    obtain ⟨S3, hS3⟩ : ∃ S : ByteArray, S = ⟨(rangeT e f).toArray⟩ := ⟨_, rfl⟩
    rw [← hS1] at C1
    rw [← hS2] at C2
    rw [← hS3] at C3
    have z1 : S1.size ≤ 7 := by rw [hS1]; simpa [ByteArray.size] using l1
    have z2 : S2.size ≤ 7 := by rw [hS2]; simpa [ByteArray.size] using l2
    have z3 : S3.size ≤ 7 := by rw [hS3]; simpa [ByteArray.size] using l3
    have ey : S1 ++ ⟨#[47]⟩ ++ S2 ++ ⟨#[47]⟩ ++ S3 = ⟨(textG ⟨a, b, c, d, e, f⟩).toArray⟩ := by
      rw [hS1, hS2, hS3, bs_app, bs_app, bs_app, bs_app, ex]
      simp
    have Ey := Lib.hid ey
    have HC1 := Lib.hid C1
    have HC2 := Lib.hid C2
    have HC3 := Lib.hid C3
    clear ex hg ey hS1 hS2 hS3 z0 C1 C2 C3
    go_wp2_with fail
    refine wp_region_noPanic ?_
    refine wp_region_held_drew (S := (fun w' => Below w1.heap.size w1 w' ∧ ∀ b o, b < w1.heap.size → w'.cell? ⟨b, o, none⟩ = w1.cell? ⟨b, o, none⟩)) (by kernel_rfl) ?_ (fun hHeld => ?_)
    · exact held_of ((Below.refl _ _).drew)
    refine wpAnyH_take (i := 0) (oi := _) (v := ?_) (by first | (simp only [List.getElem?_toArray, List.getElem?_cons_zero]; done) | (simp only [List.getElem?_toArray, List.getElem?_cons_zero]; exact rfl)) (by kernel_rfl) (by kernel_rfl) (by kernel_rfl) (fun _ _ _ h => h) (Or.inl ⟨by rfl, ?_⟩) (by assumption) ?_
    rotate_left
    · intro w hSw; (try dsimp only at hSw); go_simp; all_goals with_reducible rfl
    try simp only [Act.put, List.setIfInBounds_toArray, List.set_cons_zero, List.set_cons_succ]
    refine wpAnyH_take (i := 1) (oi := _) (v := ?_) (by first | (simp only [List.getElem?_toArray, List.getElem?_cons_succ, List.getElem?_cons_zero]; done) | (simp only [List.getElem?_toArray, List.getElem?_cons_succ, List.getElem?_cons_zero]; exact rfl)) (by kernel_rfl) (by kernel_rfl) (by kernel_rfl) (fun _ _ _ h => h) (Or.inl ⟨by rfl, ?_⟩) (by assumption) ?_
    rotate_left
    · intro w hSw; (try dsimp only at hSw); go_simp; all_goals with_reducible rfl
    try simp only [Act.put, List.setIfInBounds_toArray, List.set_cons_zero, List.set_cons_succ]
    refine wpAnyH_take (i := 2) (oi := _) (v := ?_) (by first | (simp only [List.getElem?_toArray, List.getElem?_cons_succ, List.getElem?_cons_zero]; done) | (simp only [List.getElem?_toArray, List.getElem?_cons_succ, List.getElem?_cons_zero]; exact rfl)) (by kernel_rfl) (by kernel_rfl) (by kernel_rfl) (fun _ _ _ h => h) (Or.inl ⟨by rfl, ?_⟩) (by assumption) ?_
    rotate_left
    · intro w hSw; (try dsimp only at hSw); go_simp; all_goals with_reducible rfl
    try simp only [Act.put, List.setIfInBounds_toArray, List.set_cons_zero, List.set_cons_succ]
    refine wpAnyH_take (i := 3) (oi := _) (v := ?_) (by first | (simp only [List.getElem?_toArray, List.getElem?_cons_succ, List.getElem?_cons_zero]; done) | (simp only [List.getElem?_toArray, List.getElem?_cons_succ, List.getElem?_cons_zero]; exact rfl)) (by kernel_rfl) (by kernel_rfl) (by kernel_rfl) (fun _ _ _ h => h) (Or.inl ⟨by rfl, ?_⟩) (by assumption) ?_
    rotate_left
    · intro w hSw; (try dsimp only at hSw); go_simp; all_goals with_reducible rfl
    try simp only [Act.put, List.setIfInBounds_toArray, List.set_cons_zero, List.set_cons_succ]
    refine wpAnyH_take (i := 6) (oi := _) (v := ?_) (by first | (simp only [List.getElem?_toArray, List.getElem?_cons_succ, List.getElem?_cons_zero]; done) | (simp only [List.getElem?_toArray, List.getElem?_cons_succ, List.getElem?_cons_zero]; exact rfl)) (by kernel_rfl) (by kernel_rfl) (by kernel_rfl) (fun _ _ _ h => h) (Or.inl ⟨by rfl, ?_⟩) (by assumption) ?_
    rotate_left
    · intro w hSw; (try dsimp only at hSw); go_simp; all_goals with_reducible rfl
    try simp only [Act.put, List.setIfInBounds_toArray, List.set_cons_zero, List.set_cons_succ]
    refine wpAnyH_take (i := 7) (oi := _) (v := ?_) (by first | (simp only [List.getElem?_toArray, List.getElem?_cons_succ, List.getElem?_cons_zero]; done) | (simp only [List.getElem?_toArray, List.getElem?_cons_succ, List.getElem?_cons_zero]; exact rfl)) (by kernel_rfl) (by kernel_rfl) (by kernel_rfl) (fun _ _ _ h => h) (Or.inl ⟨by rfl, ?_⟩) (by assumption) ?_
    rotate_left
    · intro w hSw; (try dsimp only at hSw); go_simp; all_goals with_reducible rfl
    try simp only [Act.put, List.setIfInBounds_toArray, List.set_cons_zero, List.set_cons_succ]
    refine wpAnyH_take (i := 8) (oi := _) (v := ?_) (by first | (simp only [List.getElem?_toArray, List.getElem?_cons_succ, List.getElem?_cons_zero]; done) | (simp only [List.getElem?_toArray, List.getElem?_cons_succ, List.getElem?_cons_zero]; exact rfl)) (by kernel_rfl) (by kernel_rfl) (by kernel_rfl) (fun _ _ _ h => h) (Or.inl ⟨by rfl, ?_⟩) (by assumption) ?_
    rotate_left
    · intro w hSw; (try dsimp only at hSw); go_simp; all_goals with_reducible rfl
    try simp only [Act.put, List.setIfInBounds_toArray, List.set_cons_zero, List.set_cons_succ]
    refine wpAnyH_take (i := 9) (oi := _) (v := ?_) (by first | (simp only [List.getElem?_toArray, List.getElem?_cons_succ, List.getElem?_cons_zero]; done) | (simp only [List.getElem?_toArray, List.getElem?_cons_succ, List.getElem?_cons_zero]; exact rfl)) (by kernel_rfl) (by kernel_rfl) (by kernel_rfl) (fun _ _ _ h => h) (Or.inl ⟨by rfl, ?_⟩) (by assumption) ?_
    rotate_left
    · intro w hSw; (try dsimp only at hSw); go_simp; all_goals with_reducible rfl
    try simp only [Act.put, List.setIfInBounds_toArray, List.set_cons_zero, List.set_cons_succ]
    refine wpAnyH_take (i := 13) (oi := _) (v := ?_) (by first | (simp only [List.getElem?_toArray, List.getElem?_cons_succ, List.getElem?_cons_zero]; done) | (simp only [List.getElem?_toArray, List.getElem?_cons_succ, List.getElem?_cons_zero]; exact rfl)) (by kernel_rfl) (by kernel_rfl) (by kernel_rfl) (fun _ _ _ h => h) (Or.inl ⟨by rfl, ?_⟩) (by assumption) ?_
    rotate_left
    · intro w hSw; (try dsimp only at hSw); go_simp; all_goals with_reducible rfl
    try simp only [Act.put, List.setIfInBounds_toArray, List.set_cons_zero, List.set_cons_succ]
    refine wpAnyH_take (i := 14) (oi := _) (v := ?_) (by first | (simp only [List.getElem?_toArray, List.getElem?_cons_succ, List.getElem?_cons_zero]; done) | (simp only [List.getElem?_toArray, List.getElem?_cons_succ, List.getElem?_cons_zero]; exact rfl)) (by kernel_rfl) (by kernel_rfl) (by kernel_rfl) (fun _ _ _ h => h) (Or.inl ⟨by rfl, ?_⟩) (by assumption) ?_
    rotate_left
    · intro w hSw; (try dsimp only at hSw); go_simp; all_goals with_reducible rfl
    try simp only [Act.put, List.setIfInBounds_toArray, List.set_cons_zero, List.set_cons_succ]
    refine wpAnyH_take (i := 15) (oi := _) (v := ?_) (by first | (simp only [List.getElem?_toArray, List.getElem?_cons_succ, List.getElem?_cons_zero]; done) | (simp only [List.getElem?_toArray, List.getElem?_cons_succ, List.getElem?_cons_zero]; exact rfl)) (by kernel_rfl) (by kernel_rfl) (by kernel_rfl) (fun _ _ _ h => h) (Or.inl ⟨by rfl, ?_⟩) (by assumption) ?_
    rotate_left
    · intro w hSw; (try dsimp only at hSw); go_simp; all_goals with_reducible rfl
    try simp only [Act.put, List.setIfInBounds_toArray, List.set_cons_zero, List.set_cons_succ]
    refine wpAnyH_take (i := 16) (oi := _) (v := ?_) (by first | (simp only [List.getElem?_toArray, List.getElem?_cons_succ, List.getElem?_cons_zero]; done) | (simp only [List.getElem?_toArray, List.getElem?_cons_succ, List.getElem?_cons_zero]; exact rfl)) (by kernel_rfl) (by kernel_rfl) (by kernel_rfl) (fun _ _ _ h => h) (Or.inl ⟨by rfl, ?_⟩) (by assumption) ?_
    rotate_left
    · intro w hSw; (try dsimp only at hSw); go_simp; all_goals with_reducible rfl
    try simp only [Act.put, List.setIfInBounds_toArray, List.set_cons_zero, List.set_cons_succ]
    refine wpAnyH_ready (rs := [4]) (by kernel_rfl) (by simp) ?_
    refine AllReadyH.cons (o := _) (by first | (simp only [List.getElem?_toArray, List.getElem?_cons_succ, List.getElem?_cons_zero]; done) | (simp only [List.getElem?_toArray, List.getElem?_cons_succ, List.getElem?_cons_zero]; exact rfl)) (fun K hK => ?_) AllReadyH.nil
    go_simp
    refine (HC1.out _ (ht2.below hHeld.1)).mono ?_
    rintro _ v1 ⟨rfl, hbq1⟩
    replace hbq1 := held_call hHeld hbq1
    clear hHeld
    refine hK.out _ _ hbq1 (fun hHeld => ?_)
    clear hK K
    try simp only [Act.put, List.setIfInBounds_toArray, List.set_cons_zero, List.set_cons_succ]
    refine wpAnyH_take (i := 5) (oi := _) (v := ?_) (by first | (simp only [List.getElem?_toArray, List.getElem?_cons_succ, List.getElem?_cons_zero]; done) | (simp only [List.getElem?_toArray, List.getElem?_cons_succ, List.getElem?_cons_zero]; exact rfl)) (by kernel_rfl) (by kernel_rfl) (by kernel_rfl) (fun _ _ _ h => h) (Or.inl ⟨by rfl, ?_⟩) (by assumption) ?_
    rotate_left
    · intro w hSw; (try dsimp only at hSw); go_simp; rw [if_neg (by omega)]
    try simp only [Act.put, List.setIfInBounds_toArray, List.set_cons_zero, List.set_cons_succ]
    refine wpAnyH_ready (rs := [10]) (by kernel_rfl) (by simp) ?_
    refine AllReadyH.cons (o := _) (by first | (simp only [List.getElem?_toArray, List.getElem?_cons_succ, List.getElem?_cons_zero]; done) | (simp only [List.getElem?_toArray, List.getElem?_cons_succ, List.getElem?_cons_zero]; exact rfl)) (fun K hK => ?_) AllReadyH.nil
    go_simp
    refine (HC2.out _ (ht2.below hHeld.1)).mono ?_
    rintro _ v2 ⟨rfl, hbq2⟩
    replace hbq2 := held_call hHeld hbq2
    clear hHeld
    refine hK.out _ _ hbq2 (fun hHeld => ?_)
    clear hK K
    try simp only [Act.put, List.setIfInBounds_toArray, List.set_cons_zero, List.set_cons_succ]
    refine wpAnyH_take (i := 11) (oi := _) (v := ?_) (by first | (simp only [List.getElem?_toArray, List.getElem?_cons_succ, List.getElem?_cons_zero]; done) | (simp only [List.getElem?_toArray, List.getElem?_cons_succ, List.getElem?_cons_zero]; exact rfl)) (by kernel_rfl) (by kernel_rfl) (by kernel_rfl) (fun _ _ _ h => h) (Or.inl ⟨by rfl, ?_⟩) (by assumption) ?_
    rotate_left
    · intro w hSw; (try dsimp only at hSw); go_simp; rw [if_neg (by omega)]
    try simp only [Act.put, List.setIfInBounds_toArray, List.set_cons_zero, List.set_cons_succ]
    refine wpAnyH_take (i := 12) (oi := _) (v := ?_) (by first | (simp only [List.getElem?_toArray, List.getElem?_cons_succ, List.getElem?_cons_zero]; done) | (simp only [List.getElem?_toArray, List.getElem?_cons_succ, List.getElem?_cons_zero]; exact rfl)) (by kernel_rfl) (by kernel_rfl) (by kernel_rfl) (fun _ _ _ h => h) (Or.inl ⟨by rfl, ?_⟩) (by assumption) ?_
    rotate_left
    · intro w hSw; (try dsimp only at hSw); go_simp; rw [if_neg (by omega)]
    try simp only [Act.put, List.setIfInBounds_toArray, List.set_cons_zero, List.set_cons_succ]
    refine wpAnyH_ready (rs := [17]) (by kernel_rfl) (by simp) ?_
    refine AllReadyH.cons (o := _) (by first | (simp only [List.getElem?_toArray, List.getElem?_cons_succ, List.getElem?_cons_zero]; done) | (simp only [List.getElem?_toArray, List.getElem?_cons_succ, List.getElem?_cons_zero]; exact rfl)) (fun K hK => ?_) AllReadyH.nil
    go_simp
    refine (HC3.out _ (ht2.below hHeld.1)).mono ?_
    rintro _ v3 ⟨rfl, hbq3⟩
    replace hbq3 := held_call hHeld hbq3
    clear hHeld
    refine hK.out _ _ hbq3 (fun hHeld => ?_)
    clear hK K
    try simp only [Act.put, List.setIfInBounds_toArray, List.set_cons_zero, List.set_cons_succ]
    refine wpAnyH_take (i := 18) (oi := _) (v := ?_) (by first | (simp only [List.getElem?_toArray, List.getElem?_cons_succ, List.getElem?_cons_zero]; done) | (simp only [List.getElem?_toArray, List.getElem?_cons_succ, List.getElem?_cons_zero]; exact rfl)) (by kernel_rfl) (by kernel_rfl) (by kernel_rfl) (fun _ _ _ h => h) (Or.inl ⟨by rfl, ?_⟩) (by assumption) ?_
    rotate_left
    · intro w hSw; (try dsimp only at hSw); go_simp; rw [if_neg (by omega)]
    try simp only [Act.put, List.setIfInBounds_toArray, List.set_cons_zero, List.set_cons_succ]
    refine wpAnyH_take (i := 19) (oi := _) (v := ?_) (by first | (simp only [List.getElem?_toArray, List.getElem?_cons_succ, List.getElem?_cons_zero]; done) | (simp only [List.getElem?_toArray, List.getElem?_cons_succ, List.getElem?_cons_zero]; exact rfl)) (by kernel_rfl) (by kernel_rfl) (by kernel_rfl) (fun _ _ _ h => h) (Or.inl ⟨by rfl, ?_⟩) (by assumption) ?_
    rotate_left
    · intro w hSw; (try dsimp only at hSw); go_simp; all_goals with_reducible rfl
    try simp only [Act.put, List.setIfInBounds_toArray, List.set_cons_zero, List.set_cons_succ]
    refine wpAnyH_done (by kernel_rfl) ?_ _
    refine NoPanic.normal ?_
    have hb4' : Below w1.heap.size w1 v3 := hHeld.1
    go_wp2_with fail
    go_ret
    exact ⟨congrArg (fun s => Ending.returned (Value.string s)) Ey.out, below_next hbW hb4'⟩
set_option maxHeartbeats 2000000 in
theorem sGradeText_any (a b c d e f : Int) (w : World) : Calls Tryd.prog 30 #[.agg #[.int .i64 a, .int .i64 b, .int .i64 c, .int .i64 d, .int .i64 e, .int .i64 f]] w fun E w' => E = .returned (.string ⟨(textG ⟨a, b, c, d, e, f⟩).toArray⟩) ∧ Below w.heap.size w w' := by
  go_enter Tryd.func30, Tryd.ntmps30
  go_wp2_with fail
  have hx := boxed1 w #[.int .i64 a, .int .i64 b, .int .i64 c, .int .i64 d, .int .i64 e, .int .i64 f] 25
  generalize w.alloc _ = V at hx ⊢
  obtain ⟨hbW, hgB, hcB⟩ := hx
  go_wp2_with fail
  refine (sGradeValid_any _ _ _ _ _ _ _).mono ?_
  rintro _ w1 ⟨rfl, hb⟩
  have hc1 : ∀ i, w1.cell? ⟨w.heap.size, i, none⟩ = _ := fun i => ((below_cells hb).1 _ i hgB).trans (hcB i)
  replace hgB : w.heap.size < w1.heap.size := Nat.lt_of_lt_of_le hgB hb.size
  replace hbW := below_next hbW hb
  clear hb hcB
  cases hg : gradeOk ⟨a, b, c, d, e, f⟩ with
  | false =>
    have ex : textG ⟨a, b, c, d, e, f⟩ = [] := by simp [textG, hg]
    clear hc1
    go_wp2_with fail
    go_ret
    exact ⟨congrArg (fun s => Ending.returned (Value.string s)) (by rw [ex]), hbW⟩
  | true =>
    have hgb := grade_bounds hg
    have ex : textG ⟨a, b, c, d, e, f⟩ = rangeT a b ++ 47 :: (rangeT c d ++ 47 :: rangeT e f) := by simp [textG, hg]
    simp only at hgb
    have l1 := (dec_len a (by omega) (by omega)).2
    have C1 := fun W => number_any a (by omega) (by omega) W
    obtain ⟨S1, hS1⟩ : ∃ S : ByteArray, S = ⟨(dec a).toArray⟩ := ⟨_, rfl⟩
    rw [← hS1] at C1
    have z1 : S1.size ≤ 3 := by rw [hS1]; simpa [ByteArray.size] using l1
    have l2 := (dec_len b (by omega) (by omega)).2
    have C2 := fun W => number_any b (by omega) (by omega) W
    obtain ⟨S2, hS2⟩ : ∃ S : ByteArray, S = ⟨(dec b).toArray⟩ := ⟨_, rfl⟩
    rw [← hS2] at C2
    have z2 : S2.size ≤ 3 := by rw [hS2]; simpa [ByteArray.size] using l2
    have l3 := (dec_len c (by omega) (by omega)).2
    have C3 := fun W => number_any c (by omega) (by omega) W
    obtain ⟨S3, hS3⟩ : ∃ S : ByteArray, S = ⟨(dec c).toArray⟩ := ⟨_, rfl⟩
    rw [← hS3] at C3
    have z3 : S3.size ≤ 3 := by rw [hS3]; simpa [ByteArray.size] using l3
    have l4 := (dec_len d (by omega) (by omega)).2
    have C4 := fun W => number_any d (by omega) (by omega) W
    obtain ⟨S4, hS4⟩ : ∃ S : ByteArray, S = ⟨(dec d).toArray⟩ := ⟨_, rfl⟩
    rw [← hS4] at C4
    have z4 : S4.size ≤ 3 := by rw [hS4]; simpa [ByteArray.size] using l4
    have l5 := (dec_len e (by omega) (by omega)).2
    have C5 := fun W => number_any e (by omega) (by omega) W
    obtain ⟨S5, hS5⟩ : ∃ S : ByteArray, S = ⟨(dec e).toArray⟩ := ⟨_, rfl⟩
    rw [← hS5] at C5
    have z5 : S5.size ≤ 3 := by rw [hS5]; simpa [ByteArray.size] using l5
    have l6 := (dec_len f (by omega) (by omega)).2
    have C6 := fun W => number_any f (by omega) (by omega) W
    obtain ⟨S6, hS6⟩ : ∃ S : ByteArray, S = ⟨(dec f).toArray⟩ := ⟨_, rfl⟩
    rw [← hS6] at C6
    have z6 : S6.size ≤ 3 := by rw [hS6]; simpa [ByteArray.size] using l6
    have ey : S1 ++ ⟨#[45]⟩ ++ S2 ++ ⟨#[47]⟩ ++ S3 ++ ⟨#[45]⟩ ++ S4 ++ ⟨#[47]⟩ ++ S5 ++ ⟨#[45]⟩ ++ S6 = ⟨(textG ⟨a, b, c, d, e, f⟩).toArray⟩ := by
      rw [hS1, hS2, hS3, hS4, hS5, hS6, bs_app, bs_app, bs_app, bs_app, bs_app, bs_app, bs_app, bs_app, bs_app, bs_app, ex]
      simp [rangeT]
    have Ey := Lib.hid ey
    have HC1 := Lib.hid C1
    have HC2 := Lib.hid C2
    have HC3 := Lib.hid C3
    have HC4 := Lib.hid C4
    have HC5 := Lib.hid C5
    have HC6 := Lib.hid C6
    clear ex hg ey hS1 hS2 hS3 hS4 hS5 hS6 C1 C2 C3 C4 C5 C6
    go_wp2_with fail
    refine wp_region_noPanic ?_
    refine wp_region_held_drew (S := (fun w' => Below w1.heap.size w1 w' ∧ ∀ b o, b < w1.heap.size → w'.cell? ⟨b, o, none⟩ = w1.cell? ⟨b, o, none⟩)) (by kernel_rfl) ?_ (fun hHeld => ?_)
    · exact held_of ((Below.refl _ _).drew)
    refine wpAnyH_take (i := 0) (oi := _) (v := ?_) (by first | (simp only [List.getElem?_toArray, List.getElem?_cons_zero]; done) | (simp only [List.getElem?_toArray, List.getElem?_cons_zero]; exact rfl)) (by kernel_rfl) (by kernel_rfl) (by kernel_rfl) (fun _ _ _ h => h) (Or.inl ⟨by rfl, ?_⟩) (by assumption) ?_
    rotate_left
    · intro w hSw; (try dsimp only at hSw); go_simp; all_goals with_reducible rfl
    try simp only [Act.put, List.setIfInBounds_toArray, List.set_cons_zero, List.set_cons_succ]
    refine wpAnyH_take (i := 1) (oi := _) (v := ?_) (by first | (simp only [List.getElem?_toArray, List.getElem?_cons_succ, List.getElem?_cons_zero]; done) | (simp only [List.getElem?_toArray, List.getElem?_cons_succ, List.getElem?_cons_zero]; exact rfl)) (by kernel_rfl) (by kernel_rfl) (by kernel_rfl) (fun _ _ _ h => h) (Or.inl ⟨by rfl, ?_⟩) (by assumption) ?_
    rotate_left
    · intro w hSw; (try dsimp only at hSw); go_simp; all_goals with_reducible rfl
    try simp only [Act.put, List.setIfInBounds_toArray, List.set_cons_zero, List.set_cons_succ]
    refine wpAnyH_take (i := 4) (oi := _) (v := ?_) (by first | (simp only [List.getElem?_toArray, List.getElem?_cons_succ, List.getElem?_cons_zero]; done) | (simp only [List.getElem?_toArray, List.getElem?_cons_succ, List.getElem?_cons_zero]; exact rfl)) (by kernel_rfl) (by kernel_rfl) (by kernel_rfl) (fun _ _ _ h => h) (Or.inl ⟨by rfl, ?_⟩) (by assumption) ?_
    rotate_left
    · intro w hSw; (try dsimp only at hSw); go_simp; all_goals with_reducible rfl
    try simp only [Act.put, List.setIfInBounds_toArray, List.set_cons_zero, List.set_cons_succ]
    refine wpAnyH_take (i := 5) (oi := _) (v := ?_) (by first | (simp only [List.getElem?_toArray, List.getElem?_cons_succ, List.getElem?_cons_zero]; done) | (simp only [List.getElem?_toArray, List.getElem?_cons_succ, List.getElem?_cons_zero]; exact rfl)) (by kernel_rfl) (by kernel_rfl) (by kernel_rfl) (fun _ _ _ h => h) (Or.inl ⟨by rfl, ?_⟩) (by assumption) ?_
    rotate_left
    · intro w hSw; (try dsimp only at hSw); go_simp; all_goals with_reducible rfl
    try simp only [Act.put, List.setIfInBounds_toArray, List.set_cons_zero, List.set_cons_succ]
    refine wpAnyH_take (i := 9) (oi := _) (v := ?_) (by first | (simp only [List.getElem?_toArray, List.getElem?_cons_succ, List.getElem?_cons_zero]; done) | (simp only [List.getElem?_toArray, List.getElem?_cons_succ, List.getElem?_cons_zero]; exact rfl)) (by kernel_rfl) (by kernel_rfl) (by kernel_rfl) (fun _ _ _ h => h) (Or.inl ⟨by rfl, ?_⟩) (by assumption) ?_
    rotate_left
    · intro w hSw; (try dsimp only at hSw); go_simp; all_goals with_reducible rfl
    try simp only [Act.put, List.setIfInBounds_toArray, List.set_cons_zero, List.set_cons_succ]
    refine wpAnyH_take (i := 10) (oi := _) (v := ?_) (by first | (simp only [List.getElem?_toArray, List.getElem?_cons_succ, List.getElem?_cons_zero]; done) | (simp only [List.getElem?_toArray, List.getElem?_cons_succ, List.getElem?_cons_zero]; exact rfl)) (by kernel_rfl) (by kernel_rfl) (by kernel_rfl) (fun _ _ _ h => h) (Or.inl ⟨by rfl, ?_⟩) (by assumption) ?_
    rotate_left
    · intro w hSw; (try dsimp only at hSw); go_simp; all_goals with_reducible rfl
    try simp only [Act.put, List.setIfInBounds_toArray, List.set_cons_zero, List.set_cons_succ]
    refine wpAnyH_take (i := 14) (oi := _) (v := ?_) (by first | (simp only [List.getElem?_toArray, List.getElem?_cons_succ, List.getElem?_cons_zero]; done) | (simp only [List.getElem?_toArray, List.getElem?_cons_succ, List.getElem?_cons_zero]; exact rfl)) (by kernel_rfl) (by kernel_rfl) (by kernel_rfl) (fun _ _ _ h => h) (Or.inl ⟨by rfl, ?_⟩) (by assumption) ?_
    rotate_left
    · intro w hSw; (try dsimp only at hSw); go_simp; all_goals with_reducible rfl
    try simp only [Act.put, List.setIfInBounds_toArray, List.set_cons_zero, List.set_cons_succ]
    refine wpAnyH_take (i := 15) (oi := _) (v := ?_) (by first | (simp only [List.getElem?_toArray, List.getElem?_cons_succ, List.getElem?_cons_zero]; done) | (simp only [List.getElem?_toArray, List.getElem?_cons_succ, List.getElem?_cons_zero]; exact rfl)) (by kernel_rfl) (by kernel_rfl) (by kernel_rfl) (fun _ _ _ h => h) (Or.inl ⟨by rfl, ?_⟩) (by assumption) ?_
    rotate_left
    · intro w hSw; (try dsimp only at hSw); go_simp; all_goals with_reducible rfl
    try simp only [Act.put, List.setIfInBounds_toArray, List.set_cons_zero, List.set_cons_succ]
    refine wpAnyH_take (i := 19) (oi := _) (v := ?_) (by first | (simp only [List.getElem?_toArray, List.getElem?_cons_succ, List.getElem?_cons_zero]; done) | (simp only [List.getElem?_toArray, List.getElem?_cons_succ, List.getElem?_cons_zero]; exact rfl)) (by kernel_rfl) (by kernel_rfl) (by kernel_rfl) (fun _ _ _ h => h) (Or.inl ⟨by rfl, ?_⟩) (by assumption) ?_
    rotate_left
    · intro w hSw; (try dsimp only at hSw); go_simp; all_goals with_reducible rfl
    try simp only [Act.put, List.setIfInBounds_toArray, List.set_cons_zero, List.set_cons_succ]
    refine wpAnyH_take (i := 20) (oi := _) (v := ?_) (by first | (simp only [List.getElem?_toArray, List.getElem?_cons_succ, List.getElem?_cons_zero]; done) | (simp only [List.getElem?_toArray, List.getElem?_cons_succ, List.getElem?_cons_zero]; exact rfl)) (by kernel_rfl) (by kernel_rfl) (by kernel_rfl) (fun _ _ _ h => h) (Or.inl ⟨by rfl, ?_⟩) (by assumption) ?_
    rotate_left
    · intro w hSw; (try dsimp only at hSw); go_simp; all_goals with_reducible rfl
    try simp only [Act.put, List.setIfInBounds_toArray, List.set_cons_zero, List.set_cons_succ]
    refine wpAnyH_take (i := 24) (oi := _) (v := ?_) (by first | (simp only [List.getElem?_toArray, List.getElem?_cons_succ, List.getElem?_cons_zero]; done) | (simp only [List.getElem?_toArray, List.getElem?_cons_succ, List.getElem?_cons_zero]; exact rfl)) (by kernel_rfl) (by kernel_rfl) (by kernel_rfl) (fun _ _ _ h => h) (Or.inl ⟨by rfl, ?_⟩) (by assumption) ?_
    rotate_left
    · intro w hSw; (try dsimp only at hSw); go_simp; all_goals with_reducible rfl
    try simp only [Act.put, List.setIfInBounds_toArray, List.set_cons_zero, List.set_cons_succ]
    refine wpAnyH_take (i := 25) (oi := _) (v := ?_) (by first | (simp only [List.getElem?_toArray, List.getElem?_cons_succ, List.getElem?_cons_zero]; done) | (simp only [List.getElem?_toArray, List.getElem?_cons_succ, List.getElem?_cons_zero]; exact rfl)) (by kernel_rfl) (by kernel_rfl) (by kernel_rfl) (fun _ _ _ h => h) (Or.inl ⟨by rfl, ?_⟩) (by assumption) ?_
    rotate_left
    · intro w hSw; (try dsimp only at hSw); go_simp; all_goals with_reducible rfl
    try simp only [Act.put, List.setIfInBounds_toArray, List.set_cons_zero, List.set_cons_succ]
    refine wpAnyH_ready (rs := [2]) (by kernel_rfl) (by simp) ?_
    refine AllReadyH.cons (o := _) (by first | (simp only [List.getElem?_toArray, List.getElem?_cons_succ, List.getElem?_cons_zero]; done) | (simp only [List.getElem?_toArray, List.getElem?_cons_succ, List.getElem?_cons_zero]; exact rfl)) (fun K hK => ?_) AllReadyH.nil
    go_simp
    refine (HC1.out _).mono ?_
    rintro _ v1 ⟨rfl, hbq1⟩
    replace hbq1 := held_call hHeld hbq1
    clear hHeld
    refine hK.out _ _ hbq1 (fun hHeld => ?_)
    clear hK K
    try simp only [Act.put, List.setIfInBounds_toArray, List.set_cons_zero, List.set_cons_succ]
    refine wpAnyH_take (i := 3) (oi := _) (v := ?_) (by first | (simp only [List.getElem?_toArray, List.getElem?_cons_succ, List.getElem?_cons_zero]; done) | (simp only [List.getElem?_toArray, List.getElem?_cons_succ, List.getElem?_cons_zero]; exact rfl)) (by kernel_rfl) (by kernel_rfl) (by kernel_rfl) (fun _ _ _ h => h) (Or.inl ⟨by rfl, ?_⟩) (by assumption) ?_
    rotate_left
    · intro w hSw; (try dsimp only at hSw); go_simp; rw [if_neg (by omega)]
    try simp only [Act.put, List.setIfInBounds_toArray, List.set_cons_zero, List.set_cons_succ]
    refine wpAnyH_ready (rs := [6]) (by kernel_rfl) (by simp) ?_
    refine AllReadyH.cons (o := _) (by first | (simp only [List.getElem?_toArray, List.getElem?_cons_succ, List.getElem?_cons_zero]; done) | (simp only [List.getElem?_toArray, List.getElem?_cons_succ, List.getElem?_cons_zero]; exact rfl)) (fun K hK => ?_) AllReadyH.nil
    go_simp
    refine (HC2.out _).mono ?_
    rintro _ v2 ⟨rfl, hbq2⟩
    replace hbq2 := held_call hHeld hbq2
    clear hHeld
    refine hK.out _ _ hbq2 (fun hHeld => ?_)
    clear hK K
    try simp only [Act.put, List.setIfInBounds_toArray, List.set_cons_zero, List.set_cons_succ]
    refine wpAnyH_take (i := 7) (oi := _) (v := ?_) (by first | (simp only [List.getElem?_toArray, List.getElem?_cons_succ, List.getElem?_cons_zero]; done) | (simp only [List.getElem?_toArray, List.getElem?_cons_succ, List.getElem?_cons_zero]; exact rfl)) (by kernel_rfl) (by kernel_rfl) (by kernel_rfl) (fun _ _ _ h => h) (Or.inl ⟨by rfl, ?_⟩) (by assumption) ?_
    rotate_left
    · intro w hSw; (try dsimp only at hSw); go_simp; rw [if_neg (by omega)]
    try simp only [Act.put, List.setIfInBounds_toArray, List.set_cons_zero, List.set_cons_succ]
    refine wpAnyH_take (i := 8) (oi := _) (v := ?_) (by first | (simp only [List.getElem?_toArray, List.getElem?_cons_succ, List.getElem?_cons_zero]; done) | (simp only [List.getElem?_toArray, List.getElem?_cons_succ, List.getElem?_cons_zero]; exact rfl)) (by kernel_rfl) (by kernel_rfl) (by kernel_rfl) (fun _ _ _ h => h) (Or.inl ⟨by rfl, ?_⟩) (by assumption) ?_
    rotate_left
    · intro w hSw; (try dsimp only at hSw); go_simp; rw [if_neg (by omega)]
    try simp only [Act.put, List.setIfInBounds_toArray, List.set_cons_zero, List.set_cons_succ]
    refine wpAnyH_ready (rs := [11]) (by kernel_rfl) (by simp) ?_
    refine AllReadyH.cons (o := _) (by first | (simp only [List.getElem?_toArray, List.getElem?_cons_succ, List.getElem?_cons_zero]; done) | (simp only [List.getElem?_toArray, List.getElem?_cons_succ, List.getElem?_cons_zero]; exact rfl)) (fun K hK => ?_) AllReadyH.nil
    go_simp
    refine (HC3.out _).mono ?_
    rintro _ v3 ⟨rfl, hbq3⟩
    replace hbq3 := held_call hHeld hbq3
    clear hHeld
    refine hK.out _ _ hbq3 (fun hHeld => ?_)
    clear hK K
    try simp only [Act.put, List.setIfInBounds_toArray, List.set_cons_zero, List.set_cons_succ]
    refine wpAnyH_take (i := 12) (oi := _) (v := ?_) (by first | (simp only [List.getElem?_toArray, List.getElem?_cons_succ, List.getElem?_cons_zero]; done) | (simp only [List.getElem?_toArray, List.getElem?_cons_succ, List.getElem?_cons_zero]; exact rfl)) (by kernel_rfl) (by kernel_rfl) (by kernel_rfl) (fun _ _ _ h => h) (Or.inl ⟨by rfl, ?_⟩) (by assumption) ?_
    rotate_left
    · intro w hSw; (try dsimp only at hSw); go_simp; rw [if_neg (by omega)]
    try simp only [Act.put, List.setIfInBounds_toArray, List.set_cons_zero, List.set_cons_succ]
    refine wpAnyH_take (i := 13) (oi := _) (v := ?_) (by first | (simp only [List.getElem?_toArray, List.getElem?_cons_succ, List.getElem?_cons_zero]; done) | (simp only [List.getElem?_toArray, List.getElem?_cons_succ, List.getElem?_cons_zero]; exact rfl)) (by kernel_rfl) (by kernel_rfl) (by kernel_rfl) (fun _ _ _ h => h) (Or.inl ⟨by rfl, ?_⟩) (by assumption) ?_
    rotate_left
    · intro w hSw; (try dsimp only at hSw); go_simp; rw [if_neg (by omega)]
    try simp only [Act.put, List.setIfInBounds_toArray, List.set_cons_zero, List.set_cons_succ]
    refine wpAnyH_ready (rs := [16]) (by kernel_rfl) (by simp) ?_
    refine AllReadyH.cons (o := _) (by first | (simp only [List.getElem?_toArray, List.getElem?_cons_succ, List.getElem?_cons_zero]; done) | (simp only [List.getElem?_toArray, List.getElem?_cons_succ, List.getElem?_cons_zero]; exact rfl)) (fun K hK => ?_) AllReadyH.nil
    go_simp
    refine (HC4.out _).mono ?_
    rintro _ v4 ⟨rfl, hbq4⟩
    replace hbq4 := held_call hHeld hbq4
    clear hHeld
    refine hK.out _ _ hbq4 (fun hHeld => ?_)
    clear hK K
    try simp only [Act.put, List.setIfInBounds_toArray, List.set_cons_zero, List.set_cons_succ]
    refine wpAnyH_take (i := 17) (oi := _) (v := ?_) (by first | (simp only [List.getElem?_toArray, List.getElem?_cons_succ, List.getElem?_cons_zero]; done) | (simp only [List.getElem?_toArray, List.getElem?_cons_succ, List.getElem?_cons_zero]; exact rfl)) (by kernel_rfl) (by kernel_rfl) (by kernel_rfl) (fun _ _ _ h => h) (Or.inl ⟨by rfl, ?_⟩) (by assumption) ?_
    rotate_left
    · intro w hSw; (try dsimp only at hSw); go_simp; rw [if_neg (by omega)]
    try simp only [Act.put, List.setIfInBounds_toArray, List.set_cons_zero, List.set_cons_succ]
    refine wpAnyH_take (i := 18) (oi := _) (v := ?_) (by first | (simp only [List.getElem?_toArray, List.getElem?_cons_succ, List.getElem?_cons_zero]; done) | (simp only [List.getElem?_toArray, List.getElem?_cons_succ, List.getElem?_cons_zero]; exact rfl)) (by kernel_rfl) (by kernel_rfl) (by kernel_rfl) (fun _ _ _ h => h) (Or.inl ⟨by rfl, ?_⟩) (by assumption) ?_
    rotate_left
    · intro w hSw; (try dsimp only at hSw); go_simp; rw [if_neg (by omega)]
    try simp only [Act.put, List.setIfInBounds_toArray, List.set_cons_zero, List.set_cons_succ]
    refine wpAnyH_ready (rs := [21]) (by kernel_rfl) (by simp) ?_
    refine AllReadyH.cons (o := _) (by first | (simp only [List.getElem?_toArray, List.getElem?_cons_succ, List.getElem?_cons_zero]; done) | (simp only [List.getElem?_toArray, List.getElem?_cons_succ, List.getElem?_cons_zero]; exact rfl)) (fun K hK => ?_) AllReadyH.nil
    go_simp
    refine (HC5.out _).mono ?_
    rintro _ v5 ⟨rfl, hbq5⟩
    replace hbq5 := held_call hHeld hbq5
    clear hHeld
    refine hK.out _ _ hbq5 (fun hHeld => ?_)
    clear hK K
    try simp only [Act.put, List.setIfInBounds_toArray, List.set_cons_zero, List.set_cons_succ]
    refine wpAnyH_take (i := 22) (oi := _) (v := ?_) (by first | (simp only [List.getElem?_toArray, List.getElem?_cons_succ, List.getElem?_cons_zero]; done) | (simp only [List.getElem?_toArray, List.getElem?_cons_succ, List.getElem?_cons_zero]; exact rfl)) (by kernel_rfl) (by kernel_rfl) (by kernel_rfl) (fun _ _ _ h => h) (Or.inl ⟨by rfl, ?_⟩) (by assumption) ?_
    rotate_left
    · intro w hSw; (try dsimp only at hSw); go_simp; rw [if_neg (by omega)]
    try simp only [Act.put, List.setIfInBounds_toArray, List.set_cons_zero, List.set_cons_succ]
    refine wpAnyH_take (i := 23) (oi := _) (v := ?_) (by first | (simp only [List.getElem?_toArray, List.getElem?_cons_succ, List.getElem?_cons_zero]; done) | (simp only [List.getElem?_toArray, List.getElem?_cons_succ, List.getElem?_cons_zero]; exact rfl)) (by kernel_rfl) (by kernel_rfl) (by kernel_rfl) (fun _ _ _ h => h) (Or.inl ⟨by rfl, ?_⟩) (by assumption) ?_
    rotate_left
    · intro w hSw; (try dsimp only at hSw); go_simp; rw [if_neg (by omega)]
    try simp only [Act.put, List.setIfInBounds_toArray, List.set_cons_zero, List.set_cons_succ]
    refine wpAnyH_ready (rs := [26]) (by kernel_rfl) (by simp) ?_
    refine AllReadyH.cons (o := _) (by first | (simp only [List.getElem?_toArray, List.getElem?_cons_succ, List.getElem?_cons_zero]; done) | (simp only [List.getElem?_toArray, List.getElem?_cons_succ, List.getElem?_cons_zero]; exact rfl)) (fun K hK => ?_) AllReadyH.nil
    go_simp
    refine (HC6.out _).mono ?_
    rintro _ v6 ⟨rfl, hbq6⟩
    replace hbq6 := held_call hHeld hbq6
    clear hHeld
    refine hK.out _ _ hbq6 (fun hHeld => ?_)
    clear hK K
    try simp only [Act.put, List.setIfInBounds_toArray, List.set_cons_zero, List.set_cons_succ]
    refine wpAnyH_take (i := 27) (oi := _) (v := ?_) (by first | (simp only [List.getElem?_toArray, List.getElem?_cons_succ, List.getElem?_cons_zero]; done) | (simp only [List.getElem?_toArray, List.getElem?_cons_succ, List.getElem?_cons_zero]; exact rfl)) (by kernel_rfl) (by kernel_rfl) (by kernel_rfl) (fun _ _ _ h => h) (Or.inl ⟨by rfl, ?_⟩) (by assumption) ?_
    rotate_left
    · intro w hSw; (try dsimp only at hSw); go_simp; rw [if_neg (by omega)]
    try simp only [Act.put, List.setIfInBounds_toArray, List.set_cons_zero, List.set_cons_succ]
    refine wpAnyH_take (i := 28) (oi := _) (v := ?_) (by first | (simp only [List.getElem?_toArray, List.getElem?_cons_succ, List.getElem?_cons_zero]; done) | (simp only [List.getElem?_toArray, List.getElem?_cons_succ, List.getElem?_cons_zero]; exact rfl)) (by kernel_rfl) (by kernel_rfl) (by kernel_rfl) (fun _ _ _ h => h) (Or.inl ⟨by rfl, ?_⟩) (by assumption) ?_
    rotate_left
    · intro w hSw; (try dsimp only at hSw); go_simp; all_goals with_reducible rfl
    try simp only [Act.put, List.setIfInBounds_toArray, List.set_cons_zero, List.set_cons_succ]
    refine wpAnyH_done (by kernel_rfl) ?_ _
    refine NoPanic.normal ?_
    have hb4' : Below w1.heap.size w1 v6 := hHeld.1
    go_wp2_with fail
    go_ret
    exact ⟨congrArg (fun s => Ending.returned (Value.string s)) Ey.out, below_next hbW hb4'⟩
end Go.Proofs.YtlhjncefckidjaaDoor
