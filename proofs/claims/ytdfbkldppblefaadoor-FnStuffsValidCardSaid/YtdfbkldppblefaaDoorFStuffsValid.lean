/-
  The walk of the law FnStuffsValid.
-/
import Derived.Test.YtdfbkldppblefaaDoorDu
namespace Go.Proofs.YtdfbkldppblefaaDoor
open Go.RowKit
set_option linter.unusedVariables false
section
variable {P : Program} (w : World)
theorem wpList_app_w {ops : Array Oper} {rest : List Oper} {o : Oper} {a : Act} {Q : Exit → Act → World → Prop} (hw : Region.wanted o (yielded ops a.tmps) = true) (s x : Operand) (t : TypeId)
    (ho : o.op = .call { callee := .builtin .append, args := #[s, x], argTypes := #[t, t] })
    (e : TypeId) (i : TypeInfo) (z : Value) (size bytes : Nat) (ht : P.underlying t = some (.slice e)) (hi : P.info? e = some i) (hz : i.zero = some z)
    (hsize : i.size = size) (hby : i.bytes = bytes) (hzs : z.cells.size = size) (hsz : 0 < size)
    {lo top : Nat} {A : Option Addr} {n c : Nat} {xs : List Value} (hv : a.eval s = .slice A n c) (hown : Own w lo top e size A n c xs)
    {B : Nat} {A2 : Option Addr} {m c2 : Nat} {news : List Value} (hx : a.eval x = .slice A2 m c2) (hs : Sees w B A2 news) (hl : news.length = m * size) (h1 : ∀ u ∈ news, u.oneCell' = true)
    (hnm : n + m ≤ 1000000000) (hbb : bytes ≤ 100000) (hbase : lo ≤ w.heap.size)
    (h : ∀ A' c' w', Own w' lo w'.heap.size e size A' (n + m) c' (xs ++ news) → Only lo top w w' → wpList P ops Q rest (a.put o.dst (.slice A' (n + m) c')) w') : wpList P ops Q (o :: rest) a w :=
  BigFrame.wpList_want hw fun _ hK => wp_app w s x t ho e i z size bytes ht hi hz hsize hby hzs hsz hv hown hx hs hl h1 hnm hbb hbase fun A' c' w' h2 h3 => hK _ _ (h A' c' w' h2 h3)
end
theorem stuffsOk_tail {a : Stuff} {l : List Stuff} (h : stuffsOk (a :: l) = true) : stuffsOk l = true := by
  simp only [stuffsOk, Bool.and_eq_true, decide_eq_true_eq, List.length_cons, List.all_cons] at h ⊢
  exact ⟨by omega, h.2.2⟩
theorem stuffsOk_bad (l : List Stuff) : stuffsOk (l ++ [⟨0, 0, 0, -1, 0⟩]) = false := by
  have : stuffOk ⟨0, 0, 0, -1, 0⟩ = false := by decide
  simp [stuffsOk, this]
theorem own_zero {w : World} {lo hi : Nat} {t : TypeId} {size n c : Nat} {A : Option Addr} {xs : List Value} (h : Own w lo hi t size A (0 + n) c ([] ++ xs)) : Own w lo hi t size A n c xs := own_zero' h
theorem stuffsOk_drop {l : List Stuff} (h : stuffsOk l = true) : stuffsOk (l.drop 1) = true := by
  cases l with
  | nil => exact h
  | cons a l => exact stuffsOk_tail h
set_option maxHeartbeats 4000000 in
theorem fnStuffsValid_walk (A : Option Addr) (n c : Nat) (l : List Int) (w : World) (hs : Sees w w.heap.size A (bys l)) (hl : l.length = n) (hby : ∀ z ∈ l, byteB z) (hc : n ≤ c) (hm : c ≤ maxLen) :
    Calls Tryd.prog 7 #[.slice A n c] w fun e w' => e = .returned (.bool true) ∧ Below w.heap.size w w' := by
  have hm' := hm
  unfold maxLen at hm'
  obtain ⟨i0, hi, hz0, hz1, hz2⟩ := info_parts infoStuff2
  by_cases hn : n ≤ 1048576
  case neg =>
    go_enter Tryd.func7, Tryd.ntmps7
    go_wp2_with fail
    go_ret
    exact ⟨rfl, Below.refl _ _⟩
  go_enter Tryd.func7, Tryd.ntmps7
  go_wp2_with fail
  refine (drawStuffsValid_any A n c l _ hs hl hby hc hm).mono ?_
  rintro _ w1 ⟨hts, A1, c1, hsm, hlen, rfl, hQ, hb⟩
  clear hsm
  go_wp2_with fail
  refine (stuffsValid_any _ _ _ _ hQ.sees (by omega)).mono ?_
  rintro _ w2 ⟨rfl, hb1⟩
  replace hQ := own_hi (hQ.below hb1) hb1.size
  replace hb := below_next hb hb1
  clear hb1
  go_wp2_with fail
  refine (sStuffsValid_any _ _ _ _ hQ.sees (by omega)).mono ?_
  rintro _ w3 ⟨rfl, hb1⟩
  replace hQ := own_hi (hQ.below hb1) hb1.size
  replace hb := below_next hb hb1
  clear hb1
  have hcap := hQ.cap
  cases hok : stuffsOk hts with
  | false =>
    have hS := hQ.sees
    have hz := hb.size
    go_wp2_with (first | (at_builtin; refine wpList_app_w _ rfl (.tmp 29) (.tmp 30) _ rfl 24 i0 _ 5 40 Tryd.underlying41 hi hz0 hz1 hz2 rfl (by omega) rfl (own_made _ _ _) rfl (hS.below ((Below.refl _ _).alloc (Nat.le_refl _) _)) (by rw [ints_length, flatS_length]) (one_ints _) (by omega) (by omega) (by simp) ?_; intro A2 c2 w5 hQ2 hon; replace hQ2 := own_zero hQ2; rw [Nat.zero_add]; have hz5 : w3.heap.size ≤ w5.heap.size := Nat.le_trans (by simp) hon.size; have hb5 := below_only (hb.alloc hb.size (.cells #[] 24)) hon hz (Nat.le_refl _)) | (at_builtin; refine wpList_app_w _ rfl (.tmp 31) (.tmp 33) _ rfl 24 i0 _ 5 40 Tryd.underlying41 hi hz0 hz1 hz2 rfl (by omega) rfl (hQ2.alloc _) rfl (sees_stuff _ _ _ _ _ _ _) (by simp [ints, flatS]) (one_ints _) (by omega) (by omega) (by simp; omega) ?_; intro A3 c3 w6 hQ3 hon3; have hb6 := below_only (hb5.alloc hb5.size (.cells #[.int .i64 0, .int .i64 0, .int .i64 0, .int .i64 (-1), .int .i64 0] 24)) hon3 hz (Nat.le_refl _)))
    have hS3 : Sees w6 w6.heap.size A3 (ints (flatS (hts ++ [⟨0, 0, 0, -1, 0⟩]))) := by
      rw [flatS_append, ints_append]
      simpa using hQ3.sees
    have hcall := stuffsValid_any A3 c3 (hts ++ [⟨0, 0, 0, -1, 0⟩]) w6 hS3 (by rw [List.length_append, List.length_singleton]; omega)
    rw [stuffsOk_bad, List.length_append, List.length_singleton] at hcall
    refine hcall.mono ?_
    rintro _ w7 ⟨rfl, hb1⟩
    replace hb := below_next hb6 hb1
    clear hb1 hQ2 hQ3 hS hS3 hcall hon hon3 hb5 hb6 hQ
    go_wp2_with fail
    refine (stuffsValid_any none 0 [] _ (.inl rfl) (by simp)).mono ?_
    rintro _ w8 ⟨rfl, hb1⟩
    rw [show stuffsOk [] = true from rfl]
    replace hb := below_next hb hb1
    clear hb1
    go_wp2_with fail
    refine (alive_any _).mono ?_
    rintro _ w9 ⟨rfl, hb1⟩
    go_wp2_with fail
    go_ret
    exact ⟨rfl, below_next hb hb1⟩
  | true =>
    have Hok := Lib.hid hok
    clear hok
    by_cases h0 : hts.length = 0
    · have he : ((hts.length : Int) == 0) = true := by rw [beq_iff_eq]; omega
      clear h0 hcap
      have hS := hQ.sees
      have hz := hb.size
      go_wp2_with (first | (at_builtin; refine wpList_app_w _ rfl (.tmp 29) (.tmp 30) _ rfl 24 i0 _ 5 40 Tryd.underlying41 hi hz0 hz1 hz2 rfl (by omega) rfl (own_made _ _ _) rfl (hS.below ((Below.refl _ _).alloc (Nat.le_refl _) _)) (by rw [ints_length, flatS_length]) (one_ints _) (by omega) (by omega) (by simp) ?_; intro A2 c2 w5 hQ2 hon; replace hQ2 := own_zero hQ2; rw [Nat.zero_add]; have hz5 : w3.heap.size ≤ w5.heap.size := Nat.le_trans (by simp) hon.size; have hb5 := below_only (hb.alloc hb.size (.cells #[] 24)) hon hz (Nat.le_refl _)) | (at_builtin; refine wpList_app_w _ rfl (.tmp 31) (.tmp 33) _ rfl 24 i0 _ 5 40 Tryd.underlying41 hi hz0 hz1 hz2 rfl (by omega) rfl (hQ2.alloc _) rfl (sees_stuff _ _ _ _ _ _ _) (by simp [ints, flatS]) (one_ints _) (by omega) (by omega) (by simp; omega) ?_; intro A3 c3 w6 hQ3 hon3; have hb6 := below_only (hb5.alloc hb5.size (.cells #[.int .i64 0, .int .i64 0, .int .i64 0, .int .i64 (-1), .int .i64 0] 24)) hon3 hz (Nat.le_refl _)))
      have hS3 : Sees w6 w6.heap.size A3 (ints (flatS (hts ++ [⟨0, 0, 0, -1, 0⟩]))) := by
        rw [flatS_append, ints_append]
        simpa using hQ3.sees
      have hcall := stuffsValid_any A3 c3 (hts ++ [⟨0, 0, 0, -1, 0⟩]) w6 hS3 (by rw [List.length_append, List.length_singleton]; omega)
      rw [stuffsOk_bad, List.length_append, List.length_singleton] at hcall
      refine hcall.mono ?_
      rintro _ w7 ⟨rfl, hb1⟩
      replace hb := below_next hb6 hb1
      clear hb1 hQ2 hQ3 hS hS3 hcall hon hon3 hb5 hb6 hQ
      go_wp2_with fail
      refine (stuffsValid_any none 0 [] _ (.inl rfl) (by simp)).mono ?_
      rintro _ w8 ⟨rfl, hb1⟩
      rw [show stuffsOk [] = true from rfl]
      replace hb := below_next hb hb1
      clear hb1
      go_wp2_with fail
      refine (alive_any _).mono ?_
      rintro _ w9 ⟨rfl, hb1⟩
      go_wp2_with fail
      go_ret
      exact ⟨rfl, below_next hb hb1⟩
    · have he : ((hts.length : Int) == 0) = false := by rw [beq_eq_false_iff_ne]; omega
      obtain ⟨b, off, a1, a2, a3, a4, a5, rfl, hbB, hl0, q0, q1, q2, q3, q4⟩ := hQ.sees.stuff_at (k := 0) (by omega)
      clear q0 q1 q2 q3 q4 hl0
      have hS2 : Sees w3 w3.heap.size (some ⟨b, off + 5, none⟩) (ints (flatS (hts.drop 1))) := by
        have := hQ.sees.drop (k := 5)
        rwa [← flatS_drop1] at this
      have hle1 : (1 : Int) ≤ hts.length := by omega
      have hle2 : (hts.length : Int) ≤ c1 := by omega
      have hi5 : ¬ ((hts.length : Int) < 1) := by omega
      have hi4 : (hts = []) = False := by rw [eq_iff_iff, iff_false]; rintro rfl; exact h0 rfl
      have hle3 : (1 : Int) ≤ (c1 : Int) := by omega
      by_cases hc1 : c1 = 1
      · subst hc1
        clear h0
        go_wp2_with fail
        have hcall1 := stuffsValid_any (some ⟨b, off, none⟩) 0 [] w3 (.inl rfl) (by simp)
        rw [show stuffsOk [] = true from rfl] at hcall1
        refine hcall1.mono ?_
        rintro _ w4 ⟨rfl, hb1⟩
        replace hQ := own_hi (hQ.below hb1) hb1.size
        replace hb := below_next hb hb1
        clear hb1 hS2 hcall1
        have hS := hQ.sees
        have hz := hb.size
        go_wp2_with (first | (at_builtin; refine wpList_app_w _ rfl (.tmp 29) (.tmp 30) _ rfl 24 i0 _ 5 40 Tryd.underlying41 hi hz0 hz1 hz2 rfl (by omega) rfl (own_made _ _ _) rfl (hS.below ((Below.refl _ _).alloc (Nat.le_refl _) _)) (by rw [ints_length, flatS_length]) (one_ints _) (by omega) (by omega) (by simp) ?_; intro A2 c2 w5 hQ2 hon; replace hQ2 := own_zero hQ2; rw [Nat.zero_add]; have hz5 : w4.heap.size ≤ w5.heap.size := Nat.le_trans (by simp) hon.size; have hb5 := below_only (hb.alloc hb.size (.cells #[] 24)) hon hz (Nat.le_refl _)) | (at_builtin; refine wpList_app_w _ rfl (.tmp 31) (.tmp 33) _ rfl 24 i0 _ 5 40 Tryd.underlying41 hi hz0 hz1 hz2 rfl (by omega) rfl (hQ2.alloc _) rfl (sees_stuff _ _ _ _ _ _ _) (by simp [ints, flatS]) (one_ints _) (by omega) (by omega) (by simp; omega) ?_; intro A3 c3 w6 hQ3 hon3; have hb6 := below_only (hb5.alloc hb5.size (.cells #[.int .i64 0, .int .i64 0, .int .i64 0, .int .i64 (-1), .int .i64 0] 24)) hon3 hz (Nat.le_refl _)))
        have hS3 : Sees w6 w6.heap.size A3 (ints (flatS (hts ++ [⟨0, 0, 0, -1, 0⟩]))) := by
          rw [flatS_append, ints_append]
          simpa using hQ3.sees
        have hcall := stuffsValid_any A3 c3 (hts ++ [⟨0, 0, 0, -1, 0⟩]) w6 hS3 (by rw [List.length_append, List.length_singleton]; omega)
        rw [stuffsOk_bad, List.length_append, List.length_singleton] at hcall
        refine hcall.mono ?_
        rintro _ w7 ⟨rfl, hb1⟩
        replace hb := below_next hb6 hb1
        clear hb1 hQ2 hQ3 hS hS3 hcall hon hon3 hb5 hb6 hQ
        go_wp2_with fail
        refine (stuffsValid_any none 0 [] _ (.inl rfl) (by simp)).mono ?_
        rintro _ w8 ⟨rfl, hb1⟩
        rw [show stuffsOk [] = true from rfl]
        replace hb := below_next hb hb1
        clear hb1
        go_wp2_with fail
        refine (alive_any _).mono ?_
        rintro _ w9 ⟨rfl, hb1⟩
        go_wp2_with fail
        go_ret
        exact ⟨rfl, below_next hb hb1⟩
      · have hi6 : ¬ ((c1 : Int) = 1) := by omega
        clear h0
        go_wp2_with fail
        have hcall1 := stuffsValid_any (some ⟨b, off + 5, none⟩) (c1 - 1) (hts.drop 1) w3 hS2 (by simp; omega)
        rw [stuffsOk_drop Hok.out, List.length_drop] at hcall1
        refine Calls.mono (by simpa using hcall1) ?_
        rintro _ w4 ⟨rfl, hb1⟩
        replace hQ := own_hi (hQ.below hb1) hb1.size
        replace hb := below_next hb hb1
        clear hb1 hS2 hcall1
        have hS := hQ.sees
        have hz := hb.size
        go_wp2_with (first | (at_builtin; refine wpList_app_w _ rfl (.tmp 29) (.tmp 30) _ rfl 24 i0 _ 5 40 Tryd.underlying41 hi hz0 hz1 hz2 rfl (by omega) rfl (own_made _ _ _) rfl (hS.below ((Below.refl _ _).alloc (Nat.le_refl _) _)) (by rw [ints_length, flatS_length]) (one_ints _) (by omega) (by omega) (by simp) ?_; intro A2 c2 w5 hQ2 hon; replace hQ2 := own_zero hQ2; rw [Nat.zero_add]; have hz5 : w4.heap.size ≤ w5.heap.size := Nat.le_trans (by simp) hon.size; have hb5 := below_only (hb.alloc hb.size (.cells #[] 24)) hon hz (Nat.le_refl _)) | (at_builtin; refine wpList_app_w _ rfl (.tmp 31) (.tmp 33) _ rfl 24 i0 _ 5 40 Tryd.underlying41 hi hz0 hz1 hz2 rfl (by omega) rfl (hQ2.alloc _) rfl (sees_stuff _ _ _ _ _ _ _) (by simp [ints, flatS]) (one_ints _) (by omega) (by omega) (by simp; omega) ?_; intro A3 c3 w6 hQ3 hon3; have hb6 := below_only (hb5.alloc hb5.size (.cells #[.int .i64 0, .int .i64 0, .int .i64 0, .int .i64 (-1), .int .i64 0] 24)) hon3 hz (Nat.le_refl _)))
        have hS3 : Sees w6 w6.heap.size A3 (ints (flatS (hts ++ [⟨0, 0, 0, -1, 0⟩]))) := by
          rw [flatS_append, ints_append]
          simpa using hQ3.sees
        have hcall := stuffsValid_any A3 c3 (hts ++ [⟨0, 0, 0, -1, 0⟩]) w6 hS3 (by rw [List.length_append, List.length_singleton]; omega)
        rw [stuffsOk_bad, List.length_append, List.length_singleton] at hcall
        refine hcall.mono ?_
        rintro _ w7 ⟨rfl, hb1⟩
        replace hb := below_next hb6 hb1
        clear hb1 hQ2 hQ3 hS hS3 hcall hon hon3 hb5 hb6 hQ
        go_wp2_with fail
        refine (stuffsValid_any none 0 [] _ (.inl rfl) (by simp)).mono ?_
        rintro _ w8 ⟨rfl, hb1⟩
        rw [show stuffsOk [] = true from rfl]
        replace hb := below_next hb hb1
        clear hb1
        go_wp2_with fail
        refine (alive_any _).mono ?_
        rintro _ w9 ⟨rfl, hb1⟩
        go_wp2_with fail
        go_ret
        exact ⟨rfl, below_next hb hb1⟩
end Go.Proofs.YtdfbkldppblefaaDoor
