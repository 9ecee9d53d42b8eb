/-
  Tables are marked: what markIntSS of the laws leaves.
-/
import Derived.Test.YtblfbllhkmcbbaaTb
namespace Go.Proofs.Ytblfbllhkmcbbaa
open Go.RowKit
set_option linter.unusedVariables false
/-- A row of integers lies in a block of its own shape, whatever it holds. -/
def RShape (w : World) (lo hi : Nat) (a : Option Addr) (n c : Nat) : Prop :=
  (a = none ∧ n = 0 ∧ c = 0) ∨ ∃ g cur, a = some ⟨g, 0, none⟩ ∧ lo ≤ g ∧ g < hi ∧ Blk w g 3 cur ∧ cur.size = c ∧ n ≤ c ∧ c ≤ maxLen
theorem RShape.of {w : World} {lo hi n c : Nat} {a : Option Addr} {xs : List Value} (h : Own w lo hi 3 1 a n c xs) : RShape w lo hi a n c := by
  obtain ⟨⟨h1, h2⟩, h3⟩ := h
  rcases h2 with ⟨hv, hn⟩ | ⟨g, cap, cur, hv, k1, k2, k3, k4, k5, k6⟩
  · injection hv with e1 e2 e3
    exact .inl ⟨e1, e2, e3⟩
  · injection hv with e1 e2 e3
    subst e1; subst e3
    exact .inr ⟨g, cur, rfl, k1, h3 g rfl, k2, by omega, k3, k4⟩
theorem RShape.own {w : World} {lo hi n c g : Nat} (h : RShape w lo hi (some ⟨g, 0, none⟩) n c) : lo ≤ g ∧ g < hi ∧ ∃ cur, Blk w g 3 cur ∧ cur.size = c ∧ n ≤ c ∧ c ≤ maxLen ∧ Own w g (g + 1) 3 1 (some ⟨g, 0, none⟩) n c (cur.toList.take n) := by
  rcases h with ⟨h1, _⟩ | ⟨g', cur, h1, h2, h3, h4, h5, h6, h7⟩
  · cases h1
  · injection h1 with h1
    injection h1 with h1
    subst h1
    exact ⟨h2, h3, cur, h4, h5, h6, h7, Own.mk_ (Nat.le_refl _) (by omega) h6 h7 h4 (by omega) (by rw [Nat.mul_one])⟩
theorem RShape.only {w w' : World} {lo hi n c n2 c2 q : Nat} {a : Option Addr} {xs : List Value} (h : RShape w lo hi a n c) (hq : RShape w lo hi (some ⟨q, 0, none⟩) n2 c2) (hO : Own w' q (q + 1) 3 1 (some ⟨q, 0, none⟩) n2 c2 xs) (hon : Only q (q + 1) w w') : RShape w' lo hi a n c := by
  rcases h with h | ⟨g, cur, h1, h2, h3, h4, h5, h6, h7⟩
  · exact .inl h
  · by_cases hg : g = q
    · subst hg
      obtain ⟨_, _, cur2, k1, k2, k3, k4, _⟩ := hq.own
      have hcc : c = c2 := by
        have e := k1.symm.trans h4
        injection e with e
        injection e with e1
        rw [← h5, ← k2, e1]
      obtain ⟨_, _, cur3, m1, m2, m3, m4, _⟩ := (RShape.of hO).own
      exact .inr ⟨g, cur3, h1, h2, h3, m1, by omega, h6, h7⟩
    · exact .inr ⟨g, cur, h1, h2, h3, (hon.block g h4.lt (by omega)).trans h4, h5, h6, h7⟩
theorem own_none (w : World) {n c : Nat} (hn : n = 0) (hc : c = 0) : Own w 0 0 3 1 none n c [] := by
  subst hn; subst hc
  exact ⟨⟨by simp, .inl ⟨rfl, rfl⟩⟩, fun g hg => by cases hg⟩
theorem blk_apart {w : World} {g q : Nat} {cs cur : Array Value} (h1 : Blk w g 32 cs) (h2 : Blk w q 3 cur) : q ≠ g := by
  intro e
  subst e
  have e := h1.symm.trans h2
  injection e with e
  injection e with e1 e2
  exact absurd e2 (by decide)
set_option maxHeartbeats 1000000 in
theorem markIntSS_any (A : Option Addr) (c : Nat) (L : List (List Int)) (lo hi : Nat) (k : Int) (w : World) (hT : TOwn w lo hi 32 3 A L.length c L) (hn : L.length ≤ 1048576) (hr : ∀ l ∈ L, l.length ≤ 1048576) (hk0 : 0 ≤ k) (hk1 : k + (bulkOf L : Int) ≤ 1099511627776) :
    Calls Try.prog 36 #[.slice A L.length c, .int .i64 k] w fun e w' => e = .returned (.int .i64 (k + (bulkOf L : Int))) ∧ Only lo hi w w' := by
  obtain ⟨g, cs, hd, rfl, h1, h2, hB, _, hnc, hsz, hdl, hcs, hrow⟩ := hT
  have Hr := Lib.hid hr
  have Hcs := Lib.hid hcs
  have Hsz := Lib.hid hsz
  have hS : ∀ (i : Nat) (a : Option Addr) (c' : Nat) (l : List Int), hd[i]? = some (a, c') → L[i]? = some l → RShape w lo hi a l.length c' := fun i a c' l ha hl => RShape.of (hrow i a c' l ha hl)
  have HS := Lib.hid hS
  have Hdl := Lib.hid hdl
  clear hr hcs hsz hS hrow hdl
  go_enter Try.func36, Try.ntmps36
  go_wp2_with fail
  go_loopw [1, 5] (fun u i wr => ∃ (j : Nat) (v : Int), j ≤ L.length ∧ i = .int .i64 j ∧ u = .int .i64 v ∧ v = k + (bulkOf (L.take j) : Int) ∧ Blk wr g 32 cs ∧ Hid (∀ (i : Nat) (a : Option Addr) (c' : Nat) (l : List Int), hd[i]? = some (a, c') → L[i]? = some l → RShape wr lo hi a l.length c') ∧ Only lo hi w wr) (fun _ i _ => L.length - (intOf i).toNat)
  case atStart => exact ⟨0, _, Nat.zero_le _, rfl, rfl, by simp [bulkOf], hB, HS, Only.refl _ _ _⟩
  case round =>
    clear hB HS
    obtain ⟨j, v, hj, rfl, rfl, hv, hB, HS, hO⟩ := hrel
    by_cases hlt : j < L.length
    · have hl := List.getElem?_eq_getElem hlt
      have hlm := Hr.out L[j] (List.getElem_mem _)
      obtain ⟨a, c', hh⟩ : ∃ a c', hd[j]? = some (a, c') := ⟨_, _, List.getElem?_eq_getElem (by rw [Hdl.out]; exact hlt)⟩
      have e1 := bulk_take_succ L j L[j] hl
      have e2 := bulk_take_le L (j + 1)
      have hsh := HS.out j a c' L[j] hh hl
      have hc0 := (hB.cell j).trans ((Hcs.out j hlt).trans (heads_at hh hl))
      generalize L[j] = l at hl hlm e1 hsh hc0
      have hji : (j : Int) < L.length := by omega
      have hv0 : 0 ≤ v := by omega
      have hv1 : v ≤ 1099511627776 := by omega
      have hv2 : v + (l.length : Int) = k + (bulkOf (L.take (j + 1)) : Int) := by omega
      have Hv2 := Lib.hid hv2
      clear hv hv2 e1 e2 hl hh
      rcases a with _ | ad
      · obtain ⟨_, hl0, hc0'⟩ : (none : Option Addr) = none ∧ l.length = 0 ∧ c' = 0 := by
          rcases hsh with h | ⟨_, _, h, _⟩
          · exact h
          · cases h
        have Hl0 := Lib.hid hl0
        have Hc0 := Lib.hid hc0'
        clear hl0 hc0'
        go_wp2_with fail
        refine (markIntS_any none l.length c' 0 0 [] v _ (own_none _ Hl0.out Hc0.out) hlm hv0 hv1).mono ?_
        rintro _ w2 ⟨rfl, _, hon⟩
        have hB2 : Blk w2 g 32 cs := (hon.block g hB.lt (by omega)).trans hB
        have hS2 : ∀ (i : Nat) (a : Option Addr) (c' : Nat) (l : List Int), hd[i]? = some (a, c') → L[i]? = some l → RShape w2 lo hi a l.length c' := by
          intro i a c' l ha hl
          rcases HS.out i a c' l ha hl with h | ⟨g, cur, h1, h2, h3, h4, h5, h6, h7⟩
          · exact .inl h
          · exact .inr ⟨g, cur, h1, h2, h3, (hon.block g h4.lt (by omega)).trans h4, h5, h6, h7⟩
        have HS2 := Lib.hid hS2
        have hO2 : Only lo hi w w2 := hO.trans ⟨hon.os, hon.tape, hon.output, hon.size, fun i k1 k2 => hon.block i k1 (by omega)⟩
        clear hS2 hon hB hc0 hsh
        go_wp2_with fail
        go_roundw
        case rel => exact ⟨j + 1, _, by omega, by go_num, rfl, Hv2.out, hB2, HS2, hO2⟩
        case measure => simp [intOf]; omega
      · obtain ⟨q, hq⟩ : ∃ q, ad = ⟨q, 0, none⟩ := by
          rcases hsh with ⟨h, _⟩ | ⟨q, _, h, _⟩
          · cases h
          · injection h with h; exact ⟨q, h⟩
        subst hq
        obtain ⟨q1, q2, cur, q3, q4, q5, q6, q7⟩ := hsh.own
        have hqg := blk_apart hB q3
        clear q3 q4
        go_wp2_with fail
        refine (markIntS_any _ l.length c' q (q + 1) _ v _ q7 hlm hv0 hv1).mono ?_
        rintro _ w2 ⟨rfl, hOq, hon⟩
        have hB2 : Blk w2 g 32 cs := (hon.block g hB.lt (by omega)).trans hB
        have hS2 : ∀ (i : Nat) (a : Option Addr) (c' : Nat) (l : List Int), hd[i]? = some (a, c') → L[i]? = some l → RShape w2 lo hi a l.length c' := fun i a c' l ha hl => (HS.out i a c' l ha hl).only hsh hOq hon
        have HS2 := Lib.hid hS2
        have hO2 : Only lo hi w w2 := hO.trans ⟨hon.os, hon.tape, hon.output, hon.size, fun i k1 k2 => hon.block i k1 (by omega)⟩
        clear hS2 hon hB hc0 hsh q7 hOq
        go_wp2_with fail
        go_roundw
        case rel => exact ⟨j + 1, _, by omega, by go_num, rfl, Hv2.out, hB2, HS2, hO2⟩
        case measure => simp [intOf]; omega
    · have Hv := Lib.hid hv
      clear hv
      go_wp2_with fail
      go_ret
      have e : j = L.length := by omega
      have hz := Hv.out
      rw [e, List.take_length] at hz
      exact ⟨ret_int hz, hO⟩
end Go.Proofs.Ytblfbllhkmcbbaa
