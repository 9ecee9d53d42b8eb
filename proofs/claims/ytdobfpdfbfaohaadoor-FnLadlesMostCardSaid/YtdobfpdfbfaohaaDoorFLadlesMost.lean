/-
  The walk of the law FnLadlesMost.
-/
import Derived.Test.YtdobfpdfbfaohaaDoorDm
import Derived.Test.YtdobfpdfbfaohaaDoorPl
import Derived.Test.YtdobfpdfbfaohaaDoorCw
import Derived.Test.YtdobfpdfbfaohaaDoorLat
namespace Go.Proofs.YtdobfpdfbfaohaaDoor
open Go.RowKit
set_option linter.unusedVariables false
theorem most_bad {h : List Heat} {c : Caster} {t : List Int} (hk : castOk h c t = false) : ladlesMost h c t = -1 := by simp [ladlesMost, hk]
set_option maxRecDepth 100000 in
set_option maxHeartbeats 4000000 in
theorem fnLadlesMost_walk (A : Option Addr) (n c : Nat) (l : List Int) (w : World) (hs : Sees w w.heap.size A (bys l)) (hl : l.length = n) (hby : ∀ z ∈ l, byteB z) (hc : n ≤ c) (hm : c ≤ maxLen) :
    Calls Tryd.prog 13 #[.slice A n c] w fun e w' => e = .returned (.bool true) ∧ Below w.heap.size w w' := by
  have hm' := hm
  unfold maxLen at hm'
  by_cases hn : n ≤ 1048576
  case neg =>
    go_enter Tryd.func13, Tryd.ntmps13
    go_wp2_with fail
    go_ret
    exact ⟨rfl, Below.refl _ _⟩
  obtain ⟨j0, ji, jz0, jz1, jz2⟩ := info_parts infoInt2
  go_enter Tryd.func13, Tryd.ntmps13
  go_wp2_with fail
  refine (drawLadlesMost_any A n c l _ hs hl hby hc hm).mono ?_
  rintro _ w1 ⟨hts, A1, c1, s, T, A2, c2, hsm, hlen, hsc, hTl, rfl, hQ, hT, hb⟩
  have Hsm := Lib.hid hsm
  clear hsm
  obtain ⟨f, s⟩ := s
  unfold smallC at hsc
  simp only at hsc
  have hB := Blk.made w1 24 #[.int .i64 f, .int .i64 s]
  replace hQ := own_hi (hQ.alloc (.cells #[.int .i64 f, .int .i64 s] 24)) (show w1.heap.size ≤ (w1.alloc (.cells #[.int .i64 f, .int .i64 s] 24)).heap.size by simp)
  replace hT := own_hi (hT.alloc (.cells #[.int .i64 f, .int .i64 s] 24)) (show w1.heap.size ≤ (w1.alloc (.cells #[.int .i64 f, .int .i64 s] 24)).heap.size by simp)
  replace hb := hb.alloc hb.size (.cells #[.int .i64 f, .int .i64 s] 24)
  go_wp2_with fail
  generalize w1.alloc _ = W at hB hb hQ hT ⊢
  refine (ladlesMost_any _ _ _ _ _ _ _ hQ.sees (by omega) hT.sees (by omega) _ _).mono ?_
  rintro _ w2 ⟨rfl, hb1⟩
  replace hQ := own_hi (hQ.below hb1) hb1.size
  replace hT := own_hi (hT.below hb1) hb1.size
  replace hB := hB.below hb1 hB.lt
  replace hb := below_next hb hb1
  clear hb1
  have c3 := hB.cell
  go_wp2_with fail
  clear c3
  refine (sLadlesMost_any _ _ _ _ _ _ _ hQ.sees (by omega) hT.sees (by omega) _ _).mono ?_
  rintro _ w3 ⟨rfl, hb1⟩
  replace hQ := own_hi (hQ.below hb1) hb1.size
  replace hT := own_hi (hT.below hb1) hb1.size
  replace hB := hB.below hb1 hB.lt
  replace hb := below_next hb hb1
  clear hb1
  cases hok : castOk hts ⟨f, s⟩ T with
  | false =>
    rw [most_bad hok]
    go_wp2_with fail
    refine (alive_any _).mono ?_
    rintro _ w9 ⟨rfl, hb1⟩
    go_wp2_with fail
    go_ret
    exact ⟨rfl, below_next hb hb1⟩
  | true =>
    have hle := most_le hok
    have hge := most_ge hok
    have hat := most_at hok
    have hz := most_zero hok
    have hlen1 := castOk_len hok
    obtain ⟨h1, h2, -, hmin, -⟩ := castOk_parts hok
    have hh6 := heats_len h1
    have Hmin := Lib.hid hmin
    have Hok := Lib.hid hok
    have HTl := Lib.hid hlen1
    rw [hlen1] at hT ⊢
    clear hlen1 hmin hok hTl
    clear h1 h2
    generalize ladlesMost hts ⟨f, s⟩ T = x at hle hge hat hz ⊢
    have Hge := Lib.hid hge
    have Hz := Lib.hid hz
    clear hge hz
    have hgoal : ∀ sb : Bool, ((∃ j : Nat, j < 400 ∧ ladlesAt hts ⟨f, s⟩ T j = x) ∨ x = 0 → sb = true) → sb = true := by
      intro sb h
      apply h
      rcases hat with h0 | ⟨a, ha, h0⟩
      · exact .inr h0
      · have := Hsm.out a ha
        unfold smallH at this
        exact .inl ⟨a.t.toNat, by omega, by rw [h0, Int.toNat_of_nonneg (by omega)]⟩
    have Hgoal := Lib.hid hgoal
    clear hgoal hat
    go_wp2_with fail
    go_loopw [7, 8] (fun t7 i wr => ∃ (k : Nat) (sb : Bool), k ≤ 400 ∧ i = .int .i64 k ∧ t7 = .bool sb ∧ Hid ((∃ j : Nat, j < k ∧ ladlesAt hts ⟨f, s⟩ T j = x) ∨ x = 0 → sb = true) ∧ Below w3.heap.size w3 wr) (fun _ i _ => 400 - (intOf i).toNat)
    case atStart => exact ⟨0, _, by omega, rfl, rfl, Lib.hid (by rintro (⟨j, hj, _⟩ | h0); exact absurd hj (by omega); simpa using h0), Below.refl _ _⟩
    case round =>
      obtain ⟨k, sb, hk, rfl, rfl, Hsb, hb1⟩ := hrel
      have hb3 := hb1
      replace hQ := own_hi (hQ.below hb1) hb1.size
      replace hT := own_hi (hT.below hb1) hb1.size
      replace hB := hB.below hb1 hB.lt
      replace hb := below_next hb hb1
      clear hb1
      by_cases hlt : k < 400
      · have c3 := hB.cell
        have hzx := Hge.out (k : Int)
        go_wp2_with fail
        clear c3
        have hcall := ladlesAt_any A1 A2 c1 c2 hts T wr hQ.sees (by omega) hT.sees (by rw [HTl.out]; omega) f s (k : Int)
        rw [HTl.out] at hcall
        refine hcall.mono ?_
        rintro _ w5 ⟨rfl, hb1⟩
        clear hcall
        replace hb3 := below_next hb3 hb1
        obtain ⟨z, hz⟩ : ∃ z, z = ladlesAt hts ⟨f, s⟩ T (k : Int) := ⟨_, rfl⟩
        rw [← hz] at hzx ⊢
        have Hz2 := Lib.hid hz
        clear hz
        have hd : decide (x < z) = false := by simpa using hzx
        have hnew : ∀ sb2 : Bool, (sb = true → sb2 = true) → (z = x → sb2 = true) → ((∃ j : Nat, j < k + 1 ∧ ladlesAt hts ⟨f, s⟩ T j = x) ∨ x = 0 → sb2 = true) := by
          rintro sb2 g1 g2 (⟨j, hj, hje⟩ | h0)
          · by_cases hjk : j < k
            · exact g1 (Hsb.out (.inl ⟨j, hjk, hje⟩))
            · obtain rfl : j = k := by omega
              exact g2 (by rw [Hz2.out, hje])
          · exact g1 (Hsb.out (.inr h0))
        have Hnew := Lib.hid hnew
        clear hnew
        cases sb with
        | true =>
          go_wp2_with fail
          go_roundw
          case rel => exact ⟨k + 1, true, by omega, by go_num, rfl, Lib.hid (Hnew.out _ (fun _ => rfl) (fun _ => rfl)), hb3⟩
          case measure => simp [intOf]; omega
        | false =>
          go_wp2_with fail
          go_roundw
          case rel => exact ⟨k + 1, z == x, by omega, by go_num, rfl, Lib.hid (Hnew.out _ (fun h => by cases h) (fun h => by simpa using h)), hb3⟩
          case measure => simp [intOf]; omega
      · have hk4 : k = 400 := by omega
        subst hk4
        obtain rfl := Hgoal.out sb Hsb.out
        have hd1 : decide (x ≤ (hts.length : Int)) = true := by simpa using hle.2
        by_cases h0 : hts.length = 0
        · have hx0 : (x == 0) = true := by rw [beq_iff_eq]; exact Hz.out.2 h0
          have hl0 : ((hts.length : Int) == 0) = true := by rw [beq_iff_eq]; omega
          clear h0
          go_wp2_with fail
          go_ret
          exact ⟨rfl, hb⟩
        · have hx0 : (x == 0) = false := by rw [beq_eq_false_iff_ne]; exact fun h => h0 (Hz.out.1 h)
          have hl0 : ((hts.length : Int) == 0) = false := by rw [beq_eq_false_iff_ne]; omega
          clear h0
          go_wp2_with fail
          go_ret
          exact ⟨rfl, hb⟩
end Go.Proofs.YtdobfpdfbfaohaaDoor
