/-
  leastBehind in the program.
-/
import Derived.Test.YtblfbllhkmcbbaaRg
namespace Go.Proofs.Ytblfbllhkmcbbaa
open Go.RowKit
set_option linter.unusedVariables false
set_option linter.unusedSimpArgs false
set_option maxRecDepth 20000 in
set_option maxHeartbeats 4000000 in
theorem leastBehind_any (A A1 : Option Addr) (c c1 : Nat) (h : List Heat) (L : List (List Int)) (w : World) (hs : Sees w w.heap.size A (ints (flatH h))) (ht : Tab w w.heap.size A1 L) (hh : heatsOk h = true) (hl : lostOk L = true) :
    Calls Try.prog 63 #[.slice A h.length c, .slice A1 L.length c1] w fun e w' => ∃ (g N c' : Nat), e = .returned (.slice (some ⟨g, 0, none⟩) N c') ∧ N = 2 ^ h.length ∧ Behind w' w.heap.size w'.heap.size g h.length (rest (lossN h L) h.length) ∧ Below w.heap.size w w' := by
  have hn6 : h.length ≤ 6 := by simp only [heatsOk, Bool.and_eq_true, decide_eq_true_eq] at hh; exact hh.1
  have hl0 : h.length = h.length := rfl
  obtain ⟨N, hN⟩ : ∃ N, N = 2 ^ h.length := ⟨_, rfl⟩
  have hN1 : 1 ≤ N := by rw [hN]; exact Nat.two_pow_pos _
  have hN64 : N ≤ 64 := by rw [hN]; exact pow_le64 _ (by omega)
  have e0 : (2 : Int) ^ h.length = (N : Int) := by rw [hN]; simp
  have hw : ∀ n : Int, 0 ≤ n → n ≤ 100 → wrap64 n = n := by intro n h1 h2; unfold wrap64; omega
  have e1 : wrap64 ((2 : Int) ^ h.length) = (N : Int) := by rw [e0]; exact hw _ (by omega) (by omega)
  have e2 : wrap64 ((N : Int) - 1) = (N : Int) - 1 := hw _ (by omega) (by omega)
  have e3 : wrap64 ((N : Int) - 1 + 1) = (N : Int) := (hw _ (by omega) (by omega)).trans (by omega)
  obtain ⟨i0, hi, hz0, hz1, hz2⟩ := info_parts infoRow
  have hmk := fun W => run_make (P := Try.prog) W 46 32 i0 _ Try.underlying46 hi hz0 .i64 .i64 N N (by omega) (by omega) (by rw [hz2]; omega) (by omega)
  simp only [Int.toNat_natCast, hz1] at hmk
  obtain ⟨j0, ji, jz0, jz1, jz2⟩ := info_parts infoInt
  have hmk2 := fun W => run_make (P := Try.prog) W 32 3 j0 _ Try.underlying32 ji jz0 .i64 .i64 h.length h.length (by omega) (by omega) (by rw [jz2]; omega) (by omega)
  simp only [Int.toNat_natCast, jz1] at hmk2
  clear e0 hl0 hw
  have HN := Lib.hid hN
  rw [← hN]
  clear hN
  go_enter Try.func63, Try.ntmps63
  go_wp2_with fail
  have hG := Grid.made w w.heap.size N h.length (fun _ => 0) (rowR h L) (Nat.le_refl _)
  have hb0 : Below w.heap.size w (w.alloc (.cells (madeCells #[.slice none 0 0] N) 32)) := (Below.refl _ _).alloc (Nat.le_refl _) _
  clear e1 e2 e3 hmk
  generalize w.alloc _ = W at hG hb0 ⊢
  go_loopw [7] (fun kv wr => ∃ (s : Nat) (bs : Nat → Nat), s ≤ N - 1 ∧ kv = .int .i64 s ∧ Grid wr w.heap.size w.heap.size N h.length (s + 1) bs (rowR h L) ∧ Below w.heap.size w wr) (fun kv _ => (intOf kv).toNat)
  case atStart => exact ⟨N - 1, _, Nat.le_refl _, by congr 1; omega, by rw [Nat.sub_add_cancel hN1]; exact hG, hb0⟩
  case round =>
    obtain ⟨s, bs, hs1, rfl, hGr, hbr⟩ := hrel
    clear hG hb0
    by_cases h0 : s = 0
    · subst h0
      go_wp2_with fail
      go_ret
      exact ⟨w.heap.size, N, N, rfl, rfl, hGr.behind (by omega) HN.out fun t i _ h3 h4 => rowR_at h3 h4, hbr⟩
    have hsp : (0 : Int) < s := by omega
    have hM := hGr.more (by omega)
    have hbM : Below w.heap.size w ((wr.alloc (.cells (madeCells #[.int .i64 0] h.length) 3)).setCell ⟨w.heap.size, s, none⟩ (.slice (some ⟨wr.heap.size, 0, none⟩) h.length h.length)) := (hbr.alloc hbr.size _).setCell (Nat.le_refl _) _
    have hfr := (hGr.alloc (.cells (madeCells #[.int .i64 0] h.length) 3)).outer (i := s) (by omega)
    obtain ⟨v0, hc0, hf0⟩ := hfr
    by_cases hsN : s = N - 1
    · have hse : (((s : Nat) : Int) == (N : Int) - 1) = true := by rw [beq_iff_eq]; omega
      have HsN := Lib.hid hsN
      clear hsN
      go_wp2_with fail
      go_roundw
      case rel =>
        refine ⟨s - 1, fun i => if i = s then wr.heap.size else bs i, by omega, by congr 1; omega, ?_, hbM⟩
        rw [Nat.sub_add_cancel (by omega)]
        refine hM.same fun i k1 k2 => ?_
        by_cases hi : i = s
        · subst hi
          rw [if_pos rfl, rowR_full (by omega) (by rw [HsN.out, HN.out])]
        · rw [if_neg hi]
      case measure => simp [intOf]; omega
    have hse : (((s : Nat) : Int) == (N : Int) - 1) = false := by rw [beq_eq_false_iff_ne]; omega
    go_wp2_with fail
    clear hGr hbr hc0 hf0
    replace hM := hM.same (D' := rowD h L s 0) fun i k1 k2 => by
      by_cases hi : i = s
      · subst hi; rw [if_pos rfl, rowD_zero]
      · rw [if_neg hi, rowD_else hi]
    generalize (fun i => if i = s then wr.heap.size else bs i) = bq at hM ⊢
    generalize World.setCell _ _ _ = X at hM hbM ⊢
    go_loopw [35] (fun kv wr => ∃ (k : Nat), k ≤ h.length ∧ kv = .int .i64 k ∧ Grid wr w.heap.size w.heap.size N h.length s bq (rowD h L s k) ∧ Below w.heap.size w wr) (fun kv _ => h.length - (intOf kv).toNat)
    case atStart => exact ⟨0, by omega, rfl, hM, hbM⟩
    case round =>
      obtain ⟨k, hk, rfl, hGk, hbk⟩ := hrel
      clear hM hbM
      by_cases hlt : k < h.length
      · have hki : (k : Int) < h.length := by omega
        have hba := bit_and (s := s) (k := k) (by omega) (by omega)
        cases hb : s.testBit k with
        | false =>
          rw [hb, if_neg (by decide)] at hba
          have hbe : (bits BinOp.and IntKind.i64 ((s : Int) / 2 ^ k) 1 == 0) = true := by rw [hba]; rfl
          clear hba
          go_wp2_with fail
          go_roundw
          case rel => exact ⟨k + 1, by omega, by go_num, hGk.same fun i _ _ => (rowD_skip hb).symm, hbk⟩
          case measure => simp [intOf]; omega
        | true =>
          rw [hb, if_pos rfl] at hba
          have hbe : (bits BinOp.and IntKind.i64 ((s : Int) / 2 ^ k) 1 == 0) = false := by rw [hba]; rfl
          clear hba
          have Hb := Lib.hid hb
          clear hb
          go_wp2_with fail
          go_loopw [9, 45] (fun fl kv wr => ∃ (j : Nat) (o : Option Int), j ≤ h.length ∧ o = minK (lossN h L) (rest (lossN h L) h.length) s k j ∧ kv = .int .i64 j ∧ fl = .bool o.isSome ∧ Grid wr w.heap.size w.heap.size N h.length s bq (rowE h L s k o) ∧ Below w.heap.size w wr) (fun _ kv _ => h.length - (intOf kv).toNat)
          case atStart => exact ⟨0, none, by omega, rfl, rfl, rfl, hGk.same fun i _ _ => rowE_zero.symm, hbk⟩
          case round =>
            obtain ⟨j, o, hj, ho, rfl, rfl, hGj, hbj⟩ := hrel
            have Ho := Lib.hid ho
            clear ho hGk hbk
            by_cases hjl : j < h.length
            · have hji : (j : Int) < h.length := by omega
              have hba := bit_and (s := s) (k := j) (by omega) (by omega)
              cases hbj2 : s.testBit j with
              | true =>
                rw [hbj2, if_pos rfl] at hba
                have hbe : (bits BinOp.and IntKind.i64 ((s : Int) / 2 ^ j) 1 == 1) = true := by rw [hba]; rfl
                clear hba
                go_wp2_with fail
                go_roundw
                case rel => exact ⟨j + 1, o, by omega, by rw [minK]; unfold minStep; rw [if_pos hbj2]; exact Ho.out, by go_num, rfl, hGj, hbj⟩
                case measure => simp [intOf]; omega
              | false =>
                rw [hbj2, if_neg (by decide)] at hba
                have hbe : (bits BinOp.and IntKind.i64 ((s : Int) / 2 ^ j) 1 == 1) = false := by rw [hba]; rfl
                clear hba
                have hs2 := bit_add h.length (by omega) s (by rw [← HN.out]; omega) j hjl hbj2
                have hor := bit_or (s := s) (k := j) (by omega) (by omega)
                obtain ⟨P, hP⟩ : ∃ P : Nat, P = 2 ^ j := ⟨_, rfl⟩
                have hPi : (2 : Int) ^ j = (P : Int) := by rw [hP]; simp
                have hP64 : P ≤ 64 := by rw [hP]; exact pow_le64 j (by omega)
                rw [hPi] at hor
                have hsh : wrap64 ((2 : Int) ^ j) = (P : Int) := by rw [hPi]; unfold wrap64; omega
                have hstep := minK_next (c := lossN h L) (T := rest (lossN h L) h.length) (last := k) Ho.out.symm hbj2
                generalize s ||| 1 <<< j = s2 at hs2 hor hstep
                have h2N : s2 < N := by have := hs2.2.1; have e := HN.out; omega
                have h2s : s ≤ s2 := Nat.le_of_lt hs2.2.2.1
                have h2n : s2 ≠ s := Nat.ne_of_gt hs2.2.2.1
                have h2b := hs2.2.2.2
                clear hs2
                have hrow2 := (hGj.row h2s h2N).1
                have hval2 := (hGj.num (i := s2) (j := j) (x := rest (lossN h L) h.length s2 j) h2s h2N (by rw [rowE_else h2n]; exact rowR_at hjl h2b)).1
                obtain ⟨b, off, a, f, b5, off5, b6, off6, rc, rfl, ca, cf, rfl, ha4, hf4, cr, cv⟩ := loss_facts (hs.below hbj) (ht.below hbj) hh hl hlt hjl
                have hlb := lossN_bound (h := h) hl k j
                have hrb := rest_bound (c := lossN h L) (fun a b => lossN_bound hl a b) h.length s2 j
                generalize lossN h L k j = lv at hstep cv hlb
                generalize rest (lossN h L) h.length s2 j = rv at hstep hval2 hrb
                have Hstep := Lib.hid hstep
                have hL4 : (L.length : Int) = 4 := by have := lost_len hl; omega
                have q1 : (a : Int) < L.length := by omega
                have q2 : (f : Int) < 4 := by omega
                have q3 : (s2 : Int) < N := by omega
                have hwr1 : IntKind.i64.wrap (lv + rv) = lv + rv := wrap_in (by omega) (by omega)
                clear hstep hbj2 hP hPi hP64 hL4 ha4 hf4 h2N h2s h2b
                go_wp2_with fail
                go_quiet (fail)
                clear hwr1 hsh hor ca cf cr cv hrow2 hval2
                have hsN2 : s < N := by omega
                have hcs := hGj.row (i := s) (Nat.le_refl _) hsN2
                have hck := hGj.num (i := s) (j := k) (x := o.getD 0) (Nat.le_refl _) hsN2 (rowE_at hlt)
                have hlo := (hGj.2.2 s (Nat.le_refl _) hsN2).1
                have hput := fun v : Int => (hGj.put (i := s) (j := k) (Nat.le_refl _) hsN2 v).same (D' := rowE h L s k (some v)) fun i _ _ => by
                  by_cases hi : i = s
                  · subst hi; rw [if_pos rfl, rowE_put]
                  · rw [if_neg hi, rowE_else hi, rowE_else hi]
                cases o with
                | none =>
                  go_wp2_with fail
                  go_roundw
                  case rel => exact ⟨j + 1, some (lv + rv), by omega, (Hstep.out.1 rfl).symm, by go_num, rfl, hput _, (below_drewN hbj _).setCell hlo _⟩
                  case measure => simp [intOf]; omega
                | some b0 =>
                  by_cases hlv : lv + rv < b0
                  · go_wp2_with fail
                    go_roundw
                    case rel => exact ⟨j + 1, some (lv + rv), by omega, ((Hstep.out.2 b0 rfl).trans (if_pos hlv)).symm, by go_num, rfl, hput _, (below_drewN hbj _).setCell hlo _⟩
                    case measure => simp [intOf]; omega
                  · go_wp2_with fail
                    go_roundw
                    case rel => exact ⟨j + 1, some b0, by omega, ((Hstep.out.2 b0 rfl).trans (if_neg hlv)).symm, by go_num, rfl, hGj, below_drewN hbj _⟩
                    case measure => simp [intOf]; omega
            · have hlt2 : ¬ ((j : Int) < h.length) := by omega
              have hje : j = h.length := by omega
              have Hj := Lib.hid hje
              clear hje
              go_wp2_with fail
              go_roundw
              case rel =>
                refine ⟨k + 1, by omega, by go_num, ?_, hbj⟩
                refine hGj.same fun i _ _ => ?_
                rw [Ho.out, Hj.out, rowE_end (by omega) (by rw [← HN.out]; omega) Hb.out]
              case measure => simp [intOf]; omega
      · have hlt2 : ¬ ((k : Int) < h.length) := by omega
        have hke : k = h.length := by omega
        have Hk := Lib.hid hke
        clear hke
        go_wp2_with fail
        go_roundw
        case rel =>
          refine ⟨s - 1, bq, by omega, by congr 1; omega, ?_, hbk⟩
          rw [Nat.sub_add_cancel (by omega)]
          refine hGk.same fun i _ _ => ?_
          rw [Hk.out, rowD_end]
        case measure => simp [intOf]; omega
end Go.Proofs.Ytblfbllhkmcbbaa
