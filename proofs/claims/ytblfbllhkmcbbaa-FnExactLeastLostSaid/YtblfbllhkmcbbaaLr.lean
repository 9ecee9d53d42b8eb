/-
  l2Rest in the reference.
-/
import Derived.Test.YtblfbllhkmcbbaaRg
import Derived.Test.YtblfbllhkmcbbaaApp1
namespace Go.Proofs.Ytblfbllhkmcbbaa
open Go.RowKit
set_option linter.unusedVariables false
set_option linter.unusedSimpArgs false
theorem wrap64_in {n : Int} (h1 : -1000 ≤ n) (h2 : n ≤ 100000) : wrap64 n = n := by unfold wrap64; omega
theorem bit_sum {t P s2 : Nat} (h : s2 = t + P) (hb : s2 < 64) : wrap64 ((t : Int) + (P : Int)) = (s2 : Int) ∧ IntKind.i64.wrap ((t : Int) + (P : Int)) = (s2 : Int) := by
  subst h
  exact ⟨(wrap64_in (by omega) (by omega)).trans (by omega), (wrap_in (by omega) (by omega)).trans (by omega)⟩
set_option maxRecDepth 20000 in
set_option maxHeartbeats 4000000 in
theorem l2Rest_any (A A1 : Option Addr) (c c1 : Nat) (h : List Heat) (L : List (List Int)) (w : World) (hs : Sees w w.heap.size A (ints (flatH h))) (ht : Tab w w.heap.size A1 L) (hh : heatsOk h = true) (hl : lostOk L = true) :
    Calls Try.prog 59 #[.slice A h.length c, .slice A1 L.length c1] w fun e w' => ∃ (g N c' : Nat), e = .returned (.slice (some ⟨g, 0, none⟩) N c') ∧ N = 2 ^ h.length ∧ Behind w' w.heap.size w'.heap.size g h.length (rest (lossN h L) h.length) ∧ Below w.heap.size w w' := by
  have hn6 : h.length ≤ 6 := by simp only [heatsOk, Bool.and_eq_true, decide_eq_true_eq] at hh; exact hh.1
  have hl0 : h.length = h.length := rfl
  obtain ⟨N, hN⟩ : ∃ N, N = 2 ^ h.length := ⟨_, rfl⟩
  have hN1 : 1 ≤ N := by rw [hN]; exact Nat.two_pow_pos _
  have hN64 : N ≤ 64 := by rw [hN]; exact pow_le64 _ (by omega)
  have e0 : (2 : Int) ^ h.length = (N : Int) := by rw [hN]; simp
  have hw : ∀ n : Int, -2 ≤ n → n ≤ 100 → wrap64 n = n := by intro n h1 h2; unfold wrap64; omega
  have e1 : wrap64 ((2 : Int) ^ h.length) = (N : Int) := by rw [e0]; exact hw _ (by omega) (by omega)
  have e2 : wrap64 ((N : Int) - 2) = (N : Int) - 2 := hw _ (by omega) (by omega)
  obtain ⟨i0, hi, hz0, hz1, hz2⟩ := info_parts infoRow
  obtain ⟨j0, ji, jz0, jz1, jz2⟩ := info_parts infoInt
  have hmk2 := fun W => run_make (P := Try.prog) W 32 3 j0 _ Try.underlying32 ji jz0 .i64 .i64 h.length h.length (by omega) (by omega) (by rw [jz2]; omega) (by omega)
  simp only [Int.toNat_natCast, jz1] at hmk2
  clear e0 hl0 hw
  have HN := Lib.hid hN
  rw [← hN]
  clear hN
  go_enter Try.func59, Try.ntmps59
  go_wp2_with fail
  have hT := TGrow.made w w.heap.size 32 3 (Nat.le_refl _)
  have hb0 : Below w.heap.size w (w.alloc (.cells #[] 32)) := (Below.refl _ _).alloc (Nat.le_refl _) _
  generalize w.alloc _ = W at hT hb0 ⊢
  go_loopw [6, 7] (fun t6 kv wr => ∃ (k g c : Nat) (hd : List (Option Addr × Nat)), k ≤ N ∧ kv = .int .i64 k ∧ t6 = .slice (some ⟨g, 0, none⟩) k c ∧ TGrow wr w.heap.size g 32 3 k c hd (List.replicate k (List.replicate h.length 0)) ∧ Hid (Dist hd) ∧ Below w.heap.size w wr) (fun _ kv _ => N - (intOf kv).toNat)
  case atStart => exact ⟨0, _, 0, [], by omega, rfl, rfl, hT, Lib.hid (fun i j a b ha => by simp at ha), hb0⟩
  case round =>
    obtain ⟨k, g, c, hd, hk, rfl, rfl, hTk, HD, hbk⟩ := hrel
    clear hT hb0
    by_cases hlt : k < N
    · have hki : (k : Int) < N := by omega
      have hg1 : g < wr.heap.size := hTk.2.1
      have hlog : w.heap.size ≤ g := hTk.2.2.1
      have hdist := hTk.dist HD.out (Nat.le_refl _) (cr := h.length)
      have Hdist := Lib.hid hdist
      have hrow := own_zeros wr h.length (by omega)
      have hT1 := hTk.alloc (.cells (madeCells #[.int .i64 0] h.length) 3)
      have hb1 := hbk.alloc hbk.size (.cells (madeCells #[.int .i64 0] h.length) 3)
      have hsee : Sees ((wr.alloc (.cells (madeCells #[.int .i64 0] h.length) 3)).alloc (.cells #[.slice (some ⟨wr.heap.size, 0, none⟩) h.length h.length] 32)) (wr.heap.size + 1 + 1) (some ⟨wr.heap.size + 1, 0, none⟩) [.slice (some ⟨wr.heap.size, 0, none⟩) h.length h.length] := by
        have := sees_head (wr.alloc (.cells (madeCells #[.int .i64 0] h.length) 3)) 32 (.slice (some ⟨wr.heap.size, 0, none⟩) h.length h.length)
        rwa [show (wr.alloc (.cells (madeCells #[.int .i64 0] h.length) 3)).heap.size = wr.heap.size + 1 from by simp] at this
      clear hdist HD
      go_wp2_with (at_builtin; go_loud (refine wpList_app1 _ rfl (.tmp 22) (.tmp 25) _ rfl 32 i0 _ 1 24 Try.underlying46 hi hz0 hz1 hz2 rfl (by omega) rfl (hT1.alloc _).1 (by simp; omega) rfl hsee (by simp) (by simp [Value.oneCell']) (by omega) (by omega) (by omega) ?_; intro g2 c2 w6 hT2 hor hlt6 hon))
      have hT3 := (hT1.alloc (.cells #[.slice (some ⟨wr.heap.size, 0, none⟩) h.length h.length] 32)).snoc (l := List.replicate h.length 0) (by rw [List.length_replicate]; exact hrow.below ((Below.refl _ _).alloc (Nat.le_refl _) _)) (by omega) (by omega) (by simp; omega) (by rw [List.length_replicate]; exact hT2) (by rcases hor with e | e <;> first | omega | (simp at e; simp; omega)) hlt6 hon
      have hb2 := below_only (hb1.alloc hb1.size (.cells #[.slice (some ⟨wr.heap.size, 0, none⟩) h.length h.length] 32)) hon hlog (by simp <;> omega)
      go_roundw
      case rel => exact ⟨k + 1, g2, c2, _, by omega, by go_num, rfl, by rw [List.replicate_succ']; exact hT3, Hdist, hb2⟩
      case measure => simp [intOf]; omega
    · have hke : k = N := by omega
      subst hke
      have hcap := hTk.cap
      have hR : Rows wr w.heap.size g k h.length c hd (rowU h L (k - 1)) := by
        refine ⟨?_, HD.out, fun i hi => rowU_len⟩
        rw [map_same_l (g := fun _ => List.replicate h.length 0) fun i hi => rowU_first (by omega) HN.out hi]
        rw [show (List.range k).map (fun _ => List.replicate h.length (0 : Int)) = List.replicate k (List.replicate h.length 0) from by simp [List.map_const']]
        exact hTk
      clear hTk hlt
      go_wp2_with fail
      go_loopw [8] (fun kv wr => ∃ (s : Nat) (z : Int), s ≤ k - 1 ∧ z = (s : Int) - 1 ∧ kv = .int .i64 z ∧ Rows wr w.heap.size g k h.length c hd (rowU h L s) ∧ Below w.heap.size w wr) (fun kv _ => (intOf kv).toNat)
      case atStart => exact ⟨k - 1, _, Nat.le_refl _, by omega, rfl, hR, hbk⟩
      case round =>
        clear hR hbk e1 e2 hmk2
        obtain ⟨s, z, hs1, hz, rfl, hR, hbk⟩ := hrel
        by_cases h0 : z ≤ 0
        · have hz3 : ¬ (0 < z) := by omega
          have Hz := Lib.hid hz
          clear hz
          go_wp2_with fail
          go_ret
          exact ⟨g, k, ⟨c, rfl⟩, rfl, hR.behind HN.out fun t i h1 h3 h4 => rowU_at (by have := Hz.out; omega) h3, hbk⟩
        · obtain ⟨t, rfl⟩ : ∃ t : Nat, z = t := ⟨z.toNat, by omega⟩
          obtain rfl : s = t + 1 := by omega
          have ht0 : (0 : Int) < (t : Int) := by omega
          have ht1 : t + 1 < k := by omega
          clear hz h0 hs1
          replace hR := hR.same fun i hi => rowV_zero
          have hsp : (t : Int) < k := by omega
          go_wp2_with fail
          go_loopw [9] (fun kv wr => ∃ q : Nat, q ≤ h.length ∧ kv = .int .i64 q ∧ Rows wr w.heap.size g k h.length c hd (rowV h L t q) ∧ Below w.heap.size w wr) (fun kv _ => h.length - (intOf kv).toNat)
          case atStart => exact ⟨0, by omega, rfl, hR, hbk⟩
          case round =>
            clear hR hbk
            obtain ⟨q, hq, rfl, hR, hbk⟩ := hrel
            by_cases hql : q < h.length
            · have hqi : (q : Int) < h.length := by omega
              go_wp2_with fail
              go_loopw [10, 11] (fun bv kv wr => ∃ (j : Nat) (o : Option Int), j ≤ h.length ∧ o = minK (lossN h L) (rest (lossN h L) h.length) t q j ∧ kv = .int .i64 j ∧ bv = .int .i64 (o.getD (-1)) ∧ Rows wr w.heap.size g k h.length c hd (rowV h L t q) ∧ Below w.heap.size w wr) (fun _ kv _ => h.length - (intOf kv).toNat)
              case atStart => exact ⟨0, none, by omega, rfl, rfl, rfl, hR, hbk⟩
              case round =>
                clear hR hbk
                obtain ⟨j, o, hj, ho, rfl, rfl, hR, hbk⟩ := hrel
                have Ho := Lib.hid ho
                clear ho
                by_cases hjl : j < h.length
                · have hji : (j : Int) < h.length := by omega
                  have hba := bit_rem (s := t) (k := j) (by omega) (by omega)
                  cases hb : t.testBit j with
                  | true =>
                    rw [hb, if_pos rfl] at hba
                    go_wp2_with fail
                    go_roundw
                    case rel => exact ⟨j + 1, o, by omega, by rw [minK]; unfold minStep; rw [if_pos hb]; exact Ho.out, by go_num, rfl, hR, hbk⟩
                    case measure => simp [intOf]; omega
                  | false =>
                    rw [hb, if_neg (by decide)] at hba
                    have Hba := Lib.hid hba
                    clear hba
                    have hs2 := bit_add h.length (by omega) t (by rw [← HN.out]; omega) j hjl hb
                    obtain ⟨P, hP⟩ : ∃ P : Nat, P = 2 ^ j := ⟨_, rfl⟩
                    have hPi : (2 : Int) ^ j = (P : Int) := by rw [hP]; simp
                    have hP64 : P ≤ 64 := by rw [hP]; exact pow_le64 j (by omega)
                    have hsh : wrap64 ((2 : Int) ^ j) = (P : Int) := by rw [hPi]; unfold wrap64; omega
                    have Hstep := Lib.hid (minK_next (c := lossN h L) (T := rest (lossN h L) h.length) (last := q) Ho.out.symm hb)
                    generalize t ||| 1 <<< j = s2 at hs2 Hstep
                    rw [← hP] at hs2
                    clear hP hPi
                    have h2N : s2 < k := by rw [HN.out]; exact hs2.2.1
                    have h2s : t < s2 := hs2.2.2.1
                    have hs3 := hs2.1
                    clear hs2
                    have Hsum := Lib.hid (bit_sum hs3 (Nat.lt_of_lt_of_le h2N hN64))
                    have Hsh := Lib.hid hsh
                    clear hsh
                    clear hs3
                    obtain ⟨b2, cr2, k1, k2, lo2, lt2, hnum⟩ := hR.row (i := s2) h2N
                    have hval2 := (hnum j (rest (lossN h L) h.length s2 j) (rowV_more h2s hjl)).1
                    clear hnum
                    obtain ⟨b, off, a, f, b5, off5, b6, off6, rc, rfl, ca, cf, rfl, ha4, hf4, cr, cv⟩ := loss_facts (hs.below hbk) (ht.below hbk) hh hl hql hjl
                    have hlb := lossN_bound (h := h) hl q j
                    have hrb := rest_bound (c := lossN h L) (fun a b => lossN_bound hl a b) h.length s2 j
                    have hob : ∀ b0, o = some b0 → 0 ≤ b0 := fun b0 hb0 => (minK_bound (B := 6336) (fun a b => lossN_bound hl a b) (fun a b => rest_bound (fun a b => lossN_bound hl a b) _ _ _) j b0 (by rw [← Ho.out]; exact hb0)).1
                    generalize lossN h L q j = lv at Hstep cv hlb
                    generalize rest (lossN h L) h.length s2 j = rv at Hstep hval2 hrb
                    have hL4 : (L.length : Int) = 4 := by have := lost_len hl; omega
                    have q1 : (a : Int) < L.length := by omega
                    have q2 : (f : Int) < 4 := by omega
                    have q3 : (s2 : Int) < k := by omega
                    have hwr1 : IntKind.i64.wrap (lv + rv) = lv + rv := wrap_in (by omega) (by omega)
                    have hbe : (((t : Int) / 2 ^ j).tmod 2 == 0) = true := by rw [Hba.out]; rfl
                    have hsh := Hsh.out
                    obtain ⟨hadd, hw2⟩ := Hsum.out
                    clear Hsh Hsum
                    clear hb hP64 hL4 ha4 hf4 h2N h2s
                    go_wp2_with fail
                    go_quiet (fail)
                    clear hwr1 hsh hadd hw2 ca cf cr cv k1 k2 hval2
                    cases o with
                    | none =>
                      go_wp2_with fail
                      go_roundw
                      case rel => exact ⟨j + 1, some (lv + rv), by omega, (Hstep.out.1 rfl).symm, by go_num, rfl, hR, below_drewN hbk _⟩
                      case measure => simp [intOf]; omega
                    | some b0 =>
                      have hb00 := hob b0 rfl
                      have hbn : ¬ (b0 < 0) := by omega
                      clear hob
                      by_cases hlv : lv + rv < b0
                      · go_wp2_with fail
                        go_roundw
                        case rel => exact ⟨j + 1, some (lv + rv), by omega, ((Hstep.out.2 b0 rfl).trans (if_pos hlv)).symm, by go_num, rfl, hR, below_drewN hbk _⟩
                        case measure => simp [intOf]; omega
                      · go_wp2_with fail
                        go_roundw
                        case rel => exact ⟨j + 1, some b0, by omega, ((Hstep.out.2 b0 rfl).trans (if_neg hlv)).symm, by go_num, rfl, hR, below_drewN hbk _⟩
                        case measure => simp [intOf]; omega
                · have hlt2 : ¬ ((j : Int) < h.length) := by omega
                  have hje : j = h.length := by omega
                  have hv : o.getD (-1) = rest (lossN h L) h.length t q := by
                    rw [Ho.out, hje]
                    exact minK_rest (by omega) (by have := HN.out; omega) (-1)
                  obtain ⟨b, cr, c1, f1, lo1, lt1, hnum⟩ := hR.row (i := t) (by omega)
                  obtain ⟨c2, f2, hput⟩ := hnum q 0 (rowV_at hql)
                  have hput2 := (hput (o.getD (-1))).same fun i _ => rowV_put hv
                  have Hv := Lib.hid hv
                  clear hje hv hnum hput Ho
                  go_wp2_with fail
                  go_roundw
                  case rel => exact ⟨q + 1, by omega, by go_num, hput2, hbk.setCell lo1 _⟩
                  case measure => simp [intOf]; omega
            · have hlt2 : ¬ ((q : Int) < h.length) := by omega
              have hqe : q = h.length := by omega
              have Hq := Lib.hid hqe
              clear hqe
              go_wp2_with fail
              go_roundw
              case rel => exact ⟨t, _, by omega, by omega, rfl, hR.same fun i _ => by rw [Hq.out, rowV_end], hbk⟩
              case measure => simp [intOf]; omega
end Go.Proofs.Ytblfbllhkmcbbaa
