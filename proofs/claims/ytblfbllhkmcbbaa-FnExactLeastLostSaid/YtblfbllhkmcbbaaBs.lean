/-
  BestOrder in the reference.
-/
import Derived.Test.YtblfbllhkmcbbaaBo
import Derived.Test.YtblfbllhkmcbbaaLr
namespace Go.Proofs.Ytblfbllhkmcbbaa
open Go.RowKit
set_option linter.unusedVariables false
set_option linter.unusedSimpArgs false
set_option maxRecDepth 20000 in
set_option maxHeartbeats 4000000 in
theorem sBestOrder_any (A A1 : Option Addr) (c c1 : Nat) (h : List Heat) (L : List (List Int)) (w : World) (hs : Sees w w.heap.size A (ints (flatH h))) (hn : h.length ≤ 1048576) (ht : Tab w w.heap.size A1 L) (hn1 : L.length ≤ 1048576) (hr1 : ∀ l ∈ L, l.length ≤ 1048576) :
    Calls Try.prog 29 #[.slice A h.length c, .slice A1 L.length c1] w (RetRow w 3 (bestOrder h L).length (bestOrder h L)) := by
  have Hr1 := Lib.hid hr1
  clear hr1
  obtain ⟨i0, hi, hz0, hz1, hz2⟩ := info_parts infoInt
  go_enter Try.func29, Try.ntmps29
  go_wp2_with fail
  have hO := own_made w 3 1
  have hbV : Below w.heap.size w (w.alloc (.cells #[] 3)) := (Below.refl _ _).alloc (Nat.le_refl _) _
  have hlt0 : w.heap.size < (w.alloc (.cells #[] 3)).heap.size := by simp
  generalize w.alloc _ = W at hbV hO hlt0 ⊢
  have hO := own_hi hO (show w.heap.size + 1 ≤ w.heap.size + 1 from Nat.le_refl _)
  refine (sHeatsValid_any _ _ _ _ (hs.next hbV) hn).mono ?_
  rintro _ w1 ⟨rfl, hb⟩
  replace hO := hO.below hb
  have hz := hb.size
  replace hbV := below_next hbV hb
  clear hb
  cases hok : heatsOk h with
  | false =>
    go_wp2_with fail
    go_ret
    exact ⟨some ⟨w.heap.size, 0, none⟩, 0, ret_slice (by simp [bestOrder, hok]), by simpa [bestOrder, hok, ints] using own_hi hO (Nat.lt_of_lt_of_le hlt0 hz), hbV⟩
  | true =>
  go_wp2_with fail
  refine (sLostValid_any _ _ _ _ (ht.next hbV) hn1 Hr1.out).mono ?_
  rintro _ w2 ⟨rfl, rfl⟩
  cases hl : lostOk L with
  | false =>
    go_wp2_with fail
    go_ret
    exact ⟨some ⟨w.heap.size, 0, none⟩, 0, ret_slice (by simp [bestOrder, hl]), by simpa [bestOrder, hl, ints] using own_hi hO (Nat.lt_of_lt_of_le hlt0 hz), hbV⟩
  | true =>
  have h6 := heats_len hok
  go_wp2_with fail
  refine (l2Rest_any _ _ _ _ h L _ (hs.next hbV) (ht.next hbV) hok hl).mono ?_
  rintro _ w3 ⟨g, N, cT, rfl, hN, hT, hb⟩
  have HN := Lib.hid hN
  clear hN
  replace hO := hO.below hb
  have hz3 := hb.size
  replace hbV := below_next hbV hb
  clear hb
  have hlow : w.heap.size < w1.heap.size := by omega
  obtain ⟨lo, hlo⟩ : ∃ lo, lo = w1.heap.size := ⟨_, rfl⟩
  rw [← hlo] at hT hlow
  clear hlo
  go_wp2_with fail
  obtain ⟨hi3, hhi3⟩ : ∃ hi3, hi3 = w3.heap.size := ⟨_, rfl⟩
  rw [← hhi3] at hT
  have hh3 : hi3 ≤ w3.heap.size := by omega
  have hlw3 : w.heap.size < w3.heap.size := by omega
  go_loopw [5, 8, 9] (fun v st la wr => ∃ (k g1 co : Nat) (p : List Nat × Nat) (li : Int), k ≤ h.length ∧ p = ordS (lossN h L) (rest (lossN h L) h.length) h.length k ∧ v = .slice (some ⟨g1, 0, none⟩) k co ∧ st = .int .i64 p.2 ∧ la = .int .i64 li ∧ li = lastI p.1.getLast? ∧ Own wr g1 (g1 + 1) 3 1 (some ⟨g1, 0, none⟩) k co (ints (natsI p.1)) ∧ g1 < wr.heap.size ∧ w.heap.size ≤ g1 ∧ (g1 < lo ∨ hi3 ≤ g1) ∧ Behind wr lo hi3 g h.length (rest (lossN h L) h.length) ∧ hi3 ≤ wr.heap.size ∧ Below w.heap.size w wr) (fun v _ _ _ => h.length - lenV v)
  case atStart => exact ⟨0, w.heap.size, 0, ([], 0), -1, Nat.zero_le _, rfl, rfl, rfl, rfl, rfl, hO, hlw3, Nat.le_refl _, .inl hlow, hT, hh3, hbV⟩
  case round =>
    clear hO hT hbV hh3 hlw3
    obtain ⟨k, g1, co, p, li, hk, hp, rfl, rfl, rfl, hli, hO, hg1, hg1w, hg1d, hT, hh3, hbV⟩ := hrel
    have Hli := Lib.hid hli
    clear hli
    by_cases hlt : k < h.length
    · have hki : (k : Int) < h.length := by omega
      obtain ⟨m1, m2, m3, m4, b, m5, m6, m7, m8⟩ := ord_more (by omega) hp hlt
      have Hp := Lib.hid hp
      have M4 := Lib.hid m4
      have M5 := Lib.hid m5
      have M7 := Lib.hid m7
      have M8 := Lib.hid m8
      have M2 := Lib.hid m2
      have M1 := Lib.hid m1
      clear hp m1 m2 m3 m4 m5 m7 m8
      go_wp2_with fail
      go_loopw [10, 11, 12] (fun bv cv kv wr => ∃ (j : Nat) (o : Option (Nat × Int)) (bi ci : Int), j ≤ h.length ∧ o = pickK (lossN h L) (rest (lossN h L) h.length) p.2 p.1.getLast? j ∧ kv = .int .i64 j ∧ bv = .int .i64 bi ∧ bi = pickB o ∧ cv = .int .i64 ci ∧ ci = pickC o ∧ Own wr g1 (g1 + 1) 3 1 (some ⟨g1, 0, none⟩) k co (ints (natsI p.1)) ∧ g1 < wr.heap.size ∧ Behind wr lo hi3 g h.length (rest (lossN h L) h.length) ∧ hi3 ≤ wr.heap.size ∧ Below w.heap.size w wr) (fun _ _ kv _ => h.length - (intOf kv).toNat)
      case atStart => exact ⟨0, none, -1, 0, Nat.zero_le _, rfl, rfl, rfl, rfl, rfl, rfl, hO, hg1, hT, hh3, hbV⟩
      case round =>
        clear hO hg1 hT hh3 hbV
        obtain ⟨j, o, bi, ci, hj, ho, rfl, rfl, hbi, rfl, hci, hO, hg1, hT, hh3, hbV⟩ := hrel
        have Ho := Lib.hid ho
        have Hbi := Lib.hid hbi
        have Hci := Lib.hid hci
        clear ho hbi hci
        by_cases hjl : j < h.length
        · have hji : (j : Int) < h.length := by omega
          have hp64 : p.2 < 64 := Nat.lt_of_lt_of_le M2.out (pow_le64 _ (by omega))
          have hba := bit_rem (s := p.2) (k := j) hp64 (by omega)
          cases hb : p.2.testBit j with
          | true =>
            rw [hb, if_pos rfl] at hba
            go_wp2_with fail
            go_roundw
            case rel => exact ⟨j + 1, o, bi, ci, by omega, by rw [pick_skip hb]; exact Ho.out, by go_num, rfl, Hbi.out, rfl, Hci.out, hO, hg1, hT, hh3, hbV⟩
            case measure => simp [intOf]; omega
          | false =>
            rw [hb, if_neg (by decide)] at hba
            have hbe : (((p.2 : Int) / 2 ^ j).tmod 2 == 1) = false := by rw [hba]; rfl
            have Hbe := Lib.hid hbe
            clear hba hbe
            obtain ⟨P, s2, hs2, s20, s2n, s264, s2b, hsh, hadd, hw2, hor⟩ := bit_join (by omega) M2.out hjl hb
            have Hsh := Lib.hid hsh
            have Hadd := Lib.hid hadd
            have Hw2 := Lib.hid hw2
            clear hsh hadd hw2 hor
            have Hstep := Lib.hid (pick_next Ho.out.symm hb)
            obtain ⟨q, cr, k1, k2, k3, k4, k5, k6⟩ := hT s2 j s20 s2n hjl s2b
            rw [← HN.out] at s2n
            have q3 : (s2 : Int) < N := by omega
            have hrb := rest_bound (c := lossN h L) (fun a b => lossN_bound hl a b) h.length s2 j
            rcases last_of M1.out M4.out with ⟨hk0, hla⟩ | ⟨k', l, hk', hla, hll, hlat⟩
            · have hpx : pickX (lossN h L) (rest (lossN h L) h.length) p.2 p.1.getLast? j = rest (lossN h L) h.length s2 j := by rw [hla, hs2]; rfl
              obtain rfl : li = -1 := by rw [Hli.out, hla]; rfl
              generalize rest (lossN h L) h.length s2 j = rv at hpx k6 hrb
              have Hpx := Lib.hid hpx
              clear hpx hs2 hk0 hla hb s2b s264
              have hbe := Hbe.out
              have hsh := Hsh.out
              have hadd := Hadd.out
              have hw2 := Hw2.out
              clear Hbe Hsh Hadd Hw2
              cases o with
              | none =>
                obtain rfl : bi = -1 := Hbi.out
                obtain rfl : ci = 0 := Hci.out
                go_wp2_with fail
                go_roundw
                case rel => exact ⟨j + 1, some (j, rv), j, rv, by omega, ((Hstep.out.1 rfl).trans (by rw [Hpx.out])).symm, by go_num, rfl, rfl, rfl, rfl, hO, hg1, hT, hh3, hbV⟩
                case measure => simp [intOf]; omega
              | some b0 =>
                obtain rfl : bi = (b0.1 : Int) := Hbi.out
                obtain rfl : ci = b0.2 := Hci.out
                have hb0 : ¬ ((b0.1 : Int) < 0) := by omega
                by_cases hx : rv < b0.2
                · go_wp2_with fail
                  go_roundw
                  case rel => exact ⟨j + 1, some (j, rv), j, rv, by omega, ((Hstep.out.2 b0 rfl).trans (by rw [Hpx.out, if_pos hx])).symm, by go_num, rfl, rfl, rfl, rfl, hO, hg1, hT, hh3, hbV⟩
                  case measure => simp [intOf]; omega
                · go_wp2_with fail
                  go_roundw
                  case rel => exact ⟨j + 1, some b0, b0.1, b0.2, by omega, ((Hstep.out.2 b0 rfl).trans (by rw [Hpx.out, if_neg hx])).symm, by go_num, rfl, rfl, rfl, rfl, hO, hg1, hT, hh3, hbV⟩
                  case measure => simp [intOf]; omega
            · have hpx : pickX (lossN h L) (rest (lossN h L) h.length) p.2 p.1.getLast? j = rest (lossN h L) h.length s2 j + lossN h L l j := by rw [hla, hs2]; rfl
              obtain rfl : li = (l : Int) := by rw [Hli.out, hla]; rfl
              obtain ⟨b1, off, a, f, b5, off5, b6, off6, rc, rfl, ca, cf, rfl, ha4, hf4, cr4, cv⟩ := loss_facts (hs.below hbV) (ht.below hbV) hok hl hll hjl
              have hlb := lossN_bound (h := h) hl l j
              generalize rest (lossN h L) h.length s2 j = rv at hpx k6 hrb
              generalize lossN h L l j = lv at hpx cv hlb
              have Hpx := Lib.hid hpx
              have hL4 : (L.length : Int) = 4 := by have := lost_len hl; omega
              have q1 : (a : Int) < L.length := by omega
              have q2 : (f : Int) < 4 := by omega
              have q4 : (l : Int) < h.length := by omega
              have q5 : (0 : Int) ≤ (l : Int) := by omega
              have hwr1 : IntKind.i64.wrap (rv + lv) = rv + lv := wrap_in (by omega) (by omega)
              clear hpx hs2 hk' hla hb s2b s264 hL4 ha4 hf4 hlat
              have hbe := Hbe.out
              have hsh := Hsh.out
              have hadd := Hadd.out
              have hw2 := Hw2.out
              clear Hbe Hsh Hadd Hw2
              go_wp2_with fail
              go_quiet (fail)
              clear hwr1 hbe hsh hadd hw2 ca cf cr4 cv k5 k6
              cases o with
              | none =>
                obtain rfl : bi = -1 := Hbi.out
                obtain rfl : ci = 0 := Hci.out
                go_wp2_with fail
                go_roundw
                case rel => exact ⟨j + 1, some (j, (rv + lv)), j, (rv + lv), by omega, ((Hstep.out.1 rfl).trans (by rw [Hpx.out])).symm, by go_num, rfl, rfl, rfl, rfl, hO, hg1, hT, hh3, below_drewN hbV _⟩
                case measure => simp [intOf]; omega
              | some b0 =>
                obtain rfl : bi = (b0.1 : Int) := Hbi.out
                obtain rfl : ci = b0.2 := Hci.out
                have hb0 : ¬ ((b0.1 : Int) < 0) := by omega
                by_cases hx : (rv + lv) < b0.2
                · go_wp2_with fail
                  go_roundw
                  case rel => exact ⟨j + 1, some (j, (rv + lv)), j, (rv + lv), by omega, ((Hstep.out.2 b0 rfl).trans (by rw [Hpx.out, if_pos hx])).symm, by go_num, rfl, rfl, rfl, rfl, hO, hg1, hT, hh3, below_drewN hbV _⟩
                  case measure => simp [intOf]; omega
                · go_wp2_with fail
                  go_roundw
                  case rel => exact ⟨j + 1, some b0, b0.1, b0.2, by omega, ((Hstep.out.2 b0 rfl).trans (by rw [Hpx.out, if_neg hx])).symm, by go_num, rfl, rfl, rfl, rfl, hO, hg1, hT, hh3, below_drewN hbV _⟩
                  case measure => simp [intOf]; omega
        · have hlt2 : ¬ ((j : Int) < h.length) := by omega
          have hje : j = h.length := by omega
          have hob : o = some b := by rw [Ho.out, hje]; exact M5.out
          subst hob
          obtain rfl : bi = (b.1 : Int) := Hbi.out
          have Hj := Lib.hid hje
          have hb0i : (0 : Int) ≤ (b.1 : Int) := by omega
          have hb64 : (b.1 : Int) < 64 := by omega
          obtain ⟨P, s2, hs2, s20, s2n, s264, s2b, hsh, hadd, hw2, hor⟩ := bit_join (by omega) M2.out m6 M7.out
          clear hje hw2 hor s20 s2n s264 s2b
          have hkn : k ≤ 6 := by omega
          go_wp2_with (at_builtin; refine wpList_app1 _ rfl (.tmp 81) (.tmp 83) _ rfl 3 i0 _ 1 8 Try.underlying32 hi hz0 hz1 hz2 rfl (by omega) rfl (hO.alloc _) (by simp; omega) rfl (sees_one _ _ _) (by simp [ints]) (one_ints _) (by omega) (by omega) (by omega) ?_; intro h2 c8 w6 hrow2 hor hlt6 hon)
          have hT2 := (hT.below hh3 ((Below.refl _ _).alloc (Nat.le_refl _) (.cells #[.int .i64 (b.1 : Int)] 3))).only (by simp; omega) hon (by omega)
          have hb2 := below_only (hbV.alloc hbV.size (.cells #[.int .i64 (b.1 : Int)] 3)) hon hg1w (Nat.le_refl _)
          have hz6 := hon.size
          have hh6 : hi3 ≤ w6.heap.size := by simp at hz6; omega
          have hg2d : w.heap.size ≤ h2 ∧ (h2 < lo ∨ hi3 ≤ h2) := by
            have := hbV.size
            rcases hor with e | e
            · omega
            · simp at e
              omega
          go_roundw
          case rel => exact ⟨k + 1, h2, c8, (p.1 ++ [b.1], s2), (b.1 : Int), by omega, by rw [M8.out, hs2], rfl, int_eq hadd, rfl, by simp [lastI], by rw [natsI_snoc, ints_append]; exact hrow2, hlt6, hg2d.1, hg2d.2, hT2, hh6, hb2⟩
          case measure => simp [lenV]; omega
    · have hlt2 : ¬ ((k : Int) < h.length) := by omega
      obtain rfl : k = h.length := by omega
      obtain ⟨e1, e2⟩ := ord_done (by omega) hp
      have Hp := Lib.hid hp
      have hlen : (bestOrder h L).length = h.length := by rw [bestOrder_eq hok hl, natsI_len, ← Hp.out, e1]
      have Hlen := Lib.hid hlen
      clear hp hlt hlen
      go_wp2_with fail
      go_ret
      refine ⟨some ⟨g1, 0, none⟩, co, ret_slice (by rw [Hlen.out]), ?_, hbV⟩
      rw [Hlen.out, bestOrder_eq hok hl, ← Hp.out]
      exact own_lo (own_hi hO hg1) hg1w
end Go.Proofs.Ytblfbllhkmcbbaa
