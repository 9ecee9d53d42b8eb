/-
  The walk of the law FnLadlesAt.
-/
import Derived.Test.YtdobfpdfbfaohaaDoorDm
import Derived.Test.YtdobfpdfbfaohaaDoorPl
import Derived.Test.YtdobfpdfbfaohaaDoorCw
import Derived.Test.YtdobfpdfbfaohaaDoorLat
namespace Go.Proofs.YtdobfpdfbfaohaaDoor
open Go.RowKit
set_option linter.unusedVariables false
theorem later_take {t : List Int} {k : Nat} {x : Int} (h : t[k]? = some x) : laterOf (t.take (k + 1)) = laterOf (t.take k) ++ [x + 1] := by
  obtain ⟨hk, rfl⟩ := List.getElem?_eq_some_iff.1 h
  rw [List.take_succ_eq_append_getElem hk]
  simp only [laterOf, List.map_append, List.map_cons, List.map_nil]
theorem later_length (t : List Int) : (laterOf t).length = t.length := by simp [laterOf]
set_option maxHeartbeats 4000000 in
theorem fnLadlesAt_walk (A : Option Addr) (n c : Nat) (l : List Int) (w : World) (hs : Sees w w.heap.size A (bys l)) (hl : l.length = n) (hby : ∀ z ∈ l, byteB z) (hc : n ≤ c) (hm : c ≤ maxLen) :
    Calls Tryd.prog 11 #[.slice A n c] w fun e w' => e = .returned (.bool true) ∧ Below w.heap.size w w' := by
  have hm' := hm
  unfold maxLen at hm'
  by_cases hn : n ≤ 1048576
  case neg =>
    go_enter Tryd.func11, Tryd.ntmps11
    go_wp2_with fail
    go_ret
    exact ⟨rfl, Below.refl _ _⟩
  obtain ⟨j0, ji, jz0, jz1, jz2⟩ := info_parts infoInt2
  go_enter Tryd.func11, Tryd.ntmps11
  go_wp2_with fail
  refine (drawLadlesAt_any A n c l _ hs hl hby hc hm).mono ?_
  rintro _ w1 ⟨hts, A1, c1, s, T, A2, c2, m, hsm, hlen, hsc, hTl, hm2, rfl, hQ, hT, hb⟩
  have Hsm := Lib.hid hsm
  clear hsm
  obtain ⟨f, s⟩ := s
  unfold smallC at hsc
  simp only at hsc
  have hB := Blk.made w1 24 #[.int .i64 f, .int .i64 s]
  replace hQ := own_hi (hQ.alloc (.cells #[.int .i64 f, .int .i64 s] 24)) (show w1.heap.size ≤ (w1.alloc (.cells #[.int .i64 f, .int .i64 s] 24)).heap.size by simp)
  replace hT := own_hi (hT.alloc (.cells #[.int .i64 f, .int .i64 s] 24)) (show w1.heap.size ≤ (w1.alloc (.cells #[.int .i64 f, .int .i64 s] 24)).heap.size by simp)
  replace hb := hb.alloc hb.size (.cells #[.int .i64 f, .int .i64 s] 24)
  go_wp2_with fail
  generalize w1.alloc _ = W at hB hb hQ hT ⊢
  refine (ladlesAt_any _ _ _ _ _ _ _ hQ.sees (by omega) hT.sees (by omega) _ _ _).mono ?_
  rintro _ w2 ⟨rfl, hb1⟩
  replace hQ := own_hi (hQ.below hb1) hb1.size
  replace hT := own_hi (hT.below hb1) hb1.size
  replace hB := hB.below hb1 hB.lt
  replace hb := below_next hb hb1
  clear hb1
  have c3 := hB.cell
  go_wp2_with fail
  clear c3
  refine (sLadlesAt_any _ _ _ _ _ _ _ hQ.sees (by omega) hT.sees (by omega) _ _ _).mono ?_
  rintro _ w3 ⟨rfl, hb1⟩
  replace hQ := own_hi (hQ.below hb1) hb1.size
  replace hT := own_hi (hT.below hb1) hb1.size
  replace hB := hB.below hb1 hB.lt
  replace hb := below_next hb hb1
  clear hb1
  have hbd := ladlesAt_bounds hts ⟨f, s⟩ T m
  have hbad : castOk hts ⟨f, s⟩ T = false → ladlesAt hts ⟨f, s⟩ T m = 0 := fun h => by simp [ladlesAt, h]
  generalize ladlesAt hts ⟨f, s⟩ T m = x at hbd hbad ⊢
  have Hbad := Lib.hid hbad
  clear hbad
  have c3 := hB.cell
  go_wp2_with fail
  clear c3
  refine (sCastOk_any _ _ _ _ _ _ _ hQ.sees (by omega) hT.sees (by omega) _ _).mono ?_
  rintro _ w4 ⟨rfl, hb1⟩
  replace hQ := own_hi (hQ.below hb1) hb1.size
  replace hT := own_hi (hT.below hb1) hb1.size
  replace hB := hB.below hb1 hB.lt
  replace hb := below_next hb hb1
  clear hb1
  cases hok : castOk hts ⟨f, s⟩ T with
  | false =>
    obtain rfl := Hbad.out hok
    go_wp2_with fail
    refine (alive_any _).mono ?_
    rintro _ w9 ⟨rfl, hb1⟩
    go_wp2_with fail
    go_ret
    exact ⟨rfl, below_next hb hb1⟩
  | true =>
    have hlen1 := castOk_len hok
    obtain ⟨h1, h2, -, hmin, -⟩ := castOk_parts hok
    have hh6 := heats_len h1
    have Hmin := Lib.hid hmin
    have Hok := Lib.hid hok
    have HTl := Lib.hid hlen1
    rw [hlen1] at hT ⊢
    clear hlen1 hmin hok hTl
    clear h1 h2
    go_wp2_with fail
    go_loopw [8] (fun i wr => ∃ k : Nat, k ≤ hts.length ∧ i = .int .i64 k ∧ Below w4.heap.size w4 wr) (fun i _ => hts.length - (intOf i).toNat)
    case atStart => exact ⟨0, Nat.zero_le _, rfl, Below.refl _ _⟩
    case round =>
      obtain ⟨k, hk, rfl, hb1⟩ := hrel
      have hb4 := hb1
      replace hQ := own_hi (hQ.below hb1) hb1.size
      replace hT := own_hi (hT.below hb1) hb1.size
      replace hB := hB.below hb1 hB.lt
      replace hb := below_next hb hb1
      clear hb1
      by_cases hlt : k < hts.length
      · obtain ⟨b, off, a1, a2, a3, rfl, hbB, hx, q0, q1, q2⟩ := hQ.sees.heat_at hlt
        have hpos := full_pos Hok.out hx
        have hle := ladlesAt_bounds hts ⟨f, s⟩ T a2
        clear hx
        have hcall := fun (v : World) (hq : Below wr.heap.size wr v) => ladlesAt_any (some ⟨b, off, none⟩) A2 c1 c2 hts T v (hQ.sees.next hq) (by omega) (hT.sees.next hq) (by rw [HTl.out]; omega) f s a2
        simp only at hpos
        simp only [HTl.out] at hcall
        generalize ladlesAt hts ⟨f, s⟩ T a2 = z at hpos hle hcall
        have Hcall := Lib.hid hcall
        clear hcall
        have c3 := hB.cell
        have hBl := hB.lt
        have hV := later_cell wr
        go_wp2_with fail
        refine wp_region_later (by kernel_rfl) (by kernel_rfl) ?_
        repeat (go_big_quiet_step ((go_at_call 42; exact Later.of _ (Hcall.out _ (Later.below _)))))
        refine wpQuiet_nil ?_
        intro _ hw'
        obtain ⟨u, rfl⟩ := hw'
        have hu := u.below
        go_wp2_with fail
        go_roundw
        case rel => exact ⟨k + 1, by omega, by go_num, below_next hb4 hu⟩
        case measure => simp [intOf]; omega
      · obtain ⟨b, off, y, rfl, hbB, hy, c0⟩ := hT.sees.int_at (k := hts.length) (by rw [HTl.out]; exact Nat.lt_succ_self _)
        have hlast : T.getLastD (-1) = y := getLastD_at T hts.length (-1) y HTl.out hy
        have hend := full_end Hok.out
        rw [hlast] at hend
        clear hlast hy
        have hcall := fun (v : World) (hq : Below wr.heap.size wr v) => ladlesAt_any A1 (some ⟨b, off, none⟩) c1 c2 hts T v (hQ.sees.next hq) (by omega) (hT.sees.next hq) (by rw [HTl.out]; omega) f s y
        simp only [hend, HTl.out] at hcall
        have Hcall := Lib.hid hcall
        clear hcall hend
        have hd1 : decide (x ≤ (hts.length : Int)) = true := by simpa using hbd.2
        have hd2 : decide (0 ≤ x) = true := by simpa using hbd.1
        have c3 := hB.cell
        have hBl := hB.lt
        have hV := later_cell wr
        go_wp2_with fail
        refine wp_region_later (by kernel_rfl) (by kernel_rfl) ?_
        repeat (go_big_quiet_step ((go_at_call 42; exact Later.of _ (Hcall.out _ (Later.below _)))))
        refine wpQuiet_nil ?_
        intro _ hw'
        obtain ⟨u, rfl⟩ := hw'
        have hu := u.below
        go_wp2_with fail
        go_ret
        exact ⟨rfl, below_next hb hu⟩
end Go.Proofs.YtdobfpdfbfaohaaDoor
