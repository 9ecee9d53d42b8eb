/-
  The walk of the law FnCastOk.
-/
import Derived.Test.YtdobfpdfbfaohaaDoorDm
import Derived.Test.YtdobfpdfbfaohaaDoorPl
import Derived.Test.YtdobfpdfbfaohaaDoorCw
import Derived.Test.YtdobfpdfbfaohaaDoorLat
namespace Go.Proofs.YtdobfpdfbfaohaaDoor
open Go.RowKit
set_option linter.unusedVariables false
theorem later_take {t : List Int} {k : Nat} {x : Int} (h : t[k]? = some x) : laterOf (t.take (k + 1)) = laterOf (t.take k) ++ [x + 1] := by
  obtain ⟨hk, rfl⟩ := List.getElem?_eq_some_iff.1 h
  rw [List.take_succ_eq_append_getElem hk]
  simp only [laterOf, List.map_append, List.map_cons, List.map_nil]
theorem later_length (t : List Int) : (laterOf t).length = t.length := by simp [laterOf]
set_option maxHeartbeats 4000000 in
theorem fnCastOk_walk (A : Option Addr) (n c : Nat) (l : List Int) (w : World) (hs : Sees w w.heap.size A (bys l)) (hl : l.length = n) (hby : ∀ z ∈ l, byteB z) (hc : n ≤ c) (hm : c ≤ maxLen) :
    Calls Tryd.prog 9 #[.slice A n c] w fun e w' => e = .returned (.bool true) ∧ Below w.heap.size w w' := by
  have hm' := hm
  unfold maxLen at hm'
  by_cases hn : n ≤ 1048576
  case neg =>
    go_enter Tryd.func9, Tryd.ntmps9
    go_wp2_with fail
    go_ret
    exact ⟨rfl, Below.refl _ _⟩
  obtain ⟨j0, ji, jz0, jz1, jz2⟩ := info_parts infoInt2
  go_enter Tryd.func9, Tryd.ntmps9
  go_wp2_with fail
  refine (drawCastOk_any A n c l _ hs hl hby hc hm).mono ?_
  rintro _ w1 ⟨hts, A1, c1, s, T, A2, c2, hsm, hlen, hsc, hTl, rfl, hQ, hT, hb⟩
  have Hsm := Lib.hid hsm
  clear hsm
  obtain ⟨f, s⟩ := s
  unfold smallC at hsc
  simp only at hsc
  have hB := Blk.made w1 24 #[.int .i64 f, .int .i64 s]
  replace hQ := own_hi (hQ.alloc (.cells #[.int .i64 f, .int .i64 s] 24)) (show w1.heap.size ≤ (w1.alloc (.cells #[.int .i64 f, .int .i64 s] 24)).heap.size by simp)
  replace hT := own_hi (hT.alloc (.cells #[.int .i64 f, .int .i64 s] 24)) (show w1.heap.size ≤ (w1.alloc (.cells #[.int .i64 f, .int .i64 s] 24)).heap.size by simp)
  replace hb := hb.alloc hb.size (.cells #[.int .i64 f, .int .i64 s] 24)
  go_wp2_with fail
  generalize w1.alloc _ = W at hB hb hQ hT ⊢
  refine (castOk_any _ _ _ _ _ _ _ hQ.sees (by omega) hT.sees (by omega) _ _).mono ?_
  rintro _ w2 ⟨rfl, hb1⟩
  replace hQ := own_hi (hQ.below hb1) hb1.size
  replace hT := own_hi (hT.below hb1) hb1.size
  replace hB := hB.below hb1 hB.lt
  replace hb := below_next hb hb1
  clear hb1
  have c3 := hB.cell
  go_wp2_with fail
  clear c3
  refine (sCastOk_any _ _ _ _ _ _ _ hQ.sees (by omega) hT.sees (by omega) _ _).mono ?_
  rintro _ w3 ⟨rfl, hb1⟩
  replace hQ := own_hi (hQ.below hb1) hb1.size
  replace hT := own_hi (hT.below hb1) hb1.size
  replace hB := hB.below hb1 hB.lt
  replace hb := below_next hb hb1
  clear hb1
  cases hok : castOk hts ⟨f, s⟩ T with
  | false =>
    go_wp2_with fail
    refine (alive_any _).mono ?_
    rintro _ w9 ⟨rfl, hb1⟩
    go_wp2_with fail
    go_ret
    exact ⟨rfl, below_next hb hb1⟩
  | true =>
    have hlen1 := castOk_len hok
    obtain ⟨h1, h2, -, hmin, -⟩ := castOk_parts hok
    have hh6 := heats_len h1
    have Hmin := Lib.hid hmin
    have Hok := Lib.hid hok
    have HTl := Lib.hid hlen1
    rw [hlen1] at hT ⊢
    clear hlen1 hmin hok hTl
    have c3 := hB.cell
    go_wp2_with fail
    clear c3
    refine (castTimes_any _ _ _ _ hQ.sees (by omega) hQ.cap _ _).mono ?_
    rintro _ w4 ⟨A4, c4, rfl, hE, hb1⟩
    replace hQ := own_hi (hQ.below hb1) hb1.size
    replace hT := own_hi (hT.below hb1) hb1.size
    replace hB := hB.below hb1 hB.lt
    replace hb := below_next hb hb1
    clear hb1
    have hEl : (castTimes hts ⟨f, s⟩).length = hts.length + 1 := castTimes_len h1 h2
    have hearly := fun k v u => cast_early (k := k) (v := v) (u := u) Hok.out
    clear h1 h2
    generalize castTimes hts ⟨f, s⟩ = E at hE hEl hearly ⊢
    rw [hEl] at hE ⊢
    have HEl := Lib.hid hEl
    have Hearly := Lib.hid hearly
    clear hEl hearly
    go_wp2_with fail
    go_loopw [8, 9] (fun t8 i wr => ∃ (k : Nat) (A5 : Option Addr) (c5 : Nat), k ≤ hts.length + 1 ∧ i = .int .i64 k ∧ t8 = .slice A5 k c5 ∧ Own wr w4.heap.size wr.heap.size 3 1 A5 k c5 (ints (laterOf (T.take k))) ∧ Below w4.heap.size w4 wr) (fun _ i _ => hts.length + 1 - (intOf i).toNat)
    case atStart => exact ⟨0, _, _, Nat.zero_le _, rfl, rfl, own_hi (own_made w4 3 1) (by simp), (Below.refl _ _).alloc (Nat.le_refl _) _⟩
    case round =>
      obtain ⟨k, A5, c5, hk, rfl, rfl, hX, hb1⟩ := hrel
      by_cases hlt : k < hts.length + 1
      · have hlT : k < T.length := by rw [HTl.out]; exact hlt
        obtain ⟨b, off, x, rfl, hbB, hx, c0⟩ := (hT.sees.below hb1).int_at hlT
        have hxb := minute_bounds Hmin.out hx
        have hstep : laterOf (T.take (k + 1)) = laterOf (T.take k) ++ [x + 1] := by rw [later_take hx]
        have Hstep := Lib.hid hstep
        clear hstep hlT
        obtain ⟨b2, off2, v, rfl, hbB2, hv, q2⟩ := (hE.sees.below hb1).int_at (k := k) (by rw [HEl.out]; exact hlt)
        have hvx := Hearly.out k v x hv hx
        have hd : decide (x < v) = false := by simpa using hvx
        clear hv
        clear hx
        go_wp2_with fail
        refine wp_region_quiet_lit (by kernel_rfl) (by kernel_rfl) ?_
        repeat (go_big_quiet_step (fail))
        refine wpQuiet_nil ?_
        intro _ hw'
        obtain ⟨nq, hw''⟩ := hw'
        subst hw''
        have hbV := below_drewN hb1 nq
        have hXV : Own (wr.drewN nq) w4.heap.size (wr.drewN nq).heap.size 3 1 A5 k c5 (ints (laterOf (T.take k))) := hX
        have cV : (wr.drewN nq).cell? ⟨b, off + k, none⟩ = some (.int .i64 x) := c0
        clear c0 q2 hX hb1
        generalize wr.drewN nq = V at hbV hXV cV ⊢
        have hzV := hbV.size
        go_wp2_with (at_builtin; refine wpList_app _ rfl (.tmp 56) (.tmp 62) _ rfl 3 j0 _ 1 8 Tryd.underlying39 ji jz0 jz1 jz2 rfl (by omega) rfl (hXV.alloc _) rfl (sees_one _ _ _) (by simp [ints]) (one_ints _) (by omega) (by omega) (by simp; omega) ?_; intro A6 c6 w6 hX6 hon)
        go_roundw
        case rel => exact ⟨k + 1, A6, c6, by omega, by go_num, rfl, by rw [Hstep.out, ints_append]; exact hX6, below_only (hbV.alloc hzV _) hon (Nat.le_refl _) (Nat.le_refl _)⟩
        case measure => simp [intOf]; omega
      · have hk1 : k = hts.length + 1 := by omega
        subst hk1
        rw [List.take_of_length_le (by rw [HTl.out]; exact Nat.le_refl _)] at hX
        obtain ⟨b, off, y, rfl, hbB, hy, c0⟩ := (hT.sees.below hb1).int_at (k := hts.length) (by rw [HTl.out]; exact Nat.lt_succ_self _)
        have hlast : T.getLastD (-1) = y := getLastD_at T hts.length (-1) y HTl.out hy
        have Hlast := Lib.hid hlast
        clear hlast hy
        replace hQ := own_hi (hQ.below hb1) hb1.size
        replace hB := hB.below hb1 hB.lt
        replace hb := below_next hb hb1
        clear hb1 hT hE
        cases hy9 : y == 9999 with
        | true =>
          go_wp2_with fail
          go_ret
          exact ⟨rfl, hb⟩
        | false =>
          have hcall := castOk_any A1 A5 c1 c5 hts (laterOf T) wr hQ.sees (by omega) hX.sees (by rw [later_length, HTl.out]; omega) f s
          rw [castOk_later Hok.out (by rw [Hlast.out]; simpa using hy9), later_length, HTl.out] at hcall
          have c3 := hB.cell
          go_wp2_with fail
          refine hcall.mono ?_
          rintro _ w9 ⟨rfl, hb1⟩
          go_wp2_with fail
          go_ret
          exact ⟨rfl, below_next hb hb1⟩
end Go.Proofs.YtdobfpdfbfaohaaDoor
