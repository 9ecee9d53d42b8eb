/-
  The walk of the law FnHeatWaits.
-/
import Derived.Test.YtdobfpdfbfaohaaDoorDm
import Derived.Test.YtdobfpdfbfaohaaDoorPl
import Derived.Test.YtdobfpdfbfaohaaDoorCw
import Derived.Test.YtdobfpdfbfaohaaDoorLat
namespace Go.Proofs.YtdobfpdfbfaohaaDoor
open Go.RowKit
set_option linter.unusedVariables false
theorem later_take {t : List Int} {k : Nat} {x : Int} (h : t[k]? = some x) : laterOf (t.take (k + 1)) = laterOf (t.take k) ++ [x + 1] := by
  obtain ⟨hk, rfl⟩ := List.getElem?_eq_some_iff.1 h
  rw [List.take_succ_eq_append_getElem hk]
  simp only [laterOf, List.map_append, List.map_cons, List.map_nil]
theorem later_length (t : List Int) : (laterOf t).length = t.length := by simp [laterOf]
theorem waits_bad {h : List Heat} {c : Caster} {t : List Int} (hk : castOk h c t = false) : heatWaits h c t = -1 := by simp [heatWaits, hk]
theorem waits_up (h : List Heat) : ∀ t : List Int, (∀ x ∈ t, x ≤ 9999) → (∀ a ∈ h, 0 ≤ a.r) → waitsOf (h.zip t) ≤ 9999 * (h.length : Int) := by
  intro t ht hr
  rw [waits_sum]
  induction h generalizing t with
  | nil => simp [sumW]
  | cons a h ih =>
    cases t with
    | nil => simp [sumW]; omega
    | cons x t =>
      have h1 := ih t (fun y hy => ht y (List.mem_cons_of_mem _ hy)) (fun y hy => hr y (List.mem_cons_of_mem _ hy))
      have h2 := ht x List.mem_cons_self
      have h3 := hr a List.mem_cons_self
      simp only [List.zip_cons_cons, sumW, waitB, List.length_cons] at h1 ⊢
      omega
theorem waits_facts {h : List Heat} {c : Caster} {t : List Int} (hk : castOk h c t = true) : (0 ≤ heatWaits h c t ∧ heatWaits h c t ≤ 60000) ∧ (heatWaits h c (laterOf t) = -1 ∨ heatWaits h c (laterOf t) = heatWaits h c t + h.length) ∧ 0 ≤ heatWaits h c (castTimes h c) ∧ heatWaits h c (castTimes h c) ≤ heatWaits h c t := by
  obtain ⟨p1, p2, p3, p4, p5⟩ := castOk_parts hk
  have hl := heats_len p1
  have k1 := castTimes_ok p1 p2
  obtain ⟨_, _, q3, _, q5⟩ := castOk_parts k1
  have g1 : heatWaits h c t = waitsOf (h.zip t) := by simp [heatWaits, hk]
  have g2 : heatWaits h c (castTimes h c) = waitsOf (h.zip (castTimes h c)) := by simp [heatWaits, k1]
  have u1 := waits_nonneg c h t p5 p3
  have u2 := waits_nonneg c h _ q5 q3
  have u3 := waits_up h t (fun x hx => by have := List.all_eq_true.1 p4 x hx; simp only [minuteB, inB_iff] at this; exact this.2) (fun a ha => by obtain ⟨k, hka⟩ := List.getElem?_of_mem ha; have := heat_bounds p1 hka; omega)
  have u4 := waits_le h (castTimes h c) t (by omega) (by omega) (fun k v u hv hu => cast_early hk k v u hv hu)
  refine ⟨by omega, ?_, by omega, by omega⟩
  cases hkl : castOk h c (laterOf t) with
  | false => exact .inl (waits_bad hkl)
  | true =>
    right
    rw [g1, ← waits_later h t (by omega)]
    simp [heatWaits, hkl]
set_option maxHeartbeats 4000000 in
theorem fnHeatWaits_walk (A : Option Addr) (n c : Nat) (l : List Int) (w : World) (hs : Sees w w.heap.size A (bys l)) (hl : l.length = n) (hby : ∀ z ∈ l, byteB z) (hc : n ≤ c) (hm : c ≤ maxLen) :
    Calls Tryd.prog 12 #[.slice A n c] w fun e w' => e = .returned (.bool true) ∧ Below w.heap.size w w' := by
  have hm' := hm
  unfold maxLen at hm'
  by_cases hn : n ≤ 1048576
  case neg =>
    go_enter Tryd.func12, Tryd.ntmps12
    go_wp2_with fail
    go_ret
    exact ⟨rfl, Below.refl _ _⟩
  obtain ⟨j0, ji, jz0, jz1, jz2⟩ := info_parts infoInt2
  go_enter Tryd.func12, Tryd.ntmps12
  go_wp2_with fail
  refine (drawHeatWaits_any A n c l _ hs hl hby hc hm).mono ?_
  rintro _ w1 ⟨hts, A1, c1, s, T, A2, c2, hsm, hlen, hsc, hTl, rfl, hQ, hT, hb⟩
  have Hsm := Lib.hid hsm
  clear hsm
  obtain ⟨f, s⟩ := s
  unfold smallC at hsc
  simp only at hsc
  have hB := Blk.made w1 24 #[.int .i64 f, .int .i64 s]
  replace hQ := own_hi (hQ.alloc (.cells #[.int .i64 f, .int .i64 s] 24)) (show w1.heap.size ≤ (w1.alloc (.cells #[.int .i64 f, .int .i64 s] 24)).heap.size by simp)
  replace hT := own_hi (hT.alloc (.cells #[.int .i64 f, .int .i64 s] 24)) (show w1.heap.size ≤ (w1.alloc (.cells #[.int .i64 f, .int .i64 s] 24)).heap.size by simp)
  replace hb := hb.alloc hb.size (.cells #[.int .i64 f, .int .i64 s] 24)
  go_wp2_with fail
  generalize w1.alloc _ = W at hB hb hQ hT ⊢
  refine (heatWaits_any _ _ _ _ _ _ _ hQ.sees (by omega) hT.sees (by omega) _ _).mono ?_
  rintro _ w2 ⟨rfl, hb1⟩
  replace hQ := own_hi (hQ.below hb1) hb1.size
  replace hT := own_hi (hT.below hb1) hb1.size
  replace hB := hB.below hb1 hB.lt
  replace hb := below_next hb hb1
  clear hb1
  have c3 := hB.cell
  go_wp2_with fail
  clear c3
  refine (sHeatWaits_any _ _ _ _ _ _ _ hQ.sees (by omega) hT.sees (by omega) _ _).mono ?_
  rintro _ w3 ⟨rfl, hb1⟩
  replace hQ := own_hi (hQ.below hb1) hb1.size
  replace hT := own_hi (hT.below hb1) hb1.size
  replace hB := hB.below hb1 hB.lt
  replace hb := below_next hb hb1
  clear hb1
  cases hok : castOk hts ⟨f, s⟩ T with
  | false =>
    rw [waits_bad hok]
    go_wp2_with fail
    refine (alive_any _).mono ?_
    rintro _ w9 ⟨rfl, hb1⟩
    go_wp2_with fail
    go_ret
    exact ⟨rfl, below_next hb hb1⟩
  | true =>
    obtain ⟨hxb0, hyx, hlst⟩ := waits_facts hok
    have hT7 := castTimes_le hts ⟨f, s⟩
    have hlen1 := castOk_len hok
    obtain ⟨h1, h2, -, hmin, -⟩ := castOk_parts hok
    have hh6 := heats_len h1
    have Hmin := Lib.hid hmin
    have Hok := Lib.hid hok
    have HTl := Lib.hid hlen1
    rw [hlen1] at hT ⊢
    clear hlen1 hmin hok hTl
    clear h1 h2
    generalize heatWaits hts ⟨f, s⟩ T = x at hxb0 hyx hlst ⊢
    have Hyx := Lib.hid hyx
    have Hlst := Lib.hid hlst
    clear hyx hlst
    go_wp2_with fail
    go_loopw [7, 8] (fun t8 i wr => ∃ (k : Nat) (A5 : Option Addr) (c5 : Nat), k ≤ hts.length + 1 ∧ i = .int .i64 k ∧ t8 = .slice A5 k c5 ∧ Own wr w3.heap.size wr.heap.size 3 1 A5 k c5 (ints (laterOf (T.take k))) ∧ Below w3.heap.size w3 wr) (fun _ i _ => hts.length + 1 - (intOf i).toNat)
    case atStart => exact ⟨0, _, _, Nat.zero_le _, rfl, rfl, own_hi (own_made w3 3 1) (by simp), (Below.refl _ _).alloc (Nat.le_refl _) _⟩
    case round =>
      obtain ⟨k, A5, c5, hk, rfl, rfl, hX, hb1⟩ := hrel
      by_cases hlt : k < hts.length + 1
      · have hlT : k < T.length := by rw [HTl.out]; exact hlt
        obtain ⟨b, off, x, rfl, hbB, hx, c0⟩ := (hT.sees.below hb1).int_at hlT
        have hxb := minute_bounds Hmin.out hx
        have hstep : laterOf (T.take (k + 1)) = laterOf (T.take k) ++ [x + 1] := by rw [later_take hx]
        have Hstep := Lib.hid hstep
        clear hstep hlT
        clear hx
        have hbV := hb1
        have hXV := hX
        clear hX hb1
        have hzV := hbV.size
        go_wp2_with (at_builtin; refine wpList_app _ rfl (.tmp 44) (.tmp 50) _ rfl 3 j0 _ 1 8 Tryd.underlying39 ji jz0 jz1 jz2 rfl (by omega) rfl (hXV.alloc _) rfl (sees_one _ _ _) (by simp [ints]) (one_ints _) (by omega) (by omega) (by simp; omega) ?_; intro A6 c6 w6 hX6 hon)
        go_roundw
        case rel => exact ⟨k + 1, A6, c6, by omega, by go_num, rfl, by rw [Hstep.out, ints_append]; exact hX6, below_only (hbV.alloc hzV _) hon (Nat.le_refl _) (Nat.le_refl _)⟩
        case measure => simp [intOf]; omega
      · have hk1 : k = hts.length + 1 := by omega
        subst hk1
        rw [List.take_of_length_le (by rw [HTl.out]; exact Nat.le_refl _)] at hX
        replace hQ := own_hi (hQ.below hb1) hb1.size
        replace hB := hB.below hb1 hB.lt
        replace hb := below_next hb hb1
        clear hb1 hT
        have hcall := heatWaits_any A1 A5 c1 c5 hts (laterOf T) wr hQ.sees (by omega) hX.sees (by rw [later_length, HTl.out]; omega) f s
        rw [later_length, HTl.out] at hcall
        have c3 := hB.cell
        go_wp2_with fail
        clear c3
        refine hcall.mono ?_
        rintro _ w5 ⟨rfl, hb1⟩
        clear hcall
        replace hQ := own_hi (hQ.below hb1) hb1.size
        replace hB := hB.below hb1 hB.lt
        replace hb := below_next hb hb1
        clear hb1
        have hyx := Hyx.out
        generalize heatWaits hts ⟨f, s⟩ (laterOf T) = y at hyx ⊢
        clear hX
        have c3 := hB.cell
        have hcp := hQ.cap
        have Hyx2 := Lib.hid hyx
        clear hyx
        go_wp2_with fail
        go_region_with (first
          | (have _t := hE; go_at_call 40; refine (heatWaits_any A1 A7 c1 c7 hts (castTimes hts ⟨f, s⟩) _ (by exact hQ7.sees) (by omega) (by exact hE.sees) (by omega) f s).mono ?_; rintro _ x1 ⟨rfl, hb8⟩)
          | (go_at_call 31; refine (castTimes_any A1 c1 hts _ (by exact hQ.sees) (by omega) (by omega) f s).mono ?_; rintro _ x0 ⟨A7, c7, rfl, hE, hb7⟩; have hQ7 := own_hi (Own.below (by exact hQ) hb7) hb7.size; have k7 := (Blk.below (by exact hB) hb7 hB.lt).cell))
        all_goals
          have hbz := below_next (below_next hb ⟨hb7.os, hb7.tape, hb7.output, hb7.size, hb7.block⟩) hb8
          obtain ⟨hl1, hl2⟩ := Hlst.out
          have hd1 : decide (0 ≤ heatWaits hts ⟨f, s⟩ (castTimes hts ⟨f, s⟩)) = true := by simpa using hl1
          have hd2 : decide (heatWaits hts ⟨f, s⟩ (castTimes hts ⟨f, s⟩) ≤ x) = true := by simpa using hl2
          generalize heatWaits hts ⟨f, s⟩ (castTimes hts ⟨f, s⟩) = z at hd1 hd2 hl1 hl2 ⊢
          obtain ⟨hx1, hx2⟩ := hxb0
          rcases Hyx2.out with rfl | hy
          · go_wp2_with fail
            go_ret
            exact ⟨rfl, hbz⟩
          · have hy1 : decide (y < 0) = false := by simp; omega
            have hy2 : (y == x + (hts.length : Int)) = true := by rw [beq_iff_eq]; exact hy
            clear hy
            go_wp2_with fail
            go_ret
            exact ⟨rfl, hbz⟩
end Go.Proofs.YtdobfpdfbfaohaaDoor
