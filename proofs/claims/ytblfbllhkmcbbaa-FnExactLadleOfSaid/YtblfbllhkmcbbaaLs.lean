/-
  LadleOf in the reference.
-/
import Derived.Test.YtblfbllhkmcbbaaLp
namespace Go.Proofs.Ytblfbllhkmcbbaa
open Go.RowKit
set_option linter.unusedVariables false
set_option linter.unusedSimpArgs false
set_option maxRecDepth 20000 in
set_option maxHeartbeats 4000000 in
theorem sLadleOf_any (A A' : Option Addr) (c c' : Nat) (h : List Heat) (t : List Int) (w : World) (hs : Sees w w.heap.size A (ints (flatH h))) (hn : h.length ≤ 1048576) (hs' : Sees w w.heap.size A' (ints t)) (hn' : t.length ≤ 1048576) (f s : Int) :
    Calls Try.prog 39 #[.slice A h.length c, .agg #[.int .i64 f, .int .i64 s], .slice A' t.length c'] w (RetRow w 3 (ladleOf h ⟨f, s⟩ t).length (ladleOf h ⟨f, s⟩ t)) := by
  obtain ⟨i0, hi, hz0, hz1, hz2⟩ := info_parts infoInt
  go_enter Try.func39, Try.ntmps39
  have hbW : Below w.heap.size w (w.alloc (.cells #[.int .i64 f, .int .i64 s] 61)) := (Below.refl _ _).alloc (Nat.le_refl _) _
  have hB0 := Blk.made w 61 #[.int .i64 f, .int .i64 s]
  have hW1 : w.heap.size + 1 = (w.alloc (.cells #[.int .i64 f, .int .i64 s] 61)).heap.size := by simp
  have HW1 := Lib.hid hW1
  clear hW1
  have hB1 := hB0.alloc (.cells #[] 3)
  have hcB := hB1.cell
  go_wp2_with fail
  have hO := own_made (w.alloc (.cells #[.int .i64 f, .int .i64 s] 61)) 3 1
  rw [← HW1.out] at hO
  have hbV : Below w.heap.size w ((w.alloc (.cells #[.int .i64 f, .int .i64 s] 61)).alloc (.cells #[] 3)) := hbW.alloc hbW.size _
  have hlt0 : w.heap.size + 1 < ((w.alloc (.cells #[.int .i64 f, .int .i64 s] 61)).alloc (.cells #[] 3)).heap.size := by simp
  clear hB1 hcB hB0 hbW HW1
  generalize (w.alloc _).alloc _ = W at hO hbV hlt0 ⊢
  have hO := own_hi hO (Nat.le_refl _)
  refine (sCastOk_any _ _ _ _ _ _ _ (hs.next hbV) hn (hs'.next hbV) hn' _ _).mono ?_
  rintro _ w1 ⟨rfl, hb⟩
  replace hO := hO.below hb
  have hz := hb.size
  replace hbV := below_next hbV hb
  clear hb
  cases hok : castOk h ⟨f, s⟩ t with
  | false =>
    go_wp2_with fail
    go_ret
    exact ⟨some ⟨w.heap.size + 1, 0, none⟩, 0, ret_slice (by rw [ladleOf_bad hok]; rfl), by rw [ladleOf_bad hok]; exact own_lo (own_hi hO (Nat.lt_of_lt_of_le hlt0 hz)) (Nat.le_succ _), hbV⟩
  | true =>
  have h6 := heats_len (castOk_parts hok).1
  have hlt1 : w.heap.size + 1 < w1.heap.size := Nat.lt_of_lt_of_le hlt0 hz
  clear hlt0 hz
  go_wp2_with fail
  go_loopw [7, 8] (fun v kv wr => ∃ (k g1 co : Nat), k ≤ h.length ∧ kv = .int .i64 k ∧ v = .slice (some ⟨g1, 0, none⟩) k co ∧ Own wr g1 (g1 + 1) 3 1 (some ⟨g1, 0, none⟩) k co (ints (List.replicate k (-1))) ∧ w.heap.size ≤ g1 ∧ g1 < wr.heap.size ∧ Below w.heap.size w wr) (fun _ kv _ => h.length - (intOf kv).toNat)
  case atStart => exact ⟨0, w.heap.size + 1, 0, Nat.zero_le _, rfl, rfl, hO, Nat.le_succ _, hlt1, hbV⟩
  case round =>
    clear hO hlt1 hbV
    obtain ⟨k, g1, co, hk, rfl, rfl, hO, hg1w, hg1, hbV⟩ := hrel
    by_cases hlt : k < h.length
    · have hki : (k : Int) < h.length := by omega
      go_wp2_with (at_builtin; refine wpList_app1 _ rfl (.tmp 27) (.tmp 28) _ rfl 3 i0 _ 1 8 Try.underlying32 hi hz0 hz1 hz2 rfl (by omega) rfl (hO.alloc _) (by simp; omega) rfl (sees_one _ _ _) (by simp [ints]) (one_ints _) (by omega) (by omega) (by omega) ?_; intro h2 c8 w6 hrow2 hgd hlt6 hon)
      have hb2 := below_only (hbV.alloc hbV.size (.cells #[.int .i64 (-1)] 3)) hon hg1w (Nat.le_refl _)
      have hg2 : w.heap.size ≤ h2 := by
        have := hbV.size
        rcases hgd with e | e
        · omega
        · simp at e
          omega
      go_roundw
      case rel => exact ⟨k + 1, h2, c8, by omega, by go_num, rfl, by rw [List.replicate_succ', ints_append]; exact hrow2, hg2, hlt6, hb2⟩
      case measure => simp [intOf]; omega
    · obtain rfl : k = h.length := by omega
      clear hlt hk
      rw [← outS_none] at hO
      have Hok := Lib.hid hok
      clear hok
      go_wp2_with fail
      go_loopw [9] (fun kv wr => ∃ k : Nat, k ≤ h.length ∧ kv = .int .i64 k ∧ Own wr g1 (g1 + 1) 3 1 (some ⟨g1, 0, none⟩) h.length co (ints (outS (ladS h t k).1)) ∧ g1 < wr.heap.size ∧ Below w.heap.size w wr) (fun kv _ => h.length - (intOf kv).toNat)
      case atStart => exact ⟨0, Nat.zero_le _, rfl, hO, hg1, hbV⟩
      case round =>
        clear hO hg1 hbV
        obtain ⟨k, hk, rfl, hO, hg1, hbV⟩ := hrel
        by_cases hlt : k < h.length
        · have hki : (k : Int) < h.length := by omega
          obtain ⟨i, hi, hin⟩ := ord_at hlt
          have Hpick := Lib.hid (pick_is Hok.out hlt hi)
          have Hok2 := Lib.hid (ladS_ok Hok.out k (by omega))
          have hnext : ladS h t (k + 1) = ladStep (tapN h) (endN t) (ladS h t k) i := ladK_succ (E := endN t) hi
          have Hnext := Lib.hid hnext
          clear hnext
          clear hi
          generalize ladS h t k = sk at hO Hpick Hok2 Hnext
          go_wp2_with fail
          go_loopw [10, 11] (fun bv kv wr => ∃ (j : Nat) (o : Option Nat) (bi : Int), j ≤ h.length ∧ o = pickM (freeN sk.1) (tapN h) j ∧ kv = .int .i64 j ∧ bv = .int .i64 bi ∧ bi = optS o ∧ Own wr g1 (g1 + 1) 3 1 (some ⟨g1, 0, none⟩) h.length co (ints (outS sk.1)) ∧ g1 < wr.heap.size ∧ Below w.heap.size w wr) (fun _ kv _ => h.length - (intOf kv).toNat)
          case atStart => exact ⟨0, none, -1, Nat.zero_le _, rfl, rfl, rfl, rfl, hO, hg1, hbV⟩
          case round =>
            clear hO hg1 hbV
            obtain ⟨j, o, bi, hj, ho, rfl, rfl, hbi, hO, hg1, hbV⟩ := hrel
            have Ho := Lib.hid ho
            have Hbi := Lib.hid hbi
            clear ho hbi
            by_cases hjl : j < h.length
            · have hji : (j : Int) < h.length := by omega
              have hlen := Hok2.out.len
              have hsj := List.getElem?_eq_getElem (l := sk.1) (i := j) (by omega)
              generalize sk.1[j] = oj at hsj
              have hcj := (num_own hO (outS_at hsj)).1
              have Hlen := Lib.hid hlen
              clear hlen
              cases oj with
              | some l =>
                have Hf := Lib.hid (pickM_skip (T := tapN h) (show freeN sk.1 j = false by unfold freeN; rw [hsj]; rfl))
                clear hsj
                have hd1 : decide (((l : Nat) : Int) < 0) = false := decide_eq_false (by omega)
                have hcj2 : wr.cell? ⟨g1, j, none⟩ = some (.int .i64 (l : Int)) := hcj
                clear hcj
                go_wp2_with fail
                go_quiet (fail)
                clear hcj2 hd1
                go_wp2_with fail
                go_roundw
                case rel => exact ⟨j + 1, o, bi, by omega, by rw [Hf.out]; exact Ho.out, by go_num, rfl, Hbi.out, hO, hg1, below_drewN hbV _⟩
                case measure => simp [intOf]; omega
              | none =>
                have Hf := Lib.hid (pickM_next (T := tapN h) (show freeN sk.1 j = true by unfold freeN; rw [hsj]; rfl) Ho.out.symm)
                clear hsj
                have hcj2 : wr.cell? ⟨g1, j, none⟩ = some (.int .i64 (-1)) := hcj
                clear hcj
                cases o with
                | none =>
                  obtain rfl : bi = -1 := Hbi.out
                  go_wp2_with fail
                  go_quiet (fail)
                  clear hcj2
                  go_wp2_with fail
                  go_roundw
                  case rel => exact ⟨j + 1, some j, j, by omega, (Hf.out.1 (by first | exact rfl | trivial)).symm, by go_num, rfl, rfl, hO, hg1, below_drewN hbV _⟩
                  case measure => simp [intOf]; omega
                | some b =>
                  obtain rfl : bi = (b : Int) := Hbi.out
                  have hbj := ((pickM_spec (free := freeN sk.1) (T := tapN h) j).2 b Ho.out.symm).2.1
                  obtain ⟨bk, off, rfl, hbB, ca, ta0, ta1⟩ := tap_facts (hs.below hbV) Hok.out hjl
                  obtain ⟨bk', off', hA, hbB', cb, tb0, tb1⟩ := tap_facts (x := b) (hs.below hbV) Hok.out (by omega)
                  injection hA with hA
                  injection hA with e1 e2
                  subst e1; subst e2
                  have hd2 : decide (((b : Nat) : Int) < 0) = false := decide_eq_false (by omega)
                  have hbi2 : (b : Int) < h.length := by omega
                  have hbi3 : (0 : Int) ≤ (b : Int) := by omega
                  by_cases hlt2 : tapN h j < tapN h b
                  · have hd3 : decide (tapN h j < tapN h b) = true := decide_eq_true hlt2
                    have Hf2 := Lib.hid ((Hf.out.2 b rfl).trans (if_pos hlt2))
                    generalize tapN h j = x at ca hd3 ta0 ta1 hlt2
                    generalize tapN h b = y at cb hd3 tb0 tb1 hlt2
                    go_wp2_with fail
                    go_quiet (fail)
                    clear hcj2 ca cb hd2 hd3
                    go_wp2_with fail
                    go_roundw
                    case rel => exact ⟨j + 1, some j, j, by omega, Hf2.out.symm, by go_num, rfl, rfl, hO, hg1, below_drewN hbV _⟩
                    case measure => simp [intOf]; omega
                  · have hd3 : decide (tapN h j < tapN h b) = false := decide_eq_false hlt2
                    have Hf2 := Lib.hid ((Hf.out.2 b rfl).trans (if_neg hlt2))
                    generalize tapN h j = x at ca hd3 ta0 ta1 hlt2
                    generalize tapN h b = y at cb hd3 tb0 tb1 hlt2
                    go_wp2_with fail
                    go_quiet (fail)
                    clear hcj2 ca cb hd2 hd3
                    go_wp2_with fail
                    go_roundw
                    case rel => exact ⟨j + 1, some b, b, by omega, Hf2.out.symm, by go_num, rfl, rfl, hO, hg1, below_drewN hbV _⟩
                    case measure => simp [intOf]; omega
            · have hlt2 : ¬ ((j : Int) < h.length) := by omega
              have hje : j = h.length := by omega
              have hoi : o = some i := by rw [Ho.out, hje]; exact Hpick.out
              subst hoi
              obtain rfl : bi = (i : Int) := Hbi.out
              clear hje
              have hil : (idxLe sk.2 (tapN h i)) ≤ 6 := by have := idxLe_le sk.2 (tapN h i); have := Hok2.out.few; omega
              go_wp2_with fail
              go_loopw [12, 13] (fun lv kv wr => ∃ (l j : Nat), l ≤ idxLe sk.2 (tapN h i) ∧ j ≤ h.length ∧ Hid (∀ x, x < j → sk.1[x]? = some (some l) → endN t x ≤ tapN h i) ∧ lv = .int .i64 l ∧ kv = .int .i64 j ∧ Own wr g1 (g1 + 1) 3 1 (some ⟨g1, 0, none⟩) h.length co (ints (outS sk.1)) ∧ g1 < wr.heap.size ∧ Below w.heap.size w wr) (fun lv kv _ => (7 - (intOf lv).toNat) * 8 + (7 - (intOf kv).toNat))
              case atStart => exact ⟨0, 0, Nat.zero_le _, Nat.zero_le _, Lib.hid (fun x hx => by omega), rfl, rfl, hO, hg1, hbV⟩
              case round =>
                clear hO hg1 hbV
                obtain ⟨l, j, hl, hj, Hn, rfl, rfl, hO, hg1, hbV⟩ := hrel
                by_cases hjl : j < h.length
                · have hji : (j : Int) < h.length := by omega
                  have hlen := Hok2.out.len
                  have hsj := List.getElem?_eq_getElem (l := sk.1) (i := j) (by omega)
                  generalize sk.1[j] = oj at hsj
                  have hcj := (num_own hO (outS_at hsj)).1
                  have Hlen := Lib.hid hlen
                  have Hsj := Lib.hid hsj
                  clear hlen hsj
                  by_cases hol : oj = some l
                  · subst hol
                    have hcj2 : wr.cell? ⟨g1, j, none⟩ = some (.int .i64 (l : Int)) := hcj
                    clear hcj
                    have hee : ((l : Int) == (l : Int)) = true := by rw [beq_iff_eq]
                    obtain ⟨bk, off, rfl, hbB, ca, ta0, ta1⟩ := tap_facts (x := i) (hs.below hbV) Hok.out hin
                    obtain ⟨bt, offt, rfl, hbT, ct, te0, te1⟩ := end_facts (x := j) (hs'.below hbV) Hok.out hjl
                    have hii : (i : Int) < h.length := by omega
                    have hii0 : (0 : Int) ≤ (i : Int) := by omega
                    have htl : (j : Int) + 1 < t.length := by have := castOk_len Hok.out; omega
                    have hwj : IntKind.i64.wrap ((j : Int) + 1) = (j : Int) + 1 := wrap_in (by omega) (by omega)
                    have htj0 : (0 : Int) ≤ (j : Int) + 1 := by omega
                    have htj1 : ((j : Int) + 1).toNat = j + 1 := by omega
                    by_cases hgt : tapN h i < endN t j
                    · have hpast := ladle_past Hok2.out hl Hsj.out hgt
                      have hd3 : decide (tapN h i < endN t j) = true := decide_eq_true hgt
                      have hl1 : l + 1 ≤ idxLe sk.2 (tapN h i) := hpast
                      clear hpast
                      generalize tapN h i = x at ca hd3 ta0 ta1 hgt hl1 hil hl Hn ⊢
                      generalize endN t j = y at ct hd3 te0 te1 hgt
                      go_wp2_with fail
                      go_quiet (fail)
                      clear hcj2 ca ct hd3 hwj htj1
                      go_wp2_with fail
                      go_roundw
                      case rel => exact ⟨l + 1, 0, hl1, Nat.zero_le _, Lib.hid (fun x hx => by omega), by go_num, rfl, hO, hg1, below_drewN hbV _⟩
                      case measure => simp [intOf]; omega
                    · have hd3 : decide (tapN h i < endN t j) = false := decide_eq_false hgt
                      have hn2 : ∀ x, x < j + 1 → sk.1[x]? = some (some l) → endN t x ≤ tapN h i := by
                        intro x hx hxl
                        by_cases hxj : x = j
                        · subst hxj; omega
                        · exact Hn.out x (by omega) hxl
                      have Hn2 := Lib.hid hn2
                      clear hn2
                      clear Hn
                      generalize tapN h i = x at ca hd3 ta0 ta1 hgt hl hil Hn2 ⊢
                      generalize endN t j = y at ct hd3 te0 te1 hgt
                      go_wp2_with fail
                      go_quiet (fail)
                      clear hcj2 ca ct hd3 hwj htj1
                      go_wp2_with fail
                      go_roundw
                      case rel => exact ⟨l, j + 1, hl, by omega, Hn2, rfl, by go_num, hO, hg1, below_drewN hbV _⟩
                      case measure => simp [intOf]; omega
                  · have hd1 : (optS oj == (l : Int)) = false := by
                      rw [beq_eq_false_iff_ne]
                      cases oj with
                      | none => simp only [optS]; omega
                      | some l' =>
                        simp only [optS]
                        intro e
                        exact hol (by rw [show l' = l by omega])
                    have hn2 : ∀ x, x < j + 1 → sk.1[x]? = some (some l) → endN t x ≤ tapN h i := by
                      intro x hx hxl
                      by_cases hxj : x = j
                      · subst hxj
                        rw [Hsj.out] at hxl
                        injection hxl with hxl
                        exact absurd hxl hol
                      · exact Hn.out x (by omega) hxl
                    have Hn2 := Lib.hid hn2
                    clear hn2 hol
                    generalize optS oj = v at hcj hd1
                    have hd2 : ¬ (v = (l : Int)) := by rwa [beq_eq_false_iff_ne] at hd1
                    go_wp2_with fail
                    go_quiet (fail)
                    clear hcj hd1 hd2
                    go_wp2_with fail
                    go_roundw
                    case rel => exact ⟨l, j + 1, hl, by omega, Hn2, rfl, by go_num, hO, hg1, below_drewN hbV _⟩
                    case measure => simp [intOf]; omega
                · have hlt3 : ¬ ((j : Int) < h.length) := by omega
                  have hje : j = h.length := by omega
                  have hli : l = idxLe sk.2 (tapN h i) := by
                    rcases Nat.lt_or_ge l (idxLe sk.2 (tapN h i)) with hx | hx
                    · obtain ⟨x, x1, x2, x3⟩ := ladle_full Hok2.out hx
                      have := Hn.out x (by omega) x2
                      omega
                    · omega
                  have hsi := List.getElem?_eq_getElem (l := sk.1) (i := i) (by rw [Hok2.out.len]; exact hin)
                  obtain ⟨ci, fi, hput⟩ := num_own hO (outS_at hsi)
                  have hput2 := hput (l : Int)
                  have e2 : ((outS sk.1).set i (l : Int)) = outS (ladS h t (k + 1)).1 := by
                    have e3 : ladS h t (k + 1) = ladStep (tapN h) (endN t) sk i := Hnext.out
                    rw [e3, hli]
                    show _ = outS (sk.1.set i (some (idxLe sk.2 (tapN h i))))
                    rw [outS_set]
                    rfl
                  rw [e2] at hput2
                  clear hput hsi hje hli e2 Hn
                  have hii : (i : Int) < h.length := by omega
                  have hii0 : (0 : Int) ≤ (i : Int) := by omega
                  go_wp2_with fail
                  go_roundw
                  case rel => exact ⟨k + 1, by omega, by go_num, hput2, by simpa using hg1, hbV.setCell hg1w _⟩
                  case measure => simp [intOf]; omega
        · obtain rfl : k = h.length := by omega
          have Hlen := Lib.hid (ladS_ok Hok.out h.length (Nat.le_refl _)).len
          clear hlt hk
          go_wp2_with fail
          go_ret
          refine ⟨some ⟨g1, 0, none⟩, co, ret_slice (by rw [ladleOf_eq Hok.out, outS_len, Hlen.out]), ?_, hbV⟩
          rw [ladleOf_eq Hok.out, outS_len, Hlen.out]
          exact own_lo (own_hi hO hg1) hg1w
end Go.Proofs.Ytblfbllhkmcbbaa
