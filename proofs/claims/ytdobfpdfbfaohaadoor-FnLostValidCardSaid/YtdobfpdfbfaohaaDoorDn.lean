/-
  Contracts of drawn tables of losses.
-/
import Derived.Test.YtdobfpdfbfaohaaDoorTg
import Derived.Test.YtdobfpdfbfaohaaDoorDm
import Derived.Test.YtdobfpdfbfaohaaDoorDq
import Derived.Deep.DrawnRows
namespace Go.Proofs.YtdobfpdfbfaohaaDoor
open Go.RowKit
set_option linter.unusedVariables false
attribute [local go_sem ↓] Go.wp_at_zero Go.wp_at_succ
theorem infoRow2 : (Tryd.prog.info? 39).map (fun i => (i.zero, i.size, i.bytes)) = some (some (.slice none 0 0), 1, 24) := by kernel_rfl
/-- A table is drawn. -/
def DrewLost (w : World) (B r p : Nat) (e : Ending) (w' : World) : Prop :=
  ∃ (L : List (List Int)) (A : Option Addr) (c p' : Nat), L.length ≤ 4 ∧ (∀ l ∈ L, l.length ≤ 4) ∧ L.length ≤ c ∧ p' ≤ p + 60 ∧ e = .returned (.slice A L.length c) ∧ Tab w' w'.heap.size A L ∧ Rd w' B r p' ∧ Only r (r + 1) w w'
set_option maxHeartbeats 4000000 in
theorem l20Lost_any (B r p n : Nat) (w : World) (h : Rd w B r p) (hp : p ≤ 50000) (hn' : n ≤ 1000000) :
    Calls Tryd.prog 57 #[.pointer (some ⟨r, 0, none⟩), .int .i64 n] w (DrewLost w B r p) := by
  have hrw := h.lt
  have hBr := h.le
  obtain ⟨j0, ji, jz0, jz1, jz2⟩ := info_parts infoInt2
  obtain ⟨i0, hi, hz0, hz1, hz2⟩ := info_parts infoRow2
  go_enter Tryd.func57, Tryd.ntmps57
  have hT := TGrow.made w w.heap.size 39 3 (Nat.le_refl _)
  have hR := h.alloc (.cells #[] 39)
  have hO : Only r (r + 1) w (w.alloc (.cells #[] 39)) := (Only.refl _ _ _).alloc _
  go_wp2_with fail
  generalize w.alloc _ = W at hT hR hO ⊢
  go_loopw [5, 6] (fun t5 i wr => ∃ (k g c p' : Nat) (hd : List (Option Addr × Nat)) (L : List (List Int)), k ≤ 4 ∧ i = .int .i64 k ∧ t5 = .slice (some ⟨g, 0, none⟩) k c ∧ TGrow wr w.heap.size g 39 3 k c hd L ∧ Hid (∀ l ∈ L, l.length = 4) ∧ Hid (Dist hd) ∧ p' ≤ p + 8 * k ∧ Rd wr B r p' ∧ Only r (r + 1) w wr) (fun _ i _ => 4 - (intOf i).toNat)
  case atStart => exact ⟨0, _, _, p, [], [], by omega, rfl, rfl, hT, Lib.hid (by simp), Lib.hid (fun i j a b ha => by simp at ha), by omega, hR, hO⟩
  case round =>
    clear hT hR hO
    obtain ⟨k, g, c, p', hd, L, hk, rfl, rfl, hT, HL, HD, hp', hR, hO⟩ := hrel
    by_cases hlt : k < 4
    · obtain ⟨wo, rfl⟩ : ∃ wo : World, wo = wr := ⟨_, rfl⟩
      have hd4 : decide ((k : Int) < 4) = true := by simp; omega
      have hzo := hO.size
      have hg1 : g < wo.heap.size := hT.2.1
      have hrow := own_made wo 3 1
      have hOw := hO
      clear hO
      have hOi : Only r (r + 1) wo (wo.alloc (.cells #[] 3)) := (Only.refl _ _ _).alloc _
      replace hR := hR.alloc (.cells #[] 3)
      have hlo3 : wo.heap.size < (wo.alloc (.cells #[] 3)).heap.size := by simp
      go_wp2_with fail
      generalize wo.alloc _ = W2 at hrow hR hOi hlo3 ⊢
      have hlo2 : wo.heap.size < W2.heap.size := by exact hlo3
      go_loopw [7, 8] (fun t7 j wi => ∃ (q h c7 p2 : Nat) (l : List Int), q ≤ 4 ∧ j = .int .i64 q ∧ t7 = .slice (some ⟨h, 0, none⟩) q c7 ∧ Own wi h (h + 1) 3 1 (some ⟨h, 0, none⟩) q c7 (ints l) ∧ Hid (l.length = q) ∧ wo.heap.size ≤ h ∧ h < wi.heap.size ∧ p2 ≤ p' + 2 * q ∧ Rd wi B r p2 ∧ Only r (r + 1) wo wi) (fun _ j _ => 4 - (intOf j).toNat)
      case atStart => exact ⟨0, wo.heap.size, _, p', [], by omega, rfl, rfl, by simpa [ints] using hrow, Lib.hid rfl, Nat.le_refl _, hlo2, by omega, hR, hOi⟩
      case round =>
        clear hrow hR hOi hlo2 hlo3
        obtain ⟨q, h, c7, p2, l, hq, rfl, rfl, hrow, Hl, hh1, hh2, hp2, hR, hO⟩ := hrel
        by_cases hq4 : q < 4
        · go_wp2_with fail
          refine (pick_any B r _ 20 _ hR (by omega) (by omega) (by omega)).mono ?_
          rintro _ w2 ⟨v, hv, rfl, hR1, hO1⟩
          replace hrow := hrow.only hO1 (.inr (by omega))
          replace hh2 := Nat.lt_of_lt_of_le hh2 hO1.size
          replace hO := hO.trans hO1
          clear hR hO1
          by_cases hjk : q = k
          · have hb1 : ((q : Int) == (k : Int)) = true := by rw [beq_iff_eq]; omega
            clear hjk
            go_wp2_with fail
            refine (pick_any B r _ 3 _ hR1 (by omega) (by omega) (by omega)).mono ?_
            rintro _ w3 ⟨u, hu, rfl, hR, hO1⟩
            replace hrow := hrow.only hO1 (.inr (by omega))
            replace hh2 := Nat.lt_of_lt_of_le hh2 hO1.size
            replace hO := hO.trans hO1
            clear hR1 hO1
            by_cases hu0 : u = 0
            · subst hu0
              have hz := hO.size
              go_wp2_with (at_builtin; refine wpList_app1 _ rfl (.tmp 30) (.tmp 32) _ rfl 3 j0 _ 1 8 Tryd.underlying39 ji jz0 jz1 jz2 rfl (by omega) rfl (hrow.alloc _) (by simp; omega) rfl (sees_one _ _ _) (by simp [ints]) (one_ints _) (by omega) (by omega) (by omega) ?_; intro h2 c8 w6 hrow2 hor hlt6 hon)
              have hR2 := (hR.alloc _).only hon (by omega) (by omega)
              have hO2 := (hO.alloc _).fresh hon (by omega)
              have hh3 : wo.heap.size ≤ h2 := by rcases hor with e | e <;> first | omega | (simp at e; omega)
              go_roundw
              case rel => exact ⟨q + 1, h2, c8, p2 + 1 + 1, l ++ [(v : Int)], by omega, by go_num, rfl, by rw [ints_append]; exact hrow2, Lib.hid (by simp [Hl.out]), hh3, hlt6, by omega, hR2, hO2⟩
              case measure => simp [intOf]; omega
            · have hu1 : (0 : Int) < (u : Int) := by omega
              have hz := hO.size
              go_wp2_with (at_builtin; refine wpList_app1 _ rfl (.tmp 30) (.tmp 32) _ rfl 3 j0 _ 1 8 Tryd.underlying39 ji jz0 jz1 jz2 rfl (by omega) rfl (hrow.alloc _) (by simp; omega) rfl (sees_one _ _ _) (by simp [ints]) (one_ints _) (by omega) (by omega) (by omega) ?_; intro h2 c8 w6 hrow2 hor hlt6 hon)
              have hR2 := (hR.alloc _).only hon (by omega) (by omega)
              have hO2 := (hO.alloc _).fresh hon (by omega)
              have hh3 : wo.heap.size ≤ h2 := by rcases hor with e | e <;> first | omega | (simp at e; omega)
              go_roundw
              case rel => exact ⟨q + 1, h2, c8, p2 + 1 + 1, l ++ [0], by omega, by go_num, rfl, by rw [ints_append]; exact hrow2, Lib.hid (by simp [Hl.out]), hh3, hlt6, by omega, hR2, hO2⟩
              case measure => simp [intOf]; omega
          · have hb1 : ((q : Int) == (k : Int)) = false := by rw [beq_eq_false_iff_ne]; omega
            have hb2 : ¬ ((q : Int) = (k : Int)) := by omega
            have hz := hO.size
            go_wp2_with (at_builtin; refine wpList_app1 _ rfl (.tmp 30) (.tmp 32) _ rfl 3 j0 _ 1 8 Tryd.underlying39 ji jz0 jz1 jz2 rfl (by omega) rfl (hrow.alloc _) (by simp; omega) rfl (sees_one _ _ _) (by simp [ints]) (one_ints _) (by omega) (by omega) (by omega) ?_; intro h2 c8 w6 hrow2 hor hlt6 hon)
            have hR2 := (hR1.alloc _).only hon (by omega) (by omega)
            have hO2 := (hO.alloc _).fresh hon (by omega)
            have hh3 : wo.heap.size ≤ h2 := by rcases hor with e | e <;> first | omega | (simp at e; omega)
            go_roundw
            case rel => exact ⟨q + 1, h2, c8, p2 + 1, l ++ [(v : Int)], by omega, by go_num, rfl, by rw [ints_append]; exact hrow2, Lib.hid (by simp [Hl.out]), hh3, hlt6, by omega, hR2, hO2⟩
            case measure => simp [intOf]; omega
        · have hq5 : q = 4 := by omega
          subst hq5
          have hT1 := hT.only hO (.inl (by omega))
          have hgn := hT1.2.1
          have hl4 := Hl.out
          have hdist := hT.dist HD.out hh1 (cr := c7)
          have Hdist := Lib.hid hdist
          clear hdist hl4
          go_wp2_with (at_builtin; refine wpList_app1 _ rfl (.tmp 34) (.tmp 36) _ rfl 39 i0 _ 1 24 Tryd.underlying36 hi hz0 hz1 hz2 rfl (by omega) rfl (hT1.alloc _).1 (by simp; omega) rfl (sees_head _ _ _) (by simp) (by simp [Value.oneCell']) (by omega) (by omega) (by omega) ?_; intro g2 c2 w6 hT2 hor hlt6 hon)
          have hz6 := hT1.2.2.1
          have hT3 := (hT1.alloc (.cells #[.slice (some ⟨h, 0, none⟩) 4 c7] 39)).snoc (l := l) (by rw [Hl.out]; exact hrow.alloc _) (by omega) (by omega) (by simp; omega) (by rw [Hl.out]; exact hT2) (by rcases hor with e | e <;> first | omega | (simp at e; simp; omega)) hlt6 hon
          have hR2 := (hR.alloc (.cells #[.slice (some ⟨h, 0, none⟩) 4 c7] 39)).only hon (by omega) (by omega)
          have hO2 := ((hOw.trans hO).alloc (.cells #[.slice (some ⟨h, 0, none⟩) 4 c7] 39)).fresh hon hz6
          go_roundw
          case rel =>
            refine ⟨k + 1, g2, c2, p2, _, _, by omega, by go_num, rfl, hT3, Lib.hid ?_, Hdist, by omega, hR2, hO2⟩
            intro x hx
            rcases List.mem_append.1 hx with hx | hx
            · exact HL.out x hx
            · rw [List.mem_singleton.1 hx]; exact Hl.out
          case measure => simp [intOf]; omega
    · have hk4 : k = 4 := by omega
      subst hk4
      have hz := hO.size
      have hLl : L.length = 4 := hT.2.2.2.2.1
      have hcap := hT.cap
      go_wp2_with fail
      refine (odd_any B r _ n _ hR (by omega) hn').mono ?_
      rintro _ w2 ⟨b, p6, hp6, rfl, hR1, hO1⟩
      replace hT := hT.only hO1 (.inl (by omega))
      replace hO := hO.trans hO1
      clear hR hO1
      have HLl := Lib.hid hLl
      clear hLl
      cases b with
      | false =>
        go_wp2_with fail
        go_ret
        exact ⟨L, some ⟨g, 0, none⟩, c, p6, by rw [HLl.out]; omega, fun l hl => by rw [HL.out l hl]; omega, by rw [HLl.out]; exact hcap, by omega, ret_slice (by rw [HLl.out]), hT.tab, hR1, hO⟩
      | true =>
        go_wp2_with fail
        refine (pick_any B r _ 3 _ hR1 (by omega) (by omega) (by omega)).mono ?_
        rintro _ w3 ⟨v, hv, rfl, hR, hO1⟩
        replace hT := hT.only hO1 (.inl (by omega))
        replace hO := hO.trans hO1
        clear hR1 hO1
        have hv3 : v = 0 ∨ v = 1 ∨ v = 2 := by omega
        clear hv
        rcases hv3 with rfl | rfl | rfl
        · have hi1 : (4 : Int) ≤ (c : Int) := by omega
          have hi2 : ¬ ((c : Int) = 1) := by omega
          have hi3 : ¬ (c = 1) := by omega
          go_wp2_with fail
          go_ret
          exact ⟨L.drop 1, some ⟨g, 0 + 1, none⟩, c - 1, p6 + 1, by rw [List.length_drop, HLl.out]; omega, fun l hl => by rw [HL.out l (List.mem_of_mem_drop hl)]; omega, by rw [List.length_drop, HLl.out]; omega, by omega, by rw [List.length_drop, HLl.out]; rfl, hT.tab.drop1, hR, hO⟩
        · have hg := hT.2.2.1
          have hlo3 : w.heap.size ≤ w3.heap.size := hO.size
          obtain ⟨l2, hl2⟩ : ∃ l, L[2]? = some l := ⟨_, List.getElem?_eq_getElem (by rw [HLl.out]; omega)⟩
          have hT4 := hT.alloc (.cells #[.int .i64 1, .int .i64 2] 3)
          have hg3 := hT.2.1
          obtain ⟨q, cr, cc, ff, -, q1, q2, q3, -⟩ := hT4.row hl2
          have hrow2 : Own (w3.alloc (.cells #[.int .i64 1, .int .i64 2] 3)) w3.heap.size (w3.heap.size + 1) 3 1 (some ⟨w3.heap.size, 0, none⟩) [(1 : Int), 2].length 2 (ints [1, 2]) := Own.mk_ (Nat.le_refl _) (by omega) (Nat.le_refl _) (by unfold maxLen; omega) (Blk.made _ _ _) (by simp) (by simp [ints])
          have hT5 := hT4.put hl2 hrow2 hlo3 (by omega) (by simp)
          have hw : (w3.alloc (.cells #[.int .i64 1, .int .i64 2] 3)).setCell ⟨g, 2, none⟩ (.slice (some ⟨w3.heap.size, 0, none⟩) [(1 : Int), 2].length 2) = (w3.setCell ⟨g, 2, none⟩ (.slice (some ⟨w3.heap.size, 0, none⟩) 2 2)).alloc (.cells #[.int .i64 1, .int .i64 2] 3) := World.setCell_alloc_past _ _ _ _ hg3
          rw [hw] at hT5
          have Hl2 := Lib.hid hl2
          clear hl2 hw
          go_wp2_with fail
          go_ret
          refine ⟨L.set 2 [1, 2], some ⟨g, 0, none⟩, c, p6 + 1, by rw [List.length_set, HLl.out]; omega, fun l hl => ?_, by rw [List.length_set, HLl.out]; exact hcap, by omega, ret_slice (by rw [List.length_set, HLl.out]), hT5.tab, (hR.setCell (q := ⟨g, 2, none⟩) (by show r < g; omega) _).alloc _, (hO.setNew (q := ⟨g, 2, none⟩) (by show w.heap.size ≤ g; omega) _).alloc _⟩
          rcases List.mem_or_eq_of_mem_set hl with hl | rfl
          · rw [HL.out l hl]; omega
          · simp
        · obtain ⟨l1, hl1⟩ : ∃ l, L[1]? = some l := ⟨_, List.getElem?_eq_getElem (by rw [HLl.out]; omega)⟩
          have h14 := HL.out l1 (List.mem_of_getElem? hl1)
          obtain ⟨q, cr, cc, ff, hhd, q1, q2, q3, qo⟩ := hT.row hl1
          obtain ⟨x1, hx1⟩ : ∃ y, l1[1]? = some y := ⟨_, List.getElem?_eq_getElem (by rw [h14]; omega)⟩
          obtain ⟨nc, nf, -⟩ := num_own qo hx1
          have hg3 := hT.2.1
          have hg := hT.2.2.1
          have hcp := qo.cap
          rw [h14] at cc hcp
          have hi1 : (1 : Int) < (4 : Int) := by omega
          obtain ⟨u, hu, hdet⟩ := pick_det B r _ 2 _ hR (by omega) (by omega) (by omega)
          have Hdet := Lib.hid hdet
          have Hl1 := Lib.hid hl1
          have Hhd := Lib.hid hhd
          have Hx1 := Lib.hid hx1
          have H14 := Lib.hid h14
          clear hdet hl1 hhd hx1 h14
          have hu2 : u = 0 ∨ u = 1 := by omega
          clear hu
          rcases hu2 with rfl | rfl
          · go_wp2_with fail
            go_region_with (go_at_call 60; refine (Hdet.out _ (by first | exact (Below.refl _ _).drew | exact ((Below.refl _ _).alloc (Nat.le_refl _) _).drew)).mono ?_; rintro _ w4 ⟨rfl, hR6, hO6⟩; have hz4 : w3.heap.size ≤ w4.heap.size := (by have := hO6.size; simp at this; omega); have hg4 : g < w4.heap.size := (by omega); have hq4 : q < w4.heap.size := (by omega); have a1 : w4.cell? ⟨g, 1, none⟩ = some (.slice (some ⟨q, 0, none⟩) 4 cr) := (only_cell' hO6 (by simp; omega) (by omega)).trans (by first | exact cc | exact (((Below.refl w3.heap.size w3).alloc (Nat.le_refl _) _).cell (p := ⟨g, 1, none⟩) hg3).trans cc); have a2 : w4.cell? ⟨q, 1, none⟩ = some (.int .i64 x1) := (only_cell' hO6 (by simp; omega) (by omega)).trans (by first | exact nc | exact (((Below.refl w3.heap.size w3).alloc (Nat.le_refl _) _).cell (p := ⟨q, 1, none⟩) q3).trans nc); have a3 : w4.frozen? ⟨q, 1, none⟩ = false := (only_frozen' hO6 (by simp; omega) (by omega)).trans (by first | exact nf | exact (((Below.refl w3.heap.size w3).alloc (Nat.le_refl _) _).frozen (p := ⟨q, 1, none⟩) q3).trans nf); (first | (have cS := (Blk.only (by exact Blk.made w3 3 #[.int .i64 (-1), .int .i64 100]) hO6 (by omega)).cell) | skip))
            all_goals
              go_wp2_with fail
              go_ret
              refine ⟨L.set 1 (l1.set 1 (-1)), some ⟨g, 0, none⟩, c, p6 + 1 + 1, by rw [List.length_set, HLl.out]; omega, fun l hl => ?_, by rw [List.length_set, HLl.out]; exact hcap, by omega, ret_slice (by rw [List.length_set, HLl.out]), ?_, ?_, ?_⟩
              · rcases List.mem_or_eq_of_mem_set hl with hl | rfl
                · rw [HL.out l hl]; omega
                · rw [List.length_set, H14.out]; omega
              · first | exact ((TGrow.only (by exact hT.alloc (.cells #[.int .i64 (-1), .int .i64 100] 3)) hO6 (.inl (by omega))).num HD.out Hl1.out Hhd.out Hx1.out _).tab | exact (((TGrow.only (by exact hT) hO6 (.inl (by omega))).num HD.out Hl1.out Hhd.out Hx1.out _).alloc _).tab | exact (((TGrow.only (by exact hT) hO6 (.inl (by omega))).alloc _).num HD.out Hl1.out Hhd.out Hx1.out _).tab
              · first | exact hR6.setCell (q := ⟨q, 1, none⟩) (by show r < q; omega) _ | exact (hR6.setCell (q := ⟨q, 1, none⟩) (by show r < q; omega) _).alloc _ | exact (hR6.alloc _).setCell (q := ⟨q, 1, none⟩) (by show r < q; omega) _
              · first | exact ((hO.alloc _).trans hO6.of_drew).setNew (q := ⟨q, 1, none⟩) (by show w.heap.size ≤ q; omega) _ | exact ((hO.trans hO6.of_drew).setNew (q := ⟨q, 1, none⟩) (by show w.heap.size ≤ q; omega) _).alloc _ | exact ((hO.trans hO6.of_drew).alloc _).setNew (q := ⟨q, 1, none⟩) (by show w.heap.size ≤ q; omega) _
          · go_wp2_with fail
            go_region_with (go_at_call 60; refine (Hdet.out _ (by first | exact (Below.refl _ _).drew | exact ((Below.refl _ _).alloc (Nat.le_refl _) _).drew)).mono ?_; rintro _ w4 ⟨rfl, hR6, hO6⟩; have hz4 : w3.heap.size ≤ w4.heap.size := (by have := hO6.size; simp at this; omega); have hg4 : g < w4.heap.size := (by omega); have hq4 : q < w4.heap.size := (by omega); have a1 : w4.cell? ⟨g, 1, none⟩ = some (.slice (some ⟨q, 0, none⟩) 4 cr) := (only_cell' hO6 (by simp; omega) (by omega)).trans (by first | exact cc | exact (((Below.refl w3.heap.size w3).alloc (Nat.le_refl _) _).cell (p := ⟨g, 1, none⟩) hg3).trans cc); have a2 : w4.cell? ⟨q, 1, none⟩ = some (.int .i64 x1) := (only_cell' hO6 (by simp; omega) (by omega)).trans (by first | exact nc | exact (((Below.refl w3.heap.size w3).alloc (Nat.le_refl _) _).cell (p := ⟨q, 1, none⟩) q3).trans nc); have a3 : w4.frozen? ⟨q, 1, none⟩ = false := (only_frozen' hO6 (by simp; omega) (by omega)).trans (by first | exact nf | exact (((Below.refl w3.heap.size w3).alloc (Nat.le_refl _) _).frozen (p := ⟨q, 1, none⟩) q3).trans nf); (first | (have cS := (Blk.only (by exact Blk.made w3 3 #[.int .i64 (-1), .int .i64 100]) hO6 (by omega)).cell) | skip))
            all_goals
              go_wp2_with fail
              go_ret
              refine ⟨L.set 1 (l1.set 1 (100)), some ⟨g, 0, none⟩, c, p6 + 1 + 1, by rw [List.length_set, HLl.out]; omega, fun l hl => ?_, by rw [List.length_set, HLl.out]; exact hcap, by omega, ret_slice (by rw [List.length_set, HLl.out]), ?_, ?_, ?_⟩
              · rcases List.mem_or_eq_of_mem_set hl with hl | rfl
                · rw [HL.out l hl]; omega
                · rw [List.length_set, H14.out]; omega
              · first | exact ((TGrow.only (by exact hT.alloc (.cells #[.int .i64 (-1), .int .i64 100] 3)) hO6 (.inl (by omega))).num HD.out Hl1.out Hhd.out Hx1.out _).tab | exact (((TGrow.only (by exact hT) hO6 (.inl (by omega))).num HD.out Hl1.out Hhd.out Hx1.out _).alloc _).tab | exact (((TGrow.only (by exact hT) hO6 (.inl (by omega))).alloc _).num HD.out Hl1.out Hhd.out Hx1.out _).tab
              · first | exact hR6.setCell (q := ⟨q, 1, none⟩) (by show r < q; omega) _ | exact (hR6.setCell (q := ⟨q, 1, none⟩) (by show r < q; omega) _).alloc _ | exact (hR6.alloc _).setCell (q := ⟨q, 1, none⟩) (by show r < q; omega) _
              · first | exact ((hO.alloc _).trans hO6.of_drew).setNew (q := ⟨q, 1, none⟩) (by show w.heap.size ≤ q; omega) _ | exact ((hO.trans hO6.of_drew).setNew (q := ⟨q, 1, none⟩) (by show w.heap.size ≤ q; omega) _).alloc _ | exact ((hO.trans hO6.of_drew).alloc _).setNew (q := ⟨q, 1, none⟩) (by show w.heap.size ≤ q; omega) _
/-- A table is drawn out of a code. -/
def DrawnLost (w : World) (e : Ending) (w' : World) : Prop :=
  ∃ (L : List (List Int)) (A : Option Addr) (c : Nat), L.length ≤ 4 ∧ (∀ l ∈ L, l.length ≤ 4) ∧ L.length ≤ c ∧ e = .returned (.slice A L.length c) ∧ Tab w' w'.heap.size A L ∧ Below w.heap.size w w'
theorem drawLostValid_any (A : Option Addr) (n c : Nat) (l : List Int) (w : World) (hs : Sees w w.heap.size A (bys l)) (hl : l.length = n) (hby : ∀ z ∈ l, byteB z) (hc : n ≤ c) (hm : c ≤ maxLen) :
    Calls Tryd.prog 24 #[.slice A n c] w (DrawnLost w) := by
  go_enter Tryd.func24, Tryd.ntmps24
  go_wp2_with fail
  refine (l20Open_any A n c l _ hs hl hby hc hm).mono ?_
  rintro _ w1 ⟨rfl, hR, hb⟩
  go_wp2_with fail
  refine (l20Lost_any _ _ _ 2 _ hR (by omega) (by omega)).mono ?_
  rintro _ w2 ⟨L, A2, c2, p', hL4, hrows, hLc, hp', rfl, hT, hR2, hO⟩
  go_wp2_with fail
  go_ret
  exact ⟨L, A2, c2, hL4, hrows, hLc, rfl, hT, below_only hb hO (Nat.le_refl _) (Nat.le_refl _)⟩
end Go.Proofs.YtdobfpdfbfaohaaDoor
