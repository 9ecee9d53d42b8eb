/-
  LadleOf in the program.
-/
import Derived.Test.YtblfbllhkmcbbaaLu
namespace Go.Proofs.Ytblfbllhkmcbbaa
open Go.RowKit
set_option linter.unusedVariables false
set_option linter.unusedSimpArgs false
/-- Places 0 .. k - 1 hold their own numbers. -/
def fillR (n k : Nat) : List Int := (List.range n).map fun i => if i < k then (i : Int) else 0
theorem fillR_zero (n : Nat) : fillR n 0 = List.replicate n 0 := by
  unfold fillR
  rw [List.eq_replicate_iff]
  refine ⟨by simp, fun b hb => ?_⟩
  obtain ⟨l, hl, rfl⟩ := List.mem_map.1 hb
  simp
theorem fillR_full (n : Nat) : fillR n n = natsO (List.range n) := by
  unfold fillR natsO
  refine List.map_congr_left fun l hl => ?_
  rw [if_pos (List.mem_range.1 hl)]
theorem fillR_at {n k : Nat} (hk : k < n) : (fillR n k)[k]? = some 0 := by simp [fillR, hk]
theorem fillR_set {n k : Nat} : (fillR n k).set k (k : Int) = fillR n (k + 1) := by
  apply List.ext_getElem?
  intro j
  unfold fillR
  by_cases hj : j < n
  · rw [List.getElem?_set]
    by_cases hk : k = j
    · subst hk; simp [hj]
    · rw [if_neg hk]
      have : j < k + 1 ↔ j < k := by omega
      simp [hj, this]
  · rw [List.getElem?_eq_none (by simp; omega), List.getElem?_eq_none (by simp; omega)]
theorem own_zeros2 (w : World) (n : Nat) (hn : n ≤ 1000) : Own (w.alloc (.cells (madeCells #[.int .i64 0] n) 3)) w.heap.size (w.heap.size + 1) 3 1 (some ⟨w.heap.size, 0, none⟩) n n (ints (List.replicate n 0)) := by
  refine Own.mk_ (Nat.le_refl _) (by omega) (Nat.le_refl _) (by unfold maxLen; omega) (Blk.made _ _ _) ((size_madeCells _ _).trans (by simp)) ?_
  have hz : (madeCells #[.int .i64 0] n).toList = ints (List.replicate n 0) := by
    simp only [ints, List.map_replicate]
    rw [List.eq_replicate_iff]
    refine ⟨by simp [madeCells], fun b hb => ?_⟩
    simp [madeCells, Nat.mod_one] at hb
    exact hb.2.symm
  rw [hz, Nat.mul_one, List.take_of_length_le (by simp [ints])]
theorem sees_cell {w : World} {B g j : Nat} {xs : List Value} {u : Value} (h : Sees w B (some ⟨g, 0, none⟩) xs) (hu : xs[j]? = some u) : w.cell? ⟨g, j, none⟩ = some u ∧ g < B := by
  rcases h with h | ⟨b, off, h, hb, hc⟩
  · rw [h] at hu; simp at hu
  · injection h with h
    injection h with e1 e2
    subst e1; subst e2
    have := hc j u hu
    rw [Nat.zero_add] at this
    exact ⟨this, hb⟩
theorem tail_facts {X w4 : World} {gl B2 i l n m ce hE ge : Nat} {O es : List Int} {o e : Int} {v : Value} (hO : Own X gl (gl + 1) 3 1 (some ⟨gl, 0, none⟩) n n (ints O)) (hOi : O[i]? = some o)
    (hEn : Own X (gl + 1) hE 3 1 (some ⟨ge, 0, none⟩) m ce (ints es)) (hel : es[l]? = some e) (hB2 : X.cell? ⟨B2, 0, none⟩ = some v) (hB2n : B2 ≠ gl) (hB2l : B2 < X.heap.size) (hg : gl < X.heap.size) (hb : Below gl w4 X) (v1 v2 : Int) :
    X.cell? ⟨gl, i, none⟩ = some (.int .i64 o) ∧ X.frozen? ⟨gl, i, none⟩ = false ∧ (X.setCell ⟨gl, i, none⟩ (.int .i64 v1)).cell? ⟨B2, 0, none⟩ = some v ∧ (∀ b k u, b < gl → w4.cell? ⟨b, k, none⟩ = some u → (X.setCell ⟨gl, i, none⟩ (.int .i64 v1)).cell? ⟨b, k, none⟩ = some u) ∧
      (X.setCell ⟨gl, i, none⟩ (.int .i64 v1)).cell? ⟨ge, l, none⟩ = some (.int .i64 e) ∧ (X.setCell ⟨gl, i, none⟩ (.int .i64 v1)).frozen? ⟨ge, l, none⟩ = false ∧
      Own ((X.setCell ⟨gl, i, none⟩ (.int .i64 v1)).setCell ⟨ge, l, none⟩ (.int .i64 v2)) gl (gl + 1) 3 1 (some ⟨gl, 0, none⟩) n n (ints (O.set i v1)) ∧
      Own ((X.setCell ⟨gl, i, none⟩ (.int .i64 v1)).setCell ⟨ge, l, none⟩ (.int .i64 v2)) (gl + 1) hE 3 1 (some ⟨ge, 0, none⟩) m ce (ints (es.set l v2)) ∧
      Below gl w4 ((X.setCell ⟨gl, i, none⟩ (.int .i64 v1)).setCell ⟨ge, l, none⟩ (.int .i64 v2)) ∧ ge ≠ gl := by
  obtain ⟨a1, a2, a3⟩ := num_own hO hOi
  have hon : Only gl (gl + 1) X (X.setCell ⟨gl, i, none⟩ (.int .i64 v1)) := (Only.refl gl (gl + 1) X).setCell (p := ⟨gl, i, none⟩) (Nat.le_refl gl) (Nat.lt_succ_self gl) _
  have hE2 := hEn.only hon (.inr (Nat.le_refl _))
  obtain ⟨b1, b2, b3⟩ := num_own hE2 hel
  have hgb : gl + 1 ≤ ge ∧ ge < hE := by
    refine ⟨(hEn.1.lt ge rfl).1, hEn.2 ge rfl⟩
  have hbY := hb.setCell (p := ⟨gl, i, none⟩) (Nat.le_refl _) (.int .i64 v1)
  have hon2 : Only ge (ge + 1) (X.setCell ⟨gl, i, none⟩ (.int .i64 v1)) ((X.setCell ⟨gl, i, none⟩ (.int .i64 v1)).setCell ⟨ge, l, none⟩ (.int .i64 v2)) := (Only.refl ge (ge + 1) (X.setCell ⟨gl, i, none⟩ (.int .i64 v1))).setCell (p := ⟨ge, l, none⟩) (Nat.le_refl ge) (Nat.lt_succ_self ge) _
  exact ⟨a1, a2, (only_cell' hon hB2l (by omega)).trans hB2, fun b k u hbl hu => (hbY.cell (p := ⟨b, k, none⟩) hbl).trans hu, b1, b2, (a3 v1).only hon2 (.inl hgb.1), b3 v2, hbY.setCell (p := ⟨ge, l, none⟩) (by show gl ≤ ge; omega) _, by omega⟩
theorem idxI_yes {es : List Int} {t : Int} (h : idxLe es t < es.length) : idxI es t = (idxLe es t : Int) := if_pos h
theorem idxI_no {es : List Int} {t : Int} (h : ¬ idxLe es t < es.length) : idxI es t = -1 := if_neg h
set_option maxRecDepth 20000 in
set_option maxHeartbeats 4000000 in
theorem ladleOf_any (A A' : Option Addr) (c c' : Nat) (h : List Heat) (t : List Int) (w : World) (hs : Sees w w.heap.size A (ints (flatH h))) (hn : h.length ≤ 1048576) (hs' : Sees w w.heap.size A' (ints t)) (hn' : t.length ≤ 1048576) (f s : Int) :
    Calls Try.prog 42 #[.slice A h.length c, .agg #[.int .i64 f, .int .i64 s], .slice A' t.length c'] w (RetRow w 3 (ladleOf h ⟨f, s⟩ t).length (ladleOf h ⟨f, s⟩ t)) := by
  obtain ⟨i0, hi, hz0, hz1, hz2⟩ := info_parts infoInt
  have own_nil : ∀ (w' : World) (lo hi : Nat), Own w' lo hi 3 1 none 0 0 (ints []) := fun w' lo hi => ⟨⟨by simp [ints], .inl ⟨rfl, rfl⟩⟩, fun g hg => by cases hg⟩
  go_enter Try.func42, Try.ntmps42
  have hx := boxed2 w #[.slice A h.length c] #[.int .i64 f, .int .i64 s] 50 61
  go_wp2_with fail
  generalize (w.alloc _).alloc _ = W at hx ⊢
  obtain ⟨hbW, y1, y2, hcA, hcB⟩ := hx
  refine (castOk_any _ _ _ _ _ _ _ (hs.next hbW) hn (hs'.next hbW) hn' _ _).mono ?_
  rintro _ w1 ⟨rfl, hb⟩
  have hbox : w1.cell? ⟨w.heap.size, 0, none⟩ = some (.slice A h.length c) := (hb.cell (p := ⟨w.heap.size, 0, none⟩) y1).trans (hcA 0)
  have hB1 : w.heap.size < w1.heap.size := Nat.lt_of_lt_of_le y1 hb.size
  replace hbW := below_next hbW hb
  clear hcA hcB y1 y2 hb
  cases hok : castOk h ⟨f, s⟩ t with
  | false =>
    go_wp2_with fail
    go_ret
    exact ⟨none, 0, ret_slice (by rw [ladleOf_bad hok]; rfl), by rw [ladleOf_bad hok]; exact own_nil _ _ _, hbW⟩
  | true =>
  have h6 := heats_len (castOk_parts hok).1
  have hmk := fun W => run_make (P := Try.prog) W 32 3 i0 _ Try.underlying32 hi hz0 .i64 .i64 h.length h.length (by omega) (by omega) (by rw [hz2]; omega) (by omega)
  simp only [Int.toNat_natCast, hz1] at hmk
  go_wp2_with fail
  have hO := own_zeros2 w1 h.length (by omega)
  rw [← fillR_zero] at hO
  have hbV : Below w1.heap.size w1 (w1.alloc (.cells (madeCells #[.int .i64 0] h.length) 3)) := (Below.refl _ _).alloc (Nat.le_refl _) _
  have hg : w1.heap.size < (w1.alloc (.cells (madeCells #[.int .i64 0] h.length) 3)).heap.size := by simp
  generalize w1.alloc _ = W1 at hO hbV hg ⊢
  have Hok := Lib.hid hok
  clear hok
  go_loopw [24] (fun kv wr => ∃ k : Nat, k ≤ h.length ∧ kv = .int .i64 k ∧ Own wr w1.heap.size (w1.heap.size + 1) 3 1 (some ⟨w1.heap.size, 0, none⟩) h.length h.length (ints (fillR h.length k)) ∧ w1.heap.size < wr.heap.size ∧ Below w1.heap.size w1 wr) (fun kv _ => h.length - (intOf kv).toNat)
  case atStart => exact ⟨0, Nat.zero_le _, rfl, hO, hg, hbV⟩
  case round =>
    clear hO hg hbV
    obtain ⟨k, hk, rfl, hO, hg, hbV⟩ := hrel
    by_cases hlt : k < h.length
    · have hki : (k : Int) < h.length := by omega
      obtain ⟨ck, fk, hput⟩ := num_own hO (fillR_at hlt)
      have hput2 := hput (k : Int)
      rw [fillR_set] at hput2
      clear hput
      go_wp2_with fail
      go_roundw
      case rel => exact ⟨k + 1, by omega, by go_num, hput2, by simpa using hg, hbV.setCell (Nat.le_refl _) _⟩
      case measure => simp [intOf]; omega
    · obtain rfl : k = h.length := by omega
      clear hlt hk
      rw [fillR_full] at hO
      have hcon := sortStable_any wr w1.heap.size h.length w.heap.size c w1.heap.size A h t ⟨f, s⟩ Hok.out hO hg ((hs.next hbW).below hbV) ((hbV.cell (p := ⟨w.heap.size, 0, none⟩) hB1).trans hbox) hB1 (Nat.le_refl _)
      clear hO
      go_wp2_with fail
      refine hcon.mono ?_
      rintro _ w4 ⟨rfl, hS, hon⟩
      clear hcon
      have hbX := below_only hbV hon (Nat.le_refl _) (Nat.le_refl _)
      have hg4 : w1.heap.size < w4.heap.size := Nat.lt_of_lt_of_le hg hon.size
      clear hon hbV hg
      have hbox4 : w4.cell? ⟨w.heap.size, 0, none⟩ = some (.slice A h.length c) := (hbX.cell (p := ⟨w.heap.size, 0, none⟩) hB1).trans hbox
      have hs4 := (hs.next hbW).below hbX
      have hs4' := (hs'.next hbW).below hbX
      have hbA := below_next hbW hbX
      clear hbox hbX hbW
      go_wp2_with fail
      have hO := own_zeros2 w4 h.length (by omega)
      rw [← outI_none] at hO
      have hbV : Below w4.heap.size w4 (w4.alloc (.cells (madeCells #[.int .i64 0] h.length) 3)) := (Below.refl _ _).alloc (Nat.le_refl _) _
      have hgl : w4.heap.size < (w4.alloc (.cells (madeCells #[.int .i64 0] h.length) 3)).heap.size := by simp
      generalize w4.alloc _ = W5 at hO hbV hgl ⊢
      clear hmk
      go_loopw [10, 40] (fun ev kv wr => ∃ (k ce : Nat) (Ae : Option Addr), k ≤ h.length ∧ kv = .int .i64 k ∧ ev = .slice Ae (ladS h t k).2.length ce ∧ Own wr w4.heap.size (w4.heap.size + 1) 3 1 (some ⟨w4.heap.size, 0, none⟩) h.length h.length (ints (outI (ladS h t k).1)) ∧ w4.heap.size < wr.heap.size ∧ Own wr (w4.heap.size + 1) wr.heap.size 3 1 Ae (ladS h t k).2.length ce (ints (ladS h t k).2) ∧ Below w4.heap.size w4 wr) (fun _ kv _ => h.length - (intOf kv).toNat)
      case atStart => exact ⟨0, 0, none, Nat.zero_le _, rfl, rfl, hO, hgl, own_nil _ _ _, hbV⟩
      case round =>
        clear hO hbV hgl
        obtain ⟨k, ce, Ae, hk, rfl, rfl, hO, hgl, hE, hbk⟩ := hrel
        by_cases hlt : k < h.length
        · have hki : (k : Int) < h.length := by omega
          obtain ⟨i, hi2, hin⟩ := ord_at hlt
          have hoc := (sees_cell (hS.below hbk) (ints_get (natsO_at hi2))).1
          have Hok2 := Lib.hid (ladS_ok Hok.out k (by omega))
          have hnext : ladS h t (k + 1) = ladStep (tapN h) (endN t) (ladS h t k) i := ladK_succ (E := endN t) hi2
          have Hnext := Lib.hid hnext
          clear hnext hi2
          generalize ladS h t k = sk at hO hE Hok2 Hnext
          go_wp2_with fail
          have hfew := Hok2.out.few
          have hB2 : (wr.alloc (.cells #[.int .i64 (i : Int)] 3)).cell? ⟨wr.heap.size, 0, none⟩ = some (.int .i64 (i : Int)) := (Blk.made wr 3 #[.int .i64 (i : Int)]).cell 0
          have hB2l : wr.heap.size < (wr.alloc (.cells #[.int .i64 (i : Int)] 3)).heap.size := by simp
          replace hO := hO.alloc (.cells #[.int .i64 (i : Int)] 3)
          replace hE := hE.alloc (.cells #[.int .i64 (i : Int)] 3)
          replace hbk := hbk.alloc hbk.size (.cells #[.int .i64 (i : Int)] 3)
          generalize wr.alloc _ = W2 at hB2 hB2l hO hE hbk ⊢
          obtain ⟨B2, hB2e⟩ : ∃ B2, B2 = wr.heap.size := ⟨_, rfl⟩
          rw [← hB2e] at hB2 hB2l hgl hE ⊢
          clear hB2e hoc
          have hcon := index_any W2 Ae A ce c w.heap.size B2 w1.heap.size i sk.2 h t ⟨f, s⟩ Hok.out hin hE.sees (by omega) ((hs4.more (Nat.le_of_lt hg4)).below hbk |> fun z => (hs4.below (hbk.mono (Nat.le_of_lt hg4)))) (by omega) ((hbk.cell (p := ⟨w.heap.size, 0, none⟩) (by show w.heap.size < w4.heap.size; omega)).trans hbox4) (by omega) hB2 hB2l
          refine hcon.mono ?_
          rintro _ _ ⟨rfl, m, rfl⟩
          clear hcon
          have hO6 : Own (W2.drewN m) w4.heap.size (w4.heap.size + 1) 3 1 (some ⟨w4.heap.size, 0, none⟩) h.length h.length (ints (outI sk.1)) := hO
          have hE6 : Own (W2.drewN m) (w4.heap.size + 1) B2 3 1 Ae sk.2.length ce (ints sk.2) := hE
          have hb6 := below_drewN hbk m
          have hB6 : (W2.drewN m).cell? ⟨B2, 0, none⟩ = some (.int .i64 (i : Int)) := hB2
          have hB6l : B2 < (W2.drewN m).heap.size := hB2l
          generalize W2.drewN m = w6 at hO6 hE6 hb6 hB6 hB6l ⊢
          clear hO hE hbk hB2 hB2l
          have hsi := List.getElem?_eq_getElem (l := sk.1) (i := i) (by rw [Hok2.out.len]; exact hin)
          have hoi := outI_at hsi
          generalize optI _ = o at hoi
          clear hsi
          obtain ⟨bt, offt, hAt, hbT, ct, te0, te1⟩ := end_facts (x := i) hs4' Hok.out hin
          subst hAt
          have hii : (i : Int) < h.length := by omega
          have htl : (i : Int) + 1 < t.length := by have := castOk_len Hok.out; omega
          have htj0 : (0 : Int) ≤ (i : Int) + 1 := by omega
          have htj1 : ((i : Int) + 1).toNat = i + 1 := by omega
          have hwi : IntKind.i64.wrap ((i : Int) + 1) = (i : Int) + 1 := wrap_in (by omega) (by omega)
          have hB2n : B2 ≠ w4.heap.size := by omega
          by_cases hl : idxLe sk.2 (tapN h i) < sk.2.length
          · rw [idxI_yes hl]
            obtain ⟨ge, cs, rfl, _⟩ := hE6.block (by omega)
            have hel := List.getElem?_eq_getElem hl
            have hnx : ladS h t (k + 1) = (sk.1.set i (some (idxLe sk.2 (tapN h i))), sk.2.set (idxLe sk.2 (tapN h i)) (endN t i)) := by
              rw [Hnext.out]
              unfold ladStep
              rw [if_pos hl]
            have Hnx := Lib.hid hnx
            clear hnx
            generalize idxLe sk.2 (tapN h i) = l at hl hel Hnx ⊢
            obtain ⟨f1, f2, f3, f4, f5, f6, f7, f8, f9, f10⟩ := tail_facts hO6 hoi hE6 hel hB6 hB2n hB6l (by omega) hb6 (l : Int) (endN t i)
            have f11 := f4 bt _ _ (by omega) ct
            have hl1 : (l : Int) < sk.2.length := by omega
            clear f4 ct hel
            go_wp2_with fail
            go_roundw
            case rel =>
              refine ⟨k + 1, ce, some ⟨ge, 0, none⟩, by omega, by go_num, by rw [Hnx.out]; simp, ?_, by simp; omega, ?_, f9⟩
              · rw [Hnx.out, outI_set]; exact f7
              · rw [Hnx.out]
                simp only [List.length_set]
                exact own_hi f8 (by simp; omega)
            case measure => simp [intOf]; omega
          · rw [idxI_no hl]
            have hle := idxLe_le sk.2 (tapN h i)
            have hll : idxLe sk.2 (tapN h i) = sk.2.length := by omega
            have hnx : ladS h t (k + 1) = (sk.1.set i (some sk.2.length), sk.2 ++ [endN t i]) := by
              rw [Hnext.out]
              unfold ladStep
              rw [if_neg hl, hll]
            have Hnx := Lib.hid hnx
            clear hnx hll hle hl
            have hset : ∀ v : Int, (sk.2 ++ [0]).set sk.2.length v = sk.2 ++ [v] := fun v => by simp
            have Hset := Lib.hid hset
            have helA : (sk.2 ++ [(0 : Int)])[sk.2.length]? = some 0 := by simp
            clear hset
            have hcl : ((sk.2.length : Nat) : Int) < ((sk.2.length + 1 : Nat) : Int) := by omega
            have hw6 : w4.heap.size < w6.heap.size := by omega
            go_wp2_with (at_builtin; refine wpList_app _ rfl (.tmp 51) (.tmp 52) _ rfl 3 i0 _ 1 8 Try.underlying32 hi hz0 hz1 hz2 rfl (by omega) rfl (hE6.alloc _) rfl (sees_one _ _ _) (by simp [ints]) (one_ints _) (by omega) (by omega) (by simp; omega) ?_; intro A2 c2 w7 hE7 hon; obtain ⟨ge, cs, hAe, _⟩ := hE7.block (by omega); subst hAe; have hB7 : w7.cell? ⟨B2, 0, none⟩ = some (.int .i64 (i : Int)) := (only_cell' hon (by simp; omega) (by omega)).trans (((Below.refl _ _).alloc (Nat.le_refl _) (.cells #[.int .i64 0] 3)).cell (p := ⟨B2, 0, none⟩) hB6l |>.trans hB6); have f0 := tail_facts (v2 := endN t i) ((hO6.alloc (.cells #[.int .i64 0] 3)).only hon (.inl (Nat.le_refl _))) hoi (by rw [← ints_append] at hE7; exact hE7) helA hB7 hB2n (by have := hon.size; simp at this; omega) (by have := hon.size; simp at this; omega) (below_only (hb6.alloc hb6.size (.cells #[.int .i64 0] 3)) hon (by omega) (by omega)) ((sk.2.length : Nat) : Int); obtain ⟨f1, f2, f3, f4, f5, f6, f7, f8, f9, f10⟩ := f0; have f11 := f4 bt _ _ (by omega) ct)
            go_roundw
            case rel =>
              refine ⟨k + 1, c2, some ⟨ge, 0, none⟩, by omega, by go_num, by rw [Hnx.out]; simp, ?_, by have := hon.size; simp at this ⊢; omega, ?_, f9⟩
              · rw [Hnx.out, outI_set]; exact f7
              · rw [Hset.out] at f8
                rw [Hnx.out]
                simp only [List.length_append, List.length_singleton]
                exact own_hi f8 (by simp)
            case measure => simp [intOf]; omega
        · obtain rfl : k = h.length := by omega
          have hok2 := ladS_ok Hok.out h.length (Nat.le_refl _)
          have Hlen := Lib.hid hok2.len
          rw [out_same hok2] at hO
          clear hlt hk hok2
          go_wp2_with fail
          go_ret
          refine ⟨some ⟨w4.heap.size, 0, none⟩, h.length, ret_slice (by rw [ladleOf_eq Hok.out, outS_len, Hlen.out]), ?_, hbA.trans (hbk.mono (by have := hbA.size; omega))⟩
          rw [ladleOf_eq Hok.out, outS_len, Hlen.out]
          exact own_lo (own_hi hO hgl) hbA.size
end Go.Proofs.Ytblfbllhkmcbbaa
