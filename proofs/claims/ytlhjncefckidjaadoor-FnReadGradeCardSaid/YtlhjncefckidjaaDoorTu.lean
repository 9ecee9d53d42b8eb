/-
  ReadGrade in the program.
-/
import Derived.Test.YtlhjncefckidjaaDoorTs
namespace Go.Proofs.YtlhjncefckidjaaDoor
open Go.RowKit
set_option linter.unusedVariables false
set_option linter.unusedSimpArgs false
theorem pieces_count (c : UInt8) (n : Nat) : ∀ l : List UInt8, l.length ≤ n → (pieces c l).length = Lib.count l [c] + 1 := by
  induction n with
  | zero =>
    intro l hl
    have h0 : l = [] := List.eq_nil_of_length_eq_zero (by omega)
    subst h0
    rfl
  | succ n ih =>
    intro l hl
    rcases first_cases c l with ⟨h1, h2⟩ | ⟨a, b, e, h1, h2⟩
    · rw [Lib.count_miss (by rw [Lib.index_one]; exact h2), pieces_none c l h1]
      rfl
    · rw [e] at hl h2 ⊢
      have hi : Lib.index (a ++ c :: b) [c] = (a.length : Int) := by rw [Lib.index_one]; exact h2
      have hd : (a ++ c :: b).drop (a.length + 1) = b := by rw [← List.drop_drop]; simp
      rw [Lib.count_hit (by simp) hi, pieces_app c a b h1]
      have e1 : a.length + [c].length = a.length + 1 := rfl
      rw [e1, hd, List.length_cons, ih b (by simp at hl; omega)]
      omega
theorem strs_split (l : List UInt8) : (Lib.splitB ⟨#[47]⟩ 0 (Lib.countB ⟨l.toArray⟩ ⟨#[47]⟩) ⟨l.toArray⟩).map Value.string = strs (pieces 47 l) := by
  have h1 := Lib.splitB_data ⟨#[47]⟩ 0 (Lib.countB ⟨l.toArray⟩ ⟨#[47]⟩) ⟨l.toArray⟩
  have h2 : Lib.splitK [47] 0 (Lib.count l [47]) l = pieces 47 l := splitK_pieces 47 l.length l (Nat.le_refl _)
  have h3 : (Lib.splitB ⟨#[47]⟩ 0 (Lib.countB ⟨l.toArray⟩ ⟨#[47]⟩) ⟨l.toArray⟩).map (·.data.toList) = pieces 47 l := h1.trans h2
  rw [← h3, strs, List.map_map]
  rfl
theorem split_at (l : List UInt8) (hl : l.length ≤ 1048576) (m : Int) (w : World) (hm : w.cell? ⟨0, 0, none⟩ = some (.int .i64 m)) : Calls Tryd.prog 57 #[.string ⟨l.toArray⟩, .string ⟨#[47]⟩] w fun e w' => e = .returned (.slice (some ⟨w.heap.size, 0, none⟩) (pieces 47 l).length (pieces 47 l).length) ∧ w' = w.alloc (.cells (strs (pieces 47 l)).toArray 9) := by
  have h := Tryd.strings_Split ⟨l.toArray⟩ ⟨#[47]⟩ m w (by rw [bs_size]; omega) hm (by decide)
  rw [strs_split] at h
  have e : Lib.countB ⟨l.toArray⟩ ⟨#[47]⟩ + 1 = (pieces 47 l).length := (pieces_count 47 l.length l (Nat.le_refl _)).symm
  rw [e] at h
  exact h
theorem cut_at (p : List UInt8) (hp : p.length ≤ 1048576) (m : Int) (w : World) (hm : w.cell? ⟨0, 0, none⟩ = some (.int .i64 m)) : Calls Tryd.prog 58 #[.string ⟨p.toArray⟩, .string ⟨#[45]⟩] w fun e w' => e = .returned (.tuple #[.string ⟨(Lib.cut p [45]).1.toArray⟩, .string ⟨(Lib.cut p [45]).2.1.toArray⟩, .bool (Lib.cut p [45]).2.2]) ∧ Below w.heap.size w w' := by
  refine (Tryd.strings_Cut ⟨p.toArray⟩ ⟨#[45]⟩ m w (by rw [bs_size]; omega) hm).mono ?_
  rintro _ w1 ⟨rfl, n, rfl⟩
  exact ⟨rfl, below_drewN (Below.refl _ _) _⟩
theorem cut_len (p s : List UInt8) : (Lib.cut p s).1.length ≤ p.length ∧ (Lib.cut p s).2.1.length ≤ p.length := by
  unfold Lib.cut
  split
  · simp; omega
  · simp
theorem rdG_not3 {l : List UInt8} (h : (pieces 47 l).length ≠ 3) : rdG l = (zeroG, false) := by
  unfold rdG
  split
  · rename_i hm
    exfalso
    apply h
    have := congrArg List.length hm
    simpa using this
  · rfl
theorem rdG_none {l p1 p2 p3 : List UInt8} (h : pieces 47 l = [p1, p2, p3]) (hn : rdPart p1 = none ∨ rdPart p2 = none ∨ rdPart p3 = none) : rdG l = (zeroG, false) := by
  unfold rdG
  rw [h]
  split
  · rename_i hm
    simp only [List.map_cons, List.map_nil, List.cons.injEq] at hm
    obtain ⟨h1, h2, h3, _⟩ := hm
    rw [h1, h2, h3] at hn
    simp at hn
  · rfl
theorem rdG_some {l p1 p2 p3 : List UInt8} {a b c d e f : Int} (h : pieces 47 l = [p1, p2, p3]) (h1 : rdPart p1 = some (a, b)) (h2 : rdPart p2 = some (c, d)) (h3 : rdPart p3 = some (e, f)) : rdG l = if gradeOk ⟨a, b, c, d, e, f⟩ then (⟨a, b, c, d, e, f⟩, true) else (zeroG, false) := by
  unfold rdG
  rw [h]
  simp only [List.map_cons, List.map_nil, h1, h2, h3]
theorem part_of {p lo hi : List UInt8} {fd : Bool} (h : Lib.cut p [45] = (lo, hi, fd)) : rdPart p = if fd then (rdNum lo).bind fun a => (rdNum hi).map fun b => (a, b) else none := by
  unfold rdPart
  rw [h]
theorem numAt (x : List UInt8) (hx : x.length ≤ 1048576) (w : World) : Calls Tryd.prog 59 #[.string ⟨x.toArray⟩, .int .i64 999] w fun e w' => e = .returned (.tuple #[.int .i64 ((rdNum x).getD 0), .bool (rdNum x).isSome]) ∧ w = w' :=
  readNumber_any ⟨x.toArray⟩ (by rw [bs_size]; exact hx) w

set_option maxRecDepth 20000 in
set_option maxHeartbeats 4000000 in
theorem readGrade_any (l : List UInt8) (hl : l.length ≤ 1048576) (w : World) (hmx : ∃ m, w.cell? ⟨0, 0, none⟩ = some (.int .i64 m)) : Calls Tryd.prog 32 #[.string ⟨l.toArray⟩] w fun e w' => e = .returned (.tuple #[gv (rdG l).1, .bool (rdG l).2]) ∧ Below w.heap.size w w' := by
  obtain ⟨m, hm⟩ := hmx
  have hm0 : 0 < w.heap.size := cell_lt hm
  go_enter Tryd.func32, Tryd.ntmps32
  go_wp2_with fail
  have hB0 := Blk.made w 25 #[.int .i64 0, .int .i64 0, .int .i64 0, .int .i64 0, .int .i64 0, .int .i64 0]
  have hb0 : Below w.heap.size w (w.alloc (.cells #[.int .i64 0, .int .i64 0, .int .i64 0, .int .i64 0, .int .i64 0, .int .i64 0] 25)) := (Below.refl _ _).alloc (Nat.le_refl _) _
  generalize w.alloc _ = V at hB0 hb0 ⊢
  have hV := hB0.lt
  have hmV : V.cell? ⟨0, 0, none⟩ = some (.int .i64 m) := ((below_cells hb0).1 0 0 hm0).trans hm
  refine (split_at l hl m V hmV).mono ?_
  clear hmV
  rintro _ w1 ⟨rfl, rfl⟩
  have hP := Blk.made V 9 (strs (pieces 47 l)).toArray
  have hB1 := hB0.alloc (.cells (strs (pieces 47 l)).toArray 9)
  have hb1 := hb0.alloc hb0.size (.cells (strs (pieces 47 l)).toArray 9)
  have hcp := pieces_cnt 47 l.length l (Nat.le_refl _)
  generalize V.alloc _ = W at hP hB1 hb1 ⊢
  by_cases h3 : (pieces 47 l).length = 3
  case neg =>
    have hpl := cnt_len (pieces 47 l)
    have Er := Lib.hid (rdG_not3 h3)
    generalize (pieces 47 l).length = N at h3 hpl ⊢
    rw [hcp] at hpl
    have h3q : ((N : Int) == 3) = false := by rw [beq_eq_false_iff_ne]; omega
    have h3r : ((N : Int) != 3) = true := by rw [bne_iff_ne]; omega
    clear hcp

    have eB := hB1.cell
    have fB := hB1.frozen
    go_wp2_with fail
    refine bodyPost_ret (v := .tuple #[gv ⟨0, 0, 0, 0, 0, 0⟩, .bool false]) (by simp [results, Tryd.results32, go_sem, eB]) rfl ⟨by rw [Er.out]; rfl, ?_⟩
    iterate 6 (refine Below.setCell ?_ (by simp) _)
    exact hb1
  obtain ⟨p1, p2, p3, hps⟩ : ∃ p1 p2 p3, pieces 47 l = [p1, p2, p3] := by
    match hp : pieces 47 l, h3 with
    | [p1, p2, p3], _ => exact ⟨p1, p2, p3, rfl⟩
  have n1 : p1.length ≤ 1048576 := by have := cnt_mem (ps := pieces 47 l) (p := p1) (by rw [hps]; simp); omega
  have n2 : p2.length ≤ 1048576 := by have := cnt_mem (ps := pieces 47 l) (p := p2) (by rw [hps]; simp); omega
  have n3 : p3.length ≤ 1048576 := by have := cnt_mem (ps := pieces 47 l) (p := p3) (by rw [hps]; simp); omega
  rw [h3]
  rw [hps] at hP
  have Hps := Lib.hid hps
  clear hps hcp h3
  go_wp2_with fail
  have hA := Blk.made W 78 #[.int .i64 0, .int .i64 0, .int .i64 0, .int .i64 0, .int .i64 0, .int .i64 0]
  have hB2 := hB1.alloc (.cells #[.int .i64 0, .int .i64 0, .int .i64 0, .int .i64 0, .int .i64 0, .int .i64 0] 78)
  have hP2 := hP.alloc (.cells #[.int .i64 0, .int .i64 0, .int .i64 0, .int .i64 0, .int .i64 0, .int .i64 0] 78)
  have hb2 := hb1.alloc hb1.size (.cells #[.int .i64 0, .int .i64 0, .int .i64 0, .int .i64 0, .int .i64 0, .int .i64 0] 78)
  have hVW : V.heap.size < W.heap.size := hP.lt
  clear hB0 hB1 hP
  go_loopw [22] (fun kv wr => ∃ (k : Nat) (b0 b1 b2 b3 b4 b5 : Int), k ≤ 3 ∧ kv = .int .i64 k ∧ Blk wr W.heap.size 78 #[.int .i64 b0, .int .i64 b1, .int .i64 b2, .int .i64 b3, .int .i64 b4, .int .i64 b5] ∧ Blk wr w.heap.size 25 #[.int .i64 0, .int .i64 0, .int .i64 0, .int .i64 0, .int .i64 0, .int .i64 0] ∧ Blk wr V.heap.size 9 (strs [p1, p2, p3]).toArray ∧ Below w.heap.size w wr ∧ (1 ≤ k → rdPart p1 = some (b0, b1)) ∧ (2 ≤ k → rdPart p2 = some (b2, b3)) ∧ (3 ≤ k → rdPart p3 = some (b4, b5))) (fun kv _ => 3 - (intOf kv).toNat)
  case atStart => exact ⟨0, 0, 0, 0, 0, 0, 0, by omega, rfl, hA, hB2, hP2, hb2, by omega, by omega, by omega⟩
  case round =>
    obtain ⟨k, b0, b1, b2, b3, b4, b5, hk, rfl, hAr, hBr, hPr, hbr, r1, r2, r3⟩ := hrel
    have R := Lib.hid (⟨r1, r2, r3⟩ : (1 ≤ k → rdPart p1 = some (b0, b1)) ∧ (2 ≤ k → rdPart p2 = some (b2, b3)) ∧ (3 ≤ k → rdPart p3 = some (b4, b5)))
    clear r1 r2 r3 hA hB2 hP2 hb2
    have hmr : wr.cell? ⟨0, 0, none⟩ = some (.int .i64 m) := ((below_cells hbr).1 0 0 hm0).trans hm
    have hVr : V.heap.size < wr.heap.size := hPr.lt
    have hWr : W.heap.size < wr.heap.size := hAr.lt
    obtain rfl | rfl | rfl | rfl : k = 0 ∨ k = 1 ∨ k = 2 ∨ k = 3 := by omega
    · have c0 : wr.cell? ⟨V.heap.size, 0, none⟩ = some (.string ⟨p1.toArray⟩) := by rw [hPr.cell]; rfl
      go_wp2_with fail
      refine (cut_at p1 n1 m wr hmr).mono ?_
      rintro _ w2 ⟨rfl, hb2⟩
      clear c0 hmr
      have hcl := cut_len p1 [45]
      obtain ⟨ct, hct⟩ : ∃ ct, ct = Lib.cut p1 [45] := ⟨_, rfl⟩
      rw [← hct] at hcl ⊢
      obtain ⟨lo, hi, fd⟩ := ct
      have Hpt := Lib.hid (part_of hct.symm)
      clear hct
      simp only at hcl ⊢
      have hA2 := hAr.below hb2 hAr.lt
      have hB2 := hBr.below hb2 hBr.lt
      have hP2 := hPr.below hb2 hPr.lt
      have hbw2 := below_next hbr hb2
      cases fd with
      | false =>
        have Er := Lib.hid (rdG_none Hps.out (.inl (by rw [Hpt.out]; rfl)))
        have eB := hB2.cell
        have fB := hB2.frozen
        go_wp2_with fail
        refine bodyPost_ret (v := .tuple #[gv ⟨0, 0, 0, 0, 0, 0⟩, .bool false]) (by simp [results, Tryd.results32, go_sem, eB]) rfl ⟨by rw [Er.out]; rfl, ?_⟩
        iterate 6 (refine Below.setCell ?_ (by simp) _)
        exact hbw2
      | true =>
        go_wp2_with fail
        refine (numAt lo (by omega) w2).mono ?_
        rintro _ _ ⟨rfl, rfl⟩
        obtain ⟨x1, hx1⟩ : ∃ x, x = rdNum lo := ⟨_, rfl⟩
        rw [← hx1]
        have Hx1 := Lib.hid hx1
        clear hx1
        have eA := hA2.cell
        have fA := hA2.frozen
        go_wp2_with fail
        clear eA fA
        have hA3 := hA2.put 0 (.int .i64 (x1.getD 0))
        have hB3 := hB2.other (p := ⟨W.heap.size, 0, none⟩) (by show w.heap.size ≠ W.heap.size; omega) (.int .i64 (x1.getD 0))
        have hP3 := hP2.other (p := ⟨W.heap.size, 0, none⟩) (by show V.heap.size ≠ W.heap.size; omega) (.int .i64 (x1.getD 0))
        have hbw3 := hbw2.setCell (p := ⟨W.heap.size, 0, none⟩) (by show w.heap.size ≤ W.heap.size; omega) (.int .i64 (x1.getD 0))
        simp only [List.setIfInBounds_toArray, List.set_cons_zero, List.set_cons_succ] at hA3
        generalize World.setCell _ _ _ = U3 at hA3 hB3 hP3 hbw3 ⊢
        refine (numAt hi (by omega) U3).mono ?_
        rintro _ _ ⟨rfl, rfl⟩
        obtain ⟨x2, hx2⟩ : ∃ x, x = rdNum hi := ⟨_, rfl⟩
        rw [← hx2]
        have Hx2 := Lib.hid hx2
        clear hx2
        have eA := hA3.cell
        have fA := hA3.frozen
        have hA4 := hA3.put 1 (.int .i64 (x2.getD 0))
        have hB4 := hB3.other (p := ⟨W.heap.size, 1, none⟩) (by show w.heap.size ≠ W.heap.size; omega) (.int .i64 (x2.getD 0))
        have hP4 := hP3.other (p := ⟨W.heap.size, 1, none⟩) (by show V.heap.size ≠ W.heap.size; omega) (.int .i64 (x2.getD 0))
        have hbw4 := hbw3.setCell (p := ⟨W.heap.size, 1, none⟩) (by show w.heap.size ≤ W.heap.size; omega) (.int .i64 (x2.getD 0))
        simp only [List.setIfInBounds_toArray, List.set_cons_zero, List.set_cons_succ] at hA4
        cases x1 with
        | none =>
          have Er := Lib.hid (rdG_none Hps.out (.inl (by rw [Hpt.out, ← Hx1.out]; rfl)))
          have eB := hB4.cell
          have fB := hB4.frozen
          go_wp2_with fail
          refine bodyPost_ret (v := .tuple #[gv ⟨0, 0, 0, 0, 0, 0⟩, .bool false]) (by simp [results, Tryd.results32, go_sem, eB]) rfl ⟨by rw [Er.out]; rfl, ?_⟩
          iterate 6 (refine Below.setCell ?_ (by simp) _)
          exact hbw4
        | some y1 =>
        cases x2 with
        | none =>
          have Er := Lib.hid (rdG_none Hps.out (.inl (by rw [Hpt.out, ← Hx1.out, ← Hx2.out]; rfl)))
          simp only [Option.getD_none] at hB4 hbw4
          have eB := hB4.cell
          have fB := hB4.frozen
          go_wp2_with fail
          refine bodyPost_ret (v := .tuple #[gv ⟨0, 0, 0, 0, 0, 0⟩, .bool false]) (by simp [results, Tryd.results32, go_sem, eB]) rfl ⟨by rw [Er.out]; rfl, ?_⟩
          iterate 6 (refine Below.setCell ?_ (by simp) _)
          exact hbw4
        | some y2 =>
        simp only [Option.getD_some] at hA4 hB4 hP4 hbw4
        go_wp2_with fail
        go_roundw
        case rel => exact ⟨1, y1, y2, b2, b3, b4, b5, by omega, by go_num, hA4, hB4, hP4, hbw4, fun _ => by rw [Hpt.out, ← Hx1.out, ← Hx2.out]; rfl, by omega, by omega⟩
        case measure => simp [intOf]
    · have c0 : wr.cell? ⟨V.heap.size, 1, none⟩ = some (.string ⟨p2.toArray⟩) := by rw [hPr.cell]; rfl
      go_wp2_with fail
      refine (cut_at p2 n2 m wr hmr).mono ?_
      rintro _ w2 ⟨rfl, hb2⟩
      clear c0 hmr
      have hcl := cut_len p2 [45]
      obtain ⟨ct, hct⟩ : ∃ ct, ct = Lib.cut p2 [45] := ⟨_, rfl⟩
      rw [← hct] at hcl ⊢
      obtain ⟨lo, hi, fd⟩ := ct
      have Hpt := Lib.hid (part_of hct.symm)
      clear hct
      simp only at hcl ⊢
      have hA2 := hAr.below hb2 hAr.lt
      have hB2 := hBr.below hb2 hBr.lt
      have hP2 := hPr.below hb2 hPr.lt
      have hbw2 := below_next hbr hb2
      cases fd with
      | false =>
        have Er := Lib.hid (rdG_none Hps.out (.inr (.inl (by rw [Hpt.out]; rfl))))
        have eB := hB2.cell
        have fB := hB2.frozen
        go_wp2_with fail
        refine bodyPost_ret (v := .tuple #[gv ⟨0, 0, 0, 0, 0, 0⟩, .bool false]) (by simp [results, Tryd.results32, go_sem, eB]) rfl ⟨by rw [Er.out]; rfl, ?_⟩
        iterate 6 (refine Below.setCell ?_ (by simp) _)
        exact hbw2
      | true =>
        go_wp2_with fail
        refine (numAt lo (by omega) w2).mono ?_
        rintro _ _ ⟨rfl, rfl⟩
        obtain ⟨x1, hx1⟩ : ∃ x, x = rdNum lo := ⟨_, rfl⟩
        rw [← hx1]
        have Hx1 := Lib.hid hx1
        clear hx1
        have eA := hA2.cell
        have fA := hA2.frozen
        go_wp2_with fail
        clear eA fA
        have hA3 := hA2.put 2 (.int .i64 (x1.getD 0))
        have hB3 := hB2.other (p := ⟨W.heap.size, 2, none⟩) (by show w.heap.size ≠ W.heap.size; omega) (.int .i64 (x1.getD 0))
        have hP3 := hP2.other (p := ⟨W.heap.size, 2, none⟩) (by show V.heap.size ≠ W.heap.size; omega) (.int .i64 (x1.getD 0))
        have hbw3 := hbw2.setCell (p := ⟨W.heap.size, 2, none⟩) (by show w.heap.size ≤ W.heap.size; omega) (.int .i64 (x1.getD 0))
        simp only [List.setIfInBounds_toArray, List.set_cons_zero, List.set_cons_succ] at hA3
        generalize World.setCell _ _ _ = U3 at hA3 hB3 hP3 hbw3 ⊢
        refine (numAt hi (by omega) U3).mono ?_
        rintro _ _ ⟨rfl, rfl⟩
        obtain ⟨x2, hx2⟩ : ∃ x, x = rdNum hi := ⟨_, rfl⟩
        rw [← hx2]
        have Hx2 := Lib.hid hx2
        clear hx2
        have eA := hA3.cell
        have fA := hA3.frozen
        have hA4 := hA3.put 3 (.int .i64 (x2.getD 0))
        have hB4 := hB3.other (p := ⟨W.heap.size, 3, none⟩) (by show w.heap.size ≠ W.heap.size; omega) (.int .i64 (x2.getD 0))
        have hP4 := hP3.other (p := ⟨W.heap.size, 3, none⟩) (by show V.heap.size ≠ W.heap.size; omega) (.int .i64 (x2.getD 0))
        have hbw4 := hbw3.setCell (p := ⟨W.heap.size, 3, none⟩) (by show w.heap.size ≤ W.heap.size; omega) (.int .i64 (x2.getD 0))
        simp only [List.setIfInBounds_toArray, List.set_cons_zero, List.set_cons_succ] at hA4
        cases x1 with
        | none =>
          have Er := Lib.hid (rdG_none Hps.out (.inr (.inl (by rw [Hpt.out, ← Hx1.out]; rfl))))
          have eB := hB4.cell
          have fB := hB4.frozen
          go_wp2_with fail
          refine bodyPost_ret (v := .tuple #[gv ⟨0, 0, 0, 0, 0, 0⟩, .bool false]) (by simp [results, Tryd.results32, go_sem, eB]) rfl ⟨by rw [Er.out]; rfl, ?_⟩
          iterate 6 (refine Below.setCell ?_ (by simp) _)
          exact hbw4
        | some y1 =>
        cases x2 with
        | none =>
          have Er := Lib.hid (rdG_none Hps.out (.inr (.inl (by rw [Hpt.out, ← Hx1.out, ← Hx2.out]; rfl))))
          simp only [Option.getD_none] at hB4 hbw4
          have eB := hB4.cell
          have fB := hB4.frozen
          go_wp2_with fail
          refine bodyPost_ret (v := .tuple #[gv ⟨0, 0, 0, 0, 0, 0⟩, .bool false]) (by simp [results, Tryd.results32, go_sem, eB]) rfl ⟨by rw [Er.out]; rfl, ?_⟩
          iterate 6 (refine Below.setCell ?_ (by simp) _)
          exact hbw4
        | some y2 =>
        simp only [Option.getD_some] at hA4 hB4 hP4 hbw4
        go_wp2_with fail
        go_roundw
        case rel => exact ⟨2, b0, b1, y1, y2, b4, b5, by omega, by go_num, hA4, hB4, hP4, hbw4, fun _ => R.out.1 (by omega), fun _ => by rw [Hpt.out, ← Hx1.out, ← Hx2.out]; rfl, by omega⟩
        case measure => simp [intOf]
    · have c0 : wr.cell? ⟨V.heap.size, 2, none⟩ = some (.string ⟨p3.toArray⟩) := by rw [hPr.cell]; rfl
      go_wp2_with fail
      refine (cut_at p3 n3 m wr hmr).mono ?_
      rintro _ w2 ⟨rfl, hb2⟩
      clear c0 hmr
      have hcl := cut_len p3 [45]
      obtain ⟨ct, hct⟩ : ∃ ct, ct = Lib.cut p3 [45] := ⟨_, rfl⟩
      rw [← hct] at hcl ⊢
      obtain ⟨lo, hi, fd⟩ := ct
      have Hpt := Lib.hid (part_of hct.symm)
      clear hct
      simp only at hcl ⊢
      have hA2 := hAr.below hb2 hAr.lt
      have hB2 := hBr.below hb2 hBr.lt
      have hP2 := hPr.below hb2 hPr.lt
      have hbw2 := below_next hbr hb2
      cases fd with
      | false =>
        have Er := Lib.hid (rdG_none Hps.out (.inr (.inr (by rw [Hpt.out]; rfl))))
        have eB := hB2.cell
        have fB := hB2.frozen
        go_wp2_with fail
        refine bodyPost_ret (v := .tuple #[gv ⟨0, 0, 0, 0, 0, 0⟩, .bool false]) (by simp [results, Tryd.results32, go_sem, eB]) rfl ⟨by rw [Er.out]; rfl, ?_⟩
        iterate 6 (refine Below.setCell ?_ (by simp) _)
        exact hbw2
      | true =>
        go_wp2_with fail
        refine (numAt lo (by omega) w2).mono ?_
        rintro _ _ ⟨rfl, rfl⟩
        obtain ⟨x1, hx1⟩ : ∃ x, x = rdNum lo := ⟨_, rfl⟩
        rw [← hx1]
        have Hx1 := Lib.hid hx1
        clear hx1
        have eA := hA2.cell
        have fA := hA2.frozen
        go_wp2_with fail
        clear eA fA
        have hA3 := hA2.put 4 (.int .i64 (x1.getD 0))
        have hB3 := hB2.other (p := ⟨W.heap.size, 4, none⟩) (by show w.heap.size ≠ W.heap.size; omega) (.int .i64 (x1.getD 0))
        have hP3 := hP2.other (p := ⟨W.heap.size, 4, none⟩) (by show V.heap.size ≠ W.heap.size; omega) (.int .i64 (x1.getD 0))
        have hbw3 := hbw2.setCell (p := ⟨W.heap.size, 4, none⟩) (by show w.heap.size ≤ W.heap.size; omega) (.int .i64 (x1.getD 0))
        simp only [List.setIfInBounds_toArray, List.set_cons_zero, List.set_cons_succ] at hA3
        generalize World.setCell _ _ _ = U3 at hA3 hB3 hP3 hbw3 ⊢
        refine (numAt hi (by omega) U3).mono ?_
        rintro _ _ ⟨rfl, rfl⟩
        obtain ⟨x2, hx2⟩ : ∃ x, x = rdNum hi := ⟨_, rfl⟩
        rw [← hx2]
        have Hx2 := Lib.hid hx2
        clear hx2
        have eA := hA3.cell
        have fA := hA3.frozen
        have hA4 := hA3.put 5 (.int .i64 (x2.getD 0))
        have hB4 := hB3.other (p := ⟨W.heap.size, 5, none⟩) (by show w.heap.size ≠ W.heap.size; omega) (.int .i64 (x2.getD 0))
        have hP4 := hP3.other (p := ⟨W.heap.size, 5, none⟩) (by show V.heap.size ≠ W.heap.size; omega) (.int .i64 (x2.getD 0))
        have hbw4 := hbw3.setCell (p := ⟨W.heap.size, 5, none⟩) (by show w.heap.size ≤ W.heap.size; omega) (.int .i64 (x2.getD 0))
        simp only [List.setIfInBounds_toArray, List.set_cons_zero, List.set_cons_succ] at hA4
        cases x1 with
        | none =>
          have Er := Lib.hid (rdG_none Hps.out (.inr (.inr (by rw [Hpt.out, ← Hx1.out]; rfl))))
          have eB := hB4.cell
          have fB := hB4.frozen
          go_wp2_with fail
          refine bodyPost_ret (v := .tuple #[gv ⟨0, 0, 0, 0, 0, 0⟩, .bool false]) (by simp [results, Tryd.results32, go_sem, eB]) rfl ⟨by rw [Er.out]; rfl, ?_⟩
          iterate 6 (refine Below.setCell ?_ (by simp) _)
          exact hbw4
        | some y1 =>
        cases x2 with
        | none =>
          have Er := Lib.hid (rdG_none Hps.out (.inr (.inr (by rw [Hpt.out, ← Hx1.out, ← Hx2.out]; rfl))))
          simp only [Option.getD_none] at hB4 hbw4
          have eB := hB4.cell
          have fB := hB4.frozen
          go_wp2_with fail
          refine bodyPost_ret (v := .tuple #[gv ⟨0, 0, 0, 0, 0, 0⟩, .bool false]) (by simp [results, Tryd.results32, go_sem, eB]) rfl ⟨by rw [Er.out]; rfl, ?_⟩
          iterate 6 (refine Below.setCell ?_ (by simp) _)
          exact hbw4
        | some y2 =>
        simp only [Option.getD_some] at hA4 hB4 hP4 hbw4
        go_wp2_with fail
        go_roundw
        case rel => exact ⟨3, b0, b1, b2, b3, y1, y2, by omega, by go_num, hA4, hB4, hP4, hbw4, fun _ => R.out.1 (by omega), fun _ => R.out.2.1 (by omega), fun _ => by rw [Hpt.out, ← Hx1.out, ← Hx2.out]; rfl⟩
        case measure => simp [intOf]
    · have e1 := R.out.1 (by omega)
      have e2 := R.out.2.1 (by omega)
      have e3 := R.out.2.2 (by omega)
      have Er := Lib.hid (rdG_some Hps.out e1 e2 e3)
      clear e1 e2 e3
      have eA := hAr.cell
      go_wp2_with fail
      clear eA
      have hT := Blk.made wr 25 #[.int .i64 b0, .int .i64 b1, .int .i64 b2, .int .i64 b3, .int .i64 b4, .int .i64 b5]
      have hB3 := hBr.alloc (.cells #[.int .i64 b0, .int .i64 b1, .int .i64 b2, .int .i64 b3, .int .i64 b4, .int .i64 b5] 25)
      have hb3 := hbr.alloc hbr.size (.cells #[.int .i64 b0, .int .i64 b1, .int .i64 b2, .int .i64 b3, .int .i64 b4, .int .i64 b5] 25)
      generalize wr.alloc _ = U at hT hB3 hb3 ⊢
      refine (gradeValid_any b0 b1 b2 b3 b4 b5 U).mono ?_
      rintro _ w4 ⟨rfl, hb⟩
      have hT4 := hT.below hb hT.lt
      have hB4 := hB3.below hb hB3.lt
      have hbw4 := below_next hb3 hb
      have eT := hT4.cell
      have eB := hB4.cell
      have fB := hB4.frozen
      cases hg : gradeOk ⟨b0, b1, b2, b3, b4, b5⟩ with
      | false =>
        go_wp2_with fail
        refine bodyPost_ret (v := .tuple #[gv ⟨0, 0, 0, 0, 0, 0⟩, .bool false]) (by simp [results, Tryd.results32, go_sem, eB]) rfl ⟨by rw [Er.out, hg]; rfl, ?_⟩
        iterate 6 (refine Below.setCell ?_ (by simp) _)
        exact hbw4
      | true =>
        go_wp2_with fail
        refine bodyPost_ret (v := .tuple #[gv ⟨b0, b1, b2, b3, b4, b5⟩, .bool true]) (by simp [results, Tryd.results32, go_sem, eB]) rfl ⟨by rw [Er.out, hg]; rfl, ?_⟩
        iterate 6 (refine Below.setCell ?_ (by simp) _)
        exact hbw4
end Go.Proofs.YtlhjncefckidjaaDoor
