/-
  ReadGrade in the reference.
-/
import Derived.Test.YtlhjncefckidjaaDoorTq
import Derived.Test.YtlhjncefckidjaaDoorSa
import Derived.Deep.DrawnRows
namespace Go.Proofs.YtlhjncefckidjaaDoor
open Go.RowKit
set_option linter.unusedVariables false
def cntP (ps : List (List UInt8)) : Nat := ps.foldr (fun p n => p.length + 1 + n) 0
theorem pieces_cnt (c : UInt8) (n : Nat) : ∀ l : List UInt8, l.length ≤ n → cntP (pieces c l) = l.length + 1 := by
  induction n with
  | zero =>
    intro l hl
    have h0 : l = [] := List.eq_nil_of_length_eq_zero (by omega)
    subst h0
    rfl
  | succ n ih =>
    intro l hl
    rcases first_cases c l with ⟨h1, _⟩ | ⟨a, b, e, h1, _⟩
    · rw [pieces_none c l h1]
      simp [cntP]
    · rw [e] at hl ⊢
      rw [pieces_app c a b h1]
      have := ih b (by simp at hl; omega)
      simp only [cntP, List.foldr_cons] at this ⊢
      rw [this]
      simp
      omega
theorem cnt_mem {ps : List (List UInt8)} {p : List UInt8} (h : p ∈ ps) : p.length + 1 ≤ cntP ps := by
  induction ps with
  | nil => simp at h
  | cons q ps ih =>
    simp only [cntP, List.foldr_cons]
    rcases List.mem_cons.1 h with rfl | h
    · omega
    · have := ih h
      simp only [cntP] at this
      omega
theorem cnt_take (ps : List (List UInt8)) (k : Nat) (p : List UInt8) (h : ps[k]? = some p) : cntP (ps.take k) + (p.length + 1) ≤ cntP ps := by
  induction ps generalizing k with
  | nil => simp at h
  | cons q ps ih =>
    cases k with
    | zero =>
      simp at h
      subst h
      simp [cntP]
    | succ k =>
      have := ih k (by simpa using h)
      simp only [List.take_succ_cons, cntP, List.foldr_cons] at this ⊢
      omega
theorem cnt_len (ps : List (List UInt8)) : ps.length ≤ cntP ps := by
  induction ps with
  | nil => simp
  | cons q ps ih => simp only [cntP, List.foldr_cons, List.length_cons] at ih ⊢; omega
def numsK (ps : List (List UInt8)) : List Int := ps.flatMap fun p => (pieces 45 p).map rdOne
theorem numsK_len (ps : List (List UInt8)) : (numsK ps).length ≤ cntP ps := by
  induction ps with
  | nil => simp [numsK]
  | cons q ps ih =>
    have h1 := cnt_len (pieces 45 q)
    rw [pieces_cnt 45 q.length q (Nat.le_refl _)] at h1
    simp only [numsK, List.flatMap_cons, List.length_append, List.length_map, cntP, List.foldr_cons] at ih ⊢
    omega
theorem numsK_succ {ps : List (List UInt8)} {k : Nat} {p : List UInt8} (h : ps[k]? = some p) : numsK (ps.take (k + 1)) = numsK (ps.take k) ++ (pieces 45 p).map rdOne := by
  obtain ⟨hk, rfl⟩ := List.getElem?_eq_some_iff.1 h
  rw [List.take_succ_eq_append_getElem hk, numsK, List.flatMap_append]
  simp [numsK]
theorem own_exact {w : World} {lo hi size n c : Nat} {t : TypeId} {A : Option Addr} {xs : List Value} (h : Own w lo hi t size A n c xs) (hn : 0 < n) : ∃ q, A = some ⟨q, 0, none⟩ ∧ lo ≤ q ∧ q < hi ∧ q < w.heap.size ∧ Own w q (q + 1) t size (some ⟨q, 0, none⟩) n c xs := by
  obtain ⟨g, cs, rfl, h1, h2, h3, h4, h5, h6, h7⟩ := h.block hn
  exact ⟨g, rfl, h1, h2, h5.lt, Own.mk_ (Nat.le_refl _) (by omega) h3 h4 h5 h6 h7⟩
theorem str_at {w : World} {q : Nat} {t : TypeId} {n c k : Nat} {ps : List (List UInt8)} {p : List UInt8} (h : Own w q (q + 1) t 1 (some ⟨q, 0, none⟩) n c (strs ps)) (hp : ps[k]? = some p) : w.cell? ⟨q, k, none⟩ = some (.string ⟨p.toArray⟩) := by
  obtain ⟨b, off, hA, _, hc⟩ := h.sees.at_ (k := k) (by rw [strs_length]; exact (List.getElem?_eq_some_iff.1 hp).1)
  injection hA with hA
  injection hA with h1 h2
  subst h1; subst h2
  have := hc k (.string ⟨p.toArray⟩) (by simp [strs, hp])
  simpa using this
theorem bs_size (p : List UInt8) : (⟨p.toArray⟩ : ByteArray).size = p.length := by simp [ByteArray.size]
theorem l1Cut_at (p : List UInt8) (c : UInt8) (v : Int) (hv : (c.toNat : Int) = v) (hp : p.length ≤ 1048576) (w : World) : Calls Tryd.prog 60 #[.string ⟨p.toArray⟩, .int .u8 v] w fun e w' => ∃ q cp, e = .returned (.slice (some ⟨q, 0, none⟩) (pieces c p).length cp) ∧ w.heap.size ≤ q ∧ q < w'.heap.size ∧
    Own w' q (q + 1) 9 1 (some ⟨q, 0, none⟩) (pieces c p).length cp (strs (pieces c p)) ∧ Below w.heap.size w w' := by
  subst hv
  refine (l1Cut_any ⟨p.toArray⟩ c (by rw [bs_size]; exact hp) w).mono ?_
  rintro _ w1 ⟨A, cp, rfl, hO, hb⟩
  have hn : 0 < (pieces c p).length := List.length_pos_iff.2 (pieces_ne c p)
  obtain ⟨q, rfl, h1, h2, h3, h4⟩ := own_exact hO hn
  exact ⟨q, cp, rfl, h1, h3, h4, hb⟩
theorem l1Read_at (p : List UInt8) (hp : p.length ≤ 1048576) (w : World) : Calls Tryd.prog 61 #[.string ⟨p.toArray⟩] w fun e w' => e = .returned (.int .i64 (rdOne p)) ∧ w = w' :=
  l1Read_any ⟨p.toArray⟩ (by rw [bs_size]; exact hp) w
/-- What stands while the pieces are read: the pieces, the numbers so far, the result's own cells. -/
def Reads (w wr : World) (q1 c1 g cp : Nat) (ps : List (List UInt8)) (L : List Int) : Prop :=
  Own wr q1 (q1 + 1) 9 1 (some ⟨q1, 0, none⟩) ps.length c1 (strs ps) ∧ Own wr g (g + 1) 3 1 (some ⟨g, 0, none⟩) L.length cp (ints L) ∧ w.heap.size < q1 ∧ q1 < g ∧ g < wr.heap.size ∧
    Blk wr w.heap.size 25 #[.int .i64 0, .int .i64 0, .int .i64 0, .int .i64 0, .int .i64 0, .int .i64 0] ∧ Below w.heap.size w wr
theorem blk_only' {w w' : World} {lo hi g : Nat} {t : TypeId} {cs : Array Value} (h : Blk w g t cs) (hb : Only lo hi w w') (hd : g < lo ∨ hi ≤ g) : Blk w' g t cs := (hb.block g h.lt hd).trans h
theorem Blk.drew' {w : World} {g : Nat} {t : TypeId} {cs : Array Value} (h : Blk w g t cs) : Blk w.drew g t cs := h
theorem Reads.below {w wr wr' : World} {q1 c1 g cp : Nat} {ps : List (List UInt8)} {L : List Int} (h : Reads w wr q1 c1 g cp ps L) (hb : Below wr.heap.size wr wr') : Reads w wr' q1 c1 g cp ps L := by
  obtain ⟨h1, h2, h3, h4, h5, h6, h7⟩ := h
  exact ⟨h1.below hb, h2.below hb, h3, h4, Nat.lt_of_lt_of_le h5 hb.size, h6.below hb h6.lt, below_next h7 hb⟩
theorem Reads.more {w wr wr' : World} {q1 c1 g cp g' cp' : Nat} {ps : List (List UInt8)} {L L' : List Int} (h : Reads w wr q1 c1 g cp ps L) (hon : Only g (g + 1) wr wr') (hO : Own wr' g' (g' + 1) 3 1 (some ⟨g', 0, none⟩) L'.length cp' (ints L')) (hg : g' = g ∨ g' = wr.heap.size) (hlt : g' < wr'.heap.size) : Reads w wr' q1 c1 g' cp' ps L' := by
  obtain ⟨h1, h2, h3, h4, h5, h6, h7⟩ := h
  exact ⟨h1.only hon (.inl (by omega)), hO, h3, by omega, hlt, blk_only' h6 hon (.inl (by omega)), below_only h7 hon (by omega) (Nat.le_refl _)⟩
set_option maxRecDepth 20000 in
set_option maxHeartbeats 2000000 in
theorem sReadGrade_any (l : List UInt8) (hl : l.length ≤ 1048576) (w : World) : Calls Tryd.prog 34 #[.string ⟨l.toArray⟩] w fun e w' => e = .returned (.tuple #[gv (rdS l).1, .bool (rdS l).2]) ∧ Below w.heap.size w w' := by
  obtain ⟨j0, ji, jz0, jz1, jz2⟩ := info_parts infoInt
  go_enter Tryd.func34, Tryd.ntmps34
  go_wp2_with fail
  have hB0 := Blk.made w 25 #[.int .i64 0, .int .i64 0, .int .i64 0, .int .i64 0, .int .i64 0, .int .i64 0]
  have hb0 : Below w.heap.size w (w.alloc (.cells #[.int .i64 0, .int .i64 0, .int .i64 0, .int .i64 0, .int .i64 0, .int .i64 0] 25)) := (Below.refl _ _).alloc (Nat.le_refl _) _
  generalize w.alloc _ = V at hB0 hb0 ⊢
  have hV := hB0.lt
  refine (l1Cut_at l 47 47 rfl hl V).mono ?_
  rintro _ w1 ⟨q1, c1, rfl, hq1, hq1', hP, hb1⟩
  have hcp := pieces_cnt 47 l.length l (Nat.le_refl _)
  have hpl := cnt_len (pieces 47 l)
  obtain ⟨ps, hps⟩ : ∃ ps, ps = pieces 47 l := ⟨_, rfl⟩
  rw [← hps] at hP hcp hpl ⊢
  have Hps := Lib.hid hps
  have Hcp := Lib.hid hcp
  have hpl6 : ps.length ≤ 1048577 := by omega
  clear hps hcp hpl
  have hB1 := hB0.below hb1 hB0.lt
  have hbw1 := below_next hb0 hb1
  have hR0 : Reads w (w1.alloc (.cells #[] 3)) q1 c1 w1.heap.size 0 ps [] :=
    ⟨hP.below ((Below.refl _ _).alloc (Nat.le_refl _) _), own_made w1 3 1, by omega, hq1', by simp, hB1.alloc _, hbw1.alloc hbw1.size _⟩
  clear hP hB0 hB1
  go_wp2_with fail
  go_loopw [5, 6] (fun lv kv wr => ∃ (k g cp : Nat), k ≤ ps.length ∧ kv = .int .i64 k ∧ lv = .slice (some ⟨g, 0, none⟩) (numsK (ps.take k)).length cp ∧ Reads w wr q1 c1 g cp ps (numsK (ps.take k))) (fun _ kv _ => ps.length - (intOf kv).toNat)
  case atStart => exact ⟨0, w1.heap.size, 0, Nat.zero_le _, rfl, rfl, hR0⟩
  case round =>
    obtain ⟨k, g, cp, hk, rfl, rfl, hR⟩ := hrel
    by_cases hlt : k < ps.length
    · have hpk : ps[k]? = some ps[k] := List.getElem?_eq_getElem hlt
      have hsucc := numsK_succ hpk
      have hcl := cnt_take ps k _ hpk
      have hnl := numsK_len (ps.take k)
      have hcp := Hcp.out
      have hpc := pieces_cnt 45 ps[k].length ps[k] (Nat.le_refl _)
      have hpm := cnt_len (pieces 45 ps[k])
      have c0 : wr.cell? ⟨q1, k, none⟩ = some (.string ⟨ps[k].toArray⟩) := str_at hR.1 hpk
      have hq1wr : q1 < wr.heap.size := by obtain ⟨_, _, _, h4, h5, _⟩ := hR; omega
      obtain ⟨p, hp⟩ : ∃ p, p = ps[k] := ⟨_, rfl⟩
      rw [← hp] at hsucc hcl hpc hpm c0
      clear hpk hp
      have Hsucc := Lib.hid hsucc
      obtain ⟨L0, hL0⟩ : ∃ L0, L0 = numsK (ps.take k) := ⟨_, rfl⟩
      rw [← hL0] at hnl hR ⊢
      have HL0 := Lib.hid hL0
      have hpn : p.length ≤ 1048576 := by omega
      have htot : L0.length + (p.length + 1) ≤ 1048577 := by omega
      have hmle : (pieces 45 p).length ≤ p.length + 1 := by omega
      clear hsucc hL0 hcl hnl hcp hpc hpm
      go_wp2_with fail
      refine (l1Cut_at p 45 45 rfl hpn wr).mono ?_
      rintro _ w2 ⟨q2, c2, rfl, hq2, hq2', hP2, hb2⟩
      clear c0
      have hR2 := hR.below hb2
      obtain ⟨m, hm⟩ : ∃ m, m = (pieces 45 p).length := ⟨_, rfl⟩
      rw [← hm] at hmle hP2 ⊢
      have Hm := Lib.hid hm
      have hkd : decide ((k : Int) < (ps.length : Int)) = true := by simp; omega
      have hgq : g < wr.heap.size := hR.2.2.2.2.1
      clear hm hR
      go_wp2_with fail
      go_loopw [5, 8] (fun lv jv wx => ∃ (j g' cp' : Nat), j ≤ m ∧ jv = .int .i64 j ∧ lv = .slice (some ⟨g', 0, none⟩) (L0 ++ ((pieces 45 p).take j).map rdOne).length cp' ∧ Reads w wx q1 c1 g' cp' ps (L0 ++ ((pieces 45 p).take j).map rdOne) ∧ Own wx q2 (q2 + 1) 9 1 (some ⟨q2, 0, none⟩) m c2 (strs (pieces 45 p)) ∧ g' ≠ q2 ∧ q2 < wx.heap.size) (fun _ jv _ => m - (intOf jv).toNat)
      case atStart =>
        refine ⟨0, g, cp, Nat.zero_le _, rfl, by simp, by simpa using hR2, hP2, by omega, hq2'⟩
      case round =>
        obtain ⟨j, g', cp', hj, rfl, rfl, hRx, hPx, hne, hq2x⟩ := hrel
        have hlen : (L0 ++ ((pieces 45 p).take j).map rdOne).length = L0.length + j := by
          rw [List.length_append, List.length_map, List.length_take, ← Hm.out, Nat.min_eq_left hj]
        rw [hlen]
        by_cases hjl : j < m
        · have hpj : (pieces 45 p)[j]? = some ((pieces 45 p)[j]'(by rw [← Hm.out]; exact hjl)) := List.getElem?_eq_getElem _
          obtain ⟨x, hx⟩ : ∃ x, x = (pieces 45 p)[j]'(by rw [← Hm.out]; exact hjl) := ⟨_, rfl⟩
          rw [← hx] at hpj
          clear hx
          have c0 := str_at hPx hpj
          have hxm := cnt_mem (List.mem_of_getElem? hpj)
          have hpc := pieces_cnt 45 p.length p (Nat.le_refl _)
          have hxn : x.length ≤ 1048576 := by omega
          have hsnoc : L0 ++ ((pieces 45 p).take (j + 1)).map rdOne = (L0 ++ ((pieces 45 p).take j).map rdOne) ++ [rdOne x] := by
            obtain ⟨hj', hx'⟩ := List.getElem?_eq_some_iff.1 hpj
            rw [List.take_succ_eq_append_getElem hj', hx', List.map_append, List.append_assoc]
            rfl
          have Hsn := Lib.hid hsnoc
          clear hpj hpc hxm hsnoc hlen
          have hw0 : L0.length + j ≤ 1048577 := by omega
          obtain ⟨Lj, hLj⟩ : ∃ Lj, Lj = L0 ++ ((pieces 45 p).take j).map rdOne := ⟨_, rfl⟩
          have HLj := Lib.hid hLj
          rw [← hLj] at hRx
          have hll : Lj.length = L0.length + j := by rw [hLj, List.length_append, List.length_map, List.length_take, ← Hm.out, Nat.min_eq_left hj]
          have Hll := Lib.hid hll
          have hOx := hRx.2.1
          rw [hll] at hOx
          have hgx : g' < wr.heap.size := hRx.2.2.2.2.1
          clear hLj hll
          go_wp2_with fail
          refine (l1Read_at x hxn wr).mono ?_
          rintro _ _ ⟨rfl, rfl⟩
          generalize rdOne x = v at Hsn ⊢
          have hba : Below wr.heap.size wr (wr.alloc (.cells #[.int .i64 v] 3)) := (Below.refl _ _).alloc (Nat.le_refl _) _
          go_wp2_with (at_builtin; go_loud (refine wpList_app0 _ rfl (.tmp 30) (.tmp 36) _ rfl 3 j0 _ 1 8 Tryd.underlying28 ji jz0 jz1 jz2 rfl (by omega) rfl (hOx.below hba) (by simp; omega) rfl (sees_head _ _ _) (by rfl) (by simp [Value.oneCell']) (by omega) (by omega) ?_; intro g3 c3 w3 hO3 hor hlt3 hon))
          go_roundw
          case rel =>
            have hRa := hRx.below hba
            have hO3' : Own w3 g3 (g3 + 1) 3 1 (some ⟨g3, 0, none⟩) (Lj ++ [v]).length c3 (ints (Lj ++ [v])) := by
              rw [List.length_append, Hll.out, ints_append]
              exact hO3
            have hPa := (hPx.below hba).only hon (by omega)
            refine ⟨j + 1, g3, c3, by omega, by go_num, ?_, ?_, hPa, ?_, ?_⟩
            · rw [Hsn.out, ← HLj.out, List.length_append, Hll.out]
              rfl
            · rw [Hsn.out, ← HLj.out]
              exact hRa.more hon hO3' hor hlt3
            · rcases hor with h | h
              · omega
              · rw [h]; simp; omega
            · have := hon.size; simp at this; omega
          case measure => simp [intOf]; omega
        · go_wp2_with fail
          go_roundw
          case rel =>
            have hjm : j = (pieces 45 p).length := by rw [← Hm.out]; omega
            have eL : L0 ++ ((pieces 45 p).take j).map rdOne = numsK (ps.take (k + 1)) := by rw [hjm, List.take_length, Hsucc.out, ← HL0.out]
            rw [eL] at hRx hlen
            exact ⟨k + 1, g', cp', by omega, by go_num, by rw [← hlen], hRx⟩
          case measure => simp [intOf]; omega
    · have hkl : k = ps.length := by omega
      have eN : numsK (ps.take k) = numsS l := by rw [hkl, List.take_length, Hps.out]; rfl
      rw [eN] at hR ⊢
      have hnl : (numsS l).length ≤ 1048577 := by
        have h1 := numsK_len ps
        rw [Hcp.out] at h1
        have h2 : numsK ps = numsS l := by rw [Hps.out]; rfl
        rw [← h2]
        omega
      obtain ⟨L, hL⟩ : ∃ L, L = numsS l := ⟨_, rfl⟩
      rw [← hL] at hR hnl ⊢
      have HL := Lib.hid hL
      clear hL eN hkl
      have hRB := hR.2.2.2.2.2.1
      have hlow := hR.2.2.1
      have hRb := hR.2.2.2.2.2.2
      by_cases h6 : L.length = 6
      · obtain ⟨a, b, c, d, e, f, hLL⟩ := list6 h6
        subst hLL
        have er : rdS l = if textG ⟨a, b, c, d, e, f⟩ = l then (⟨a, b, c, d, e, f⟩, true) else (zeroG, false) := by
          unfold rdS
          rw [← HL.out]
        have Er := Lib.hid er
        have hO := hR.2.1
        have hgr : g < wr.heap.size := hR.2.2.2.2.1
        have cell : ∀ (i : Nat) (v : Int), [a, b, c, d, e, f][i]? = some v → wr.cell? ⟨g, i, none⟩ = some (.int .i64 v) := fun i v hv => by
          obtain ⟨b', off, hA, _, hc⟩ := hO.sees.at_ (k := i) (by rw [ints_length]; exact (List.getElem?_eq_some_iff.1 hv).1)
          injection hA with hA
          injection hA with h1 h2
          subst h1; subst h2
          have := hc i _ (ints_get hv)
          simpa using this
        have k0 := cell 0 a rfl
        have k1 := cell 1 b rfl
        have k2 := cell 2 c rfl
        have k3 := cell 3 d rfl
        have k4 := cell 4 e rfl
        have k5 := cell 5 f rfl
        clear er hO cell hR h6 hnl
        simp only [List.length_cons, List.length_nil] at *
        go_wp2_with fail
        go_region_held3 (fun w' => Below wr.heap.size wr w' ∧ ∀ b o, b < wr.heap.size → w'.cell? ⟨b, o, none⟩ = wr.cell? ⟨b, o, none⟩)
          (first | assumption | exact held_of ((Below.refl _ _).drew) | exact held_call (by assumption) (by assumption) | exact held_alloc (by assumption) _ | (refine held_of ?_; repeat (first | exact Below.refl _ _ | refine Below.drew ?_ | refine Below.alloc ?_ (by simp) _)))
          (fail)
        have hT := (Blk.made wr 25 #[.int .i64 a, .int .i64 b, .int .i64 c, .int .i64 d, .int .i64 e, .int .i64 f]).drew'
        have hB := (hRB.alloc (.cells #[.int .i64 a, .int .i64 b, .int .i64 c, .int .i64 d, .int .i64 e, .int .i64 f] 25)).drew'
        have hbT : Below w.heap.size w (wr.alloc (.cells #[.int .i64 a, .int .i64 b, .int .i64 c, .int .i64 d, .int .i64 e, .int .i64 f] 25)).drew := (hRb.alloc hRb.size _).drew
        generalize World.drew _ = U at *
        clear k0 k1 k2 k3 k4 k5
        have eT := hT.cell
        go_wp2_with fail
        clear eT
        refine (sGradeText_any a b c d e f _).mono ?_
        rintro _ w3 ⟨rfl, hb3⟩
        replace hT := hT.below hb3 hT.lt
        replace hB := hB.below hb3 hB.lt
        replace hbT := below_next hbT hb3
        have eT := hT.cell
        have eB := hB.cell
        have fB := hB.frozen
        by_cases ht : textG ⟨a, b, c, d, e, f⟩ = l
        · rw [ht]
          go_wp2_with fail
          refine bodyPost_ret (v := .tuple #[gv ⟨a, b, c, d, e, f⟩, .bool true]) (by simp [results, Tryd.results34, go_sem, eB]) rfl ⟨by rw [Er.out, if_pos ht], ?_⟩
          iterate 6 (refine Below.setCell ?_ (by simp) _)
          exact hbT
        · have hz : rdS l = (zeroG, false) := by rw [Er.out, if_neg ht]
          have Hz := Lib.hid hz
          clear hz Er
          generalize textG ⟨a, b, c, d, e, f⟩ = T at *
          have hbq : (T == l) = false := by rw [beq_eq_false_iff_ne]; exact ht
          go_wp2_with fail
          refine bodyPost_ret (v := .tuple #[gv ⟨0, 0, 0, 0, 0, 0⟩, .bool false]) (by simp [results, Tryd.results34, go_sem, eB]) rfl ⟨by rw [Hz.out]; rfl, ?_⟩
          iterate 6 (refine Below.setCell ?_ (by simp) _)
          exact hbT
      · have er : rdS l = (zeroG, false) := by
          unfold rdS
          rw [← HL.out]
          split <;> first | exact absurd rfl h6 | rfl
        have Er := Lib.hid er
        have h6q : ((L.length : Int) == 6) = false := by rw [beq_eq_false_iff_ne]; omega
        have h6r : ((L.length : Int) != 6) = true := by rw [bne_iff_ne]; omega
        have cB := hRB.cell
        have fB := hRB.frozen
        clear er
        go_wp2_with fail
        refine bodyPost_ret (v := .tuple #[gv ⟨0, 0, 0, 0, 0, 0⟩, .bool false]) (by simp [results, Tryd.results34, go_sem, cB]) rfl ⟨by rw [Er.out]; rfl, ?_⟩
        iterate 6 (refine Below.setCell ?_ (by simp) _)
        exact hRb
end Go.Proofs.YtlhjncefckidjaaDoor
