/-
  Contracts of drawn heats with a caster and times at which they are cast.
-/
import Derived.Test.YtdobfpdfbfaohaaDoorDk
import Derived.Deep.DrawnRows
namespace Go.Proofs.YtdobfpdfbfaohaaDoor
open Go.RowKit
set_option linter.unusedVariables false
theorem Own.num_here {w : World} {lo hi n c g k : Nat} {t : TypeId} {l : List Int} {x : Int} (h : Own w lo hi t 1 (some ⟨g, 0, none⟩) n c (ints l)) (hx : l[k]? = some x) :
    lo ≤ g ∧ g < hi ∧ g < w.heap.size ∧ w.cell? ⟨g, k, none⟩ = some (.int .i64 x) ∧ w.frozen? ⟨g, k, none⟩ = false ∧
      ∀ v, Own (w.setCell ⟨g, k, none⟩ (.int .i64 v)) lo hi t 1 (some ⟨g, 0, none⟩) n c (ints (l.set k v)) := by
  obtain ⟨g', hA, r⟩ := h.num_at hx
  injection hA with hA
  injection hA with e
  subst e
  exact r
theorem own_set {w : World} {lo hi size n c : Nat} {t : TypeId} {A : Option Addr} {xs : List Value} {p : Addr} {u : Value} (h : Own (w.setCell p u) lo hi t size A n c xs) (hl : hi = w.heap.size) : Own (w.setCell p u) lo (w.setCell p u).heap.size t size A n c xs := by
  subst hl
  simpa using h
attribute [local go_sem ↓] Go.wp_at_zero Go.wp_at_succ
/-- Heats, a caster and times are drawn. -/
def DrewCast (w : World) (B r p : Nat) (e : Ending) (w' : World) : Prop :=
  ∃ (l : List Heat) (A : Option Addr) (c : Nat) (s : Caster) (T : List Int) (A2 : Option Addr) (c2 p' : Nat), (∀ h ∈ l, smallH h) ∧ l.length ≤ 7 ∧ smallC s ∧ T.length ≤ 8 ∧ p' ≤ p + 100 ∧ e = .returned (.tuple #[.slice A l.length c, cv s, .slice A2 T.length c2]) ∧
    Own w' w.heap.size w'.heap.size 30 3 A l.length c (ints (flatH l)) ∧ Own w' w.heap.size w'.heap.size 3 1 A2 T.length c2 (ints T) ∧ Rd w' B r p' ∧ Only r (r + 1) w w'
set_option maxHeartbeats 4000000 in
theorem l20Cast_any (B r p : Nat) (w : World) (h : Rd w B r p) (hp : p ≤ 10000) :
    Calls Tryd.prog 59 #[.pointer (some ⟨r, 0, none⟩)] w (DrewCast w B r p) := by
  have hrw := h.lt
  obtain ⟨j0, ji, jz0, jz1, jz2⟩ := info_parts infoInt2
  go_enter Tryd.func59, Tryd.ntmps59
  have hB3 := Blk.made w 24 #[.int .i64 0, .int .i64 0]
  have hR := h.alloc (.cells #[.int .i64 0, .int .i64 0] 24)
  have hO : Only r (r + 1) w (w.alloc (.cells #[.int .i64 0, .int .i64 0] 24)) := (Only.refl _ _ _).alloc _
  go_wp2_with fail
  generalize w.alloc _ = W at hB3 hR hO ⊢
  have hO0 := hO
  clear hO
  have hl3 := hB3.lt
  refine (l20Heats_any B r _ 14 _ hR (by omega) (by omega)).mono ?_
  rintro _ w1 ⟨hts, A1, c1, p1, hsm, hlen, hp1, rfl, hQ, hR1, hO⟩
  have Hsm := Lib.hid hsm
  clear hsm
  replace hB3 := hB3.only hO (by omega)
  clear hR
  go_wp2_with fail
  refine (l20Caster_any B r _ 14 _ hR1 (by omega) (by omega)).mono ?_
  rintro _ w2 ⟨s, p2, hsc, hp2, rfl, hR, hO1⟩
  replace hB3 := hB3.only hO1 (by omega)
  replace hQ := own_hi (hQ.only hO1 (by omega)) hO1.size
  replace hO := hO.trans hO1
  clear hR1 hO1
  obtain ⟨f, s⟩ := s
  have hB6 := Blk.made w2 24 #[.int .i64 f, .int .i64 s]
  have hz2 := hO.size
  replace hB3 := hB3.alloc (.cells #[.int .i64 f, .int .i64 s] 24)
  replace hR := hR.alloc (.cells #[.int .i64 f, .int .i64 s] 24)
  replace hQ := own_hi (hQ.alloc (.cells #[.int .i64 f, .int .i64 s] 24)) (show w2.heap.size ≤ (w2.alloc (.cells #[.int .i64 f, .int .i64 s] 24)).heap.size by simp)
  replace hO := hO.alloc (.cells #[.int .i64 f, .int .i64 s] 24)
  go_wp2_with fail
  generalize w2.alloc _ = W2 at hB3 hB6 hR hQ hO ⊢
  have hz2' := hO.size
  have hl6 := hB6.lt
  refine (sCastTimes_any _ _ _ _ hQ.sees (by omega) _ _).mono ?_
  rintro _ w3 ⟨A2, c2, rfl, hT, hb1⟩
  have hT7 := castTimes_le hts ⟨f, s⟩
  generalize castTimes hts ⟨f, s⟩ = T1 at hT hT7 ⊢
  replace hQ := hQ.below hb1
  replace hB3 := hB3.below hb1 hB3.lt
  replace hB6 := hB6.below hb1 hB6.lt
  replace hR := hR.below hb1
  replace hO := hO.trans (Only.of_below hb1 _ _)
  have hzz := hb1.size
  clear hb1
  go_wp2_with fail
  refine (pick_any B r _ 3 _ hR (by omega) (by omega) (by omega)).mono ?_
  rintro _ w4 ⟨v, hv, rfl, hR1, hO1⟩
  replace hB3 := hB3.only hO1 (by omega)
  replace hB6 := hB6.only hO1 (by omega)
  replace hQ := hQ.only hO1 (by omega)
  replace hT := own_hi (hT.only hO1 (by omega)) hO1.size
  replace hO := hO.trans hO1
  replace hzz := Nat.le_trans hzz hO1.size
  clear hR hO1
  go_upto_if 19 with (fail)
  go_cut [7] (fun t7 wx => ∃ (T : List Int) (A2 : Option Addr) (c2 : Nat), t7 = .slice A2 T.length c2 ∧ T.length ≤ 7 ∧ Own wx W2.heap.size wx.heap.size 3 1 A2 T.length c2 (ints T) ∧ Own wx W.heap.size W2.heap.size 30 3 A1 hts.length c1 (ints (flatH hts)) ∧ Blk wx w.heap.size 24 #[.int .i64 0, .int .i64 0] ∧ Blk wx w2.heap.size 24 #[.int .i64 f, .int .i64 s] ∧ Rd wx B r (p2 + 1) ∧ Only r (r + 1) W wx ∧ W2.heap.size ≤ wx.heap.size)
  case first =>
    by_cases hv0 : v = 0
    · subst hv0
      have c6 := hB6.cell
      go_wp2_with fail
      clear c6
      refine (sCastLate_any _ _ _ _ hQ.sees (by omega) _ _).mono ?_
      rintro _ w5 ⟨A5, c5, rfl, hT5, hb1⟩
      go_wp2_with fail
      go_meet
      exact ⟨_, _, _, rfl, castLate_le _ _, own_lo hT5 hzz, hQ.below hb1, hB3.below hb1 hB3.lt, hB6.below hb1 hB6.lt, hR1.below hb1, hO.trans (Only.of_below hb1 _ _), Nat.le_trans hzz hb1.size⟩
    · have hvb : ((v : Int) == 0) = false := by rw [beq_eq_false_iff_ne]; omega
      go_wp2_with fail
      go_meet
      exact ⟨_, _, _, rfl, hT7, hT, hQ, hB3, hB6, hR1, hO, hzz⟩
  case rest =>
    clear hT hQ hB3 hB6 hR1 hO hzz
    obtain ⟨T, A2, c2, rfl, hT7, hT, hQ, hB3, hB6, hR, hO, hzz⟩ := hcut
    go_wp2_with fail
    refine (pick_any B r _ 8 _ hR (by omega) (by omega) (by omega)).mono ?_
    rintro _ w5 ⟨at_, hat, rfl, hR1, hO1⟩
    replace hB3 := hB3.only hO1 (by omega)
    replace hB6 := hB6.only hO1 (by omega)
    replace hQ := hQ.only hO1 (by omega)
    replace hT := own_hi (hT.only hO1 (by omega)) hO1.size
    replace hO := hO.trans hO1
    replace hzz := Nat.le_trans hzz hO1.size
    clear hR hO1
    go_wp2_with fail
    go_loopw [9] (fun i wr => ∃ (k : Nat) (T' : List Int) (p' : Nat), k ≤ T.length ∧ i = .int .i64 k ∧ Hid (T'.length = T.length) ∧ p' ≤ p2 + 2 + 2 * k ∧ Own wr W2.heap.size wr.heap.size 3 1 A2 T.length c2 (ints T') ∧ Own wr W.heap.size W2.heap.size 30 3 A1 hts.length c1 (ints (flatH hts)) ∧ Blk wr w.heap.size 24 #[.int .i64 0, .int .i64 0] ∧ Blk wr w2.heap.size 24 #[.int .i64 f, .int .i64 s] ∧ Rd wr B r p' ∧ Only r (r + 1) W wr ∧ W2.heap.size ≤ wr.heap.size) (fun i _ => T.length - (intOf i).toNat)
    case atStart => exact ⟨0, T, p2 + 2, Nat.zero_le _, rfl, Lib.hid rfl, by omega, hT, hQ, hB3, hB6, hR1, hO, hzz⟩
    case round =>
      clear hT hQ hB3 hB6 hR1 hO hzz
      obtain ⟨k, T', p', hk, rfl, HT', hp', hT, hQ, hB3, hB6, hR, hO, hzz⟩ := hrel
      by_cases hlt : k < T.length
      · by_cases hak : at_ ≤ k
        · obtain ⟨x, hx⟩ : ∃ x, T'[k]? = some x := ⟨_, List.getElem?_eq_getElem (by rw [HT'.out]; exact hlt)⟩
          obtain ⟨g, rfl, hg1, hg2, hg3, cx, fx, hput⟩ := hT.num_at hx
          clear hput
          have hrg : r ≠ g := by omega
          have Hx := Lib.hid hx
          clear hx
          have hcp := hT.cap
          have hi1 : (0 : Int) ≤ (k : Int) := by omega
          have hi2 : (k : Int) < (T.length : Int) := by omega
          go_wp2_with fail
          go_region_with (first
            | (have _t := hR6; go_at_call 60; refine (pick_any B r _ 4 _ (by exact hR6) (by omega) (by omega) (by omega)).mono ?_; rintro _ x1 ⟨u2, hu2, rfl, hR7, hO7⟩; have hT7 := own_hi (Own.only (by exact hT6) hO7 (by omega)) hO7.size; have c7 := (hT7.num_here Hx.out).2.2.2.1; have f7 := (hT7.num_here Hx.out).2.2.2.2.1)
            | (go_at_call 60; refine (pick_any B r _ 3 _ (by exact hR) (by omega) (by omega) (by omega)).mono ?_; rintro _ x0 ⟨u1, hu1, rfl, hR6, hO6⟩; have hT6 := own_hi (Own.only (by exact hT) hO6 (by omega)) hO6.size; have c6 := (hT6.num_here Hx.out).2.2.2.1; have f6 := (hT6.num_here Hx.out).2.2.2.2.1))
          all_goals
            have hg' := (hT7.num_here Hx.out)
            have hO8 := (hO.trans (Only.of_drew hO6)).trans hO7
            have hQ8 := Own.only (Own.only (by exact hQ) hO6 (.inr (by omega))) hO7 (.inr (by omega))
            have hB8 := Blk.only (Blk.only (by exact hB3) hO6 (by omega)) hO7 (by omega)
            have hC8 := Blk.only (Blk.only (by exact hB6) hO6 (by omega)) hO7 (by omega)
            go_wp2_with fail
            go_roundw
            case rel =>
              exact ⟨k + 1, T'.set k _, p' + 2, by omega, by go_num, Lib.hid (by rw [List.length_set]; exact HT'.out), by omega, own_set (hg'.2.2.2.2.2 _) rfl, hQ8.setCell (p := ⟨g, k, none⟩) (.inr hg1) _, hB8.other (p := ⟨g, k, none⟩) (by show w.heap.size ≠ g; omega) _, hC8.other (p := ⟨g, k, none⟩) (by show w2.heap.size ≠ g; omega) _, hR7.setCell (q := ⟨g, k, none⟩) (by show r < g; omega) _, hO8.setNew (q := ⟨g, k, none⟩) (by show W.heap.size ≤ g; omega) _, by have := hO6.size; have := hO7.size; simp at *; omega⟩
            case measure => simp [intOf]; omega
        · go_wp2_with fail
          go_roundw
          case rel => exact ⟨k + 1, T', p', by omega, by go_num, HT', by omega, hT, hQ, hB3, hB6, hR, hO, hzz⟩
          case measure => simp [intOf]; omega
      · go_wp2_with fail
        refine (odd_any B r _ 14 _ hR (by omega) (by omega)).mono ?_
        rintro _ w6 ⟨b, p6, hp6, rfl, hR1, hO1⟩
        replace hB3 := hB3.only hO1 (by omega)
        replace hB6 := hB6.only hO1 (by omega)
        replace hQ := hQ.only hO1 (by omega)
        replace hT := own_hi (hT.only hO1 (by omega)) hO1.size
        replace hO := hO.trans hO1
        replace hzz := Nat.le_trans hzz hO1.size
        clear hR hO1
        go_upto_if 48 with (fail)
        go_cut [7] (fun t7 wx => ∃ (T : List Int) (A2 : Option Addr) (c2 : Nat), t7 = .slice A2 T.length c2 ∧ T.length ≤ 8 ∧ Own wx W2.heap.size wx.heap.size 3 1 A2 T.length c2 (ints T) ∧ Own wx W.heap.size W2.heap.size 30 3 A1 hts.length c1 (ints (flatH hts)) ∧ Blk wx w.heap.size 24 #[.int .i64 0, .int .i64 0] ∧ Blk wx w2.heap.size 24 #[.int .i64 f, .int .i64 s] ∧ Rd wx B r p6 ∧ Only r (r + 1) W wx ∧ W2.heap.size ≤ wx.heap.size)
        case first =>
          have hTl := HT'.out
          cases b with
          | false =>
            rw [← hTl] at hT ⊢
            have HTl := Lib.hid hTl
            clear hTl
            go_wp2_with fail
            go_meet
            exact ⟨T', _, _, rfl, by have := HTl.out; omega, hT, hQ, hB3, hB6, hR1, hO, hzz⟩
          | true =>
            clear hTl
            have hBr := hR1.le
            have hzz6 : W2.heap.size ≤ w6.heap.size := hzz
            go_wp2_with (at_builtin; refine wpList_app _ rfl (.tmp 49) (.tmp 50) _ rfl 3 j0 _ 1 8 Tryd.underlying39 ji jz0 jz1 jz2 rfl (by omega) rfl (hT.alloc _) rfl (sees_one _ _ _) (by simp [ints]) (one_ints _) (by omega) (by omega) (by simp; omega) ?_; intro A5 c5 w7 hT5 hon)
            go_meet
            have e : T.length + 1 = (T' ++ [9]).length := by rw [List.length_append, HT'.out]; rfl
            rw [← ints_append] at hT5
            refine ⟨T' ++ [9], A5, c5, by rw [← e], by omega, by rw [← e]; exact hT5, (hQ.alloc _).only hon (.inl (Nat.le_refl _)), (hB3.alloc _).only hon (by omega), (hB6.alloc _).only hon (by omega), (hR1.alloc _).only hon (by omega) (by omega), (hO.alloc _).fresh hon hz2', Nat.le_trans hzz (Nat.le_trans (by simp) hon.size)⟩
        case rest =>
          clear hT hQ hB3 hB6 hR1 hO hzz
          obtain ⟨T5, A5, c5, rfl, hT8, hT, hQ, hB3, hB6, hR, hO, hzz⟩ := hcut
          have c3 := hB3.cell
          have f3 := hB3.frozen
          have c6 := hB6.cell
          go_wp2_with fail
          go_region
          go_wp2_with fail
          refine bodyPost_ret (v := .tuple #[.slice A1 hts.length c1, cv ⟨f, s⟩, .slice A5 T5.length c5]) (by simp [results, Tryd.results59, go_sem, c3]) rfl ⟨hts, A1, c1, ⟨f, s⟩, T5, A5, c5, p6, Hsm.out, hlen, hsc, hT8, by omega, rfl, ?_, ?_, ?_, ?_⟩
          · have h1 := own_hi (own_lo ((hQ.setCell (p := ⟨w.heap.size, 0, none⟩) (.inl (by show w.heap.size < _; omega)) (.int .i64 f)).setCell (p := ⟨w.heap.size, 1, none⟩) (.inl (by show w.heap.size < _; omega)) (.int .i64 s)) (show w.heap.size ≤ _ by omega)) hzz
            refine own_hi (by exact h1) (by simp)
          · have h1 := own_lo ((hT.setCell (p := ⟨w.heap.size, 0, none⟩) (.inl (by show w.heap.size < _; omega)) (.int .i64 f)).setCell (p := ⟨w.heap.size, 1, none⟩) (.inl (by show w.heap.size < _; omega)) (.int .i64 s)) (show w.heap.size ≤ _ by omega)
            refine own_hi (by exact h1) (by simp)
          · exact (hR.setCell (q := ⟨w.heap.size, 0, none⟩) hrw (.int .i64 f)).setCell (q := ⟨w.heap.size, 1, none⟩) hrw (.int .i64 s)
          · have h1 := ((hO0.trans hO).setNew (q := ⟨w.heap.size, 0, none⟩) (Nat.le_refl _) (.int .i64 f)).setNew (q := ⟨w.heap.size, 1, none⟩) (Nat.le_refl _) (.int .i64 s)
            exact ⟨h1.os, h1.tape, h1.output, h1.size, h1.block⟩
/-- Heats, a caster and times are drawn out of a code. -/
def DrawnCast (w : World) (e : Ending) (w' : World) : Prop :=
  ∃ (l : List Heat) (A : Option Addr) (c : Nat) (s : Caster) (T : List Int) (A2 : Option Addr) (c2 : Nat), (∀ h ∈ l, smallH h) ∧ l.length ≤ 7 ∧ smallC s ∧ T.length ≤ 8 ∧ e = .returned (.tuple #[.slice A l.length c, cv s, .slice A2 T.length c2]) ∧
    Own w' w.heap.size w'.heap.size 30 3 A l.length c (ints (flatH l)) ∧ Own w' w.heap.size w'.heap.size 3 1 A2 T.length c2 (ints T) ∧ Below w.heap.size w w'
def DrawnCastAt (w : World) (e : Ending) (w' : World) : Prop :=
  ∃ (l : List Heat) (A : Option Addr) (c : Nat) (s : Caster) (T : List Int) (A2 : Option Addr) (c2 m : Nat), (∀ h ∈ l, smallH h) ∧ l.length ≤ 7 ∧ smallC s ∧ T.length ≤ 8 ∧ m < 250 ∧ e = .returned (.tuple #[.slice A l.length c, cv s, .slice A2 T.length c2, .int .i64 m]) ∧
    Own w' w.heap.size w'.heap.size 30 3 A l.length c (ints (flatH l)) ∧ Own w' w.heap.size w'.heap.size 3 1 A2 T.length c2 (ints T) ∧ Below w.heap.size w w'
theorem drawCastOk_any (A : Option Addr) (n c : Nat) (l : List Int) (w : World) (hs : Sees w w.heap.size A (bys l)) (hl : l.length = n) (hby : ∀ z ∈ l, byteB z) (hc : n ≤ c) (hm : c ≤ maxLen) :
    Calls Tryd.prog 35 #[.slice A n c] w (DrawnCast w) := by
  go_enter Tryd.func35, Tryd.ntmps35
  have hB := Blk.made w 24 #[.int .i64 0, .int .i64 0]
  have hb : Below w.heap.size w (w.alloc (.cells #[.int .i64 0, .int .i64 0] 24)) := (Below.refl _ _).alloc (Nat.le_refl _) _
  go_wp2_with fail
  generalize w.alloc _ = W at hB hb ⊢
  refine (l20Open_any A n c l _ (hs.next hb) hl hby hc hm).mono ?_
  rintro _ w1 ⟨rfl, hR, hb1⟩
  have hlt := hB.lt
  replace hB := hB.below hb1 hB.lt
  have hz1 := hb1.size
  replace hb := below_next hb hb1
  clear hb1
  go_wp2_with fail
  refine (l20Cast_any _ _ _ _ hR (by omega)).mono ?_
  rintro _ w2 ⟨hts, A1, c1, s, T, A2, c2, p', hsm, hlen, hsc, hTl, hp', rfl, hQ, hT, hR2, hO⟩
  have Hsm := Lib.hid hsm
  clear hsm
  have hRl := hR.lt
  replace hB := hB.only hO (by omega)
  replace hb := below_only hb hO (by omega) (Nat.le_refl _)
  clear hR hO hR2
  have c4 := hB.cell
  have f4 := hB.frozen
  go_wp2_with fail
  refine bodyPost_ret (v := .tuple #[.slice A1 hts.length c1, cv s, .slice A2 T.length c2]) (by simp [results, Tryd.results35, go_sem, c4]) rfl ⟨hts, A1, c1, s, T, A2, c2, Hsm.out, hlen, hsc, hTl, rfl, ?_, ?_, ?_⟩
  · simpa using own_lo ((hQ.setCell (p := ⟨w.heap.size, 0, none⟩) (.inl (by show w.heap.size < _; omega)) (.int .i64 s.f)).setCell (p := ⟨w.heap.size, 1, none⟩) (.inl (by show w.heap.size < _; omega)) (.int .i64 s.s)) (by omega)
  · simpa using own_lo ((hT.setCell (p := ⟨w.heap.size, 0, none⟩) (.inl (by show w.heap.size < _; omega)) (.int .i64 s.f)).setCell (p := ⟨w.heap.size, 1, none⟩) (.inl (by show w.heap.size < _; omega)) (.int .i64 s.s)) (by omega)
  · exact ((hb.setCell (Nat.le_refl _) _).setCell (Nat.le_refl _) _)
theorem drawHeatWaits_any (A : Option Addr) (n c : Nat) (l : List Int) (w : World) (hs : Sees w w.heap.size A (bys l)) (hl : l.length = n) (hby : ∀ z ∈ l, byteB z) (hc : n ≤ c) (hm : c ≤ maxLen) :
    Calls Tryd.prog 44 #[.slice A n c] w (DrawnCast w) := by
  go_enter Tryd.func44, Tryd.ntmps44
  have hB := Blk.made w 24 #[.int .i64 0, .int .i64 0]
  have hb : Below w.heap.size w (w.alloc (.cells #[.int .i64 0, .int .i64 0] 24)) := (Below.refl _ _).alloc (Nat.le_refl _) _
  go_wp2_with fail
  generalize w.alloc _ = W at hB hb ⊢
  refine (l20Open_any A n c l _ (hs.next hb) hl hby hc hm).mono ?_
  rintro _ w1 ⟨rfl, hR, hb1⟩
  have hlt := hB.lt
  replace hB := hB.below hb1 hB.lt
  have hz1 := hb1.size
  replace hb := below_next hb hb1
  clear hb1
  go_wp2_with fail
  refine (l20Cast_any _ _ _ _ hR (by omega)).mono ?_
  rintro _ w2 ⟨hts, A1, c1, s, T, A2, c2, p', hsm, hlen, hsc, hTl, hp', rfl, hQ, hT, hR2, hO⟩
  have Hsm := Lib.hid hsm
  clear hsm
  have hRl := hR.lt
  replace hB := hB.only hO (by omega)
  replace hb := below_only hb hO (by omega) (Nat.le_refl _)
  clear hR hO hR2
  have c4 := hB.cell
  have f4 := hB.frozen
  go_wp2_with fail
  refine bodyPost_ret (v := .tuple #[.slice A1 hts.length c1, cv s, .slice A2 T.length c2]) (by simp [results, Tryd.results44, go_sem, c4]) rfl ⟨hts, A1, c1, s, T, A2, c2, Hsm.out, hlen, hsc, hTl, rfl, ?_, ?_, ?_⟩
  · simpa using own_lo ((hQ.setCell (p := ⟨w.heap.size, 0, none⟩) (.inl (by show w.heap.size < _; omega)) (.int .i64 s.f)).setCell (p := ⟨w.heap.size, 1, none⟩) (.inl (by show w.heap.size < _; omega)) (.int .i64 s.s)) (by omega)
  · simpa using own_lo ((hT.setCell (p := ⟨w.heap.size, 0, none⟩) (.inl (by show w.heap.size < _; omega)) (.int .i64 s.f)).setCell (p := ⟨w.heap.size, 1, none⟩) (.inl (by show w.heap.size < _; omega)) (.int .i64 s.s)) (by omega)
  · exact ((hb.setCell (Nat.le_refl _) _).setCell (Nat.le_refl _) _)
theorem drawLadlesMost_any (A : Option Addr) (n c : Nat) (l : List Int) (w : World) (hs : Sees w w.heap.size A (bys l)) (hl : l.length = n) (hby : ∀ z ∈ l, byteB z) (hc : n ≤ c) (hm : c ≤ maxLen) :
    Calls Tryd.prog 46 #[.slice A n c] w (DrawnCast w) := by
  go_enter Tryd.func46, Tryd.ntmps46
  have hB := Blk.made w 24 #[.int .i64 0, .int .i64 0]
  have hb : Below w.heap.size w (w.alloc (.cells #[.int .i64 0, .int .i64 0] 24)) := (Below.refl _ _).alloc (Nat.le_refl _) _
  go_wp2_with fail
  generalize w.alloc _ = W at hB hb ⊢
  refine (l20Open_any A n c l _ (hs.next hb) hl hby hc hm).mono ?_
  rintro _ w1 ⟨rfl, hR, hb1⟩
  have hlt := hB.lt
  replace hB := hB.below hb1 hB.lt
  have hz1 := hb1.size
  replace hb := below_next hb hb1
  clear hb1
  go_wp2_with fail
  refine (l20Cast_any _ _ _ _ hR (by omega)).mono ?_
  rintro _ w2 ⟨hts, A1, c1, s, T, A2, c2, p', hsm, hlen, hsc, hTl, hp', rfl, hQ, hT, hR2, hO⟩
  have Hsm := Lib.hid hsm
  clear hsm
  have hRl := hR.lt
  replace hB := hB.only hO (by omega)
  replace hb := below_only hb hO (by omega) (Nat.le_refl _)
  clear hR hO hR2
  have c4 := hB.cell
  have f4 := hB.frozen
  go_wp2_with fail
  refine bodyPost_ret (v := .tuple #[.slice A1 hts.length c1, cv s, .slice A2 T.length c2]) (by simp [results, Tryd.results46, go_sem, c4]) rfl ⟨hts, A1, c1, s, T, A2, c2, Hsm.out, hlen, hsc, hTl, rfl, ?_, ?_, ?_⟩
  · simpa using own_lo ((hQ.setCell (p := ⟨w.heap.size, 0, none⟩) (.inl (by show w.heap.size < _; omega)) (.int .i64 s.f)).setCell (p := ⟨w.heap.size, 1, none⟩) (.inl (by show w.heap.size < _; omega)) (.int .i64 s.s)) (by omega)
  · simpa using own_lo ((hT.setCell (p := ⟨w.heap.size, 0, none⟩) (.inl (by show w.heap.size < _; omega)) (.int .i64 s.f)).setCell (p := ⟨w.heap.size, 1, none⟩) (.inl (by show w.heap.size < _; omega)) (.int .i64 s.s)) (by omega)
  · exact ((hb.setCell (Nat.le_refl _) _).setCell (Nat.le_refl _) _)
theorem drawLadlesAt_any (A : Option Addr) (n c : Nat) (l : List Int) (w : World) (hs : Sees w w.heap.size A (bys l)) (hl : l.length = n) (hby : ∀ z ∈ l, byteB z) (hc : n ≤ c) (hm : c ≤ maxLen) :
    Calls Tryd.prog 41 #[.slice A n c] w (DrawnCastAt w) := by
  go_enter Tryd.func41, Tryd.ntmps41
  have hB := Blk.made w 24 #[.int .i64 0, .int .i64 0]
  have hb : Below w.heap.size w (w.alloc (.cells #[.int .i64 0, .int .i64 0] 24)) := (Below.refl _ _).alloc (Nat.le_refl _) _
  go_wp2_with fail
  generalize w.alloc _ = W at hB hb ⊢
  refine (l20Open_any A n c l _ (hs.next hb) hl hby hc hm).mono ?_
  rintro _ w1 ⟨rfl, hR, hb1⟩
  have hlt := hB.lt
  replace hB := hB.below hb1 hB.lt
  have hz1 := hb1.size
  replace hb := below_next hb hb1
  clear hb1
  go_wp2_with fail
  refine (l20Cast_any _ _ _ _ hR (by omega)).mono ?_
  rintro _ w2 ⟨hts, A1, c1, s, T, A2, c2, p', hsm, hlen, hsc, hTl, hp', rfl, hQ, hT, hR2, hO⟩
  have Hsm := Lib.hid hsm
  clear hsm
  have hRl := hR.lt
  replace hB := hB.only hO (by omega)
  replace hb := below_only hb hO (by omega) (Nat.le_refl _)
  have hz2 := hO.size
  clear hR hO
  obtain ⟨f, s⟩ := s
  have hC := Blk.made w2 24 #[.int .i64 f, .int .i64 s]
  replace hB := hB.alloc (.cells #[.int .i64 f, .int .i64 s] 24)
  replace hQ := own_hi (hQ.alloc (.cells #[.int .i64 f, .int .i64 s] 24)) (show w2.heap.size ≤ (w2.alloc (.cells #[.int .i64 f, .int .i64 s] 24)).heap.size by simp)
  replace hT := own_hi (hT.alloc (.cells #[.int .i64 f, .int .i64 s] 24)) (show w2.heap.size ≤ (w2.alloc (.cells #[.int .i64 f, .int .i64 s] 24)).heap.size by simp)
  replace hR2 := hR2.alloc (.cells #[.int .i64 f, .int .i64 s] 24)
  replace hb := hb.alloc hb.size (.cells #[.int .i64 f, .int .i64 s] 24)
  go_wp2_with fail
  generalize w2.alloc _ = W2 at hB hC hQ hT hR2 hb ⊢
  have hS0 : W2.cell? ⟨w2.heap.size, 0, none⟩ = some (.int .i64 f) := by rw [hC.cell]; rfl
  have hS1 : W2.cell? ⟨w2.heap.size, 1, none⟩ = some (.int .i64 s) := by rw [hC.cell]; rfl
  go_region_with (go_at_call 60; refine (pick_any _ _ _ 250 _ (by exact hR2) (by omega) (by omega) (by omega)).mono ?_; rintro _ x0 ⟨u1, hu1, rfl, hR6, hO6⟩; have hC6 := Blk.only (by exact hC) hO6 (by omega); have hB6 := Blk.only (by exact hB) hO6 (by omega); have c6 := hC6.cell; have c7 := hB6.cell; have f7 := hB6.frozen)
  all_goals
    have hQ6 := own_hi (Own.only (by exact hQ) hO6 (by omega)) hO6.size
    have hT6 := own_hi (Own.only (by exact hT) hO6 (by omega)) hO6.size
    have hb6 := below_only hb (Only.of_drew hO6) (by omega) (Nat.le_refl _)
    go_wp2_with fail
    refine bodyPost_ret (v := .tuple #[.slice A1 hts.length c1, cv ⟨f, s⟩, .slice A2 T.length c2, .int .i64 u1]) (by simp [results, Tryd.results41, go_sem, c7]) rfl ⟨hts, A1, c1, ⟨f, s⟩, T, A2, c2, u1, Hsm.out, hlen, hsc, hTl, hu1, rfl, ?_, ?_, ?_⟩
    · simpa using own_lo ((hQ6.setCell (p := ⟨w.heap.size, 0, none⟩) (.inl (by show w.heap.size < _; omega)) (.int .i64 f)).setCell (p := ⟨w.heap.size, 1, none⟩) (.inl (by show w.heap.size < _; omega)) (.int .i64 s)) (by omega)
    · simpa using own_lo ((hT6.setCell (p := ⟨w.heap.size, 0, none⟩) (.inl (by show w.heap.size < _; omega)) (.int .i64 f)).setCell (p := ⟨w.heap.size, 1, none⟩) (.inl (by show w.heap.size < _; omega)) (.int .i64 s)) (by omega)
    · exact ((hb6.setCell (Nat.le_refl _) _).setCell (Nat.le_refl _) _)
end Go.Proofs.YtdobfpdfbfaohaaDoor
