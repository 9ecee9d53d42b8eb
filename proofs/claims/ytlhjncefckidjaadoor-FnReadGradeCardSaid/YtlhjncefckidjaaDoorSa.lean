/-
  The reference's list of all mixtures (l1All), by induction on the stuffs that are left.
-/
import Derived.Test.YtlhjncefckidjaaDoorPq
import Derived.Test.YtlhjncefckidjaaDoorTg
import Derived.Test.YtlhjncefckidjaaDoorTake
import Derived.Test.YtlhjncefckidjaaDoorMeet
namespace Go.Proofs.YtlhjncefckidjaaDoor
open Go.RowKit
set_option linter.unusedVariables false
attribute [local go_sem high] run_maxI run_minI
section
variable {P : Program} (w : World)
/-- As run_app1, also where nothing is appended. -/
theorem run_app0 (t ty e : TypeId) (i : TypeInfo) (z : Value) (size bytes : Nat) (ht : P.underlying t = some (.slice e)) (hi : P.info? e = some i) (hz : i.zero = some z)
    (hsize : i.size = size) (hby : i.bytes = bytes) (hzs : z.cells.size = size) (hsz : 0 < size)
    {g n c : Nat} {xs : List Value} (hown : Own w g (g + 1) e size (some ⟨g, 0, none⟩) n c xs) (hg : g < w.heap.size)
    {B : Nat} {A2 : Option Addr} {m c2 : Nat} {news : List Value} (hs : Sees w B A2 news) (hl : news.length = m * size) (h1 : ∀ u ∈ news, u.oneCell' = true)
    (hnm : n + m ≤ 1000000000) (hbb : bytes ≤ 100000) :
    ∃ g' c' w', (Builtin.append_ #[t, t] ty #[.slice (some ⟨g, 0, none⟩) n c, .slice A2 m c2]).run P w = .ok (.slice (some ⟨g', 0, none⟩) (n + m) c') w' ∧ Own w' g' (g' + 1) e size (some ⟨g', 0, none⟩) (n + m) c' (xs ++ news) ∧ (g' = g ∨ g' = w.heap.size) ∧ g' < w'.heap.size ∧ Only g (g + 1) w w' := by
  by_cases hm : 0 < m
  · exact run_app1 w t ty e i z size bytes ht hi hz hsize hby hzs hsz hown hg hs hl h1 hm hnm hbb
  have hm0 : m = 0 := by omega
  subst hm0
  have hn : news = [] := List.eq_nil_of_length_eq_zero (by omega)
  subst hn
  rcases A2 with _ | ad
  · refine ⟨g, c, w, ?_, by simpa using hown, .inl rfl, hg, Only.refl _ _ _⟩
    have hnc := hown.cap
    simp [Builtin.append_, run_underlying ht, sizeOf, typeInfo, hi, Builtin.lenOf, Builtin.firstCells, hnc, storeCells]
  · have hbytes : (n + 0) * bytes ≤ 140737488355328 := Nat.le_trans (Nat.mul_le_mul hnm hbb) (by decide)
    obtain ⟨v', w', hrun, h2, h3, _, h5⟩ := run_append_own_at (P := P) w g t ty e i z size bytes ht hi hz hsize hby hzs hsz (.slice (some ⟨g, 0, none⟩) n c) n xs hown.1 ad 0 c2 [] hl (fun j u hu => by simp at hu) h1 (by simp only [maxLen]; omega) hbytes (Nat.le_of_lt hg)
    obtain ⟨hl2, h2⟩ := h2
    rcases h2 with ⟨rfl, h0⟩ | ⟨g', cap, cur, rfl, hg', hb, hn', hm', hsz', hx⟩
    · simp [Value.ownBlock] at h5
    refine ⟨g', cap, w', hrun, ⟨⟨hl2, .inr ⟨g', cap, cur, rfl, Nat.le_refl _, hb, hn', hm', hsz', hx⟩⟩, fun g'' h => ?_⟩, ?_, Blk.lt (t := e) hb, ?_⟩
    · simp [Value.ownBlock] at h
      omega
    · simpa [Value.ownBlock] using h5
    · refine ⟨h3.os, h3.tape, h3.output, h3.size, fun k hk hr => h3.block k hk fun e => ?_⟩
      simp [Value.ownBlock] at e
      omega
theorem wpList_app0 {ops : Array Oper} {rest : List Oper} {o : Oper} {a : Act} {Q : Exit → Act → World → Prop} (hgd : o.guard = none) (s x : Operand) (t : TypeId)
    (ho : o.op = .call { callee := .builtin .append, args := #[s, x], argTypes := #[t, t] })
    (e : TypeId) (i : TypeInfo) (z : Value) (size bytes : Nat) (ht : P.underlying t = some (.slice e)) (hi : P.info? e = some i) (hz : i.zero = some z)
    (hsize : i.size = size) (hby : i.bytes = bytes) (hzs : z.cells.size = size) (hsz : 0 < size)
    {g n c : Nat} {xs : List Value} (hv : a.eval s = .slice (some ⟨g, 0, none⟩) n c) (hown : Own w g (g + 1) e size (some ⟨g, 0, none⟩) n c xs) (hg : g < w.heap.size)
    {B : Nat} {A2 : Option Addr} {m c2 : Nat} {news : List Value} (hx : a.eval x = .slice A2 m c2) (hs : Sees w B A2 news) (hl : news.length = m * size) (h1 : ∀ u ∈ news, u.oneCell' = true)
    (hnm : n + m ≤ 1000000000) (hbb : bytes ≤ 100000)
    (h : ∀ g' c' w', Own w' g' (g' + 1) e size (some ⟨g', 0, none⟩) (n + m) c' (xs ++ news) → (g' = g ∨ g' = w.heap.size) → g' < w'.heap.size → Only g (g + 1) w w' → wpList P ops Q rest (a.put o.dst (.slice (some ⟨g', 0, none⟩) (n + m) c')) w') : wpList P ops Q (o :: rest) a w :=
  wpList_plain hgd fun _ hK => by
    obtain ⟨g', c', w', hr, h2, h3, h4, h5⟩ := run_app0 (P := P) w t o.type e i z size bytes ht hi hz hsize hby hzs hsz hown hg (c2 := c2) hs hl h1 hnm hbb
    unfold Oper.wp execOp
    simp only [ho, resolve, invoke, builtin, Sem.run_bind, Sem.run_pure, Result.andThen_ok, List.map_toArray, List.map_cons, List.map_nil, hv, hx, hr]
    exact hK _ _ (h g' c' w' h2 h3 h4 h5)
end
section
variable {w w' : World} {lo g n c : Nat} {t e : TypeId} {hd hd2 : List (Option Addr × Nat)} {L L2 : List (List Int)}
theorem heads_append (h : hd.length = L.length) : heads (hd ++ hd2) (L ++ L2) = heads hd L ++ heads hd2 L2 := by
  unfold heads
  rw [List.zip_append h]
  simp
/-- A table behind a table. -/
theorem TGrow.join {g' c2 : Nat} (ht : TGrow w lo g t e n c hd L) (hl2 : hd2.length = L2.length)
    (hr : ∀ (i : Nat) (a : Option Addr) (c' : Nat) (l : List Int), hd2[i]? = some (a, c') → L2[i]? = some l → ∃ h, a = some ⟨h, 0, none⟩ ∧ lo ≤ h ∧ h ≠ g ∧ h < w.heap.size ∧ Own w h (h + 1) e 1 (some ⟨h, 0, none⟩) l.length c' (ints l))
    (hown : Own w' g' (g' + 1) t 1 (some ⟨g', 0, none⟩) (n + L2.length) c2 (heads hd L ++ heads hd2 L2)) (hg' : g' = g ∨ w.heap.size ≤ g') (hlt : g' < w'.heap.size) (hon : Only g (g + 1) w w') :
    TGrow w' lo g' t e (n + L2.length) c2 (hd ++ hd2) (L ++ L2) := by
  obtain ⟨h1, h2, h3, h4, h5, h6⟩ := ht
  refine ⟨by rw [heads_append (by omega)]; exact hown, hlt, by omega, by simp [h4, hl2], by simp [h5], fun i a c' x ha hx => ?_⟩
  by_cases hi : i < n
  · rw [List.getElem?_append_left (by omega)] at ha hx
    obtain ⟨q, rfl, q1, q2, q3, q4⟩ := h6 i a c' x ha hx
    exact ⟨q, rfl, q1, by omega, Nat.lt_of_lt_of_le q3 hon.size, q4.only hon (by omega)⟩
  · rw [List.getElem?_append_right (by omega)] at ha hx
    rw [h4] at ha
    rw [h5] at hx
    obtain ⟨q, rfl, q1, q2, q3, q4⟩ := hr (i - n) a c' x ha hx
    exact ⟨q, rfl, q1, by omega, Nat.lt_of_lt_of_le q3 hon.size, q4.only hon (by omega)⟩
theorem one_heads (hd : List (Option Addr × Nat)) (L : List (List Int)) : ∀ u ∈ heads hd L, u.oneCell' = true := by
  intro u hu
  obtain ⟨x, _, rfl⟩ := List.mem_map.1 hu
  rfl
end
theorem allN_len (r : List Stuff) (pre : List Int) (t : Int) (M : Nat) (h : ∀ pre t, (allM r pre t).length ≤ M) (n : Nat) : (allN r pre t n).length ≤ n * M := by
  induction n with
  | zero => simp [allN_zero]
  | succ n ih =>
    rw [allN_succ, List.length_append, Nat.succ_mul]
    have := h (pre ++ [(n : Int)]) (t - n)
    omega
theorem allM_len (r : List Stuff) (hk : ∀ s ∈ r, s.k ≤ 9) : ∀ (pre : List Int) (t : Int), (allM r pre t).length ≤ 10 ^ r.length := by
  induction r with
  | nil => intro pre t; rw [allM_nil]; split <;> simp
  | cons s r ih =>
    intro pre t
    rw [allM_cons]
    have h1 := allN_len r pre t (10 ^ r.length) (ih fun s hs => hk s (List.mem_cons_of_mem _ hs)) (minI t s.k + 1).toNat
    have h2 : (minI t s.k + 1).toNat ≤ 10 := by
      have := minI_eq t s.k
      have := hk s List.mem_cons_self
      omega
    have h3 : (minI t s.k + 1).toNat * 10 ^ r.length ≤ 10 * 10 ^ r.length := Nat.mul_le_mul_right _ h2
    rw [List.length_cons, Nat.pow_succ]
    omega
theorem infoRow : (Tryd.prog.info? 28).map (fun i => (i.zero, i.size, i.bytes)) = some (some (.slice none 0 0), 1, 24) := by kernel_rfl
set_option maxHeartbeats 1000000 in
set_option maxRecDepth 20000 in
theorem l1All_any (A : Option Addr) (c : Nat) (l : List Stuff) (hn : stuffsOk l = true) (r : List Stuff) :
    ∀ (pre : List Int) (q cq : Nat) (t : Int) (w : World), l.drop pre.length = r → pre.length + r.length = l.length → 0 ≤ t → t ≤ 12 → Sees w w.heap.size A (ints (flatS l)) →
    Own w q (q + 1) 3 1 (some ⟨q, 0, none⟩) pre.length cq (ints pre) → q < w.heap.size →
    Calls Tryd.prog 48 #[.slice A l.length c, .slice (some ⟨q, 0, none⟩) pre.length cq, .int .i64 t] w fun e w' => ∃ g cg hd, e = .returned (.slice (some ⟨g, 0, none⟩) (allM r pre t).length cg) ∧ w.heap.size ≤ g ∧
      TGrow w' q g 28 3 (allM r pre t).length cg hd (allM r pre t) ∧ Below w.heap.size w w' := by
  have hl4 := stuffs_len hn
  obtain ⟨j0, ji, jz0, jz1, jz2⟩ := info_parts infoInt
  obtain ⟨k0, ki, kz0, kz1, kz2⟩ := info_parts infoRow
  induction r with
  | nil =>
    intro pre q cq t w hd hp ht0 ht hs hO hq
    have hpl : l.length = pre.length := by simpa using hp.symm
    rw [hpl]
    have hp4 : pre.length ≤ 4 := by omega
    clear hpl hp hd hl4
    have hT := TGrow.made w q 28 3 (Nat.le_of_lt hq)
    have hb0 : Below w.heap.size w (w.alloc (.cells #[] 28)) := (Below.refl _ _).alloc (Nat.le_refl _) _
    have hO0 := hO.below hb0
    go_enter Tryd.func48, Tryd.ntmps48
    by_cases h0 : t = 0
    · subst h0
      have hS := sees_head (w.alloc (.cells #[] 28)) 28 (.slice (some ⟨q, 0, none⟩) pre.length cq)
      have hz0 : (w.alloc (.cells #[] 28)).heap.size = w.heap.size + 1 := by simp
      rw [hz0] at hS
      clear hz0
      have hT1 := hT.alloc (.cells #[.slice (some ⟨q, 0, none⟩) pre.length cq] 28)
      have hO1 : Own ((w.alloc (.cells #[] 28)).alloc (.cells #[.slice (some ⟨q, 0, none⟩) pre.length cq] 28)) q (q + 1) 3 1 (some ⟨q, 0, none⟩) pre.length cq (ints pre) := hO0.below ((Below.refl _ _).alloc (Nat.le_refl _) _)
      have hb1 := hb0.alloc hb0.size (.cells #[.slice (some ⟨q, 0, none⟩) pre.length cq] 28)
      have hz1 : w.heap.size < ((w.alloc (.cells #[] 28)).alloc (.cells #[.slice (some ⟨q, 0, none⟩) pre.length cq] 28)).heap.size := by simp; omega
      go_wp2_with (at_builtin; go_loud (refine wpList_app0 (news := [.slice (some ⟨q, 0, none⟩) pre.length cq]) (m := 1) _ rfl (.tmp 19) (.tmp 21) _ rfl 28 k0 _ 1 24 Tryd.underlying69 ki kz0 kz1 kz2 rfl (by omega) rfl hT1.1 hz1 rfl hS (by rfl) (by simp [Value.oneCell']) (by omega) (by omega) ?_; intro g2 c2 w2 hO2 hor hlt hon))
      go_ret
      have e : allM [] pre 0 = [pre] := by rw [allM_nil, if_pos rfl]
      rw [e]
      have hJ := hT1.snoc hO1 (Nat.le_refl _) (by omega) (by simp; omega) hO2 (by omega) hlt hon
      exact ⟨g2, c2, _, rfl, by simp at hor; omega, hJ, hb1.trans (hon.below (Nat.le_refl _) (by simp; omega))⟩
    · go_wp2_with fail
      go_ret
      have e : allM [] pre t = [] := by rw [allM_nil, if_neg h0]
      rw [e]
      exact ⟨w.heap.size, 0, [], rfl, Nat.le_refl _, hT, hb0⟩
  | cons s r ih =>
    intro pre q cq t w hd hp ht0 ht hs hO hq
    obtain ⟨a1, a2, a3, a4, a5⟩ := s
    have hlt : pre.length < l.length := by simp only [List.length_cons] at hp; omega
    have hat : l[pre.length]? = some ⟨a1, a2, a3, a4, a5⟩ := by
      have e := List.getElem?_drop (xs := l) (i := pre.length) (j := 0)
      rw [hd] at e
      simpa using e.symm
    have hd1 : l.drop (pre.length + 1) = r := by rw [← List.drop_drop, hd]; rfl
    have hbd := stuff_bounds hn (List.mem_of_getElem? hat)
    simp only at hbd
    obtain ⟨_, _, _, _, _, _, _, _, hk0, hk9⟩ := hbd
    have hm := minI_eq t a5
    have hp1 : pre.length + 1 + r.length = l.length := by simp only [List.length_cons] at hp; omega
    have hM : ∀ pre t, (allM r pre t).length ≤ 1000 := fun pre t => by
      have h1 := allM_len r (fun s hs => by
        have : s ∈ l := by rw [← hd1] at hs; exact List.mem_of_mem_drop hs
        have := stuff_bounds hn this
        omega) pre t
      have h2 : 10 ^ r.length ≤ 10 ^ 3 := Nat.pow_le_pow_right (by omega) (by omega)
      omega
    have hN : ∀ k, (allN r pre t k).length ≤ k * 1000 := allN_len r pre t 1000 hM
    have Hp1 := Lib.hid hp1
    have Hat := Lib.hid hat
    have Hd1 := Lib.hid hd1
    have Hm := Lib.hid hm
    have HM := Lib.hid hM
    have HN := Lib.hid hN
    clear hp hp1 hat hd hd1 hm hM hN
    have hne : ((pre.length : Int) == (l.length : Int)) = false := by rw [beq_eq_false_iff_ne]; omega
    go_enter Tryd.func48, Tryd.ntmps48
    go_wp2_with fail
    go_loopw [7, 9] (fun o i wr => ∃ (k g cg : Nat) (hd : List (Option Addr × Nat)), (k : Int) ≤ minI t a5 + 1 ∧ i = .int .i64 k ∧ o = .slice (some ⟨g, 0, none⟩) (allN r pre t k).length cg ∧ w.heap.size ≤ g ∧ TGrow wr q g 28 3 (allN r pre t k).length cg hd (allN r pre t k) ∧ Below w.heap.size w wr) (fun _ i _ => 20 - (intOf i).toNat)
    case atStart => exact ⟨0, w.heap.size, 0, [], by have := Hm.out; omega, rfl, rfl, Nat.le_refl _, TGrow.made w q 28 3 (Nat.le_of_lt hq), (Below.refl _ _).alloc (Nat.le_refl _) _⟩
    case round =>
      obtain ⟨k, g, cg, hds, hk, rfl, rfl, hg, hT, hb⟩ := hrel
      have hs1 := hs.next hb
      obtain ⟨bb, off, y1, y2, y3, y4, y5, eA, hbb, hl, _, _, _, _, c4⟩ := hs1.stuff_at hlt
      have e5 : y5 = a5 := by
        rw [Hat.out] at hl
        injection hl with hl
        injection hl with _ _ _ _ h5
        exact h5.symm
      subst e5
      subst eA
      clear hl
      by_cases hc : (k : Int) ≤ minI t y5
      · have hA0 := own_made wr 3 1
        have hO0 := hO.below hb
        have hS0 : Sees (wr.alloc (.cells #[] 3)) (wr.alloc (.cells #[] 3)).heap.size (some ⟨q, 0, none⟩) (ints pre) := hO0.sees.next ((Below.refl _ _).alloc (Nat.le_refl _) _)
        have hz0 : wr.heap.size < (wr.alloc (.cells #[] 3)).heap.size := by simp
        go_wp2_with (first
          | (at_builtin; refine wpList_app0 _ rfl (.tmp 37) (.tmp 38) _ rfl 3 j0 _ 1 8 Tryd.underlying28 ji jz0 jz1 jz2 rfl (by omega) rfl hA0 hz0 rfl hS0 (by rw [ints_length, Nat.mul_one]) (one_ints _) (by omega) (by omega) ?_; intro g1 c1 w1 hO1 hor1 hlt1 hon1; rw [Nat.zero_add, List.nil_append] at hO1; have hlt2 : g1 < (w1.alloc (.cells #[.int .i64 (k : Int)] 3)).heap.size := by simp; omega)
          | (at_builtin; go_loud (refine wpList_app0 _ rfl (.tmp 39) (.tmp 41) _ rfl 3 j0 _ 1 8 Tryd.underlying28 ji jz0 jz1 jz2 rfl (by omega) rfl (hO1.below ((Below.refl _ _).alloc (Nat.le_refl _) _)) hlt2 rfl (sees_head w1 3 (.int .i64 (k : Int))) (by rfl) (by simp [Value.oneCell']) (by omega) (by omega) ?_; intro g2 c2 w2 hO2 hor2 hlt3 hon2)))
        have hO2' : Own w2 g2 (g2 + 1) 3 1 (some ⟨g2, 0, none⟩) (pre ++ [(k : Int)]).length c2 (ints (pre ++ [(k : Int)])) := by
          rw [ints_append, List.length_append]
          exact hO2
        have hb2 : Below wr.heap.size wr w2 := by
          have h1 := ((Below.refl wr.heap.size wr).alloc (Nat.le_refl _) (.cells #[] 3)).trans (hon1.below (Nat.le_refl _) (by simp))
          exact (h1.alloc h1.size (.cells #[.int .i64 (k : Int)] 3)).trans (hon2.below (by rcases hor1 with h | h <;> (try simp at h) <;> omega) (by have := h1.size; simp; omega))
        have hw : wrap64 (t - (k : Int)) = t - (k : Int) := by have hmm := Hm.out; rw [wrap_w64, w64_in (by omega) (by omega)]
        have hg2 : wr.heap.size ≤ g2 := by
          have h1 := hon1.size
          simp at h1
          rcases hor1 with h | h <;> rcases hor2 with h' | h' <;> (try simp at h) <;> (try simp at h') <;> omega
        have hgr : g < wr.heap.size := hT.2.1
        have hcall := ih (pre ++ [(k : Int)]) g2 c2 (t - (k : Int)) w2 (by rw [List.length_append]; exact Hd1.out) (by have := Hp1.out; simp only [List.length_append, List.length_singleton]; omega) (by have hmm := Hm.out; omega) (by omega) (hs1.next hb2) hO2' hlt3
        have el : (pre ++ [(k : Int)]).length = pre.length + 1 := by simp
        rw [el] at hcall
        rw [hw]
        refine hcall.mono ?_
        rintro _ w3 ⟨g3, c3, hd3, rfl, hg3, hT3, hb3⟩
        clear hcall el hw
        have hb23 := below_next hb2 hb3
        have hTw := hT.only (Only.of_below hb23 wr.heap.size wr.heap.size) (.inr (Nat.le_refl _))
        have hN := HN.out k
        have hM := HM.out (pre ++ [(k : Int)]) (t - (k : Int))
        have hk13 : k ≤ 13 := by have hmm := Hm.out; omega
        have hl3 : (heads hd3 (allM r (pre ++ [(k : Int)]) (t - (k : Int)))).length = (allM r (pre ++ [(k : Int)]) (t - (k : Int))).length * 1 := by rw [heads_length (by rw [hT3.2.2.2.1, hT3.2.2.2.2.1]), Nat.mul_one]
        go_wp2_with (at_builtin; go_loud (refine wpList_app0 _ rfl (.tmp 35) (.tmp 46) _ rfl 28 k0 _ 1 24 Tryd.underlying69 ki kz0 kz1 kz2 rfl (by omega) rfl hTw.1 hTw.2.1 rfl hT3.1.sees hl3 (one_heads _ _) (by omega) (by omega) ?_; intro g4 c4' w4 hO4 hor4 hlt4 hon4))
        go_roundw
        case rel =>
          have hJ := hTw.join (hd2 := hd3) (by rw [hT3.2.2.2.1, hT3.2.2.2.2.1]) (fun i a c' x ha hx => by
            obtain ⟨h, e, q1, q2, q3, q4⟩ := hT3.2.2.2.2.2 i a c' x ha hx
            exact ⟨h, e, by omega, by omega, q3, q4⟩) hO4 (by omega) hlt4 hon4
          rw [← allN_succ] at hJ
          exact ⟨k + 1, g4, c4', _, by have hmm := Hm.out; omega, by go_num, by rw [allN_succ, List.length_append], by have := hb23.size; omega, by rw [allN_succ, List.length_append, ← allN_succ]; exact hJ, below_only (below_next hb hb23) hon4 hg (Nat.le_refl _)⟩
        case measure => simp [intOf]; omega
      · go_wp2_with fail
        go_ret
        have ek : allM (⟨a1, a2, a3, a4, y5⟩ :: r) pre t = allN r pre t k := by
          rw [allM_cons]
          simp only
          have hmm := Hm.out
          have : (minI t y5 + 1).toNat = k := by omega
          rw [this]
        rw [ek]
        exact ⟨g, cg, rfl, hg, ⟨hds, hT⟩, hb⟩
end Go.Proofs.YtlhjncefckidjaaDoor
