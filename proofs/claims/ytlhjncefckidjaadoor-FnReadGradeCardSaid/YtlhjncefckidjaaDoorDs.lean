/-
  Contracts of what is drawn for laws on single stuffs, and of the laws' fixed answer.
-/
import Derived.Test.YtlhjncefckidjaaDoorDr
import Derived.Test.YtlhjncefckidjaaDoorVal
import Derived.Test.YtlhjncefckidjaaDoorMix
namespace Go.Proofs.YtlhjncefckidjaaDoor
open Go.RowKit
set_option linter.unusedVariables false
section
variable {w w' w'' : World} {lo hi B r p : Nat}
theorem Only.setNew (h : Only lo hi w w') {q : Addr} (h1 : w.heap.size ≤ q.block) (u : Value) : Only lo hi w (w'.setCell q u) :=
  ⟨h.os, h.tape, h.output, by simpa using h.size, fun i hi' hr => (Below.heap_setCell w' q u i (by omega)).trans (h.block i hi' hr)⟩
theorem Only.of_drew (h : Only lo hi w.drew w') : Only lo hi w w' := ⟨h.os, h.tape, h.output, h.size, h.block⟩
theorem Rd.alloc (h : Rd w B r p) (o : Obj) : Rd (w.alloc o) B r p := h.below ((Below.refl _ _).alloc (Nat.le_refl _) _)
theorem Rd.setCell (h : Rd w B r p) {q : Addr} (hq : r < q.block) (u : Value) : Rd (w.setCell q u) B r p := by
  obtain ⟨A, n, c, l, hB, h1, h2, h3⟩ := h
  exact ⟨A, n, c, l, hB.other (by omega) u, h1, h2.below ((Below.refl _ _).setCell (by omega) _), h3⟩
theorem Blk.only {g : Nat} {t : TypeId} {cs : Array Value} (h : Blk w g t cs) (hb : Only lo hi w w') (hd : g < lo ∨ hi ≤ g) : Blk w' g t cs := (hb.block g h.lt hd).trans h
end
/-- What odd hands back. -/
def Odd (w : World) (B r p : Nat) (e : Ending) (w' : World) : Prop :=
  ∃ (b : Bool) (p' : Nat), p' ≤ p + 1 ∧ e = .returned (.bool b) ∧ Rd w' B r p' ∧ Only r (r + 1) w w'
theorem odd_any (B r p n : Nat) (w : World) (h : Rd w B r p) (hp : p ≤ 1000000) (hn' : n ≤ 1000000) :
    Calls Tryd.prog 63 #[.pointer (some ⟨r, 0, none⟩), .int .i64 n] w (Odd w B r p) := by
  by_cases hn : 0 < n
  · have hn1 : (0 : Int) < n := by omega
    go_enter Tryd.func63, Tryd.ntmps63
    go_wp2_with fail
    refine (pick_any B r p n _ h hp hn hn').mono ?_
    rintro _ w1 ⟨v, hv, rfl, hR, hO⟩
    go_wp2_with fail
    go_ret
    exact ⟨_, _, Nat.le_refl _, rfl, hR, hO⟩
  · obtain rfl : n = 0 := by omega
    go_enter Tryd.func63, Tryd.ntmps63
    go_wp2_with fail
    go_ret
    exact ⟨false, p, by omega, rfl, h, Only.refl _ _ _⟩
/-- What l20Open hands back. -/
def Opened (w : World) (e : Ending) (w' : World) : Prop :=
  e = .returned (.pointer (some ⟨w.heap.size, 0, none⟩)) ∧ Rd w' w.heap.size w.heap.size 0 ∧ Below w.heap.size w w'
theorem l20Open_any (A : Option Addr) (n c : Nat) (l : List Int) (w : World) (hs : Sees w w.heap.size A (bys l)) (hl : l.length = n) (hby : ∀ z ∈ l, byteB z) (hc : n ≤ c) (hm : c ≤ maxLen) :
    Calls Tryd.prog 37 #[.slice A n c] w (Opened w) := by
  have hm' := hm
  unfold maxLen at hm'
  by_cases h2 : n ≤ 2000
  · go_enter Tryd.func37, Tryd.ntmps37
    go_wp2_with fail
    go_ret
    refine ⟨rfl, ⟨A, n, c, l, Blk.made _ _ _, Nat.le_refl _, hs.below ((Below.refl _ _).alloc (Nat.le_refl _) _), hl, h2, hby⟩, (Below.refl _ _).alloc (Nat.le_refl _) _⟩
  · obtain ⟨b, off, x, rfl, hbB, hx, c0⟩ := hs.byte_at (k := 0) (by omega)
    clear hx c0
    have h3 : (2000 : Int) ≤ c := by omega
    go_enter Tryd.func37, Tryd.ntmps37
    go_wp2_with fail
    go_ret
    have ht : Sees w w.heap.size (some ⟨b, off, none⟩) (bys (l.take 2000)) := by
      have := hs.take (k := 2000)
      rwa [show (bys l).take 2000 = bys (l.take 2000) from by simp [bys]] at this
    exact ⟨rfl, ⟨_, 2000, c, l.take 2000, Blk.made _ _ _, Nat.le_refl _, ht.below ((Below.refl _ _).alloc (Nat.le_refl _) _), by simp; omega, Nat.le_refl _, fun z hz => hby z (List.mem_of_mem_take hz)⟩, (Below.refl _ _).alloc (Nat.le_refl _) _⟩
abbrev sv (s : Stuff) : Value := .agg #[.int .i64 s.c, .int .i64 s.m, .int .i64 s.s, .int .i64 s.p, .int .i64 s.k]
def smallS (s : Stuff) : Prop := (-1 ≤ s.c ∧ s.c ≤ 1000) ∧ (-1 ≤ s.m ∧ s.m ≤ 1000) ∧ (-1 ≤ s.s ∧ s.s ≤ 1000) ∧ (-1 ≤ s.p ∧ s.p ≤ 1000) ∧ (-1 ≤ s.k ∧ s.k ≤ 1000)
/-- A stuff is drawn. -/
def DrewS (w : World) (B r p : Nat) (e : Ending) (w' : World) : Prop :=
  ∃ (s : Stuff) (p' : Nat), smallS s ∧ p' ≤ p + 8 ∧ e = .returned (sv s) ∧ Rd w' B r p' ∧ Only r (r + 1) w w'
set_option maxHeartbeats 4000000 in
theorem l20Stuff_any (B r p n : Nat) (w : World) (h : Rd w B r p) (hp : p ≤ 100000) (hn' : n ≤ 1000000) :
    Calls Tryd.prog 62 #[.pointer (some ⟨r, 0, none⟩), .int .i64 n] w (DrewS w B r p) := by
  have hrw := h.lt
  go_enter Tryd.func62, Tryd.ntmps62
  have hB4 := Blk.made w 42 #[.int .i64 0, .int .i64 0, .int .i64 0, .int .i64 0, .int .i64 0]
  have hR := h.alloc (.cells #[.int .i64 0, .int .i64 0, .int .i64 0, .int .i64 0, .int .i64 0] 42)
  have hO : Only r (r + 1) w (w.alloc (.cells #[.int .i64 0, .int .i64 0, .int .i64 0, .int .i64 0, .int .i64 0] 42)) := (Only.refl _ _ _).alloc _
  go_wp2_with fail
  generalize w.alloc _ = W at hB4 hR hO ⊢
  refine (pick_any B r _ 9 _ hR (by omega) (by omega) (by omega)).mono ?_
  rintro _ w1 ⟨v1, hv1, rfl, hR1, hO1⟩
  replace hB4 := hB4.only hO1 (by omega)
  replace hO := hO.trans hO1
  clear hR hO1
  go_wp2_with fail
  refine (pick_any B r _ 7 _ hR1 (by omega) (by omega) (by omega)).mono ?_
  rintro _ w2 ⟨v2, hv2, rfl, hR, hO1⟩
  replace hB4 := hB4.only hO1 (by omega)
  replace hO := hO.trans hO1
  clear hR1 hO1
  go_wp2_with fail
  refine (pick_any B r _ 5 _ hR (by omega) (by omega) (by omega)).mono ?_
  rintro _ w3 ⟨v3, hv3, rfl, hR1, hO1⟩
  replace hB4 := hB4.only hO1 (by omega)
  replace hO := hO.trans hO1
  clear hR hO1
  go_wp2_with fail
  refine (pick_any B r _ 30 _ hR1 (by omega) (by omega) (by omega)).mono ?_
  rintro _ w4 ⟨v4, hv4, rfl, hR, hO1⟩
  replace hB4 := hB4.only hO1 (by omega)
  replace hO := hO.trans hO1
  clear hR1 hO1
  go_wp2_with fail
  refine (pick_any B r _ 10 _ hR (by omega) (by omega) (by omega)).mono ?_
  rintro _ w5 ⟨v5, hv5, rfl, hR1, hO1⟩
  replace hB4 := hB4.only hO1 (by omega)
  replace hO := hO.trans hO1
  clear hR hO1
  have hz5 := hO.size
  have hrw5 := hR1.lt
  go_wp2_with fail
  have hl45 := hB4.lt
  have hB5 := Blk.made w5 42 #[.int .i64 ((v1 : Int) * 5), .int .i64 ((v2 : Int) * 10), .int .i64 ((v3 : Int) * 10), .int .i64 ((v4 : Int)), .int .i64 ((v5 : Int))]
  replace hB4 := hB4.alloc (.cells #[.int .i64 ((v1 : Int) * 5), .int .i64 ((v2 : Int) * 10), .int .i64 ((v3 : Int) * 10), .int .i64 ((v4 : Int)), .int .i64 ((v5 : Int))] 42)
  have hR := hR1.alloc (.cells #[.int .i64 ((v1 : Int) * 5), .int .i64 ((v2 : Int) * 10), .int .i64 ((v3 : Int) * 10), .int .i64 ((v4 : Int)), .int .i64 ((v5 : Int))] 42)
  replace hO := hO.alloc (.cells #[.int .i64 ((v1 : Int) * 5), .int .i64 ((v2 : Int) * 10), .int .i64 ((v3 : Int) * 10), .int .i64 ((v4 : Int)), .int .i64 ((v5 : Int))] 42)
  clear hR1
  generalize w5.alloc _ = W5 at hB4 hB5 hR hO ⊢
  refine (odd_any B r _ n _ hR (by omega) hn').mono ?_
  rintro _ w6 ⟨b, p6, hp6, rfl, hR1, hO1⟩
  replace hB4 := hB4.only hO1 (by omega)
  replace hB5 := hB5.only hO1 (by omega)
  replace hO := hO.trans hO1
  clear hR hO1
  go_upto_if 22 with (fail)
  go_cut [] (fun wx => ∃ (s : Stuff) (p7 : Nat), smallS s ∧ p7 ≤ p + 8 ∧ Blk wx w5.heap.size 42 #[.int .i64 s.c, .int .i64 s.m, .int .i64 s.s, .int .i64 s.p, .int .i64 s.k] ∧ Blk wx w.heap.size 42 #[.int .i64 0, .int .i64 0, .int .i64 0, .int .i64 0, .int .i64 0] ∧ Rd wx B r p7 ∧ Only r (r + 1) w wx)
  case rest =>
    clear hB4 hB5 hR1 hO
    obtain ⟨s, p7, hsm, hp7, hB5, hB4, hR, hO⟩ := hcut
    have c4 := hB4.cell
    have f4 := hB4.frozen
    have c5 := hB5.cell
    go_wp2_with fail
    refine bodyPost_ret (v := sv s) (by simp [results, Tryd.results62, go_sem, c4]) rfl ⟨s, p7, hsm, hp7, rfl, ?_, ?_⟩
    · exact ((((hR.setCell hrw _).setCell hrw _).setCell hrw _).setCell hrw _).setCell hrw _
    · exact ((((hO.setNew (Nat.le_refl _) _).setNew (Nat.le_refl _) _).setNew (Nat.le_refl _) _).setNew (Nat.le_refl _) _).setNew (Nat.le_refl _) _
  case first =>
    cases b with
    | false =>
      have hR := hR1
      clear hR1
      go_wp2_with fail
      go_meet
      refine ⟨⟨(v1 : Int) * 5, (v2 : Int) * 10, (v3 : Int) * 10, (v4 : Int), (v5 : Int)⟩, p6, ?_, by omega, hB5, hB4, hR, hO⟩
      unfold smallS; simp only; omega
    | true =>
      go_wp2_with fail
      refine (pick_any B r _ 3 _ hR1 (by omega) (by omega) (by omega)).mono ?_
      rintro _ w7 ⟨v, hv, rfl, hR, hO1⟩
      replace hB4 := hB4.only hO1 (by omega)
      replace hB5 := hB5.only hO1 (by omega)
      replace hO := hO.trans hO1
      clear hR1 hO1
      have hz7 := hO.size
      have hl5 := hB5.lt
      have hr7 := hR.lt
      have hv3 : v = 0 ∨ v = 1 ∨ v = 2 := by omega
      clear hv
      rcases hv3 with rfl | rfl | rfl
      · have hBs := Blk.made w7 3 #[.int .i64 (-1), .int .i64 1000]
        replace hB4 := hB4.alloc (.cells #[.int .i64 (-1), .int .i64 1000] 3)
        replace hB5 := hB5.alloc (.cells #[.int .i64 (-1), .int .i64 1000] 3)
        have hR1 := hR.alloc (.cells #[.int .i64 (-1), .int .i64 1000] 3)
        replace hO := hO.alloc (.cells #[.int .i64 (-1), .int .i64 1000] 3)
        clear hR
        go_wp2_with fail
        generalize w7.alloc _ = W7 at hB4 hB5 hBs hR1 hO ⊢
        refine (pick_any B r _ 2 _ hR1 (by omega) (by omega) (by omega)).mono ?_
        rintro _ w8 ⟨u, hu, rfl, hR, hO1⟩
        replace hB4 := hB4.only hO1 (by omega)
        replace hB5 := hB5.only hO1 (by omega)
        replace hBs := hBs.only hO1 (by omega)
        replace hO := hO.trans hO1
        clear hR1 hO1
        have c5 := hB5.cell
        have f5 := hB5.frozen
        have cs := hBs.cell
        have hu2 : u = 0 ∨ u = 1 := by omega
        clear hu
        rcases hu2 with rfl | rfl
        · go_wp2_with fail
          go_meet
          refine ⟨⟨-1, (v2 : Int) * 10, (v3 : Int) * 10, (v4 : Int), (v5 : Int)⟩, p6 + 1 + 1, ?_, by omega, by simpa using hB5.put 0 (.int .i64 (-1)), hB4.other (by simp; omega) _, hR.setCell hrw5 _, hO.setNew hz5 _⟩
          unfold smallS; simp only; omega
        · go_wp2_with fail
          go_meet
          refine ⟨⟨1000, (v2 : Int) * 10, (v3 : Int) * 10, (v4 : Int), (v5 : Int)⟩, p6 + 1 + 1, ?_, by omega, by simpa using hB5.put 0 (.int .i64 (1000)), hB4.other (by simp; omega) _, hR.setCell hrw5 _, hO.setNew hz5 _⟩
          unfold smallS; simp only; omega
      · have hBs := Blk.made w7 3 #[.int .i64 (-1), .int .i64 100]
        replace hB4 := hB4.alloc (.cells #[.int .i64 (-1), .int .i64 100] 3)
        replace hB5 := hB5.alloc (.cells #[.int .i64 (-1), .int .i64 100] 3)
        have hR1 := hR.alloc (.cells #[.int .i64 (-1), .int .i64 100] 3)
        replace hO := hO.alloc (.cells #[.int .i64 (-1), .int .i64 100] 3)
        clear hR
        go_wp2_with fail
        generalize w7.alloc _ = W7 at hB4 hB5 hBs hR1 hO ⊢
        refine (pick_any B r _ 2 _ hR1 (by omega) (by omega) (by omega)).mono ?_
        rintro _ w8 ⟨u, hu, rfl, hR, hO1⟩
        replace hB4 := hB4.only hO1 (by omega)
        replace hB5 := hB5.only hO1 (by omega)
        replace hBs := hBs.only hO1 (by omega)
        replace hO := hO.trans hO1
        clear hR1 hO1
        have c5 := hB5.cell
        have f5 := hB5.frozen
        have cs := hBs.cell
        have hu2 : u = 0 ∨ u = 1 := by omega
        clear hu
        rcases hu2 with rfl | rfl
        · go_wp2_with fail
          go_meet
          refine ⟨⟨(v1 : Int) * 5, (v2 : Int) * 10, (v3 : Int) * 10, -1, (v5 : Int)⟩, p6 + 1 + 1, ?_, by omega, by simpa using hB5.put 3 (.int .i64 (-1)), hB4.other (by simp; omega) _, hR.setCell hrw5 _, hO.setNew hz5 _⟩
          unfold smallS; simp only; omega
        · go_wp2_with fail
          go_meet
          refine ⟨⟨(v1 : Int) * 5, (v2 : Int) * 10, (v3 : Int) * 10, 100, (v5 : Int)⟩, p6 + 1 + 1, ?_, by omega, by simpa using hB5.put 3 (.int .i64 (100)), hB4.other (by simp; omega) _, hR.setCell hrw5 _, hO.setNew hz5 _⟩
          unfold smallS; simp only; omega
      · have hBs := Blk.made w7 3 #[.int .i64 (-1), .int .i64 10]
        replace hB4 := hB4.alloc (.cells #[.int .i64 (-1), .int .i64 10] 3)
        replace hB5 := hB5.alloc (.cells #[.int .i64 (-1), .int .i64 10] 3)
        have hR1 := hR.alloc (.cells #[.int .i64 (-1), .int .i64 10] 3)
        replace hO := hO.alloc (.cells #[.int .i64 (-1), .int .i64 10] 3)
        clear hR
        go_wp2_with fail
        generalize w7.alloc _ = W7 at hB4 hB5 hBs hR1 hO ⊢
        refine (pick_any B r _ 2 _ hR1 (by omega) (by omega) (by omega)).mono ?_
        rintro _ w8 ⟨u, hu, rfl, hR, hO1⟩
        replace hB4 := hB4.only hO1 (by omega)
        replace hB5 := hB5.only hO1 (by omega)
        replace hBs := hBs.only hO1 (by omega)
        replace hO := hO.trans hO1
        clear hR1 hO1
        have c5 := hB5.cell
        have f5 := hB5.frozen
        have cs := hBs.cell
        have hu2 : u = 0 ∨ u = 1 := by omega
        clear hu
        rcases hu2 with rfl | rfl
        · go_wp2_with fail
          go_meet
          refine ⟨⟨(v1 : Int) * 5, (v2 : Int) * 10, (v3 : Int) * 10, (v4 : Int), -1⟩, p6 + 1 + 1, ?_, by omega, by simpa using hB5.put 4 (.int .i64 (-1)), hB4.other (by simp; omega) _, hR.setCell hrw5 _, hO.setNew hz5 _⟩
          unfold smallS; simp only; omega
        · go_wp2_with fail
          go_meet
          refine ⟨⟨(v1 : Int) * 5, (v2 : Int) * 10, (v3 : Int) * 10, (v4 : Int), 10⟩, p6 + 1 + 1, ?_, by omega, by simpa using hB5.put 4 (.int .i64 (10)), hB4.other (by simp; omega) _, hR.setCell hrw5 _, hO.setNew hz5 _⟩
          unfold smallS; simp only; omega
theorem gradeText_bad (a b c d e f : Int) (w : World) (h : gradeOk ⟨a, b, c, d, e, f⟩ = false) : Calls Tryd.prog 29 #[.agg #[.int .i64 a, .int .i64 b, .int .i64 c, .int .i64 d, .int .i64 e, .int .i64 f]] w fun E w' => E = .returned (.string ⟨#[]⟩) ∧ Below w.heap.size w w' := by
  go_enter Tryd.func29, Tryd.ntmps29
  have hb : Below w.heap.size w (w.alloc (.cells #[.int .i64 a, .int .i64 b, .int .i64 c, .int .i64 d, .int .i64 e, .int .i64 f] 25)) := (Below.refl _ _).alloc (Nat.le_refl _) _
  go_wp2_with fail
  generalize w.alloc _ = W at hb ⊢
  refine (gradeValid_any _ _ _ _ _ _ _).mono ?_
  rintro _ w1 ⟨rfl, hb1⟩
  rw [h]
  go_wp2_with fail
  go_ret
  exact ⟨rfl, below_next hb hb1⟩
theorem alive_any (w : World) : Calls Tryd.prog 19 #[] w fun E w' => E = .returned (.bool true) ∧ Below w.heap.size w w' := by
  go_enter Tryd.func19, Tryd.ntmps19
  have hb : Below w.heap.size w (w.alloc (.cells #[.int .i64 2, .int .i64 3] 3)) := (Below.refl _ _).alloc (Nat.le_refl _) _
  have hs : Sees (w.alloc (.cells #[.int .i64 2, .int .i64 3] 3)) (w.alloc (.cells #[.int .i64 2, .int .i64 3] 3)).heap.size (some ⟨w.heap.size, 0, none⟩) (ints [2, 3]) := by
    refine .inr ⟨w.heap.size, 0, rfl, by simp, fun j u hu => ?_⟩
    rw [(Blk.made w 3 #[.int .i64 2, .int .i64 3]).cell, Nat.zero_add, ← hu]
    rcases j with _ | _ | j
    · rfl
    · rfl
    · simp [ints]
  go_wp2_with fail
  generalize w.alloc _ = W at hb hs ⊢
  refine (mixTons_any _ _ [2, 3] _ hs (by simp)).mono ?_
  rintro _ _ ⟨rfl, rfl⟩
  rw [show tonsOf [2, 3] = 5 from by decide]
  go_wp2_with fail
  refine (gradeText_bad _ _ _ _ _ _ _ (by decide)).mono ?_
  rintro _ w1 ⟨rfl, hb1⟩
  go_wp2_with fail
  go_ret
  exact ⟨rfl, below_next hb hb1⟩
end Go.Proofs.YtlhjncefckidjaaDoor
