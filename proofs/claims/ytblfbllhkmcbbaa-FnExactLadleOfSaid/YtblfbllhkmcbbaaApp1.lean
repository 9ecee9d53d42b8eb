/-
  Go's append of something onto a row whose block is known: where the new row lies.
-/
import Derived.Test.YtblfbllhkmcbbaaApp
namespace Go.Proofs.Ytblfbllhkmcbbaa
open Go.RowKit
section
variable {P : Program} (w : World)
theorem run_app1 (t ty e : TypeId) (i : TypeInfo) (z : Value) (size bytes : Nat) (ht : P.underlying t = some (.slice e)) (hi : P.info? e = some i) (hz : i.zero = some z)
    (hsize : i.size = size) (hby : i.bytes = bytes) (hzs : z.cells.size = size) (hsz : 0 < size)
    {g n c : Nat} {xs : List Value} (hown : Own w g (g + 1) e size (some ⟨g, 0, none⟩) n c xs) (hg : g < w.heap.size)
    {B : Nat} {A2 : Option Addr} {m c2 : Nat} {news : List Value} (hs : Sees w B A2 news) (hl : news.length = m * size) (h1 : ∀ u ∈ news, u.oneCell' = true) (hm : 0 < m)
    (hnm : n + m ≤ 1000000000) (hbb : bytes ≤ 100000) :
    ∃ g' c' w', (Builtin.append_ #[t, t] ty #[.slice (some ⟨g, 0, none⟩) n c, .slice A2 m c2]).run P w = .ok (.slice (some ⟨g', 0, none⟩) (n + m) c') w' ∧ Own w' g' (g' + 1) e size (some ⟨g', 0, none⟩) (n + m) c' (xs ++ news) ∧ (g' = g ∨ g' = w.heap.size) ∧ g' < w'.heap.size ∧ Only g (g + 1) w w' := by
  have hbytes : (n + m) * bytes ≤ 140737488355328 := Nat.le_trans (Nat.mul_le_mul hnm hbb) (by decide)
  have hpos : 0 < news.length := by rw [hl]; exact Nat.mul_pos hm hsz
  rcases hs with h | ⟨b, off, rfl, _, hc⟩
  · rw [h] at hpos; simp at hpos
  have hcells : ∀ j u, news[j]? = some u → w.cell? ((⟨b, off, none⟩ : Addr).add j) = some u := by
    intro j u hu
    have := hc j u hu
    by_cases hj : j = 0
    · subst hj; simpa [Addr.add] using this
    · simpa [Addr.add, hj] using this
  obtain ⟨v', w', hrun, h2, h3, _, h5⟩ := run_append_own_at (P := P) w g t ty e i z size bytes ht hi hz hsize hby hzs hsz (.slice (some ⟨g, 0, none⟩) n c) n xs hown.1 ⟨b, off, none⟩ m c2 news hl hcells h1 (by simp only [maxLen]; omega) hbytes (Nat.le_of_lt hg)
  obtain ⟨hl2, h2⟩ := h2
  rcases h2 with ⟨_, h0⟩ | ⟨g', cap, cur, rfl, hg', hb, hn', hm', hsz', hx⟩
  · omega
  refine ⟨g', cap, w', hrun, ⟨⟨hl2, .inr ⟨g', cap, cur, rfl, Nat.le_refl _, hb, hn', hm', hsz', hx⟩⟩, fun g'' h => ?_⟩, ?_, Blk.lt (t := e) hb, ?_⟩
  · simp [Value.ownBlock] at h
    omega
  · simpa [Value.ownBlock] using h5
  · refine ⟨h3.os, h3.tape, h3.output, h3.size, fun k hk hr => h3.block k hk fun e => ?_⟩
    simp [Value.ownBlock] at e
    omega
theorem wpList_app1 {ops : Array Oper} {rest : List Oper} {o : Oper} {a : Act} {Q : Exit → Act → World → Prop} (hgd : o.guard = none) (s x : Operand) (t : TypeId)
    (ho : o.op = .call { callee := .builtin .append, args := #[s, x], argTypes := #[t, t] })
    (e : TypeId) (i : TypeInfo) (z : Value) (size bytes : Nat) (ht : P.underlying t = some (.slice e)) (hi : P.info? e = some i) (hz : i.zero = some z)
    (hsize : i.size = size) (hby : i.bytes = bytes) (hzs : z.cells.size = size) (hsz : 0 < size)
    {g n c : Nat} {xs : List Value} (hv : a.eval s = .slice (some ⟨g, 0, none⟩) n c) (hown : Own w g (g + 1) e size (some ⟨g, 0, none⟩) n c xs) (hg : g < w.heap.size)
    {B : Nat} {A2 : Option Addr} {m c2 : Nat} {news : List Value} (hx : a.eval x = .slice A2 m c2) (hs : Sees w B A2 news) (hl : news.length = m * size) (h1 : ∀ u ∈ news, u.oneCell' = true) (hm : 0 < m)
    (hnm : n + m ≤ 1000000000) (hbb : bytes ≤ 100000)
    (h : ∀ g' c' w', Own w' g' (g' + 1) e size (some ⟨g', 0, none⟩) (n + m) c' (xs ++ news) → (g' = g ∨ g' = w.heap.size) → g' < w'.heap.size → Only g (g + 1) w w' → wpList P ops Q rest (a.put o.dst (.slice (some ⟨g', 0, none⟩) (n + m) c')) w') : wpList P ops Q (o :: rest) a w :=
  wpList_plain hgd fun _ hK => by
    obtain ⟨g', c', w', hr, h2, h3, h4, h5⟩ := run_app1 (P := P) w t o.type e i z size bytes ht hi hz hsize hby hzs hsz hown hg (c2 := c2) hs hl h1 hm hnm hbb
    unfold Oper.wp execOp
    simp only [ho, resolve, invoke, builtin, Sem.run_bind, Sem.run_pure, Result.andThen_ok, List.map_toArray, List.map_cons, List.map_nil, hv, hx, hr]
    exact hK _ _ (h g' c' w' h2 h3 h4 h5)
end
end Go.Proofs.Ytblfbllhkmcbbaa
