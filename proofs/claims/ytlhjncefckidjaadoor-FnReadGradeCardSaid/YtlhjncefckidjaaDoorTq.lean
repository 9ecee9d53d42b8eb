/-
  How the reference cuts a text in pieces.
-/
import Derived.Test.YtlhjncefckidjaaDoorTr
import Derived.Test.YtlhjncefckidjaaDoorTg
import Derived.Test.YtlhjncefckidjaaDoorTake
namespace Go.Proofs.YtlhjncefckidjaaDoor
open Go.RowKit
set_option linter.unusedVariables false
def strs (ps : List (List UInt8)) : List Value := ps.map fun p => .string ⟨p.toArray⟩
theorem strs_length (ps : List (List UInt8)) : (strs ps).length = ps.length := by simp [strs]
theorem one_strs (ps : List (List UInt8)) : ∀ u ∈ strs ps, u.oneCell' = true := by
  intro u hu
  obtain ⟨x, _, rfl⟩ := List.mem_map.1 hu
  rfl
theorem infoStr : (Tryd.prog.info? 9).map (fun i => (i.zero, i.size, i.bytes)) = some (some (.string ByteArray.empty), 1, 16) := by kernel_rfl
theorem extract_is (s : ByteArray) (f k : Nat) : s.extract f k = ⟨((s.data.toList.take k).drop f).toArray⟩ := by
  apply ByteArray.ext
  apply Array.toList_inj.1
  rw [Lib.extract_data, List.drop_take]
theorem take_at (s : ByteArray) (k : Nat) (h : k < s.size) : s.data.toList.take (k + 1) = s.data.toList.take k ++ [s[k]] := by
  have h' : k < s.data.toList.length := by rw [← Lib.size_eq]; exact h
  rw [List.take_succ_eq_append_getElem h']
  rfl
set_option maxRecDepth 20000 in
set_option maxHeartbeats 1000000 in
theorem l1Cut_any (s : ByteArray) (c : UInt8) (hs : s.size ≤ 1048576) (w : World) : Calls Tryd.prog 60 #[.string s, .int .u8 c.toNat] w fun e w' => ∃ A cp, e = .returned (.slice A (pieces c s.data.toList).length cp) ∧
    Own w' w.heap.size w'.heap.size 9 1 A (pieces c s.data.toList).length cp (strs (pieces c s.data.toList)) ∧ Below w.heap.size w w' := by
  obtain ⟨j0, ji, jz0, jz1, jz2⟩ := info_parts infoStr
  go_enter Tryd.func60, Tryd.ntmps60
  go_wp2_with fail
  go_loopw [5, 6, 7] (fun ov fv kv wr => ∃ (k f : Nat) (done : List (List UInt8)) (cur : List UInt8) (A : Option Addr) (cp : Nat), k ≤ s.size ∧ done.length ≤ k ∧ f ≤ k ∧ kv = .int .i64 k ∧ fv = .int .i64 f ∧ ov = .slice A done.length cp ∧ (s.data.toList.take k).foldl (cutStep c) ([], []) = (done, cur) ∧ cur = (s.data.toList.take k).drop f ∧ Own wr w.heap.size wr.heap.size 9 1 A done.length cp (strs done) ∧ Below w.heap.size w wr) (fun _ _ kv _ => s.size - (intOf kv).toNat)
  case atStart => exact ⟨0, 0, [], [], _, 0, Nat.zero_le _, Nat.le_refl _, Nat.le_refl _, rfl, rfl, rfl, rfl, rfl, own_hi (own_made w 9 1) (by simp), (Below.refl _ _).alloc (Nat.le_refl _) _⟩
  case round =>
    obtain ⟨k, f, done, cur, A, cp, hk, hdl, hfk, rfl, rfl, rfl, hF, hcur, hO, hb⟩ := hrel
    have HF := Lib.hid hF
    have Hcur := Lib.hid hcur
    clear hF hcur
    by_cases hlt : k < s.size
    · by_cases hx : (s[k].toNat : Int) = (c.toNat : Int)
      · have hxe : s[k] = c := by rw [← UInt8.toNat_inj]; omega
        have hbq : ((s[k].toNat : Int) == (c.toNat : Int)) = true := by rw [beq_iff_eq]; exact hx
        go_wp2_with (at_builtin; go_loud (refine wpList_app _ rfl (.tmp 20) (.tmp 25) _ rfl 9 j0 _ 1 16 Tryd.underlying76 ji jz0 jz1 jz2 rfl (by omega) rfl (hO.below ((Below.refl _ _).alloc (Nat.le_refl _) _)) rfl (sees_head _ _ _) (by rfl) (by simp [Value.oneCell']) (by omega) (by omega) (by have := hb.size; simp; omega) ?_; intro A2 c2 w2 hO2 hon))
        go_roundw
        case rel =>
          have e1 : strs (done ++ [cur]) = strs done ++ [.string (s.extract f k)] := by
            rw [extract_is, ← Hcur.out]
            simp [strs]
          refine ⟨k + 1, k + 1, done ++ [cur], [], A2, c2, by omega, by simp; omega, Nat.le_refl _, by go_num, by go_num, by simp, ?_, ?_, ?_, ?_⟩
          · rw [take_at s k hlt, List.foldl_append, HF.out]
            simp [cutStep, hxe]
          · rw [List.drop_eq_nil_of_le (by simp; omega)]
          · rw [e1]
            simpa using hO2
          · exact below_only (hb.alloc hb.size _) hon (Nat.le_refl _) (Nat.le_refl _)
        case measure => simp [intOf]; omega
      · have hxe : ¬ s[k] = c := fun e => hx (by rw [e])
        have hbq : ((s[k].toNat : Int) == (c.toNat : Int)) = false := by rw [beq_eq_false_iff_ne]; exact hx
        go_wp2_with fail
        go_roundw
        case rel =>
          refine ⟨k + 1, f, done, cur ++ [s[k]], A, cp, by omega, by omega, by omega, by go_num, rfl, rfl, ?_, ?_, hO, hb⟩
          · rw [take_at s k hlt, List.foldl_append, HF.out]
            simp [cutStep, hxe]
          · rw [take_at s k hlt, List.drop_append_of_le_length (by simp; omega), ← Hcur.out]
        case measure => simp [intOf]; omega
    · go_wp2_with (at_builtin; go_loud (refine wpList_app _ rfl (.tmp 29) (.tmp 33) _ rfl 9 j0 _ 1 16 Tryd.underlying76 ji jz0 jz1 jz2 rfl (by omega) rfl (hO.below ((Below.refl _ _).alloc (Nat.le_refl _) _)) rfl (sees_head _ _ _) (by rfl) (by simp [Value.oneCell']) (by omega) (by omega) (by have := hb.size; simp; omega) ?_; intro A2 c2 w2 hO2 hon))
      go_ret
      have hkl : k = s.size := by omega
      have hl := Lib.size_eq s
      have hcur := Hcur.out
      have hF := HF.out
      rw [hkl, hl, List.take_length] at hcur hF
      have e0 : pieces c s.data.toList = done ++ [cur] := by rw [← pieces_loop, hF]
      have e1 : strs (done ++ [cur]) = strs done ++ [.string (s.extract f s.size)] := by
        rw [extract_is, hl, List.take_length, ← hcur]
        simp [strs]
      have e2 : (done ++ [cur]).length = done.length + 1 := by simp
      rw [e0, e1, e2]
      exact ⟨A2, c2, rfl, hO2, below_only (hb.alloc hb.size _) hon (Nat.le_refl _) (Nat.le_refl _)⟩
end Go.Proofs.YtlhjncefckidjaaDoor
