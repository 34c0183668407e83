/-
  What both Parses return, byte by byte. Condition: the text is no longer than any text can be.
-/
import Derived.Test.YthfclapnkemjiaaGreatDoorParse2
namespace Go.Proofs.YthfclapnkemjiaaGreatDoor
open Go.RowKit
set_option linter.unusedSimpArgs false
set_option linter.unusedVariables false

theorem sz3 (s : ByteArray) : s.data.toList.length = s.size := Array.length_toList
theorem idx_str (s : ByteArray) (k : Nat) (b : UInt8) (h : s.data.toList[k]? = some b) (w : World) : (Instr.index 9 (.string s) (.int .i64 (k : Int))).run Tryz.prog w = .ok (.int .u8 (b.toNat : Int)) w := by
  have hk : k < s.data.toList.length := by
    rcases Nat.lt_or_ge k s.data.toList.length with h1 | h1
    · exact h1
    · rw [List.getElem?_eq_none h1] at h; cases h
  rw [sz3] at hk
  rw [run_index_string w 9 s .i64 k Tryz.underlying9, dif_pos ⟨by omega, by omega⟩]
  have e : s[(k : Int).toNat]'(by omega) = b := by
    rw [List.getElem?_eq_getElem (by rw [sz3]; exact hk)] at h
    exact Option.some.inj h
  rw [e]
theorem byte_bd (b : UInt8) : 0 ≤ (b.toNat : Int) ∧ (b.toNat : Int) ≤ 255 := by
  have := b.toNat_lt
  omega
/-- what the names are, byte by byte -/
theorem decL_one (q : Nat) (hq : q < 10) : decL q = [48 + q.toUInt8] := by unfold decL; rw [if_pos hq]
theorem let_one : ∀ n : Nat, n < 256 → 0 ≤ letN (n : Int) → letL (letN (n : Int)).toNat = [n.toUInt8] := by decide +kernel
theorem dig_one : ∀ n : Nat, n < 256 → 48 ≤ n → n ≤ 57 → (48 + (n - 48).toUInt8 : UInt8) = n.toUInt8 := by decide +kernel
theorem back8 (b : UInt8) : b.toNat.toUInt8 = b := by simp
theorem hit_list (st L a : Int) (x y : UInt8) (s : ByteArray) (hL : L = letN (x.toNat : Int)) (hst : st = 7 * ((y.toNat : Int) - 48) + L) (ha : -1 ≤ a ∧ a ≤ 1) :
    hit st L a s = (decide (0 ≤ L ∧ 48 ≤ (y.toNat : Int) ∧ (y.toNat : Int) ≤ 57) && ([x] ++ accL a ++ [y] == s.data.toList)) := by
  have hbx := byte_bd x
  have hby := byte_bd y
  have hLb := letN_bd _ hbx.1 hbx.2
  rw [← hL] at hLb
  unfold hit
  by_cases h0 : 0 ≤ L
  · by_cases h1 : 48 ≤ (y.toNat : Int) ∧ (y.toNat : Int) ≤ 57
    · have hs : 0 ≤ st ∧ st < 70 ∧ -1 ≤ a ∧ a ≤ 1 := by omega
      rw [decide_eq_true h0, decide_eq_true hs, decide_eq_true (show 0 ≤ L ∧ 48 ≤ (y.toNat : Int) ∧ (y.toNat : Int) ≤ 57 from ⟨h0, h1.1, h1.2⟩), Bool.true_and, Bool.true_and, Bool.true_and]
      have e : (nameB st a).toList = [x] ++ accL a ++ [y] := by
        rw [ByteArray.toList_eq]
        show nameL st a = _
        unfold nameL
        rw [show st % 7 = L by omega, show (st / 7).toNat = y.toNat - 48 by omega, decL_one _ (by omega), dig_one _ (by omega) (by omega) (by omega), back8, hL, let_one x.toNat (by omega) (by rw [← hL]; exact h0), back8]
      rw [e, ByteArray.toList_eq]
    · have hs : ¬ (0 ≤ st ∧ st < 70 ∧ -1 ≤ a ∧ a ≤ 1) := by omega
      rw [decide_eq_false hs, decide_eq_false (show ¬ (0 ≤ L ∧ 48 ≤ (y.toNat : Int) ∧ (y.toNat : Int) ≤ 57) from fun h => h1 h.2), Bool.false_and, Bool.and_false, Bool.false_and]
  · rw [decide_eq_false h0, decide_eq_false (show ¬ (0 ≤ L ∧ 48 ≤ (y.toNat : Int) ∧ (y.toNat : Int) ≤ 57) from fun h => h0 h.1), Bool.false_and, Bool.false_and]
theorem parseL2 (a b : UInt8) : parseL [a, b] = if letN a.toNat < 0 ∨ (b.toNat : Int) < 48 ∨ 57 < (b.toNat : Int) then (0, 0, 5) else (7 * ((b.toNat : Int) - 48) + letN a.toNat, 0, 0) := rfl
theorem parseL3 (a m b : UInt8) : parseL [a, m, b] = if letN a.toNat < 0 ∨ (b.toNat : Int) < 48 ∨ 57 < (b.toNat : Int) then (0, 0, 5) else if m = 35 then (7 * ((b.toNat : Int) - 48) + letN a.toNat, 1, 0) else if m = 98 then (7 * ((b.toNat : Int) - 48) + letN a.toNat, -1, 0) else (0, 0, 5) := rfl
theorem parse_list (s : ByteArray) (x y : UInt8) (hx : s.data.toList[0]? = some x) (hy : s.data.toList[s.size - 1]? = some y) : parse3 x.toNat y.toNat s = parseL s.data.toList := by
  have h := fun a ha => hit_list (7 * ((y.toNat : Int) - 48) + letN (x.toNat : Int)) (letN (x.toNat : Int)) a x y s rfl rfl ha
  unfold parse3
  rw [h (-1) (by omega), h 0 (by omega), h 1 (by omega)]
  clear h
  rw [← sz3] at hy
  have e1 : accL (-1) = [98] := rfl
  have e2 : accL 0 = [] := rfl
  have e3 : accL 1 = [35] := rfl
  rw [e1, e2, e3]
  generalize s.data.toList = l at *
  match l, hx, hy with
  | [a], hx, hy => simp at hx hy; subst hx; simp [parseL]
  | [a, b], hx, hy =>
    simp at hx hy; subst hx; subst hy
    rw [parseL2]
    by_cases hb : letN (a.toNat : Int) < 0 ∨ (b.toNat : Int) < 48 ∨ 57 < (b.toNat : Int)
    · rw [if_pos hb, decide_eq_false (by omega)]; rfl
    · rw [if_neg hb, decide_eq_true (by omega)]; simp
  | [a, m, b], hx, hy =>
    simp at hx hy; subst hx; subst hy
    rw [parseL3]
    by_cases hb : letN (a.toNat : Int) < 0 ∨ (b.toNat : Int) < 48 ∨ 57 < (b.toNat : Int)
    · rw [if_pos hb, decide_eq_false (by omega)]; rfl
    · rw [if_neg hb, decide_eq_true (by omega)]
      by_cases hm : m = 35
      · subst hm; simp
      · rw [if_neg hm]
        by_cases hm2 : m = 98
        · subst hm2; simp
        · have q1 : ¬ (98 : UInt8) = m := fun h => hm2 h.symm
          have q2 : ¬ (35 : UInt8) = m := fun h => hm h.symm
          simp [hm2, q1, q2]
  | a :: b :: c :: d :: l, hx, hy =>
    have : parseL (a :: b :: c :: d :: l) = (0, 0, 5) := rfl
    rw [this]
    simp
/-- both give the same three numbers -/
theorem Parse_both (s : ByteArray) (hsz : s.size ≤ maxLen) : ∃ x y z : Int, (∀ w, Calls Tryz.prog 12 #[.string s] w fun e w' => e = .returned (.tuple #[.agg #[.int .i64 x, .int .i64 y], .int .i64 z]) ∧ Below w.heap.size w w') ∧
    (∀ w, Calls Tryz.prog 13 #[.string s] w fun e w' => e = .returned (.tuple #[.agg #[.int .i64 x, .int .i64 y], .int .i64 z]) ∧ Below w.heap.size w w') := by
  rcases Nat.eq_zero_or_pos s.size with h0 | h0
  · have hs : s = ⟨#[]⟩ := by
      apply Go.WideShapes.bytes_inj
      rw [← sz3] at h0
      rw [List.eq_nil_of_length_eq_zero h0]
    refine ⟨0, 0, 5, fun w => ?_, fun w => rParse_size s w (by omega) hsz⟩
    rw [hs]
    exact Parse_empty w
  · obtain ⟨x, hx⟩ : ∃ x, s.data.toList[0]? = some x := ⟨_, List.getElem?_eq_getElem (by rw [sz3]; omega)⟩
    obtain ⟨y, hy⟩ : ∃ y, s.data.toList[s.size - 1]? = some y := ⟨_, List.getElem?_eq_getElem (by rw [sz3]; omega)⟩
    have hI0 := fun w => idx_str s 0 x hx w
    have hI1 := fun w => idx_str s (s.size - 1) y hy w
    rw [show ((s.size - 1 : Nat) : Int) = (s.size : Int) - 1 by omega] at hI1
    have hbx := byte_bd x
    have hby := byte_bd y
    have H1 := fun w => Parse_some s x.toNat y.toNat w h0 hsz hbx.1 hbx.2 hby.1 hby.2 hI0 hI1
    refine ⟨_, _, _, H1, fun w => ?_⟩
    rw [parse_list s x y hx hy]
    have hlen := sz3 s
    match hl : s.data.toList, hx, hy with
    | [a], hx, hy =>
      rw [hl] at hlen
      exact rParse_size s w (by simp at hlen; omega) hsz
    | [a, b], hx, hy =>
      rw [hl] at hlen
      have hz2 : s.size = 2 := by simp at hlen; omega
      rw [hz2] at hy hI1
      simp at hx hy
      subst hx
      subst hy
      rw [parseL2]
      by_cases hb : letN (a.toNat : Int) < 0 ∨ (b.toNat : Int) < 48 ∨ 57 < (b.toNat : Int)
      · rw [if_pos hb]
        exact rParse_bytes s 2 a.toNat b.toNat w (by omega) (.inl rfl) hbx.1 hbx.2 hby.1 hby.2 hb hI0 hI1
      · rw [if_neg hb]
        exact rParse_two s a.toNat b.toNat w (by omega) hbx.1 hbx.2 (by omega) (by omega) (by omega) hI0 hI1
    | [a, m, b], hx, hy =>
      rw [hl] at hlen
      have hz3 : s.size = 3 := by simp at hlen; omega
      rw [hz3] at hy hI1
      simp at hx hy
      subst hx
      subst hy
      rw [parseL3]
      have hbm := byte_bd m
      by_cases hb : letN (a.toNat : Int) < 0 ∨ (b.toNat : Int) < 48 ∨ 57 < (b.toNat : Int)
      · rw [if_pos hb]
        exact rParse_bytes s 3 a.toNat b.toNat w (by omega) (.inr rfl) hbx.1 hbx.2 hby.1 hby.2 hb hI0 hI1
      · rw [if_neg hb]
        have H := rParse_three s a.toNat m.toNat b.toNat w (by omega) hbx.1 hbx.2 hbm.1 hbm.2 (by omega) (by omega) (by omega) hI0 (fun w => idx_str s 1 m (by rw [hl]; rfl) w) hI1
        by_cases h35 : m = 35
        · subst h35
          exact H
        · rw [if_neg h35]
          have n35 : ¬ (m.toNat : Int) = 35 := fun h => h35 (UInt8.toNat_inj.1 (by show m.toNat = 35; omega))
          rw [if_neg n35] at H
          by_cases h98 : m = 98
          · subst h98
            exact H
          · rw [if_neg h98]
            have n98 : ¬ (m.toNat : Int) = 98 := fun h => h98 (UInt8.toNat_inj.1 (by show m.toNat = 98; omega))
            rw [if_neg n98] at H
            exact H
    | a :: b :: c :: d :: l, hx, hy =>
      rw [hl] at hlen
      exact rParse_size s w (by simp at hlen; omega) hsz
end Go.Proofs.YthfclapnkemjiaaGreatDoor
