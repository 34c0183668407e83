/-
  Texts of very many acts in plain Lean: what follows behind them decides. No conditions.
-/
import Derived.Test.YtpcefaccoifejaaGreatDoorZT6a
import Derived.Test.YtpcefaccoifejaaGreatDoorTX3
import Derived.Test.YtpcefaccoifejaaGreatDoorAW0
namespace Go.Proofs.YtpcefaccoifejaaGreatDoor
open Go.RowKit
set_option linter.unusedSimpArgs false
set_option linter.unusedVariables false

theorem parseGo_app (r : List UInt8) : ∀ (acts : List Ac) (f : Nat) (acc : List Ac), (∀ a ∈ acts, FitN a) → acc.length + acts.length ≤ 4096 → (formatG acts ++ r).length ≤ f → ∃ f', r.length ≤ f' ∧ parseGo f acc (formatG acts ++ r) = parseGo f' (acc ++ acts) r
  | [], f, acc, _, _, hf => ⟨f, by simpa [formatG] using hf, by simp [formatG]⟩
  | a :: l, f, acc, h, hl, hf => by
    have hF : formatG (a :: l) ++ r = Lib.join (lineWordsG a) [32] ++ 10 :: (formatG l ++ r) := by
      show (a :: l).flatMap lineG ++ r = _
      rw [List.flatMap_cons]
      show (lineG a ++ formatG l) ++ r = _
      unfold lineG
      simp
    rw [hF] at hf ⊢
    simp only [List.length_append, List.length_cons] at hf hl
    cases f with
    | zero => omega
    | succ f =>
      have ha : actO (Lib.join (lineWordsG a) [32]) = some a := actO_line (h a (by simp)) rfl
      have hc := cut_word 10 (Lib.join (lineWordsG a) [32]) (formatG l ++ r) (line_plain a)
      have e := parseGo_next (f := f) (acc := acc) (t := Lib.join (lineWordsG a) [32] ++ 10 :: (formatG l ++ r)) (a := a) (by simp) (by rw [hc]; exact ha) (by rw [hc]) (by omega)
      rw [hc] at e
      obtain ⟨f', hf', e2⟩ := parseGo_app r l f (acc ++ [a]) (fun x hx => h x (by simp [hx])) (by simp; omega) (by simp only [List.length_append]; omega)
      exact ⟨f', hf', by rw [e, e2]; simp⟩
/-- one act more than there may be -/
theorem parse_more {acts : List Ac} {a : Ac} (h : ∀ x ∈ acts, FitN x) (ha : FitN a) (hl : acts.length = 4096) (ht : (formatG acts ++ lineG a).length ≤ 131072) : parseO (formatG acts ++ lineG a) = ([], 4096, 4) := by
  unfold parseO
  rw [if_neg (by omega)]
  obtain ⟨f, hf, e⟩ := parseGo_app (lineG a) acts _ [] h (by simp; omega) (Nat.le_refl _)
  rw [e]
  have hp := lineG_pos a
  obtain ⟨f, rfl⟩ : ∃ g, f = g + 1 := ⟨f - 1, by omega⟩
  have hL : lineG a = Lib.join (lineWordsG a) [32] ++ 10 :: [] := rfl
  have hc := cut_word 10 (Lib.join (lineWordsG a) [32]) [] (line_plain a)
  have := parseGo_many (f := f) (acc := [] ++ acts) (t := lineG a) (a := a) (by rw [hL]; simp) (by rw [hL, hc]; exact actO_line ha rfl) (by rw [hL, hc]) (by simp; omega)
  rw [this]
  simp [hl]
/-- a line that is none, behind all the acts that there may be -/
theorem parse_spoilt {acts : List Ac} {x : List UInt8} (h : ∀ x ∈ acts, FitN x) (hx : actO x = none) (h10 : (10 : UInt8) ∉ x) (hl : acts.length ≤ 4096) (ht : (formatG acts ++ (x ++ [10])).length ≤ 131072) : parseO (formatG acts ++ (x ++ [10])) = ([], acts.length, 5) := by
  unfold parseO
  rw [if_neg (by omega)]
  obtain ⟨f, hf, e⟩ := parseGo_app (x ++ [10]) acts _ [] h (by simpa using hl) (Nat.le_refl _)
  rw [e]
  obtain ⟨f, rfl⟩ : ∃ g, f = g + 1 := ⟨f - 1, by simp at hf; omega⟩
  have hc := cut_word 10 x [] h10
  have := parseGo_none (f := f) (acc := [] ++ acts) (t := x ++ [10]) (by simp) (by rw [hc]; exact hx)
  rw [this]
  simp
end Go.Proofs.YtpcefaccoifejaaGreatDoor
