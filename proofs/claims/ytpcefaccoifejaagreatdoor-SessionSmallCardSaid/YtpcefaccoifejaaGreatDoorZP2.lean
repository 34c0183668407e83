/-
  Four thousand and ninety-six times the same act, and a session merged with itself, in plain Lean. No conditions.
-/
import Derived.Test.YtpcefaccoifejaaGreatDoorZP1
import Derived.Test.YtpcefaccoifejaaGreatDoorME2
namespace Go.Proofs.YtpcefaccoifejaaGreatDoor
open Go.RowKit
set_option linter.unusedSimpArgs false
set_option linter.unusedVariables false
set_option maxRecDepth 100000

theorem clash_self (fs : List Ft) (acts : List Ac) : clashL fs acts acts = [] := by
  unfold clashL
  have : fs.filter (clashB acts acts) = [] := by
    rw [List.filter_eq_nil_iff]
    intro f _
    unfold clashB
    simp
  rw [this]
  rfl
theorem merge_self (fs : List Ft) (acts : List Ac) : mergeA fs acts acts = acts ++ acts := by
  unfold mergeA
  rw [clash_self]
  unfold keepA
  exact List.filter_eq_self.2 (fun a _ => by simp)
theorem fit_B : FitN actB := ⟨⟨by decide, by decide⟩, by decide, by decide, by decide, by decide, by decide, by decide⟩
theorem line_B : lineG actB = [99, 111, 110, 102, 105, 114, 109, 32, 48, 32, 48, 32, 51, 32, 104, 101, 97, 100, 32, 52, 10] := by decide +kernel
theorem format_rep (n : Nat) : (formatG (List.replicate n actB)).length = n * 21 := by
  induction n with
  | zero => rfl
  | succ n ih =>
    unfold formatG at ih ⊢
    rw [List.replicate_succ, List.flatMap_cons, List.length_append, ih, line_B]
    simp only [List.length_cons, List.length_nil]
    omega
theorem rep_fit (n : Nat) : ∀ x ∈ List.replicate n actB, FitN x := fun x hx => by rw [(List.mem_replicate.1 hx).2]; exact fit_B
def wordC : List UInt8 := [99, 111, 110, 102, 105, 114, 109]
theorem word_none : actO wordC = none := by
  apply actO_short
  have : wordsOf wordC = [wordC] := by
    have := wordsOf_join (ws := [wordC]) (by simp) (fun x hx => by rw [List.mem_singleton.1 hx]; decide)
    rwa [Lib.join_one] at this
  rw [this]
  exact .inl (by decide)
theorem parse_rep : parseO (formatG (List.replicate 4096 actB)) = (List.replicate 4096 actB, 0, 0) := parse_fmt (rep_fit 4096) (by simp) (by rw [format_rep]; omega)
theorem parse_rep_more : parseO (formatG (List.replicate 4096 actB) ++ lineG actB) = ([], 4096, 4) := parse_more (rep_fit 4096) fit_B (by simp) (by rw [List.length_append, format_rep, line_B]; simp)
theorem parse_rep_bad : parseO (formatG (List.replicate 4096 actB) ++ (wordC ++ [10])) = ([], 4096, 5) := by
  have := parse_spoilt (acts := List.replicate 4096 actB) (x := wordC) (rep_fit 4096) word_none (by decide) (by simp) (by rw [List.length_append, format_rep]; simp [wordC])
  simpa using this
/-- the act of Small, with a value that is not kept -/
def actC (v : Int) : Ac := (2, (0, 0, 3, 7, 4), v)
theorem doE_C (v : Int) (acts : List Ac) : doE pairL acts (actC v) = if 4096 ≤ acts.length then 4 else 0 := by
  have h : atF pairL (0, 0, 3, 7, 4) = some 0 := by decide
  unfold doE actC
  simp only
  rw [if_neg (by decide), h]
  simp
theorem doA_C (v : Int) {n : Nat} (hn : n < 4096) : doA pairL (List.replicate n actB) (actC v) = List.replicate (n + 1) actB := by
  unfold doA
  rw [if_pos (by rw [doE_C, if_neg (by simp; omega)]), List.replicate_succ']
  rfl
end Go.Proofs.YtpcefaccoifejaaGreatDoor
