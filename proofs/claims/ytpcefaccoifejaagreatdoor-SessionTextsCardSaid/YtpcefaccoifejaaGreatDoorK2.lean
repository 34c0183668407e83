/-
  Contracts of custoskit over options, features and places: copies and comparisons. Conditions: what is read lies in memory as SW says, and is not too long.
-/
import Derived.Test.YtpcefaccoifejaaGreatDoorK1
namespace Go.Proofs.YtpcefaccoifejaaGreatDoor
open Go.RowKit Go.Maps
set_option linter.unusedSimpArgs false
set_option linter.unusedVariables false
set_option maxRecDepth 100000

theorem infoOpt : Tryz.prog.info? 41 = some Tryz.t41 := by kernel_rfl
/-- the cells behind a row's start, as one list -/
theorem flat_cells {α : Type} [Inhabited α] {enc : α → List Value} {k : Nat} (hk : ∀ x, (enc x).length = k) (h0 : 0 < k) {w : World} {b off : Nat} {l : List α}
    (h : ∀ i, i < l.length → ∀ j u, (enc (l.getD i default))[j]? = some u → w.cell? ⟨b, off + i * k + j, none⟩ = some u) : ∀ j u, (l.flatMap enc)[j]? = some u → w.cell? ((⟨b, off, none⟩ : Addr).add j) = some u := by
  intro j u hu
  have hl := flatMap_len enc k hk l
  have hj : j < l.length * k := by
    obtain ⟨hj, _⟩ := List.getElem?_eq_some_iff.1 hu
    omega
  have hi : j / k < l.length := (Nat.div_lt_iff_lt_mul h0).2 hj
  have hm : j % k < k := Nat.mod_lt _ h0
  have he : j = j / k * k + j % k := by rw [Nat.mul_comm]; exact (Nat.div_add_mod j k).symm
  have hg : l.getD (j / k) default = l[j / k] := by rw [List.getD_eq_getElem?_getD, List.getElem?_eq_getElem hi]; rfl
  have hlt : j % k < (enc l[j / k]).length := by rw [hk]; exact hm
  have h1 := flatMap_at enc k hk l (j / k) (j % k) hi _ (List.getElem?_eq_getElem hlt)
  rw [← he, hu] at h1
  have h2 := h (j / k) hi (j % k) u (by rw [hg, List.getElem?_eq_getElem hlt]; exact h1.symm)
  rw [Go.WideShapes.add_plain]
  rw [show off + j = off + j / k * k + j % k by omega]
  exact h2
theorem optV_one (os : List Opt) : ∀ u ∈ os.flatMap optV, u.oneCell' = true := by
  intro u hu
  obtain ⟨o, _, ho⟩ := List.mem_flatMap.1 hu
  simp only [optV, List.mem_cons, List.not_mem_nil, or_false] at ho
  rcases ho with rfl | rfl <;> rfl
theorem CopyOptions_c (v : Value) (os : List Opt) (lo hi : Nat) (w : World) (h : OptsAt w lo hi v os) (hl : os.length ≤ 1000000) :
    Calls Tryz.prog 82 #[v] w fun e w' => ∃ v', e = .returned v' ∧ w'.ownsRow w.heap.size 41 2 v' os.length (os.flatMap optV) ∧ Below w.heap.size w w' := by
  obtain ⟨a, cap, rfl, hz, hr⟩ := h
  cases a with
  | none =>
    have hn : os = [] := by
      cases os with
      | nil => rfl
      | cons o r =>
        obtain ⟨b, off, hb, _⟩ := hr (by simp)
        cases hb
    obtain rfl := hz rfl
    subst hn
    have ha := fun w => run_append_owned_none (P := Tryz.prog) w 0 45 45 41 Tryz.t41 2 Tryz.underlying45 infoOpt (.slice none 0 0) 0 [] (World.ownsRow_nil w 0 _ _)
    clear hr hz
    go_enter Tryz.func82, Tryz.ntmps82
    go_wp2
    go_ret
    exact ⟨_, rfl, World.ownsRow_nil _ _ _ _, Below.refl _ _⟩
  | some ad =>
    have hc : Hid (∀ j u, (os.flatMap optV)[j]? = some u → w.cell? (ad.add j) = some u) := by
      intro j u hu
      cases os with
      | nil => simp at hu
      | cons o r =>
        obtain ⟨b, off, hb, _, _, h3⟩ := hr (by simp)
        injection hb with hb
        subst hb
        exact flat_cells optV_len (by decide) h3 j u hu
    have hf := flatMap_len optV 2 optV_len os
    have h1 := Lib.hid (optV_one os)
    have hI := Lib.hid infoOpt
    generalize os.flatMap optV = ks at *
    generalize os.length = n at *
    clear hr hz
    go_enter Tryz.func82, Tryz.ntmps82
    go_wp2_with (at_builtin; go_loud (refine wpList_append_own _ rfl (.tmp 4) (.tmp 5) _ rfl w.heap.size 41 Tryz.t41 _ 2 16 rfl hI.out rfl rfl rfl rfl (by omega) (.slice none 0 0) 0 [] rfl (World.ownsRow_nil _ _ _ _) ad n cap ks rfl hf hc.out h1.out (by simp only [maxLen]; omega) (by omega) (Nat.le_refl _) ?_); intro v' w' ho hg hn)
    go_ret
    rw [Nat.zero_add, List.nil_append] at ho
    exact ⟨_, rfl, ho, (Below.refl _ _).grown hg (Nat.le_refl _) (fun j hj => by cases hj)⟩
end Go.Proofs.YtpcefaccoifejaaGreatDoor
