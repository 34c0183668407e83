/-
  The reference's act in plain Lean: what its words and numbers make is the act of the line. No conditions.
-/
import Derived.Test.YtpcefaccoifejaaGreatDoorZT2
import Derived.Test.YtpcefaccoifejaaGreatDoorZT5
namespace Go.Proofs.YtpcefaccoifejaaGreatDoor
open Go.RowKit
set_option linter.unusedSimpArgs false
set_option linter.unusedVariables false
set_option maxRecDepth 100000

theorem itS_inj {a b : Int} (h1 : -1000000 ≤ a) (h2 : a ≤ 1000000) (h3 : -1000000 ≤ b) (h4 : b ≤ 1000000) (h : itS a = itS b) : a = b := by
  have e1 := num_itoa h1 h2
  rw [h, num_itoa h3 h4] at e1
  exact (Option.some.inj e1).symm
theorem numR_it {n x : Int} (h : NumR (itS n) x) (h1 : -1000000 ≤ n) (h2 : n ≤ 1000000) : x = n := by
  rcases h with ⟨_, h⟩ | ⟨h3, h4, h⟩
  · exact absurd rfl (h n h1 h2)
  · exact itS_inj h3 h4 h1 h2 h
theorem numR_in {s : List UInt8} {x : Int} (h : NumR s x) (hx : x ≤ 1000000) : -1000000 ≤ x ∧ x ≤ 1000000 := by
  rcases h with ⟨rfl, _⟩ | ⟨h1, h2, _⟩
  · omega
  · exact ⟨h1, h2⟩
theorem numR_zero {x : Int} (h : NumR [48] x) : x = 0 := by
  have e : itS 0 = [48] := by unfold itS Lib.itoa Lib.decDigits; rfl
  rw [← e] at h
  exact numR_it h (by decide) (by decide)
theorem ract_some {s : List UInt8} {b : Ac} (h : actO s = some b) : wordsOf s = lineWordsG b ∧ FitN b ∧ lineR b = s := by
  obtain ⟨hf, hl⟩ := actO_some h
  rw [lineG_R] at hl
  have hs : lineR b = s := List.append_inj_left' hl rfl
  refine ⟨?_, hf, hs⟩
  have hne : lineWordsG b ≠ [] := by unfold lineWordsG; simp
  rw [← hs]
  exact wordsOf_join hne (fun x hx => (words_plain b x hx).1)
theorem actO_short {s : List UInt8} (h : (wordsOf s).length < 6 ∨ 7 < (wordsOf s).length) : actO s = none := by
  unfold actO
  rw [if_neg (by omega)]
/-- a number of the act is one of a line -/
def Big (m x1 x2 x3 x5 xv : Int) : Prop := m = 0 ∨ 1000000 < x1 ∨ 1000000 < x2 ∨ 1000000 < x3 ∨ 1000000 < x5 ∨ 1000000 < xv
theorem ract_from {s : List UInt8} {a : Ac} (hk : ∀ b, actO s = some b → b = a ∧ ¬ Big a.2.1.2.2.2.1 a.2.1.1 a.2.1.2.1 a.2.1.2.2.1 a.2.1.2.2.2.2 a.2.2) (hf : ¬ Big a.2.1.2.2.2.1 a.2.1.1 a.2.1.2.1 a.2.1.2.2.1 a.2.1.2.2.2.2 a.2.2 → FitN a) :
    (Big a.2.1.2.2.2.1 a.2.1.1 a.2.1.2.1 a.2.1.2.2.1 a.2.1.2.2.2.2 a.2.2 → actO s = none) ∧ (¬ Big a.2.1.2.2.2.1 a.2.1.1 a.2.1.2.1 a.2.1.2.2.1 a.2.1.2.2.2.2 a.2.2 → FitN a ∧ actO s = if lineR a = s then some a else none) := by
  constructor
  · intro hb
    cases ho : actO s with
    | none => rfl
    | some b => exact absurd hb (hk b ho).2
  · intro hb
    have hfa := hf hb
    refine ⟨hfa, ?_⟩
    by_cases hl : lineR a = s
    · rw [if_pos hl]
      exact actO_line hfa (by rw [lineG_R, hl])
    · rw [if_neg hl]
      cases ho : actO s with
      | none => rfl
      | some b =>
        obtain ⟨_, _, hs⟩ := ract_some ho
        rw [(hk b ho).1] at hs
        exact absurd hs hl
theorem fit_of {m : Nat} {k x1 x2 x3 x5 xv : Int} {w1 w2 w3 w5 w6 : List UInt8} (hm : m < 17) (hk : k = 1 ∨ k = 2) (n1 : NumR w1 x1) (n2 : NumR w2 x2) (n3 : NumR w3 x3) (n5 : NumR w5 x5) (nv : NumR w6 xv) (h0 : k = 2 → xv = 0) (hb : ¬ Big (m : Int) x1 x2 x3 x5 xv) : FitN (k, (x1, x2, x3, (m : Int), x5), xv) := by
  unfold Big at hb
  have b1 : x1 ≤ 1000000 := by omega
  have b2 : x2 ≤ 1000000 := by omega
  have b3 : x3 ≤ 1000000 := by omega
  have b5 : x5 ≤ 1000000 := by omega
  have bv : xv ≤ 1000000 := by omega
  refine ⟨⟨hk, ?_⟩, numR_in n1 b1, numR_in n2 b2, numR_in n3 b3, numR_in n5 b5, numR_in nv bv, h0⟩
  show 1 ≤ (m : Int) ∧ (m : Int) ≤ 16
  omega
theorem ract7 {s w0 w1 w2 w3 w4 w5 w6 : List UInt8} (hw : wordsOf s = [w0, w1, w2, w3, w4, w5, w6]) {x1 x2 x3 x5 xv : Int} (n1 : NumR w1 x1) (n2 : NumR w2 x2) (n3 : NumR w3 x3) (n5 : NumR w5 x5) (nv : NumR w6 xv) :
    (Big (nameIx w4 : Int) x1 x2 x3 x5 xv → actO s = none) ∧ (¬ Big (nameIx w4 : Int) x1 x2 x3 x5 xv → FitN (1, (x1, x2, x3, (nameIx w4 : Int), x5), xv) ∧ actO s = if lineR (1, (x1, x2, x3, (nameIx w4 : Int), x5), xv) = s then some (1, (x1, x2, x3, (nameIx w4 : Int), x5), xv) else none) := by
  refine ract_from (a := (1, (x1, x2, x3, (nameIx w4 : Int), x5), xv)) (fun b hb => ?_) (fit_of (nameIx_lt w4) (.inl rfl) n1 n2 n3 n5 nv (fun h => absurd h (by decide)))
  obtain ⟨hws, hf, hs⟩ := ract_some hb
  obtain ⟨k, ⟨y1, y2, y3, y4, y5⟩, yv⟩ := b
  have hk := hf.kind
  have g1 := hf.n1
  have g2 := hf.n2
  have g3 := hf.n3
  have g5 := hf.n5
  have gv := hf.nv
  obtain ⟨q1, q2⟩ := hf.what
  simp only at hk g1 g2 g3 g5 gv q1 q2
  obtain ⟨m, rfl⟩ : ∃ m : Nat, y4 = m := ⟨y4.toNat, by omega⟩
  rw [hw] at hws
  unfold lineWordsG at hws
  rcases hk with rfl | rfl
  · simp only [if_true, List.cons_append, List.nil_append, List.cons.injEq, and_true, Int.toNat_natCast] at hws
    obtain ⟨_, rfl, rfl, rfl, rfl, rfl, rfl⟩ := hws
    have e1 := numR_it n1 g1.1 g1.2
    have e2 := numR_it n2 g2.1 g2.2
    have e3 := numR_it n3 g3.1 g3.2
    have e5 := numR_it n5 g5.1 g5.2
    have ev := numR_it nv gv.1 gv.2
    have em := nameIx_name (m := m) (by omega)
    subst e1 e2 e3 e5 ev
    rw [em]
    refine ⟨rfl, ?_⟩
    unfold Big
    simp only
    omega
  · simp at hws
theorem ract6 {s w0 w1 w2 w3 w4 w5 : List UInt8} (hw : wordsOf s = [w0, w1, w2, w3, w4, w5]) {x1 x2 x3 x5 xv : Int} (n1 : NumR w1 x1) (n2 : NumR w2 x2) (n3 : NumR w3 x3) (n5 : NumR w5 x5) (nv : NumR [48] xv) :
    (Big (nameIx w4 : Int) x1 x2 x3 x5 xv → actO s = none) ∧ (¬ Big (nameIx w4 : Int) x1 x2 x3 x5 xv → FitN (2, (x1, x2, x3, (nameIx w4 : Int), x5), xv) ∧ actO s = if lineR (2, (x1, x2, x3, (nameIx w4 : Int), x5), xv) = s then some (2, (x1, x2, x3, (nameIx w4 : Int), x5), xv) else none) := by
  have hv0 := numR_zero nv
  subst hv0
  refine ract_from (a := (2, (x1, x2, x3, (nameIx w4 : Int), x5), 0)) (fun b hb => ?_) (fit_of (nameIx_lt w4) (.inr rfl) n1 n2 n3 n5 nv (fun _ => rfl))
  obtain ⟨hws, hf, hs⟩ := ract_some hb
  obtain ⟨k, ⟨y1, y2, y3, y4, y5⟩, yv⟩ := b
  have hk := hf.kind
  have g1 := hf.n1
  have g2 := hf.n2
  have g3 := hf.n3
  have g5 := hf.n5
  have g0 := hf.v0
  obtain ⟨q1, q2⟩ := hf.what
  simp only at hk g1 g2 g3 g5 g0 q1 q2
  obtain ⟨m, rfl⟩ : ∃ m : Nat, y4 = m := ⟨y4.toNat, by omega⟩
  rw [hw] at hws
  unfold lineWordsG at hws
  rcases hk with rfl | rfl
  · simp at hws
  · simp at hws
    obtain ⟨_, rfl, rfl, rfl, rfl, rfl⟩ := hws
    have e1 := numR_it n1 g1.1 g1.2
    have e2 := numR_it n2 g2.1 g2.2
    have e3 := numR_it n3 g3.1 g3.2
    have e5 := numR_it n5 g5.1 g5.2
    have em := nameIx_name (m := m) (by omega)
    have ev := g0 rfl
    subst e1 e2 e3 e5 ev
    rw [em]
    refine ⟨rfl, ?_⟩
    unfold Big
    simp only
    omega
/-- the number of a name, found by going over all of them -/
def whatN (l : List UInt8) : Nat → Nat
  | 0 => 0
  | j + 1 => if nameOf (j + 1) = l then j + 1 else whatN l j
theorem whatN_none {l : List UInt8} (h : l ∉ nameT) : ∀ j, j ≤ 16 → whatN l j = 0
  | 0, _ => rfl
  | j + 1, hj => by
    have hm : nameOf (j + 1) ∈ nameT := by
      unfold nameOf
      rw [List.getD_eq_getElem?_getD, List.getElem?_eq_getElem (show j + 1 < nameT.length from by show j + 1 < 17; omega)]
      exact List.getElem_mem _
    rw [whatN, if_neg (fun e : nameOf (j + 1) = l => h (by rw [← e]; exact hm)), whatN_none h j (by omega)]
theorem whatN_all (l : List UInt8) : whatN l 16 = nameIx l := by
  by_cases h : l ∈ nameT
  · obtain ⟨m, hm, e⟩ := List.getElem_of_mem h
    have hm17 : m < 17 := hm
    have el : l = nameOf m := by
      unfold nameOf
      rw [List.getD_eq_getElem?_getD, List.getElem?_eq_getElem hm, e]
      rfl
    rw [el]
    have : ∀ m, m < 17 → whatN (nameOf m) 16 = nameIx (nameOf m) := by decide
    exact this m hm17
  · rw [whatN_none h 16 (Nat.le_refl _)]
    unfold nameIx
    rw [if_neg h]
theorem len6 {ws : List (List UInt8)} (h : ws.length = 6) : ∃ w0 w1 w2 w3 w4 w5, ws = [w0, w1, w2, w3, w4, w5] := by
  match ws, h with
  | [a, b, c, d, e, f], _ => exact ⟨a, b, c, d, e, f, rfl⟩
theorem len7 {ws : List (List UInt8)} (h : ws.length = 7) : ∃ w0 w1 w2 w3 w4 w5 w6, ws = [w0, w1, w2, w3, w4, w5, w6] := by
  match ws, h with
  | [a, b, c, d, e, f, g], _ => exact ⟨a, b, c, d, e, f, g, rfl⟩
end Go.Proofs.YtpcefaccoifejaaGreatDoor
