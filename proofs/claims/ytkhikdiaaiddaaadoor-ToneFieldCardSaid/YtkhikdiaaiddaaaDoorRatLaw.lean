/-
  Fractions in lowest terms are rational numbers: what Ratio, Add, Sub, Mul, Div and Cmp of package tone return for them. Conditions: the results' parts are no greater than the limit.
-/
import Derived.Test.YtkhikdiaaiddaaaDoorCmp
namespace Go.Proofs.YtkhikdiaaiddaaaDoor
open Go.RowKit

/-- both parts are within the limit -/
def smQ (q : Rat) : Prop := q.num.natAbs ≤ 1048576 ∧ q.den ≤ 1048576
theorem ratio_q (n d : Int) (hd : d ≠ 0) (hs : smQ (Rat.divInt n d)) :
    ratioN n d = (Rat.divInt n d).num ∧ ratioD n d = ((Rat.divInt n d).den : Int) ∧ ratioE n d = 0 := by
  have hN := Rat.num_divInt n d
  have hD := Rat.den_divInt n d
  rw [if_neg hd] at hD
  rw [Int.gcd_comm d n] at hN hD
  have hg : Int.gcd n d = Nat.gcd n.natAbs d.natAbs := rfl
  rw [hg] at hN hD
  have hpos : 0 < Nat.gcd n.natAbs d.natAbs := Nat.gcd_pos_of_pos_right _ (by omega)
  obtain ⟨P, hP⟩ := Nat.gcd_dvd_left n.natAbs d.natAbs
  obtain ⟨Q, hQ⟩ := Nat.gcd_dvd_right n.natAbs d.natAbs
  generalize (Rat.divInt n d) = q at *
  obtain ⟨s1, s2⟩ := hs
  unfold ratioN ratioD ratioE
  generalize Nat.gcd n.natAbs d.natAbs = g at *
  have e1 : n.natAbs / g = P := by rw [hP, Nat.mul_div_cancel_left _ hpos]
  have e2 : d.natAbs / g = Q := by rw [hQ, Nat.mul_div_cancel_left _ hpos]
  rw [e1, e2, if_neg hd, if_neg hd, if_neg hd]
  rw [e2] at hD
  have hgi : (g : Int) ≠ 0 := by omega
  have dv : ∀ x : Int, ((g : Int) * x) / (g : Int) = x := fun x => Int.mul_ediv_cancel_left x hgi
  have hQ0 : 0 < Q := by
    rcases Nat.eq_zero_or_pos Q with h | h
    · rw [h] at hQ; omega
    · exact h
  have hnum : q.num = if (decide (n < 0) != decide (d < 0)) = true then -(P : Int) else (P : Int) := by
    have hn : n = g * (P : Int) ∨ n = g * (-(P : Int)) := by
      have : (n.natAbs : Int) = g * (P : Int) := by rw [hP]; simp
      rw [Int.mul_neg]
      omega
    rw [hN]
    rcases Int.lt_or_gt_of_ne hd with h | h
    · rw [Int.sign_eq_neg_one_of_neg h, decide_eq_true h]
      rcases Nat.eq_zero_or_pos P with hp | hp
      · subst hp
        have : n = 0 := by rcases hn with h | h <;> simpa using h
        subst this
        simp
      · rcases hn with e | e
        · have : ¬ n < 0 := by rw [e]; have := Int.mul_pos (by omega : (0 : Int) < g) (by omega : (0 : Int) < P); omega
          rw [decide_eq_false this, e, show -1 * ((g : Int) * (P : Int)) = g * (-(P : Int)) by rw [Int.mul_neg]; omega, dv]
          rfl
        · have : n < 0 := by rw [e, Int.mul_neg]; have := Int.mul_pos (by omega : (0 : Int) < g) (by omega : (0 : Int) < P); omega
          rw [decide_eq_true this, e, show -1 * ((g : Int) * (-(P : Int))) = g * (P : Int) by rw [Int.mul_neg]; omega, dv]
          rfl
    · have h' : ¬ d < 0 := by omega
      rw [Int.sign_eq_one_of_pos h, decide_eq_false h', Int.one_mul]
      rcases Nat.eq_zero_or_pos P with hp | hp
      · subst hp
        have : n = 0 := by rcases hn with h | h <;> simpa using h
        subst this
        simp
      · rcases hn with e | e
        · have : ¬ n < 0 := by rw [e]; have := Int.mul_pos (by omega : (0 : Int) < g) (by omega : (0 : Int) < P); omega
          rw [decide_eq_false this, e, dv]
          rfl
        · have : n < 0 := by rw [e, Int.mul_neg]; have := Int.mul_pos (by omega : (0 : Int) < g) (by omega : (0 : Int) < P); omega
          rw [decide_eq_true this, e, dv]
          rfl
  have hPn : q.num.natAbs = P := by rw [hnum]; split <;> omega
  rw [hPn] at s1
  rw [hD] at s2
  have hb : ¬ (1048576 < P ∨ 1048576 < Q) := by omega
  rw [if_neg hb, if_neg hb, if_neg hb, hnum, hD]
  exact ⟨rfl, rfl, rfl⟩

theorem divInt_self_q (q : Rat) : Rat.divInt q.num q.den = q := Rat.num_divInt_den q
theorem den_ne (q : Rat) : (q.den : Int) ≠ 0 := by have := q.den_nz; omega
theorem validB_q (q : Rat) (h : smQ q) : validB q.num q.den = true := by
  obtain ⟨h1, h2, h3⟩ := ratio_q q.num q.den (den_ne q) (by rw [divInt_self_q]; exact h)
  rw [divInt_self_q] at h1 h2
  unfold validB
  exact decide_eq_true ⟨h3, h1, h2⟩
theorem smQ_i64 {q : Rat} (h : smQ q) : i64P q.num ∧ i64P q.den := by
  obtain ⟨h1, h2⟩ := h
  unfold i64P
  omega
/-- a fraction as a value -/
def qV (q : Rat) : Value := .agg #[.int .i64 q.num, .int .i64 q.den]
/-- what is returned without an error -/
def okQ (q : Rat) : Value := .tuple #[.agg #[.int .i64 q.num, .int .i64 q.den], .int .i64 0]
theorem ratioV_q (n d : Int) (hd : d ≠ 0) (q : Rat) (hq : Rat.divInt n d = q) (hs : smQ q) : ratioV n d = okQ q := by
  subst hq
  obtain ⟨h1, h2, h3⟩ := ratio_q n d hd hs
  unfold ratioV okQ
  rw [h1, h2, h3]
theorem den_mul_ne (a b : Rat) : (a.den : Int) * b.den ≠ 0 := Int.mul_ne_zero (den_ne a) (den_ne b)
section
variable (a b : Rat) (ha : smQ a) (hb : smQ b) (w : World)
include ha hb
theorem Add_q (h : smQ (a + b)) : Calls Tryd.prog 27 #[qV a, qV b] w fun e w' => e = .returned (okQ (a + b)) ∧ Below w.heap.size w w' := by
  have H := Add_c a.num a.den b.num b.den w (smQ_i64 ha).1 (smQ_i64 ha).2 (smQ_i64 hb).1 (smQ_i64 hb).2
  rw [validB_q a ha, validB_q b hb, Bool.and_self, fracV_true, ratioV_q _ _ (den_mul_ne a b) (a + b) ?_ h] at H
  · exact H
  · rw [Int.one_mul, Rat.add_def', ← Rat.divInt_ofNat, Int.natCast_mul]
theorem Sub_q (h : smQ (a - b)) : Calls Tryd.prog 40 #[qV a, qV b] w fun e w' => e = .returned (okQ (a - b)) ∧ Below w.heap.size w w' := by
  have H := Sub_c a.num a.den b.num b.den w (smQ_i64 ha).1 (smQ_i64 ha).2 (smQ_i64 hb).1 (smQ_i64 hb).2
  rw [validB_q a ha, validB_q b hb, Bool.and_self, fracV_true, ratioV_q _ _ (den_mul_ne a b) (a - b) ?_ h] at H
  · exact H
  · rw [Rat.sub_def', ← Rat.divInt_ofNat, Int.natCast_mul, show -1 * b.num * (a.den : Int) = -(b.num * a.den) by rw [Int.neg_mul, Int.one_mul, Int.neg_mul], Int.sub_eq_add_neg]
theorem Mul_q (h : smQ (a * b)) : Calls Tryd.prog 28 #[qV a, qV b] w fun e w' => e = .returned (okQ (a * b)) ∧ Below w.heap.size w w' := by
  have H := Mul_c a.num a.den b.num b.den w (smQ_i64 ha).1 (smQ_i64 ha).2 (smQ_i64 hb).1 (smQ_i64 hb).2
  rw [validB_q a ha, validB_q b hb, Bool.and_self, fracV_true, ratioV_q _ _ (den_mul_ne a b) (a * b) ?_ h] at H
  · exact H
  · rw [Rat.mul_def', ← Rat.divInt_ofNat, Int.natCast_mul]
theorem Div_q (h0 : b ≠ 0) (h : smQ (a / b)) : Calls Tryd.prog 26 #[qV a, qV b] w fun e w' => e = .returned (okQ (a / b)) ∧ Below w.heap.size w w' := by
  have H := Div_c a.num a.den b.num b.den w (smQ_i64 ha).1 (smQ_i64 ha).2 (smQ_i64 hb).1 (smQ_i64 hb).2
  have hn : b.num ≠ 0 := fun h => h0 (Rat.num_eq_zero.1 h)
  rw [validB_q a ha, validB_q b hb, Bool.and_self, fracV_true, ratioV_q _ _ (Int.mul_ne_zero (den_ne a) hn) (a / b) ?_ h] at H
  · exact H
  · rw [Rat.div_def, Rat.inv_def]
    have e : a * Rat.divInt b.den b.num = Rat.divInt a.num a.den * Rat.divInt b.den b.num := by rw [divInt_self_q]
    rw [e, Rat.divInt_mul_divInt]
theorem Div_0 (h0 : b = 0) : Calls Tryd.prog 26 #[qV a, qV b] w fun e w' => e = .returned (.tuple #[.agg #[.int .i64 0, .int .i64 0], .int .i64 1]) ∧ Below w.heap.size w w' := by
  have H := Div_c a.num a.den b.num b.den w (smQ_i64 ha).1 (smQ_i64 ha).2 (smQ_i64 hb).1 (smQ_i64 hb).2
  rw [validB_q a ha, validB_q b hb, Bool.and_self, fracV_true] at H
  have e : ratioV (a.num * b.den) (a.den * b.num) = .tuple #[.agg #[.int .i64 0, .int .i64 0], .int .i64 1] := by
    rw [h0]
    show ratioV (a.num * 1) (a.den * 0) = _
    rw [Int.mul_zero]
    unfold ratioV ratioN ratioD ratioE
    rw [if_pos rfl, if_pos rfl, if_pos rfl]
  rw [e] at H
  exact H
theorem Cmp_q : Calls Tryd.prog 41 #[qV a, qV b] w fun e w' => e = .returned (.tuple #[.int .i64 (if a < b then -1 else if b < a then 1 else 0), .int .i64 0]) ∧ Below w.heap.size w w' := by
  have H := Cmp_c a.num a.den b.num b.den w (smQ_i64 ha).1 (smQ_i64 ha).2 (smQ_i64 hb).1 (smQ_i64 hb).2
  rw [validB_q a ha, validB_q b hb] at H
  have e : cmp3 (a.num * b.den) (b.num * a.den) = if a < b then -1 else if b < a then 1 else 0 := by
    unfold cmp3
    simp only [Rat.lt_iff]
  rw [← e]
  exact H
end
/-- the parts of n/d are no greater than n and d -/
theorem smQ_divInt (n d : Int) (hd : d ≠ 0) : (Rat.divInt n d).num.natAbs ≤ n.natAbs ∧ (Rat.divInt n d).den ≤ d.natAbs := by
  have hN := Rat.num_divInt n d
  have hD := Rat.den_divInt n d
  rw [if_neg hd] at hD
  rw [hN, hD]
  refine ⟨?_, Nat.div_le_self _ _⟩
  rw [Int.natAbs_ediv_of_dvd (Int.dvd_trans (Int.gcd_dvd_right d n) (Int.dvd_mul_left _ _))]
  refine Nat.le_trans (Nat.div_le_self _ _) ?_
  rw [Int.natAbs_mul, Int.natAbs_sign_of_ne_zero hd, Nat.one_mul]
  exact Nat.le_refl _
/-- numerator and denominator of some way to write it are no greater -/
def ofQ (q : Rat) (N D : Nat) : Prop := ∃ n d : Int, d ≠ 0 ∧ q = Rat.divInt n d ∧ n.natAbs ≤ N ∧ d.natAbs ≤ D
theorem ofQ.sm {q : Rat} {N D : Nat} (h : ofQ q N D) (hN : N ≤ 1048576) (hD : D ≤ 1048576) : smQ q := by
  obtain ⟨n, d, hd, rfl, h1, h2⟩ := h
  have := smQ_divInt n d hd
  exact ⟨by omega, by omega⟩
theorem ofQ.add {a b : Rat} {N D M E : Nat} (h : ofQ a N D) (k : ofQ b M E) : ofQ (a + b) (N * E + M * D) (D * E) := by
  obtain ⟨n, d, hd, rfl, h1, h2⟩ := h
  obtain ⟨m, e, he, rfl, k1, k2⟩ := k
  refine ⟨n * e + m * d, d * e, Int.mul_ne_zero hd he, by rw [Rat.divInt_add_divInt _ _ hd he], ?_, by rw [Int.natAbs_mul]; exact Nat.mul_le_mul h2 k2⟩
  refine Nat.le_trans (Int.natAbs_add_le _ _) ?_
  rw [Int.natAbs_mul, Int.natAbs_mul]
  exact Nat.add_le_add (Nat.mul_le_mul h1 k2) (Nat.mul_le_mul k1 h2)
theorem ofQ.mul {a b : Rat} {N D M E : Nat} (h : ofQ a N D) (k : ofQ b M E) : ofQ (a * b) (N * M) (D * E) := by
  obtain ⟨n, d, hd, rfl, h1, h2⟩ := h
  obtain ⟨m, e, he, rfl, k1, k2⟩ := k
  exact ⟨n * m, d * e, Int.mul_ne_zero hd he, by rw [Rat.divInt_mul_divInt], by rw [Int.natAbs_mul]; exact Nat.mul_le_mul h1 k1, by rw [Int.natAbs_mul]; exact Nat.mul_le_mul h2 k2⟩
end Go.Proofs.YtkhikdiaaiddaaaDoor
