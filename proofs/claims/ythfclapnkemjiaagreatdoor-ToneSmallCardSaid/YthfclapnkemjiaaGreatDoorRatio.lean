/-
  The contract of tone.Ratio: the fraction in lowest terms. Conditions: both numbers are of type int.
-/
import Derived.Test.YthfclapnkemjiaaGreatDoorLeaf
namespace Go.Proofs.YthfclapnkemjiaaGreatDoor
open Go.RowKit

/-- what Ratio returns: numerator, denominator, error -/
def ratioN (n d : Int) : Int := if d = 0 then 0 else if 1048576 < n.natAbs / Nat.gcd n.natAbs d.natAbs ∨ 1048576 < d.natAbs / Nat.gcd n.natAbs d.natAbs then 0 else
  if (decide (n < 0) != decide (d < 0)) = true then -((n.natAbs / Nat.gcd n.natAbs d.natAbs : Nat) : Int) else ((n.natAbs / Nat.gcd n.natAbs d.natAbs : Nat) : Int)
def ratioD (n d : Int) : Int := if d = 0 then 0 else if 1048576 < n.natAbs / Nat.gcd n.natAbs d.natAbs ∨ 1048576 < d.natAbs / Nat.gcd n.natAbs d.natAbs then 0 else ((d.natAbs / Nat.gcd n.natAbs d.natAbs : Nat) : Int)
def ratioE (n d : Int) : Int := if d = 0 then 1 else if 1048576 < n.natAbs / Nat.gcd n.natAbs d.natAbs ∨ 1048576 < d.natAbs / Nat.gcd n.natAbs d.natAbs then 8 else 0
def ratioV (n d : Int) : Value := .tuple #[.agg #[.int .i64 (ratioN n d), .int .i64 (ratioD n d)], .int .i64 (ratioE n d)]

theorem calls_drewN {P : Program} {f : FuncId} {args : Array Value} {w : World} {n : Nat} {v : Value}
    (h : Calls P f args (w.drewN n) fun e w' => e = .returned v ∧ w.drewN n = w') : Calls P f args (w.drewN n) fun e w'' => e = .returned v ∧ ∃ m, w'' = w.drewN m :=
  h.mono fun _ _ ⟨he, hm⟩ => ⟨he, n, hm.symm⟩
theorem calls_drewN_add {P : Program} {f : FuncId} {args : Array Value} {w : World} {a n : Nat} {v : Value}
    (h : Calls P f args (w.drewN (a + n)) fun e w' => e = .returned v ∧ w.drewN (a + n) = w') : Calls P f args (w.drewN (a + n)) fun e w'' => e = .returned v ∧ ∃ m, w'' = w.drewN (a + m) :=
  h.mono fun _ _ ⟨he, hm⟩ => ⟨he, n, hm.symm⟩
theorem below_drewN' {B : Nat} {a w : World} (h : Below B a w) (n : Nat) : Below B a (w.drewN n) := ⟨h.os, h.tape, h.output, h.size, h.block⟩

theorem gcd_step (a b : Nat) : Nat.gcd b (a % b) = Nat.gcd a b := by
  rw [Nat.gcd_comm b, ← Nat.gcd_rec, Nat.gcd_comm]

theorem sgn_same {n d : Int} (h : (n < 0 ∧ d < 0) ∨ (¬ n < 0 ∧ ¬ d < 0)) (x : Int) : x = if (decide (n < 0) != decide (d < 0)) = true then -x else x := by
  rcases h with ⟨h1, h2⟩ | ⟨h1, h2⟩
  · rw [decide_eq_true h1, decide_eq_true h2]; rfl
  · rw [decide_eq_false h1, decide_eq_false h2]; rfl
theorem sgn_diff {n d : Int} (h : (n < 0 ∧ ¬ d < 0) ∨ (¬ n < 0 ∧ d < 0)) (x : Int) : -x = if (decide (n < 0) != decide (d < 0)) = true then -x else x := by
  rcases h with ⟨h1, h2⟩ | ⟨h1, h2⟩
  · rw [decide_eq_true h1, decide_eq_false h2]; rfl
  · rw [decide_eq_false h1, decide_eq_true h2]; rfl
section
variable {n d : Int} {N D A B P Q : Nat}
theorem ratio_big (hd : ¬ d = 0) (hN : n.natAbs = N) (hD : d.natAbs = D) (hG : Nat.gcd A B = Nat.gcd N D) (hB : B = 0) (hP : N / A = P) (hQ : D / A = Q) (h : 1048576 < P ∨ 1048576 < Q) :
    ratioV n d = .tuple #[.agg #[.int .i64 0, .int .i64 0], .int .i64 8] := by
  have e : Nat.gcd n.natAbs d.natAbs = A := by rw [hN, hD, ← hG, hB, Nat.gcd_zero_right]
  unfold ratioV ratioN ratioD ratioE
  rw [e, hN, hD, hP, hQ]
  simp only [if_neg hd, if_pos h]
theorem ratio_small (hd : ¬ d = 0) (hN : n.natAbs = N) (hD : d.natAbs = D) (hG : Nat.gcd A B = Nat.gcd N D) (hB : B = 0) (hP : N / A = P) (hQ : D / A = Q) (h1 : ¬ 1048576 < P) (h2 : ¬ 1048576 < Q) {s : Int}
    (hs : s = if (decide (n < 0) != decide (d < 0)) = true then -(P : Int) else (P : Int)) : ratioV n d = .tuple #[.agg #[.int .i64 s, .int .i64 Q], .int .i64 0] := by
  have e : Nat.gcd n.natAbs d.natAbs = A := by rw [hN, hD, ← hG, hB, Nat.gcd_zero_right]
  have h : ¬ (1048576 < P ∨ 1048576 < Q) := by omega
  unfold ratioV ratioN ratioD ratioE
  rw [e, hN, hD, hP, hQ, hs]
  simp only [if_neg hd, if_neg h]
end

set_option maxRecDepth 100000 in
set_option maxHeartbeats 1000000 in
theorem Ratio_c (n d : Int) (w : World) (hn0 : -9223372036854775808 ≤ n) (hn1 : n ≤ 9223372036854775807) (hd0 : -9223372036854775808 ≤ d) (hd1 : d ≤ 9223372036854775807) :
    Calls Tryz.prog 23 #[.int .i64 n, .int .i64 d] w fun e w' => e = .returned (ratioV n d) ∧ Below w.heap.size w w' := by
  by_cases hd : d = 0
  · subst hd
    clear hd0 hd1
    go_enter Tryz.func23, Tryz.ntmps23
    go_wp2
    go_returns
    exact ⟨rfl, by go_grown⟩
  · have hdb : (d == 0) = false := beq_eq_false_iff_ne.2 hd
    have HN := Lib.hid fun w => size_c n w hn0 hn1
    have HD := Lib.hid fun w => size_c d w hd0 hd1
    have hN : n.natAbs ≤ 9223372036854775808 := by omega
    have hD : d.natAbs ≤ 9223372036854775808 := by omega
    have hDpos : 0 < d.natAbs := by omega
    have HNE := Lib.hid hd
    obtain ⟨N, hNe⟩ : ∃ N, n.natAbs = N := ⟨_, rfl⟩
    obtain ⟨D, hDe⟩ : ∃ D, d.natAbs = D := ⟨_, rfl⟩
    rw [hNe] at HN hN
    rw [hDe] at HD hD hDpos
    have HNe := Lib.hid hNe
    have HDe := Lib.hid hDe
    clear hNe hDe hd
    go_enter Tryz.func23, Tryz.ntmps23
    go_wp2_with (first | (go_at_call_of 69 (Value.int IntKind.i64 n); refine (HN.out _).mono ?_; rintro e w' ⟨rfl, rfl⟩) | (go_at_call_of 69 (Value.int IntKind.i64 d); refine (HD.out _).mono ?_; rintro e w' ⟨rfl, rfl⟩))
    obtain ⟨W, hW⟩ : ∃ W, w.alloc (Obj.cells #[Value.int IntKind.i64 0, Value.int IntKind.i64 0] 24) = W := ⟨_, rfl⟩
    rw [hW]
    have HW := Lib.hid hW
    clear hW
    go_loopw [6, 7] (fun a b wr => ∃ A B m : Nat, a = .int .u64 A ∧ b = .int .u64 B ∧ A ≤ 9223372036854775808 ∧ B ≤ 9223372036854775808 ∧ (0 < A ∨ 0 < B) ∧ Hid (Nat.gcd A B = Nat.gcd N D) ∧ wr = W.drewN m) (fun _ b _ => (intOf b).toNat)
    case atStart => exact ⟨N, D, 0, rfl, rfl, hN, hD, .inr hDpos, rfl, rfl⟩
    case round =>
      obtain ⟨A, B, m, rfl, rfl, hA, hB, hAB, HG, rfl⟩ := hrel
      by_cases hz : B = 0
      · have HZ := Lib.hid hz
        have hzb : ((B : Int) != 0) = false := by simp [hz]
        have hApos : 0 < A := by omega
        have hAi : (0 : Int) < A := by omega
        clear hz hAB
        obtain ⟨P, hP⟩ : ∃ P, N / A = P := ⟨_, rfl⟩
        obtain ⟨Q, hQ⟩ : ∃ Q, D / A = Q := ⟨_, rfl⟩
        have hPN : P ≤ N := by rw [← hP]; exact Nat.div_le_self _ _
        have hQD : Q ≤ D := by rw [← hQ]; exact Nat.div_le_self _ _
        have eP : IntKind.u64.wrap ((N : Int) / (A : Int)) = (P : Int) := by rw [← Int.natCast_ediv, hP]; exact IntWalk.u64_in _ (by omega)
        have eQ : IntKind.u64.wrap ((D : Int) / (A : Int)) = (Q : Int) := by rw [← Int.natCast_ediv, hQ]; exact IntWalk.u64_in _ (by omega)
        have HP := Lib.hid hP
        have HQ := Lib.hid hQ
        clear hP hQ
        go_wp2_with fail
        go_quiet ((first | (go_at_call_of 69 (Value.int IntKind.i64 n); exact calls_drewN_add (HN.out _)) | (go_at_call_of 69 (Value.int IntKind.i64 d); exact calls_drewN_add (HD.out _))))
        clear eP eQ
        rw [← HW.out]
        have hb0 : Below w.heap.size w ((w.alloc (Obj.cells #[Value.int IntKind.i64 0, Value.int IntKind.i64 0] 24)).drewN (m + nq)) := below_drewN' (by go_grown) _
        have HB0 := Lib.hid hb0
        clear hb0
        by_cases hp : 1048576 < P
        · go_wp2
          go_returns
          have hb0 := HB0.out
          exact ⟨by rw [ratio_big HNE.out HNe.out HDe.out HG.out HZ.out HP.out HQ.out (.inl hp)], by go_grown⟩
        · by_cases hq : 1048576 < Q
          · go_wp2
            go_returns
            have hb0 := HB0.out
            exact ⟨by rw [ratio_big HNE.out HNe.out HDe.out HG.out HZ.out HP.out HQ.out (.inr hq)], by go_grown⟩
          · have HS := Lib.hid fun s hs => ratio_small HNE.out HNe.out HDe.out HG.out HZ.out HP.out HQ.out hp hq (s := s) hs
            by_cases hs : n < 0
            · by_cases ht : d < 0
              · go_wp2
                go_returns
                have hb0 := HB0.out
                exact ⟨by rw [HS.out P (sgn_same (.inl ⟨by omega, by omega⟩) _)], by go_grown⟩
              · go_wp2
                go_returns
                have hb0 := HB0.out
                exact ⟨by rw [HS.out (-P) (sgn_diff (.inl ⟨by omega, by omega⟩) _)], by go_grown⟩
            · by_cases ht : d < 0
              · go_wp2
                go_returns
                have hb0 := HB0.out
                exact ⟨by rw [HS.out (-P) (sgn_diff (.inr ⟨by omega, by omega⟩) _)], by go_grown⟩
              · go_wp2
                go_returns
                have hb0 := HB0.out
                exact ⟨by rw [HS.out P (sgn_same (.inr ⟨by omega, by omega⟩) _)], by go_grown⟩
      · have hzb : ((B : Int) != 0) = true := by simp; omega
        go_wp2_with fail
        go_region
        all_goals
          go_wp2_with fail
          exact ⟨⟨B, A % B, m + 1, rfl, by rw [Int.natCast_emod], hB, by have := Nat.mod_lt A (by omega : 0 < B); omega, .inl (by omega), by show Nat.gcd B (A % B) = _; rw [gcd_step]; exact HG.out, rfl⟩, by simp only [intOf]; rw [← Int.natCast_emod]; have := Nat.mod_lt A (by omega : 0 < B); omega⟩
end Go.Proofs.YthfclapnkemjiaaGreatDoor
