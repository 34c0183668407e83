/-
  Contracts of gcd, far, Ratio and Valid of the reference: what they return is what tone.Ratio and tone.valid return. Conditions: integers are of their type.
-/
import Derived.Test.YthfclapnkemjiaaGreatDoorOpFn
namespace Go.Proofs.YthfclapnkemjiaaGreatDoor
open Go.RowKit

theorem rgcd_c : ∀ (b a : Nat) (w : World), a ≤ 9223372036854775808 → b ≤ 9223372036854775808 →
    Calls Tryz.prog 70 #[.int .u64 a, .int .u64 b] w fun e w' => e = .returned (.int .u64 (Nat.gcd a b : Nat)) ∧ w = w' := by
  intro b
  induction b using Nat.strongRecOn with
  | _ b ih =>
    intro a w ha hb
    by_cases hz : b = 0
    · subst hz
      clear ih
      go_enter Tryz.func70, Tryz.ntmps70
      go_wp2
      go_ret
      exact ⟨ret_int (by simp), rfl⟩
    · have hzb : ((b : Int) == 0) = false := beq_eq_false_iff_ne.2 (by omega)
      have hm := Nat.mod_lt a (by omega : 0 < b)
      have IH := fun w => ih (a % b) hm b w hb (by omega)
      rw [gcd_step a b, Int.natCast_emod] at IH
      have IH := Lib.hid IH
      have hbp : (0 : Int) < b := by omega
      clear ih
      go_enter Tryz.func70, Tryz.ntmps70
      go_wp2_with (go_at_call 70; refine (IH.out _).mono ?_; rintro e w' ⟨rfl, rfl⟩)
      go_ret
      exact ⟨rfl, rfl⟩

theorem rfar_c (n : Int) (w : World) (h0 : -9223372036854775808 ≤ n) (h1 : n ≤ 9223372036854775807) :
    Calls Tryz.prog 71 #[.int .i64 n] w fun e w' => e = .returned (.int .u64 (n.natAbs : Int)) ∧ w = w' := by
  by_cases h : n < 0
  · have e1 : IntKind.u64.wrap n = n + 18446744073709551616 := by
      have : IntKind.u64.wrap n = n % 18446744073709551616 := rfl
      omega
    have e2 : IntKind.u64.wrap (-(n + 18446744073709551616)) = -n := by
      have : IntKind.u64.wrap (-(n + 18446744073709551616)) = (-(n + 18446744073709551616)) % 18446744073709551616 := rfl
      omega
    go_enter Tryz.func71, Tryz.ntmps71
    go_wp2
    go_ret
    exact ⟨ret_int (by omega), rfl⟩
  · go_enter Tryz.func71, Tryz.ntmps71
    go_wp2
    go_ret
    exact ⟨ret_int (by omega), rfl⟩

theorem rratio_big {n d : Int} {N D G P Q : Nat} (hd : ¬ d = 0) (hN : n.natAbs = N) (hD : d.natAbs = D) (hG : Nat.gcd N D = G) (hP : N / G = P) (hQ : D / G = Q) (h : 1048576 < P ∨ 1048576 < Q) :
    ratioV n d = .tuple #[.agg #[.int .i64 0, .int .i64 0], .int .i64 8] := by
  unfold ratioV ratioN ratioD ratioE
  rw [hN, hD, hG, hP, hQ]
  simp only [if_neg hd, if_pos h]
theorem rratio_small {n d : Int} {N D G P Q : Nat} (hd : ¬ d = 0) (hN : n.natAbs = N) (hD : d.natAbs = D) (hG : Nat.gcd N D = G) (hP : N / G = P) (hQ : D / G = Q) (h1 : ¬ 1048576 < P) (h2 : ¬ 1048576 < Q) {s : Int}
    (hs : s = if (decide (n < 0) != decide (d < 0)) = true then -(P : Int) else (P : Int)) : ratioV n d = .tuple #[.agg #[.int .i64 s, .int .i64 Q], .int .i64 0] := by
  have h : ¬ (1048576 < P ∨ 1048576 < Q) := by omega
  unfold ratioV ratioN ratioD ratioE
  rw [hN, hD, hG, hP, hQ, hs]
  simp only [if_neg hd, if_neg h]

set_option maxRecDepth 100000 in
set_option maxHeartbeats 2000000 in
theorem rRatio_c (n d : Int) (w : World) (hn : i64P n) (hd' : i64P d) :
    Calls Tryz.prog 24 #[.int .i64 n, .int .i64 d] w fun e w' => e = .returned (ratioV n d) ∧ Below w.heap.size w w' := by
  obtain ⟨hn0, hn1⟩ := hn
  obtain ⟨hd0, hd1⟩ := hd'
  by_cases hd : d = 0
  · subst hd
    clear hd0 hd1
    go_enter Tryz.func24, Tryz.ntmps24
    go_wp2
    go_returns
    exact ⟨rfl, by go_grown⟩
  · have hdb : (d == 0) = false := beq_eq_false_iff_ne.2 hd
    have HN := Lib.hid fun w => rfar_c n w hn0 hn1
    have HD := Lib.hid fun w => rfar_c d w hd0 hd1
    have hN : n.natAbs ≤ 9223372036854775808 := by omega
    have hD : d.natAbs ≤ 9223372036854775808 := by omega
    have hDpos : 0 < d.natAbs := by omega
    have HG := Lib.hid fun w => rgcd_c d.natAbs n.natAbs w hN hD
    have HNE := Lib.hid hd
    obtain ⟨N, hNe⟩ : ∃ N, n.natAbs = N := ⟨_, rfl⟩
    obtain ⟨D, hDe⟩ : ∃ D, d.natAbs = D := ⟨_, rfl⟩
    rw [hNe] at HN hN HG
    rw [hDe] at HD hD HG hDpos
    have hGpos : 0 < Nat.gcd N D := Nat.gcd_pos_of_pos_right _ hDpos
    obtain ⟨G, hGe⟩ : ∃ G, Nat.gcd N D = G := ⟨_, rfl⟩
    rw [hGe] at HG hGpos
    have hGi : (0 : Int) < G := by omega
    obtain ⟨P, hP⟩ : ∃ P, N / G = P := ⟨_, rfl⟩
    obtain ⟨Q, hQ⟩ : ∃ Q, D / G = Q := ⟨_, rfl⟩
    have hPN : P ≤ N := by rw [← hP]; exact Nat.div_le_self _ _
    have hQD : Q ≤ D := by rw [← hQ]; exact Nat.div_le_self _ _
    have eP0 : (N : Int) / (G : Int) = P := by rw [← Int.natCast_ediv, hP]
    have eQ0 : (D : Int) / (G : Int) = Q := by rw [← Int.natCast_ediv, hQ]
    have eP : IntKind.u64.wrap ((N : Int) / (G : Int)) = (P : Int) := by rw [eP0]; exact IntWalk.u64_in _ (by omega)
    have eQ : IntKind.u64.wrap ((D : Int) / (G : Int)) = (Q : Int) := by rw [eQ0]; exact IntWalk.u64_in _ (by omega)
    have HP0 := Lib.hid (show n = 0 → P = 0 from fun h => by subst h; rw [← hP, ← hNe]; simp)
    have HBIG := Lib.hid fun h => rratio_big hd hNe hDe hGe hP hQ h
    have HSM := Lib.hid fun h1 h2 s hs => rratio_small hd hNe hDe hGe hP hQ h1 h2 (s := s) hs
    clear hNe hDe hGe hP hQ hd
    by_cases hp : 1048576 < P
    · have HV := Lib.hid (HBIG.out (.inl hp))
      clear HBIG HSM
      go_enter Tryz.func24, Tryz.ntmps24
      go_wp2_with (first | (go_at_call_of 71 (Value.int IntKind.i64 n); refine (HN.out _).mono ?_; rintro e w' ⟨rfl, rfl⟩) | (go_at_call_of 71 (Value.int IntKind.i64 d); refine (HD.out _).mono ?_; rintro e w' ⟨rfl, rfl⟩) | (go_at_call 70; refine (HG.out _).mono ?_; rintro e w' ⟨rfl, rfl⟩))
      obtain ⟨W, hW⟩ : ∃ W, w.alloc (Obj.cells #[Value.int IntKind.i64 0, Value.int IntKind.i64 0] 24) = W := ⟨_, rfl⟩
      rw [hW]
      have HW := Lib.hid hW
      clear hW
      go_quiet ((first | (go_at_call_of 71 (Value.int IntKind.i64 n); exact calls_drewN (HN.out _)) | (go_at_call_of 71 (Value.int IntKind.i64 d); exact calls_drewN (HD.out _))))
      rw [← HW.out]
      have hb0 : Below w.heap.size w ((w.alloc (Obj.cells #[Value.int IntKind.i64 0, Value.int IntKind.i64 0] 24)).drewN nq) := below_drewN' (by go_grown) _
      have HB0 := Lib.hid hb0
      clear hb0
      go_wp2
      go_returns
      have hb0 := HB0.out
      exact ⟨by rw [HV.out], by go_grown⟩
    · by_cases hq : 1048576 < Q
      · have HV := Lib.hid (HBIG.out (.inr hq))
        clear HBIG HSM
        go_enter Tryz.func24, Tryz.ntmps24
        go_wp2_with (first | (go_at_call_of 71 (Value.int IntKind.i64 n); refine (HN.out _).mono ?_; rintro e w' ⟨rfl, rfl⟩) | (go_at_call_of 71 (Value.int IntKind.i64 d); refine (HD.out _).mono ?_; rintro e w' ⟨rfl, rfl⟩) | (go_at_call 70; refine (HG.out _).mono ?_; rintro e w' ⟨rfl, rfl⟩))
        obtain ⟨W, hW⟩ : ∃ W, w.alloc (Obj.cells #[Value.int IntKind.i64 0, Value.int IntKind.i64 0] 24) = W := ⟨_, rfl⟩
        rw [hW]
        have HW := Lib.hid hW
        clear hW
        go_quiet ((first | (go_at_call_of 71 (Value.int IntKind.i64 n); exact calls_drewN (HN.out _)) | (go_at_call_of 71 (Value.int IntKind.i64 d); exact calls_drewN (HD.out _))))
        rw [← HW.out]
        have hb0 : Below w.heap.size w ((w.alloc (Obj.cells #[Value.int IntKind.i64 0, Value.int IntKind.i64 0] 24)).drewN nq) := below_drewN' (by go_grown) _
        have HB0 := Lib.hid hb0
        clear hb0
        go_wp2
        go_returns
        have hb0 := HB0.out
        exact ⟨by rw [HV.out], by go_grown⟩
      · have hP0 : n = 0 → P = 0 := HP0.out
        clear HBIG
        have key : (n < 0 ∧ d < 0 ∨ 0 < n ∧ 0 < d) ∨ (n < 0 ∧ 0 < d ∨ 0 < n ∧ d < 0) ∨ n = 0 := by
          have := HNE.out
          omega
        rcases key with (⟨s1, s2⟩ | ⟨s1, s2⟩) | (⟨s1, s2⟩ | ⟨s1, s2⟩) | rfl
        · have HV := Lib.hid (HSM.out hp hq (P) (sgn_same (.inl ⟨s1, s2⟩) _))
          clear HSM hP0
          go_enter Tryz.func24, Tryz.ntmps24
          go_wp2_with (first | (go_at_call_of 71 (Value.int IntKind.i64 n); refine (HN.out _).mono ?_; rintro e w' ⟨rfl, rfl⟩) | (go_at_call_of 71 (Value.int IntKind.i64 d); refine (HD.out _).mono ?_; rintro e w' ⟨rfl, rfl⟩) | (go_at_call 70; refine (HG.out _).mono ?_; rintro e w' ⟨rfl, rfl⟩))
          obtain ⟨W, hW⟩ : ∃ W, w.alloc (Obj.cells #[Value.int IntKind.i64 0, Value.int IntKind.i64 0] 24) = W := ⟨_, rfl⟩
          rw [hW]
          have HW := Lib.hid hW
          clear hW
          go_quiet ((first | (go_at_call_of 71 (Value.int IntKind.i64 n); exact calls_drewN (HN.out _)) | (go_at_call_of 71 (Value.int IntKind.i64 d); exact calls_drewN (HD.out _))))
          rw [← HW.out]
          have hb0 : Below w.heap.size w ((w.alloc (Obj.cells #[Value.int IntKind.i64 0, Value.int IntKind.i64 0] 24)).drewN nq) := below_drewN' (by go_grown) _
          have HB0 := Lib.hid hb0
          clear hb0
          go_wp2
          go_returns
          have hb0 := HB0.out
          exact ⟨by rw [HV.out], by go_grown⟩
        · have HV := Lib.hid (HSM.out hp hq (P) (sgn_same (.inr ⟨by omega, by omega⟩) _))
          clear HSM hP0
          go_enter Tryz.func24, Tryz.ntmps24
          go_wp2_with (first | (go_at_call_of 71 (Value.int IntKind.i64 n); refine (HN.out _).mono ?_; rintro e w' ⟨rfl, rfl⟩) | (go_at_call_of 71 (Value.int IntKind.i64 d); refine (HD.out _).mono ?_; rintro e w' ⟨rfl, rfl⟩) | (go_at_call 70; refine (HG.out _).mono ?_; rintro e w' ⟨rfl, rfl⟩))
          obtain ⟨W, hW⟩ : ∃ W, w.alloc (Obj.cells #[Value.int IntKind.i64 0, Value.int IntKind.i64 0] 24) = W := ⟨_, rfl⟩
          rw [hW]
          have HW := Lib.hid hW
          clear hW
          go_quiet ((first | (go_at_call_of 71 (Value.int IntKind.i64 n); exact calls_drewN (HN.out _)) | (go_at_call_of 71 (Value.int IntKind.i64 d); exact calls_drewN (HD.out _))))
          rw [← HW.out]
          have hb0 : Below w.heap.size w ((w.alloc (Obj.cells #[Value.int IntKind.i64 0, Value.int IntKind.i64 0] 24)).drewN nq) := below_drewN' (by go_grown) _
          have HB0 := Lib.hid hb0
          clear hb0
          go_wp2
          go_returns
          have hb0 := HB0.out
          exact ⟨by rw [HV.out], by go_grown⟩
        · have HV := Lib.hid (HSM.out hp hq (-P) (sgn_diff (.inl ⟨s1, by omega⟩) _))
          clear HSM hP0
          go_enter Tryz.func24, Tryz.ntmps24
          go_wp2_with (first | (go_at_call_of 71 (Value.int IntKind.i64 n); refine (HN.out _).mono ?_; rintro e w' ⟨rfl, rfl⟩) | (go_at_call_of 71 (Value.int IntKind.i64 d); refine (HD.out _).mono ?_; rintro e w' ⟨rfl, rfl⟩) | (go_at_call 70; refine (HG.out _).mono ?_; rintro e w' ⟨rfl, rfl⟩))
          obtain ⟨W, hW⟩ : ∃ W, w.alloc (Obj.cells #[Value.int IntKind.i64 0, Value.int IntKind.i64 0] 24) = W := ⟨_, rfl⟩
          rw [hW]
          have HW := Lib.hid hW
          clear hW
          go_quiet ((first | (go_at_call_of 71 (Value.int IntKind.i64 n); exact calls_drewN (HN.out _)) | (go_at_call_of 71 (Value.int IntKind.i64 d); exact calls_drewN (HD.out _))))
          rw [← HW.out]
          have hb0 : Below w.heap.size w ((w.alloc (Obj.cells #[Value.int IntKind.i64 0, Value.int IntKind.i64 0] 24)).drewN nq) := below_drewN' (by go_grown) _
          have HB0 := Lib.hid hb0
          clear hb0
          go_wp2
          go_returns
          have hb0 := HB0.out
          exact ⟨by rw [HV.out], by go_grown⟩
        · have HV := Lib.hid (HSM.out hp hq (-P) (sgn_diff (.inr ⟨by omega, s2⟩) _))
          clear HSM hP0
          go_enter Tryz.func24, Tryz.ntmps24
          go_wp2_with (first | (go_at_call_of 71 (Value.int IntKind.i64 n); refine (HN.out _).mono ?_; rintro e w' ⟨rfl, rfl⟩) | (go_at_call_of 71 (Value.int IntKind.i64 d); refine (HD.out _).mono ?_; rintro e w' ⟨rfl, rfl⟩) | (go_at_call 70; refine (HG.out _).mono ?_; rintro e w' ⟨rfl, rfl⟩))
          obtain ⟨W, hW⟩ : ∃ W, w.alloc (Obj.cells #[Value.int IntKind.i64 0, Value.int IntKind.i64 0] 24) = W := ⟨_, rfl⟩
          rw [hW]
          have HW := Lib.hid hW
          clear hW
          go_quiet ((first | (go_at_call_of 71 (Value.int IntKind.i64 n); exact calls_drewN (HN.out _)) | (go_at_call_of 71 (Value.int IntKind.i64 d); exact calls_drewN (HD.out _))))
          rw [← HW.out]
          have hb0 : Below w.heap.size w ((w.alloc (Obj.cells #[Value.int IntKind.i64 0, Value.int IntKind.i64 0] 24)).drewN nq) := below_drewN' (by go_grown) _
          have HB0 := Lib.hid hb0
          clear hb0
          go_wp2
          go_returns
          have hb0 := HB0.out
          exact ⟨by rw [HV.out], by go_grown⟩
        · obtain rfl : P = 0 := hP0 rfl
          have HV := Lib.hid (HSM.out hp hq 0 (by split <;> rfl))
          clear HSM hP0
          go_enter Tryz.func24, Tryz.ntmps24
          go_wp2_with (first | (go_at_call_of 71 (Value.int IntKind.i64 0); refine (HN.out _).mono ?_; rintro e w' ⟨rfl, rfl⟩) | (go_at_call_of 71 (Value.int IntKind.i64 d); refine (HD.out _).mono ?_; rintro e w' ⟨rfl, rfl⟩) | (go_at_call 70; refine (HG.out _).mono ?_; rintro e w' ⟨rfl, rfl⟩))
          obtain ⟨W, hW⟩ : ∃ W, w.alloc (Obj.cells #[Value.int IntKind.i64 0, Value.int IntKind.i64 0] 24) = W := ⟨_, rfl⟩
          rw [hW]
          have HW := Lib.hid hW
          clear hW
          go_quiet ((first | (go_at_call_of 71 (Value.int IntKind.i64 0); exact calls_drewN (HN.out _)) | (go_at_call_of 71 (Value.int IntKind.i64 d); exact calls_drewN (HD.out _))))
          rw [← HW.out]
          have hb0 : Below w.heap.size w ((w.alloc (Obj.cells #[Value.int IntKind.i64 0, Value.int IntKind.i64 0] 24)).drewN nq) := below_drewN' (by go_grown) _
          have HB0 := Lib.hid hb0
          clear hb0
          go_wp2
          go_returns
          have hb0 := HB0.out
          exact ⟨by rw [HV.out], by go_grown⟩
end Go.Proofs.YthfclapnkemjiaaGreatDoor
