/-
  Contracts of Valid, Add, Sub, Mul, Div and Cmp of the reference: what they return is what package tone returns. Conditions: integers are of their type.
-/
import Derived.Test.YthfclapnkemjiaaGreatDoorRef1
namespace Go.Proofs.YthfclapnkemjiaaGreatDoor
open Go.RowKit

theorem validB_iff (N D : Int) : validB N D = true ↔ 1 ≤ D ∧ D ≤ 1048576 ∧ -1048576 ≤ N ∧ N ≤ 1048576 ∧ Nat.gcd N.natAbs D.natAbs = 1 := by
  unfold validB
  rw [decide_eq_true_iff]
  constructor
  · rintro ⟨h1, h2, h3⟩
    unfold ratioE at h1
    split at h1
    · omega
    · rename_i hd
      split at h1
      · omega
      · rename_i hb
        unfold ratioD at h3
        rw [if_neg hd, if_neg hb] at h3
        have hgd : Nat.gcd N.natAbs D.natAbs = 1 := by
          have hg : 0 < Nat.gcd N.natAbs D.natAbs := Nat.gcd_pos_of_pos_right _ (by omega)
          rcases Nat.lt_or_ge 1 (Nat.gcd N.natAbs D.natAbs) with h | h
          · have hlt := Nat.div_lt_self (by omega : 0 < D.natAbs) h
            generalize D.natAbs / Nat.gcd N.natAbs D.natAbs = q at *
            omega
          · omega
        rw [hgd] at hb h3 ⊢
        simp only [Nat.div_one] at hb h3
        omega
  · rintro ⟨h1, h2, h3, h4, h5⟩
    have hd : ¬ D = 0 := by omega
    have hb : ¬ (1048576 < N.natAbs / Nat.gcd N.natAbs D.natAbs ∨ 1048576 < D.natAbs / Nat.gcd N.natAbs D.natAbs) := by rw [h5]; simp only [Nat.div_one]; omega
    unfold ratioE ratioN ratioD
    rw [h5] at hb ⊢
    simp only [Nat.div_one] at hb ⊢
    simp only [if_neg hd, if_neg hb]
    refine ⟨trivial, ?_, by omega⟩
    by_cases hn : N < 0
    · rw [decide_eq_true hn, decide_eq_false (by omega : ¬ D < 0)]
      show -((N.natAbs : Nat) : Int) = N
      omega
    · rw [decide_eq_false hn, decide_eq_false (by omega : ¬ D < 0)]
      show ((N.natAbs : Nat) : Int) = N
      omega

set_option maxRecDepth 100000 in
theorem rValid_c (N D : Int) (w : World) (hn : i64P N) (hd : i64P D) :
    Calls Tryz.prog 68 #[.agg #[.int .i64 N, .int .i64 D]] w fun e w' => e = .returned (.bool (validB N D)) ∧ Below w.heap.size w w' := by
  obtain ⟨hn0, hn1⟩ := hn
  obtain ⟨hd0, hd1⟩ := hd
  have HI := Lib.hid (validB_iff N D)
  by_cases h1 : 1 ≤ D
  · by_cases h2 : D ≤ 1048576
    · by_cases h3 : -1048576 ≤ N
      · by_cases h4 : N ≤ 1048576
        · have HN := Lib.hid fun w => rfar_c N w hn0 hn1
          have HD := Lib.hid fun w => rfar_c D w hd0 hd1
          have HG := Lib.hid fun w => rgcd_c D.natAbs N.natAbs w (by omega) (by omega)
          by_cases h5 : Nat.gcd N.natAbs D.natAbs = 1
          · have hv : validB N D = true := HI.out.2 ⟨h1, h2, h3, h4, h5⟩
            rw [hv]
            rw [h5] at HG
            clear HI hv h5
            go_enter Tryz.func68, Tryz.ntmps68
            go_wp2_with fail
            generalize hW : w.alloc _ = W
            have hbW : Below w.heap.size w W := by rw [← hW]; go_grown
            have hc0 : W.cell? ⟨w.heap.size, 0, none⟩ = some (.int .i64 N) := by rw [← hW]; clear hW; go_simp
            have hc1 : W.cell? ⟨w.heap.size, 1, none⟩ = some (.int .i64 D) := by rw [← hW]; clear hW; go_simp
            clear hW
            go_quiet ((first | (go_at_call_of 71 (Value.int IntKind.i64 N); exact calls_drewN (HN.out _)) | (go_at_call_of 71 (Value.int IntKind.i64 D); exact calls_drewN (HD.out _)) | (go_at_call 70; exact calls_drewN (HG.out _))))
            go_wp2_with fail
            go_ret
            exact ⟨rfl, below_drewN' hbW _⟩
          · have hv : validB N D = false := by
              cases hb : validB N D
              · rfl
              · exact absurd (HI.out.1 hb).2.2.2.2 h5
            rw [hv]
            generalize Nat.gcd N.natAbs D.natAbs = G at *
            have hgb : ((G : Int) == 1) = false := beq_eq_false_iff_ne.2 (by omega)
            clear HI hv h5
            go_enter Tryz.func68, Tryz.ntmps68
            go_wp2_with fail
            generalize hW : w.alloc _ = W
            have hbW : Below w.heap.size w W := by rw [← hW]; go_grown
            have hc0 : W.cell? ⟨w.heap.size, 0, none⟩ = some (.int .i64 N) := by rw [← hW]; clear hW; go_simp
            have hc1 : W.cell? ⟨w.heap.size, 1, none⟩ = some (.int .i64 D) := by rw [← hW]; clear hW; go_simp
            clear hW
            go_quiet ((first | (go_at_call_of 71 (Value.int IntKind.i64 N); exact calls_drewN (HN.out _)) | (go_at_call_of 71 (Value.int IntKind.i64 D); exact calls_drewN (HD.out _)) | (go_at_call 70; exact calls_drewN (HG.out _))))
            go_wp2_with fail
            go_ret
            exact ⟨rfl, below_drewN' hbW _⟩
        · have hv : validB N D = false := by
            cases hb : validB N D
            · rfl
            · exact absurd (HI.out.1 hb).2.2.2.1 h4
          rw [hv]
          have d4 : decide (N ≤ 1048576) = false := decide_eq_false h4
          clear HI hv
          go_enter Tryz.func68, Tryz.ntmps68
          go_wp2_with fail
          generalize hW : w.alloc _ = W
          have hbW : Below w.heap.size w W := by rw [← hW]; go_grown
          have hc0 : W.cell? ⟨w.heap.size, 0, none⟩ = some (.int .i64 N) := by rw [← hW]; clear hW; go_simp
          have hc1 : W.cell? ⟨w.heap.size, 1, none⟩ = some (.int .i64 D) := by rw [← hW]; clear hW; go_simp
          clear hW
          go_quiet (fail)
          go_wp2_with fail
          go_ret
          exact ⟨rfl, below_drewN' hbW _⟩
      · have hv : validB N D = false := by
          cases hb : validB N D
          · rfl
          · exact absurd (HI.out.1 hb).2.2.1 h3
        rw [hv]
        have d3 : decide (-1048576 ≤ N) = false := decide_eq_false h3
        clear HI hv
        go_enter Tryz.func68, Tryz.ntmps68
        go_wp2_with fail
        generalize hW : w.alloc _ = W
        have hbW : Below w.heap.size w W := by rw [← hW]; go_grown
        have hc0 : W.cell? ⟨w.heap.size, 0, none⟩ = some (.int .i64 N) := by rw [← hW]; clear hW; go_simp
        have hc1 : W.cell? ⟨w.heap.size, 1, none⟩ = some (.int .i64 D) := by rw [← hW]; clear hW; go_simp
        clear hW
        go_quiet (fail)
        go_wp2_with fail
        go_ret
        exact ⟨rfl, below_drewN' hbW _⟩
    · have hv : validB N D = false := by
        cases hb : validB N D
        · rfl
        · exact absurd (HI.out.1 hb).2.1 h2
      rw [hv]
      have d2 : decide (D ≤ 1048576) = false := decide_eq_false h2
      clear HI hv
      go_enter Tryz.func68, Tryz.ntmps68
      go_wp2_with fail
      generalize hW : w.alloc _ = W
      have hbW : Below w.heap.size w W := by rw [← hW]; go_grown
      have hc0 : W.cell? ⟨w.heap.size, 0, none⟩ = some (.int .i64 N) := by rw [← hW]; clear hW; go_simp
      have hc1 : W.cell? ⟨w.heap.size, 1, none⟩ = some (.int .i64 D) := by rw [← hW]; clear hW; go_simp
      clear hW
      go_quiet (fail)
      go_wp2_with fail
      go_ret
      exact ⟨rfl, below_drewN' hbW _⟩
  · have hv : validB N D = false := by
      cases hb : validB N D
      · rfl
      · exact absurd (HI.out.1 hb).1 h1
    rw [hv]
    have d1 : decide (1 ≤ D) = false := decide_eq_false h1
    clear HI hv
    go_enter Tryz.func68, Tryz.ntmps68
    go_wp2_with fail
    generalize hW : w.alloc _ = W
    have hbW : Below w.heap.size w W := by rw [← hW]; go_grown
    have hc0 : W.cell? ⟨w.heap.size, 0, none⟩ = some (.int .i64 N) := by rw [← hW]; clear hW; go_simp
    have hc1 : W.cell? ⟨w.heap.size, 1, none⟩ = some (.int .i64 D) := by rw [← hW]; clear hW; go_simp
    clear hW
    go_quiet (fail)
    go_wp2_with fail
    go_ret
    exact ⟨rfl, below_drewN' hbW _⟩
end Go.Proofs.YthfclapnkemjiaaGreatDoor
