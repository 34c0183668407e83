/-
  custoslaw05.fractions returns true: Add, Sub, Mul, Div, Ratio and Cmp of package tone and of the reference agree. Conditions: integers are of their type.
-/
import Derived.Test.YthfclapnkemjiaaGreatDoorCmp
import Derived.Deep.DeepCutAuto
namespace Go.Proofs.YthfclapnkemjiaaGreatDoor
open Go.RowKit
set_option linter.unusedSimpArgs false
set_option linter.unusedVariables false

theorem Add_both (a b c d : Int) (ha : i64P a) (hb : i64P b) (hc : i64P c) (hd : i64P d) : ∃ x y z : Int,
    (∀ w, Calls Tryz.prog 15 #[.agg #[.int .i64 a, .int .i64 b], .agg #[.int .i64 c, .int .i64 d]] w fun e w' => e = .returned (.tuple #[.agg #[.int .i64 x, .int .i64 y], .int .i64 z]) ∧ Below w.heap.size w w') ∧
    (∀ w, Calls Tryz.prog 19 #[.agg #[.int .i64 a, .int .i64 b], .agg #[.int .i64 c, .int .i64 d]] w fun e w' => e = .returned (.tuple #[.agg #[.int .i64 x, .int .i64 y], .int .i64 z]) ∧ Below w.heap.size w w') :=
  ⟨fracN (validB a b && validB c d) (a * d + 1 * c * b) (b * d), fracD (validB a b && validB c d) (a * d + 1 * c * b) (b * d), fracE (validB a b && validB c d) (a * d + 1 * c * b) (b * d), fun w => Add_c a b c d w ha hb hc hd, fun w => by rw [show a * d + 1 * c * b = a * d + c * b by rw [Int.one_mul]]; exact rAdd_c a b c d w ha hb hc hd⟩
theorem Sub_both (a b c d : Int) (ha : i64P a) (hb : i64P b) (hc : i64P c) (hd : i64P d) : ∃ x y z : Int,
    (∀ w, Calls Tryz.prog 16 #[.agg #[.int .i64 a, .int .i64 b], .agg #[.int .i64 c, .int .i64 d]] w fun e w' => e = .returned (.tuple #[.agg #[.int .i64 x, .int .i64 y], .int .i64 z]) ∧ Below w.heap.size w w') ∧
    (∀ w, Calls Tryz.prog 20 #[.agg #[.int .i64 a, .int .i64 b], .agg #[.int .i64 c, .int .i64 d]] w fun e w' => e = .returned (.tuple #[.agg #[.int .i64 x, .int .i64 y], .int .i64 z]) ∧ Below w.heap.size w w') :=
  ⟨fracN (validB a b && validB c d) (a * d + -1 * c * b) (b * d), fracD (validB a b && validB c d) (a * d + -1 * c * b) (b * d), fracE (validB a b && validB c d) (a * d + -1 * c * b) (b * d), fun w => Sub_c a b c d w ha hb hc hd, fun w => by exact rSub_c a b c d w ha hb hc hd⟩
theorem Mul_both (a b c d : Int) (ha : i64P a) (hb : i64P b) (hc : i64P c) (hd : i64P d) : ∃ x y z : Int,
    (∀ w, Calls Tryz.prog 17 #[.agg #[.int .i64 a, .int .i64 b], .agg #[.int .i64 c, .int .i64 d]] w fun e w' => e = .returned (.tuple #[.agg #[.int .i64 x, .int .i64 y], .int .i64 z]) ∧ Below w.heap.size w w') ∧
    (∀ w, Calls Tryz.prog 21 #[.agg #[.int .i64 a, .int .i64 b], .agg #[.int .i64 c, .int .i64 d]] w fun e w' => e = .returned (.tuple #[.agg #[.int .i64 x, .int .i64 y], .int .i64 z]) ∧ Below w.heap.size w w') :=
  ⟨fracN (validB a b && validB c d) (a * c) (b * d), fracD (validB a b && validB c d) (a * c) (b * d), fracE (validB a b && validB c d) (a * c) (b * d), fun w => Mul_c a b c d w ha hb hc hd, fun w => by exact rMul_c a b c d w ha hb hc hd⟩
theorem Div_both (a b c d : Int) (ha : i64P a) (hb : i64P b) (hc : i64P c) (hd : i64P d) : ∃ x y z : Int,
    (∀ w, Calls Tryz.prog 18 #[.agg #[.int .i64 a, .int .i64 b], .agg #[.int .i64 c, .int .i64 d]] w fun e w' => e = .returned (.tuple #[.agg #[.int .i64 x, .int .i64 y], .int .i64 z]) ∧ Below w.heap.size w w') ∧
    (∀ w, Calls Tryz.prog 22 #[.agg #[.int .i64 a, .int .i64 b], .agg #[.int .i64 c, .int .i64 d]] w fun e w' => e = .returned (.tuple #[.agg #[.int .i64 x, .int .i64 y], .int .i64 z]) ∧ Below w.heap.size w w') :=
  ⟨fracN (validB a b && validB c d) (a * d) (b * c), fracD (validB a b && validB c d) (a * d) (b * c), fracE (validB a b && validB c d) (a * d) (b * c), fun w => Div_c a b c d w ha hb hc hd, fun w => by exact rDiv_c a b c d w ha hb hc hd⟩
theorem Cmp_both (a b c d : Int) (ha : i64P a) (hb : i64P b) (hc : i64P c) (hd : i64P d) : ∃ x y : Int,
    (∀ w, Calls Tryz.prog 25 #[.agg #[.int .i64 a, .int .i64 b], .agg #[.int .i64 c, .int .i64 d]] w fun e w' => e = .returned (.tuple #[.int .i64 x, .int .i64 y]) ∧ Below w.heap.size w w') ∧
    (∀ w, Calls Tryz.prog 26 #[.agg #[.int .i64 a, .int .i64 b], .agg #[.int .i64 c, .int .i64 d]] w fun e w' => e = .returned (.tuple #[.int .i64 x, .int .i64 y]) ∧ Below w.heap.size w w') := by
  have h1 := fun w => Cmp_c a b c d w ha hb hc hd
  have h2 := fun w => rCmp_c a b c d w ha hb hc hd
  cases hv : validB a b && validB c d <;> rw [hv] at h1 h2
  · exact ⟨0, 1, h1, h2⟩
  · exact ⟨cmp3 (a * d) (c * b), 0, h1, h2⟩

/-- what holds between the rounds -/
structure FrS (w : World) (a b c d : Int) (wr : World) : Prop where
  a0 : wr.cell? ⟨w.heap.size, 0, none⟩ = some (.int .i64 a)
  a1 : wr.cell? ⟨w.heap.size, 1, none⟩ = some (.int .i64 b)
  b0 : wr.cell? ⟨w.heap.size + 1, 0, none⟩ = some (.int .i64 c)
  b1 : wr.cell? ⟨w.heap.size + 1, 1, none⟩ = some (.int .i64 d)
  s0 : wr.cell? ⟨w.heap.size + 2, 0, none⟩ = some (.func (.func 15) #[] #[])
  s1 : wr.cell? ⟨w.heap.size + 2, 1, none⟩ = some (.func (.func 16) #[] #[])
  s2 : wr.cell? ⟨w.heap.size + 2, 2, none⟩ = some (.func (.func 17) #[] #[])
  s3 : wr.cell? ⟨w.heap.size + 2, 3, none⟩ = some (.func (.func 18) #[] #[])
  hz : w.heap.size + 2 < wr.heap.size
  hB : Below w.heap.size w wr
theorem FrS.next {w wr W : World} {a b c d : Int} (h : FrS w a b c d wr) (hb : Below wr.heap.size wr W) : FrS w a b c d W := by
  have hz := h.hz
  have hs := hb.size
  have c1 := fun o => hb.cell (p := ⟨w.heap.size, o, none⟩) (by show w.heap.size < _; omega)
  have c2 := fun o => hb.cell (p := ⟨w.heap.size + 1, o, none⟩) (by show w.heap.size + 1 < _; omega)
  have c3 := fun o => hb.cell (p := ⟨w.heap.size + 2, o, none⟩) (by show w.heap.size + 2 < _; omega)
  exact ⟨(c1 0).trans h.a0, (c1 1).trans h.a1, (c2 0).trans h.b0, (c2 1).trans h.b1, (c3 0).trans h.s0, (c3 1).trans h.s1, (c3 2).trans h.s2, (c3 3).trans h.s3, by omega, h.hB.trans (hb.mono (by omega))⟩


set_option maxRecDepth 100000 in
set_option maxHeartbeats 16000000 in
theorem fractions_c (a b c d n m : Int) (w : World) (ha : i64P a) (hb : i64P b) (hc : i64P c) (hd : i64P d) (hn : i64P n) (hm : i64P m) :
    Calls Tryz.prog 4 #[.agg #[.int .i64 a, .int .i64 b], .agg #[.int .i64 c, .int .i64 d], .int .i64 n, .int .i64 m] w fun e w' => e = .returned (.bool true) ∧ Below w.heap.size w w' := by
  obtain ⟨x0, y0, z0, T0, R0⟩ := Add_both a b c d ha hb hc hd
  obtain ⟨x1, y1, z1, T1, R1⟩ := Sub_both a b c d ha hb hc hd
  obtain ⟨x2, y2, z2, T2, R2⟩ := Mul_both a b c d ha hb hc hd
  obtain ⟨x3, y3, z3, T3, R3⟩ := Div_both a b c d ha hb hc hd
  obtain ⟨u, v, T4, R4⟩ := Cmp_both a b c d ha hb hc hd
  have T5 := fun w => Ratio_c n m w hn.1 hn.2 hm.1 hm.2
  have R5 := fun w => rRatio_c n m w hn hm
  unfold ratioV at T5 R5
  generalize ratioN n m = x5 at *
  generalize ratioD n m = y5 at *
  generalize ratioE n m = z5 at *
  have T0 := Lib.hid T0
  have R0 := Lib.hid R0
  have T1 := Lib.hid T1
  have R1 := Lib.hid R1
  have T2 := Lib.hid T2
  have R2 := Lib.hid R2
  have T3 := Lib.hid T3
  have R3 := Lib.hid R3
  have T4 := Lib.hid T4
  have R4 := Lib.hid R4
  have T5 := Lib.hid T5
  have R5 := Lib.hid R5
  clear ha hb hc hd hn hm
  go_enter Tryz.func4, Tryz.ntmps4
  go_wp2_with fail
  go_loopw [25] (fun i wr => ∃ k : Nat, k ≤ 4 ∧ i = .int .i64 k ∧ FrS w a b c d wr) (fun i _ => 4 - (intOf i).toNat)
  case atStart => exact ⟨0, by omega, rfl, by go_simp, by go_simp, by go_simp, by go_simp, by go_simp, by go_simp, by go_simp, by go_simp, by simp, by go_grown⟩
  case round =>
    obtain ⟨k, hk, rfl, hF⟩ := hrel
    rcases (by omega : k = 0 ∨ k = 1 ∨ k = 2 ∨ k = 3 ∨ k = 4) with rfl | rfl | rfl | rfl | rfl
    · have a0 := hF.a0
      have a1 := hF.a1
      have b0 := hF.b0
      have b1 := hF.b1
      have s0 := hF.s0
      have hzr := hF.hz
      have hzr0 : w.heap.size < wr.heap.size := by omega
      have hzr1 : w.heap.size + 1 < wr.heap.size := by omega
      go_wp2_with fail
      refine (T0.out _).mono ?_
      rintro e wa ⟨rfl, hba⟩
      have hFa := hF.next hba
      clear a0 a1 b0 b1 s0
      have hza := hba.size
      have hzs0 : w.heap.size < wa.heap.size := by omega
      have hzs1 : w.heap.size + 1 < wa.heap.size := by omega
      have a0 := hFa.a0
      have a1 := hFa.a1
      have b0 := hFa.b0
      have b1 := hFa.b1
      go_wp2_with fail
      refine wp_named fun W hW => ?_
      have k0 : W.cell? ⟨w.heap.size, 0, none⟩ = some (.int .i64 a) := by rw [hW]; clear hW; go_simp
      have k1 : W.cell? ⟨w.heap.size, 1, none⟩ = some (.int .i64 b) := by rw [hW]; clear hW; go_simp
      have k2 : W.cell? ⟨w.heap.size + 1, 0, none⟩ = some (.int .i64 c) := by rw [hW]; clear hW; go_simp
      have k3 : W.cell? ⟨w.heap.size + 1, 1, none⟩ = some (.int .i64 d) := by rw [hW]; clear hW; go_simp
      have k4 : W.cell? ⟨wa.heap.size, 0, none⟩ = some (.int .i64 x0) := by rw [hW]; clear hW; go_simp
      have k5 : W.cell? ⟨wa.heap.size, 1, none⟩ = some (.int .i64 y0) := by rw [hW]; clear hW; go_simp
      have hFW : FrS w a b c d W := hFa.next (by rw [hW]; go_grown)
      have hzW : wa.heap.size < W.heap.size := by rw [hW]; simp
      have q0 : W.heap.size < W.heap.size + 1 + 1 := by omega
      have hzW0 : w.heap.size < W.heap.size := by omega
      have hzW1 : w.heap.size + 1 < W.heap.size := by omega
      clear hW a0 a1 b0 b1 hzs0 hzs1 hzr hzr0 hzr1 hFa
      refine wp_region_noPanic ?_
      refine wp_region_held_drew (S := fun w' => Sk W w') (by kernel_rfl) (Sk_drew _) (fun hHeld => ?_)
      refine wpAnyH_take (i := 1) (v := ?v1) (arr_at rfl) (by kernel_rfl) (by kernel_rfl) (by kernel_rfl) (fun _ _ _ h => h) (Or.inl ⟨by rfl, ?hy1⟩) (by assumption) ?_
      case hy1 => (intro w hSw; go_simp <;> with_reducible rfl)
      try simp only [Act.put, List.setIfInBounds_toArray, List.set_cons_zero, List.set_cons_succ]
      refine wpAnyH_take (i := 4) (v := ?v2) (arr_at rfl) (by kernel_rfl) (by kernel_rfl) (by kernel_rfl) (fun _ _ _ h => h) (Or.inl ⟨by rfl, ?hy2⟩) (by assumption) ?_
      case hy2 => (intro w hSw; go_simp <;> with_reducible rfl)
      try simp only [Act.put, List.setIfInBounds_toArray, List.set_cons_zero, List.set_cons_succ]
      refine wpAnyH_take (i := 5) (v := ?v3) (arr_at rfl) (by kernel_rfl) (by kernel_rfl) (by kernel_rfl) (fun _ _ _ h => h) (Or.inl ⟨by rfl, ?hy3⟩) (by assumption) ?_
      case hy3 => (intro w hSw; go_simp <;> with_reducible rfl)
      try simp only [Act.put, List.setIfInBounds_toArray, List.set_cons_zero, List.set_cons_succ]
      refine wpAnyH_ready (rs := [0, 10]) (by kernel_rfl) (by simp) ?_
      refine AllReadyH.cons (arr_at rfl) (fun K hK => ?_) ?_
      · go_simp
        refine hK.out _ _ ?_ (fun hHeld => ?_)
        · first | assumption | exact Sk_of (by go_grown) | exact ⟨Sk_of (by go_grown), by go_simp⟩
        clear hK K
        try simp only [Act.put, List.setIfInBounds_toArray, List.set_cons_zero, List.set_cons_succ]
        refine wpAnyH_switch (S' := fun w' => Sk W w' ∧ w'.cell? ⟨W.heap.size, 0, none⟩ = some (.func (.func 19) #[] #[])) (fun _ h => h.1) ⟨hHeld, by go_simp⟩ (fun hHeld2 => ?_)
        clear hHeld
        refine wpAnyH_take (i := 2) (v := ?v4) (arr_at rfl) (by kernel_rfl) (by kernel_rfl) (by kernel_rfl) (fun _ _ _ h => h) (Or.inl ⟨by rfl, ?hy4⟩) (by assumption) ?_
        case hy4 => (intro w hSw; go_simp <;> with_reducible rfl)
        try simp only [Act.put, List.setIfInBounds_toArray, List.set_cons_zero, List.set_cons_succ]
        refine wpAnyH_take (i := 3) (v := ?v5) (arr_at rfl) (by kernel_rfl) (by kernel_rfl) (by kernel_rfl) (fun _ _ _ h => h) (Or.inl ⟨by rfl, ?hy5⟩) (by assumption) ?_
        case hy5 => (intro w hSw; go_simp <;> with_reducible rfl)
        try simp only [Act.put, List.setIfInBounds_toArray, List.set_cons_zero, List.set_cons_succ]
        refine wpAnyH_ready (rs := [6, 10]) (by kernel_rfl) (by simp) ?_
        refine AllReadyH.cons (arr_at rfl) (fun K hK => ?_) ?_
        · go_simp; refine (R0.out _).mono ?_; rintro e w2 ⟨rfl, hb2⟩; obtain ⟨hc2, hf2⟩ := bcell hb2; have hz2 := hb2.size; (try simp at hz2); have hy2 : W.heap.size < w2.heap.size := (by omega); (try (have hy3 : W.heap.size + 1 < w2.heap.size := (by omega))); have hB2 : Below W.heap.size W w2 := below_step (by go_grown) hb2; go_wp2_with fail
          refine hK.out _ _ ?_ (fun hHeld => ?_)
          · first | assumption | exact Sk_of (by go_grown) | exact ⟨Sk_of (by go_grown), by go_simp⟩
          clear hK K
          try simp only [Act.put, List.setIfInBounds_toArray, List.set_cons_zero, List.set_cons_succ]
          refine wpAnyH_take (i := 7) (v := ?v6) (arr_at rfl) (by kernel_rfl) (by kernel_rfl) (by kernel_rfl) (fun _ _ _ h => h) (Or.inl ⟨by rfl, ?hy6⟩) (by assumption) ?_
          case hy6 => (intro w hSw; go_simp <;> with_reducible rfl)
          try simp only [Act.put, List.setIfInBounds_toArray, List.set_cons_zero, List.set_cons_succ]
          refine wpAnyH_take (i := 8) (v := ?v7) (arr_at rfl) (by kernel_rfl) (by kernel_rfl) (by kernel_rfl) (fun _ _ _ h => h) (Or.inl ⟨by rfl, ?hy7⟩) (by assumption) ?_
          case hy7 => (intro w hSw; go_simp <;> with_reducible rfl)
          try simp only [Act.put, List.setIfInBounds_toArray, List.set_cons_zero, List.set_cons_succ]
          refine wpAnyH_take (i := 9) (v := ?v8) (arr_at rfl) (by kernel_rfl) (by kernel_rfl) (by kernel_rfl) (fun _ _ _ h => h) (Or.inl ⟨by rfl, ?hy8⟩) (by assumption) ?_
          case hy8 => (intro w hSw; go_simp <;> with_reducible rfl)
          try simp only [Act.put, List.setIfInBounds_toArray, List.set_cons_zero, List.set_cons_succ]
          refine wpAnyH_ready (rs := [10]) (by kernel_rfl) (by simp) ?_
          refine AllReadyH.cons (arr_at rfl) (fun K hK => ?_) ?_
          · go_simp
            refine hK.out _ _ ?_ (fun hHeld => ?_)
            · first | assumption | exact Sk_of (by go_grown) | exact ⟨Sk_of (by go_grown), by go_simp⟩
            clear hK K
            try simp only [Act.put, List.setIfInBounds_toArray, List.set_cons_zero, List.set_cons_succ]
            refine wpAnyH_ready (rs := [11]) (by kernel_rfl) (by simp) ?_
            refine AllReadyH.cons (arr_at rfl) (fun K hK => ?_) ?_
            · go_simp
              refine hK.out _ _ ?_ (fun hHeld => ?_)
              · first | assumption | exact Sk_of (by go_grown) | exact ⟨Sk_of (by go_grown), by go_simp⟩
              clear hK K
              try simp only [Act.put, List.setIfInBounds_toArray, List.set_cons_zero, List.set_cons_succ]
              refine wpAnyH_take (i := 12) (v := ?v9) (arr_at rfl) (by kernel_rfl) (by kernel_rfl) (by kernel_rfl) (fun _ _ _ h => h) (Or.inl ⟨by rfl, ?hy9⟩) (by assumption) ?_
              case hy9 => (intro w hSw; go_simp <;> with_reducible rfl)
              try simp only [Act.put, List.setIfInBounds_toArray, List.set_cons_zero, List.set_cons_succ]
              refine wpAnyH_done (by kernel_rfl) ?_ _
              refine NoPanic.normal ?_
              have hSk : Sk W _ := (by assumption : Sk W _ ∧ _).1
              go_wp2_with fail
              go_roundw
              case rel => exact ⟨1, by omega, by go_num, hFW.next (by go_grown)⟩
              case measure => simp [intOf]
            exact AllReadyH.nil
          exact AllReadyH.nil
        refine AllReadyH.cons (arr_at rfl) (fun K hK => ?_) ?_
        · go_simp
          refine hK.out _ _ ?_ (fun hHeld => ?_)
          · first | assumption | exact Sk_of (by go_grown) | exact ⟨Sk_of (by go_grown), by go_simp⟩
          clear hK K
          try simp only [Act.put, List.setIfInBounds_toArray, List.set_cons_zero, List.set_cons_succ]
          refine wpAnyH_ready (rs := [6]) (by kernel_rfl) (by simp) ?_
          refine AllReadyH.cons (arr_at rfl) (fun K hK => ?_) ?_
          · go_simp; refine (R0.out _).mono ?_; rintro e w2 ⟨rfl, hb2⟩; obtain ⟨hc2, hf2⟩ := bcell hb2; have hz2 := hb2.size; (try simp at hz2); have hy2 : W.heap.size < w2.heap.size := (by omega); (try (have hy3 : W.heap.size + 1 < w2.heap.size := (by omega))); have hB2 : Below W.heap.size W w2 := below_step (by go_grown) hb2; go_wp2_with fail
            refine hK.out _ _ ?_ (fun hHeld => ?_)
            · first | assumption | exact Sk_of (by go_grown) | exact ⟨Sk_of (by go_grown), by go_simp⟩
            clear hK K
            try simp only [Act.put, List.setIfInBounds_toArray, List.set_cons_zero, List.set_cons_succ]
            refine wpAnyH_take (i := 7) (v := ?v10) (arr_at rfl) (by kernel_rfl) (by kernel_rfl) (by kernel_rfl) (fun _ _ _ h => h) (Or.inl ⟨by rfl, ?hy10⟩) (by assumption) ?_
            case hy10 => (intro w hSw; go_simp <;> with_reducible rfl)
            try simp only [Act.put, List.setIfInBounds_toArray, List.set_cons_zero, List.set_cons_succ]
            refine wpAnyH_take (i := 8) (v := ?v11) (arr_at rfl) (by kernel_rfl) (by kernel_rfl) (by kernel_rfl) (fun _ _ _ h => h) (Or.inl ⟨by rfl, ?hy11⟩) (by assumption) ?_
            case hy11 => (intro w hSw; go_simp <;> with_reducible rfl)
            try simp only [Act.put, List.setIfInBounds_toArray, List.set_cons_zero, List.set_cons_succ]
            refine wpAnyH_take (i := 9) (v := ?v12) (arr_at rfl) (by kernel_rfl) (by kernel_rfl) (by kernel_rfl) (fun _ _ _ h => h) (Or.inl ⟨by rfl, ?hy12⟩) (by assumption) ?_
            case hy12 => (intro w hSw; go_simp <;> with_reducible rfl)
            try simp only [Act.put, List.setIfInBounds_toArray, List.set_cons_zero, List.set_cons_succ]
            refine wpAnyH_ready (rs := [11]) (by kernel_rfl) (by simp) ?_
            refine AllReadyH.cons (arr_at rfl) (fun K hK => ?_) ?_
            · go_simp
              refine hK.out _ _ ?_ (fun hHeld => ?_)
              · first | assumption | exact Sk_of (by go_grown) | exact ⟨Sk_of (by go_grown), by go_simp⟩
              clear hK K
              try simp only [Act.put, List.setIfInBounds_toArray, List.set_cons_zero, List.set_cons_succ]
              refine wpAnyH_take (i := 12) (v := ?v13) (arr_at rfl) (by kernel_rfl) (by kernel_rfl) (by kernel_rfl) (fun _ _ _ h => h) (Or.inl ⟨by rfl, ?hy13⟩) (by assumption) ?_
              case hy13 => (intro w hSw; go_simp <;> with_reducible rfl)
              try simp only [Act.put, List.setIfInBounds_toArray, List.set_cons_zero, List.set_cons_succ]
              refine wpAnyH_done (by kernel_rfl) ?_ _
              refine NoPanic.normal ?_
              have hSk : Sk W _ := (by assumption : Sk W _ ∧ _).1
              go_wp2_with fail
              go_roundw
              case rel => exact ⟨1, by omega, by go_num, hFW.next (by go_grown)⟩
              case measure => simp [intOf]
            exact AllReadyH.nil
          exact AllReadyH.nil
        exact AllReadyH.nil
      refine AllReadyH.cons (arr_at rfl) (fun K hK => ?_) ?_
      · go_simp
        refine hK.out _ _ ?_ (fun hHeld => ?_)
        · first | assumption | exact Sk_of (by go_grown) | exact ⟨Sk_of (by go_grown), by go_simp⟩
        clear hK K
        try simp only [Act.put, List.setIfInBounds_toArray, List.set_cons_zero, List.set_cons_succ]
        refine wpAnyH_ready (rs := [0]) (by kernel_rfl) (by simp) ?_
        refine AllReadyH.cons (arr_at rfl) (fun K hK => ?_) ?_
        · go_simp
          refine hK.out _ _ ?_ (fun hHeld => ?_)
          · first | assumption | exact Sk_of (by go_grown) | exact ⟨Sk_of (by go_grown), by go_simp⟩
          clear hK K
          try simp only [Act.put, List.setIfInBounds_toArray, List.set_cons_zero, List.set_cons_succ]
          refine wpAnyH_switch (S' := fun w' => Sk W w' ∧ w'.cell? ⟨W.heap.size + 1, 0, none⟩ = some (.func (.func 19) #[] #[])) (fun _ h => h.1) ⟨hHeld, by go_simp⟩ (fun hHeld2 => ?_)
          clear hHeld
          refine wpAnyH_take (i := 2) (v := ?v14) (arr_at rfl) (by kernel_rfl) (by kernel_rfl) (by kernel_rfl) (fun _ _ _ h => h) (Or.inl ⟨by rfl, ?hy14⟩) (by assumption) ?_
          case hy14 => (intro w hSw; go_simp <;> with_reducible rfl)
          try simp only [Act.put, List.setIfInBounds_toArray, List.set_cons_zero, List.set_cons_succ]
          refine wpAnyH_take (i := 3) (v := ?v15) (arr_at rfl) (by kernel_rfl) (by kernel_rfl) (by kernel_rfl) (fun _ _ _ h => h) (Or.inl ⟨by rfl, ?hy15⟩) (by assumption) ?_
          case hy15 => (intro w hSw; go_simp <;> with_reducible rfl)
          try simp only [Act.put, List.setIfInBounds_toArray, List.set_cons_zero, List.set_cons_succ]
          refine wpAnyH_ready (rs := [6]) (by kernel_rfl) (by simp) ?_
          refine AllReadyH.cons (arr_at rfl) (fun K hK => ?_) ?_
          · go_simp; refine (R0.out _).mono ?_; rintro e w2 ⟨rfl, hb2⟩; obtain ⟨hc2, hf2⟩ := bcell hb2; have hz2 := hb2.size; (try simp at hz2); have hy2 : W.heap.size < w2.heap.size := (by omega); (try (have hy3 : W.heap.size + 1 < w2.heap.size := (by omega))); have hB2 : Below W.heap.size W w2 := below_step (by go_grown) hb2; go_wp2_with fail
            refine hK.out _ _ ?_ (fun hHeld => ?_)
            · first | assumption | exact Sk_of (by go_grown) | exact ⟨Sk_of (by go_grown), by go_simp⟩
            clear hK K
            try simp only [Act.put, List.setIfInBounds_toArray, List.set_cons_zero, List.set_cons_succ]
            refine wpAnyH_take (i := 7) (v := ?v16) (arr_at rfl) (by kernel_rfl) (by kernel_rfl) (by kernel_rfl) (fun _ _ _ h => h) (Or.inl ⟨by rfl, ?hy16⟩) (by assumption) ?_
            case hy16 => (intro w hSw; go_simp <;> with_reducible rfl)
            try simp only [Act.put, List.setIfInBounds_toArray, List.set_cons_zero, List.set_cons_succ]
            refine wpAnyH_take (i := 8) (v := ?v17) (arr_at rfl) (by kernel_rfl) (by kernel_rfl) (by kernel_rfl) (fun _ _ _ h => h) (Or.inl ⟨by rfl, ?hy17⟩) (by assumption) ?_
            case hy17 => (intro w hSw; go_simp <;> with_reducible rfl)
            try simp only [Act.put, List.setIfInBounds_toArray, List.set_cons_zero, List.set_cons_succ]
            refine wpAnyH_take (i := 9) (v := ?v18) (arr_at rfl) (by kernel_rfl) (by kernel_rfl) (by kernel_rfl) (fun _ _ _ h => h) (Or.inl ⟨by rfl, ?hy18⟩) (by assumption) ?_
            case hy18 => (intro w hSw; go_simp <;> with_reducible rfl)
            try simp only [Act.put, List.setIfInBounds_toArray, List.set_cons_zero, List.set_cons_succ]
            refine wpAnyH_ready (rs := [11]) (by kernel_rfl) (by simp) ?_
            refine AllReadyH.cons (arr_at rfl) (fun K hK => ?_) ?_
            · go_simp
              refine hK.out _ _ ?_ (fun hHeld => ?_)
              · first | assumption | exact Sk_of (by go_grown) | exact ⟨Sk_of (by go_grown), by go_simp⟩
              clear hK K
              try simp only [Act.put, List.setIfInBounds_toArray, List.set_cons_zero, List.set_cons_succ]
              refine wpAnyH_take (i := 12) (v := ?v19) (arr_at rfl) (by kernel_rfl) (by kernel_rfl) (by kernel_rfl) (fun _ _ _ h => h) (Or.inl ⟨by rfl, ?hy19⟩) (by assumption) ?_
              case hy19 => (intro w hSw; go_simp <;> with_reducible rfl)
              try simp only [Act.put, List.setIfInBounds_toArray, List.set_cons_zero, List.set_cons_succ]
              refine wpAnyH_done (by kernel_rfl) ?_ _
              refine NoPanic.normal ?_
              have hSk : Sk W _ := (by assumption : Sk W _ ∧ _).1
              go_wp2_with fail
              go_roundw
              case rel => exact ⟨1, by omega, by go_num, hFW.next (by go_grown)⟩
              case measure => simp [intOf]
            exact AllReadyH.nil
          exact AllReadyH.nil
        exact AllReadyH.nil
      exact AllReadyH.nil
    · have a0 := hF.a0
      have a1 := hF.a1
      have b0 := hF.b0
      have b1 := hF.b1
      have s1 := hF.s1
      have hzr := hF.hz
      have hzr0 : w.heap.size < wr.heap.size := by omega
      have hzr1 : w.heap.size + 1 < wr.heap.size := by omega
      go_wp2_with fail
      refine (T1.out _).mono ?_
      rintro e wa ⟨rfl, hba⟩
      have hFa := hF.next hba
      clear a0 a1 b0 b1 s1
      have hza := hba.size
      have hzs0 : w.heap.size < wa.heap.size := by omega
      have hzs1 : w.heap.size + 1 < wa.heap.size := by omega
      have a0 := hFa.a0
      have a1 := hFa.a1
      have b0 := hFa.b0
      have b1 := hFa.b1
      go_wp2_with fail
      refine wp_named fun W hW => ?_
      have k0 : W.cell? ⟨w.heap.size, 0, none⟩ = some (.int .i64 a) := by rw [hW]; clear hW; go_simp
      have k1 : W.cell? ⟨w.heap.size, 1, none⟩ = some (.int .i64 b) := by rw [hW]; clear hW; go_simp
      have k2 : W.cell? ⟨w.heap.size + 1, 0, none⟩ = some (.int .i64 c) := by rw [hW]; clear hW; go_simp
      have k3 : W.cell? ⟨w.heap.size + 1, 1, none⟩ = some (.int .i64 d) := by rw [hW]; clear hW; go_simp
      have k4 : W.cell? ⟨wa.heap.size, 0, none⟩ = some (.int .i64 x1) := by rw [hW]; clear hW; go_simp
      have k5 : W.cell? ⟨wa.heap.size, 1, none⟩ = some (.int .i64 y1) := by rw [hW]; clear hW; go_simp
      have hFW : FrS w a b c d W := hFa.next (by rw [hW]; go_grown)
      have hzW : wa.heap.size < W.heap.size := by rw [hW]; simp
      have q0 : W.heap.size < W.heap.size + 1 + 1 := by omega
      have hzW0 : w.heap.size < W.heap.size := by omega
      have hzW1 : w.heap.size + 1 < W.heap.size := by omega
      clear hW a0 a1 b0 b1 hzs0 hzs1 hzr hzr0 hzr1 hFa
      refine wp_region_noPanic ?_
      refine wp_region_held_drew (S := fun w' => Sk W w') (by kernel_rfl) (Sk_drew _) (fun hHeld => ?_)
      refine wpAnyH_take (i := 1) (v := ?v20) (arr_at rfl) (by kernel_rfl) (by kernel_rfl) (by kernel_rfl) (fun _ _ _ h => h) (Or.inl ⟨by rfl, ?hy20⟩) (by assumption) ?_
      case hy20 => (intro w hSw; go_simp <;> with_reducible rfl)
      try simp only [Act.put, List.setIfInBounds_toArray, List.set_cons_zero, List.set_cons_succ]
      refine wpAnyH_take (i := 4) (v := ?v21) (arr_at rfl) (by kernel_rfl) (by kernel_rfl) (by kernel_rfl) (fun _ _ _ h => h) (Or.inl ⟨by rfl, ?hy21⟩) (by assumption) ?_
      case hy21 => (intro w hSw; go_simp <;> with_reducible rfl)
      try simp only [Act.put, List.setIfInBounds_toArray, List.set_cons_zero, List.set_cons_succ]
      refine wpAnyH_take (i := 5) (v := ?v22) (arr_at rfl) (by kernel_rfl) (by kernel_rfl) (by kernel_rfl) (fun _ _ _ h => h) (Or.inl ⟨by rfl, ?hy22⟩) (by assumption) ?_
      case hy22 => (intro w hSw; go_simp <;> with_reducible rfl)
      try simp only [Act.put, List.setIfInBounds_toArray, List.set_cons_zero, List.set_cons_succ]
      refine wpAnyH_ready (rs := [0, 10]) (by kernel_rfl) (by simp) ?_
      refine AllReadyH.cons (arr_at rfl) (fun K hK => ?_) ?_
      · go_simp
        refine hK.out _ _ ?_ (fun hHeld => ?_)
        · first | assumption | exact Sk_of (by go_grown) | exact ⟨Sk_of (by go_grown), by go_simp⟩
        clear hK K
        try simp only [Act.put, List.setIfInBounds_toArray, List.set_cons_zero, List.set_cons_succ]
        refine wpAnyH_switch (S' := fun w' => Sk W w' ∧ w'.cell? ⟨W.heap.size, 1, none⟩ = some (.func (.func 20) #[] #[])) (fun _ h => h.1) ⟨hHeld, by go_simp⟩ (fun hHeld2 => ?_)
        clear hHeld
        refine wpAnyH_take (i := 2) (v := ?v23) (arr_at rfl) (by kernel_rfl) (by kernel_rfl) (by kernel_rfl) (fun _ _ _ h => h) (Or.inl ⟨by rfl, ?hy23⟩) (by assumption) ?_
        case hy23 => (intro w hSw; go_simp <;> with_reducible rfl)
        try simp only [Act.put, List.setIfInBounds_toArray, List.set_cons_zero, List.set_cons_succ]
        refine wpAnyH_take (i := 3) (v := ?v24) (arr_at rfl) (by kernel_rfl) (by kernel_rfl) (by kernel_rfl) (fun _ _ _ h => h) (Or.inl ⟨by rfl, ?hy24⟩) (by assumption) ?_
        case hy24 => (intro w hSw; go_simp <;> with_reducible rfl)
        try simp only [Act.put, List.setIfInBounds_toArray, List.set_cons_zero, List.set_cons_succ]
        refine wpAnyH_ready (rs := [6, 10]) (by kernel_rfl) (by simp) ?_
        refine AllReadyH.cons (arr_at rfl) (fun K hK => ?_) ?_
        · go_simp; refine (R1.out _).mono ?_; rintro e w2 ⟨rfl, hb2⟩; obtain ⟨hc2, hf2⟩ := bcell hb2; have hz2 := hb2.size; (try simp at hz2); have hy2 : W.heap.size < w2.heap.size := (by omega); (try (have hy3 : W.heap.size + 1 < w2.heap.size := (by omega))); have hB2 : Below W.heap.size W w2 := below_step (by go_grown) hb2; go_wp2_with fail
          refine hK.out _ _ ?_ (fun hHeld => ?_)
          · first | assumption | exact Sk_of (by go_grown) | exact ⟨Sk_of (by go_grown), by go_simp⟩
          clear hK K
          try simp only [Act.put, List.setIfInBounds_toArray, List.set_cons_zero, List.set_cons_succ]
          refine wpAnyH_take (i := 7) (v := ?v25) (arr_at rfl) (by kernel_rfl) (by kernel_rfl) (by kernel_rfl) (fun _ _ _ h => h) (Or.inl ⟨by rfl, ?hy25⟩) (by assumption) ?_
          case hy25 => (intro w hSw; go_simp <;> with_reducible rfl)
          try simp only [Act.put, List.setIfInBounds_toArray, List.set_cons_zero, List.set_cons_succ]
          refine wpAnyH_take (i := 8) (v := ?v26) (arr_at rfl) (by kernel_rfl) (by kernel_rfl) (by kernel_rfl) (fun _ _ _ h => h) (Or.inl ⟨by rfl, ?hy26⟩) (by assumption) ?_
          case hy26 => (intro w hSw; go_simp <;> with_reducible rfl)
          try simp only [Act.put, List.setIfInBounds_toArray, List.set_cons_zero, List.set_cons_succ]
          refine wpAnyH_take (i := 9) (v := ?v27) (arr_at rfl) (by kernel_rfl) (by kernel_rfl) (by kernel_rfl) (fun _ _ _ h => h) (Or.inl ⟨by rfl, ?hy27⟩) (by assumption) ?_
          case hy27 => (intro w hSw; go_simp <;> with_reducible rfl)
          try simp only [Act.put, List.setIfInBounds_toArray, List.set_cons_zero, List.set_cons_succ]
          refine wpAnyH_ready (rs := [10]) (by kernel_rfl) (by simp) ?_
          refine AllReadyH.cons (arr_at rfl) (fun K hK => ?_) ?_
          · go_simp
            refine hK.out _ _ ?_ (fun hHeld => ?_)
            · first | assumption | exact Sk_of (by go_grown) | exact ⟨Sk_of (by go_grown), by go_simp⟩
            clear hK K
            try simp only [Act.put, List.setIfInBounds_toArray, List.set_cons_zero, List.set_cons_succ]
            refine wpAnyH_ready (rs := [11]) (by kernel_rfl) (by simp) ?_
            refine AllReadyH.cons (arr_at rfl) (fun K hK => ?_) ?_
            · go_simp
              refine hK.out _ _ ?_ (fun hHeld => ?_)
              · first | assumption | exact Sk_of (by go_grown) | exact ⟨Sk_of (by go_grown), by go_simp⟩
              clear hK K
              try simp only [Act.put, List.setIfInBounds_toArray, List.set_cons_zero, List.set_cons_succ]
              refine wpAnyH_take (i := 12) (v := ?v28) (arr_at rfl) (by kernel_rfl) (by kernel_rfl) (by kernel_rfl) (fun _ _ _ h => h) (Or.inl ⟨by rfl, ?hy28⟩) (by assumption) ?_
              case hy28 => (intro w hSw; go_simp <;> with_reducible rfl)
              try simp only [Act.put, List.setIfInBounds_toArray, List.set_cons_zero, List.set_cons_succ]
              refine wpAnyH_done (by kernel_rfl) ?_ _
              refine NoPanic.normal ?_
              have hSk : Sk W _ := (by assumption : Sk W _ ∧ _).1
              go_wp2_with fail
              go_roundw
              case rel => exact ⟨2, by omega, by go_num, hFW.next (by go_grown)⟩
              case measure => simp [intOf]
            exact AllReadyH.nil
          exact AllReadyH.nil
        refine AllReadyH.cons (arr_at rfl) (fun K hK => ?_) ?_
        · go_simp
          refine hK.out _ _ ?_ (fun hHeld => ?_)
          · first | assumption | exact Sk_of (by go_grown) | exact ⟨Sk_of (by go_grown), by go_simp⟩
          clear hK K
          try simp only [Act.put, List.setIfInBounds_toArray, List.set_cons_zero, List.set_cons_succ]
          refine wpAnyH_ready (rs := [6]) (by kernel_rfl) (by simp) ?_
          refine AllReadyH.cons (arr_at rfl) (fun K hK => ?_) ?_
          · go_simp; refine (R1.out _).mono ?_; rintro e w2 ⟨rfl, hb2⟩; obtain ⟨hc2, hf2⟩ := bcell hb2; have hz2 := hb2.size; (try simp at hz2); have hy2 : W.heap.size < w2.heap.size := (by omega); (try (have hy3 : W.heap.size + 1 < w2.heap.size := (by omega))); have hB2 : Below W.heap.size W w2 := below_step (by go_grown) hb2; go_wp2_with fail
            refine hK.out _ _ ?_ (fun hHeld => ?_)
            · first | assumption | exact Sk_of (by go_grown) | exact ⟨Sk_of (by go_grown), by go_simp⟩
            clear hK K
            try simp only [Act.put, List.setIfInBounds_toArray, List.set_cons_zero, List.set_cons_succ]
            refine wpAnyH_take (i := 7) (v := ?v29) (arr_at rfl) (by kernel_rfl) (by kernel_rfl) (by kernel_rfl) (fun _ _ _ h => h) (Or.inl ⟨by rfl, ?hy29⟩) (by assumption) ?_
            case hy29 => (intro w hSw; go_simp <;> with_reducible rfl)
            try simp only [Act.put, List.setIfInBounds_toArray, List.set_cons_zero, List.set_cons_succ]
            refine wpAnyH_take (i := 8) (v := ?v30) (arr_at rfl) (by kernel_rfl) (by kernel_rfl) (by kernel_rfl) (fun _ _ _ h => h) (Or.inl ⟨by rfl, ?hy30⟩) (by assumption) ?_
            case hy30 => (intro w hSw; go_simp <;> with_reducible rfl)
            try simp only [Act.put, List.setIfInBounds_toArray, List.set_cons_zero, List.set_cons_succ]
            refine wpAnyH_take (i := 9) (v := ?v31) (arr_at rfl) (by kernel_rfl) (by kernel_rfl) (by kernel_rfl) (fun _ _ _ h => h) (Or.inl ⟨by rfl, ?hy31⟩) (by assumption) ?_
            case hy31 => (intro w hSw; go_simp <;> with_reducible rfl)
            try simp only [Act.put, List.setIfInBounds_toArray, List.set_cons_zero, List.set_cons_succ]
            refine wpAnyH_ready (rs := [11]) (by kernel_rfl) (by simp) ?_
            refine AllReadyH.cons (arr_at rfl) (fun K hK => ?_) ?_
            · go_simp
              refine hK.out _ _ ?_ (fun hHeld => ?_)
              · first | assumption | exact Sk_of (by go_grown) | exact ⟨Sk_of (by go_grown), by go_simp⟩
              clear hK K
              try simp only [Act.put, List.setIfInBounds_toArray, List.set_cons_zero, List.set_cons_succ]
              refine wpAnyH_take (i := 12) (v := ?v32) (arr_at rfl) (by kernel_rfl) (by kernel_rfl) (by kernel_rfl) (fun _ _ _ h => h) (Or.inl ⟨by rfl, ?hy32⟩) (by assumption) ?_
              case hy32 => (intro w hSw; go_simp <;> with_reducible rfl)
              try simp only [Act.put, List.setIfInBounds_toArray, List.set_cons_zero, List.set_cons_succ]
              refine wpAnyH_done (by kernel_rfl) ?_ _
              refine NoPanic.normal ?_
              have hSk : Sk W _ := (by assumption : Sk W _ ∧ _).1
              go_wp2_with fail
              go_roundw
              case rel => exact ⟨2, by omega, by go_num, hFW.next (by go_grown)⟩
              case measure => simp [intOf]
            exact AllReadyH.nil
          exact AllReadyH.nil
        exact AllReadyH.nil
      refine AllReadyH.cons (arr_at rfl) (fun K hK => ?_) ?_
      · go_simp
        refine hK.out _ _ ?_ (fun hHeld => ?_)
        · first | assumption | exact Sk_of (by go_grown) | exact ⟨Sk_of (by go_grown), by go_simp⟩
        clear hK K
        try simp only [Act.put, List.setIfInBounds_toArray, List.set_cons_zero, List.set_cons_succ]
        refine wpAnyH_ready (rs := [0]) (by kernel_rfl) (by simp) ?_
        refine AllReadyH.cons (arr_at rfl) (fun K hK => ?_) ?_
        · go_simp
          refine hK.out _ _ ?_ (fun hHeld => ?_)
          · first | assumption | exact Sk_of (by go_grown) | exact ⟨Sk_of (by go_grown), by go_simp⟩
          clear hK K
          try simp only [Act.put, List.setIfInBounds_toArray, List.set_cons_zero, List.set_cons_succ]
          refine wpAnyH_switch (S' := fun w' => Sk W w' ∧ w'.cell? ⟨W.heap.size + 1, 1, none⟩ = some (.func (.func 20) #[] #[])) (fun _ h => h.1) ⟨hHeld, by go_simp⟩ (fun hHeld2 => ?_)
          clear hHeld
          refine wpAnyH_take (i := 2) (v := ?v33) (arr_at rfl) (by kernel_rfl) (by kernel_rfl) (by kernel_rfl) (fun _ _ _ h => h) (Or.inl ⟨by rfl, ?hy33⟩) (by assumption) ?_
          case hy33 => (intro w hSw; go_simp <;> with_reducible rfl)
          try simp only [Act.put, List.setIfInBounds_toArray, List.set_cons_zero, List.set_cons_succ]
          refine wpAnyH_take (i := 3) (v := ?v34) (arr_at rfl) (by kernel_rfl) (by kernel_rfl) (by kernel_rfl) (fun _ _ _ h => h) (Or.inl ⟨by rfl, ?hy34⟩) (by assumption) ?_
          case hy34 => (intro w hSw; go_simp <;> with_reducible rfl)
          try simp only [Act.put, List.setIfInBounds_toArray, List.set_cons_zero, List.set_cons_succ]
          refine wpAnyH_ready (rs := [6]) (by kernel_rfl) (by simp) ?_
          refine AllReadyH.cons (arr_at rfl) (fun K hK => ?_) ?_
          · go_simp; refine (R1.out _).mono ?_; rintro e w2 ⟨rfl, hb2⟩; obtain ⟨hc2, hf2⟩ := bcell hb2; have hz2 := hb2.size; (try simp at hz2); have hy2 : W.heap.size < w2.heap.size := (by omega); (try (have hy3 : W.heap.size + 1 < w2.heap.size := (by omega))); have hB2 : Below W.heap.size W w2 := below_step (by go_grown) hb2; go_wp2_with fail
            refine hK.out _ _ ?_ (fun hHeld => ?_)
            · first | assumption | exact Sk_of (by go_grown) | exact ⟨Sk_of (by go_grown), by go_simp⟩
            clear hK K
            try simp only [Act.put, List.setIfInBounds_toArray, List.set_cons_zero, List.set_cons_succ]
            refine wpAnyH_take (i := 7) (v := ?v35) (arr_at rfl) (by kernel_rfl) (by kernel_rfl) (by kernel_rfl) (fun _ _ _ h => h) (Or.inl ⟨by rfl, ?hy35⟩) (by assumption) ?_
            case hy35 => (intro w hSw; go_simp <;> with_reducible rfl)
            try simp only [Act.put, List.setIfInBounds_toArray, List.set_cons_zero, List.set_cons_succ]
            refine wpAnyH_take (i := 8) (v := ?v36) (arr_at rfl) (by kernel_rfl) (by kernel_rfl) (by kernel_rfl) (fun _ _ _ h => h) (Or.inl ⟨by rfl, ?hy36⟩) (by assumption) ?_
            case hy36 => (intro w hSw; go_simp <;> with_reducible rfl)
            try simp only [Act.put, List.setIfInBounds_toArray, List.set_cons_zero, List.set_cons_succ]
            refine wpAnyH_take (i := 9) (v := ?v37) (arr_at rfl) (by kernel_rfl) (by kernel_rfl) (by kernel_rfl) (fun _ _ _ h => h) (Or.inl ⟨by rfl, ?hy37⟩) (by assumption) ?_
            case hy37 => (intro w hSw; go_simp <;> with_reducible rfl)
            try simp only [Act.put, List.setIfInBounds_toArray, List.set_cons_zero, List.set_cons_succ]
            refine wpAnyH_ready (rs := [11]) (by kernel_rfl) (by simp) ?_
            refine AllReadyH.cons (arr_at rfl) (fun K hK => ?_) ?_
            · go_simp
              refine hK.out _ _ ?_ (fun hHeld => ?_)
              · first | assumption | exact Sk_of (by go_grown) | exact ⟨Sk_of (by go_grown), by go_simp⟩
              clear hK K
              try simp only [Act.put, List.setIfInBounds_toArray, List.set_cons_zero, List.set_cons_succ]
              refine wpAnyH_take (i := 12) (v := ?v38) (arr_at rfl) (by kernel_rfl) (by kernel_rfl) (by kernel_rfl) (fun _ _ _ h => h) (Or.inl ⟨by rfl, ?hy38⟩) (by assumption) ?_
              case hy38 => (intro w hSw; go_simp <;> with_reducible rfl)
              try simp only [Act.put, List.setIfInBounds_toArray, List.set_cons_zero, List.set_cons_succ]
              refine wpAnyH_done (by kernel_rfl) ?_ _
              refine NoPanic.normal ?_
              have hSk : Sk W _ := (by assumption : Sk W _ ∧ _).1
              go_wp2_with fail
              go_roundw
              case rel => exact ⟨2, by omega, by go_num, hFW.next (by go_grown)⟩
              case measure => simp [intOf]
            exact AllReadyH.nil
          exact AllReadyH.nil
        exact AllReadyH.nil
      exact AllReadyH.nil
    · have a0 := hF.a0
      have a1 := hF.a1
      have b0 := hF.b0
      have b1 := hF.b1
      have s2 := hF.s2
      have hzr := hF.hz
      have hzr0 : w.heap.size < wr.heap.size := by omega
      have hzr1 : w.heap.size + 1 < wr.heap.size := by omega
      go_wp2_with fail
      refine (T2.out _).mono ?_
      rintro e wa ⟨rfl, hba⟩
      have hFa := hF.next hba
      clear a0 a1 b0 b1 s2
      have hza := hba.size
      have hzs0 : w.heap.size < wa.heap.size := by omega
      have hzs1 : w.heap.size + 1 < wa.heap.size := by omega
      have a0 := hFa.a0
      have a1 := hFa.a1
      have b0 := hFa.b0
      have b1 := hFa.b1
      go_wp2_with fail
      refine wp_named fun W hW => ?_
      have k0 : W.cell? ⟨w.heap.size, 0, none⟩ = some (.int .i64 a) := by rw [hW]; clear hW; go_simp
      have k1 : W.cell? ⟨w.heap.size, 1, none⟩ = some (.int .i64 b) := by rw [hW]; clear hW; go_simp
      have k2 : W.cell? ⟨w.heap.size + 1, 0, none⟩ = some (.int .i64 c) := by rw [hW]; clear hW; go_simp
      have k3 : W.cell? ⟨w.heap.size + 1, 1, none⟩ = some (.int .i64 d) := by rw [hW]; clear hW; go_simp
      have k4 : W.cell? ⟨wa.heap.size, 0, none⟩ = some (.int .i64 x2) := by rw [hW]; clear hW; go_simp
      have k5 : W.cell? ⟨wa.heap.size, 1, none⟩ = some (.int .i64 y2) := by rw [hW]; clear hW; go_simp
      have hFW : FrS w a b c d W := hFa.next (by rw [hW]; go_grown)
      have hzW : wa.heap.size < W.heap.size := by rw [hW]; simp
      have q0 : W.heap.size < W.heap.size + 1 + 1 := by omega
      have hzW0 : w.heap.size < W.heap.size := by omega
      have hzW1 : w.heap.size + 1 < W.heap.size := by omega
      clear hW a0 a1 b0 b1 hzs0 hzs1 hzr hzr0 hzr1 hFa
      refine wp_region_noPanic ?_
      refine wp_region_held_drew (S := fun w' => Sk W w') (by kernel_rfl) (Sk_drew _) (fun hHeld => ?_)
      refine wpAnyH_take (i := 1) (v := ?v39) (arr_at rfl) (by kernel_rfl) (by kernel_rfl) (by kernel_rfl) (fun _ _ _ h => h) (Or.inl ⟨by rfl, ?hy39⟩) (by assumption) ?_
      case hy39 => (intro w hSw; go_simp <;> with_reducible rfl)
      try simp only [Act.put, List.setIfInBounds_toArray, List.set_cons_zero, List.set_cons_succ]
      refine wpAnyH_take (i := 4) (v := ?v40) (arr_at rfl) (by kernel_rfl) (by kernel_rfl) (by kernel_rfl) (fun _ _ _ h => h) (Or.inl ⟨by rfl, ?hy40⟩) (by assumption) ?_
      case hy40 => (intro w hSw; go_simp <;> with_reducible rfl)
      try simp only [Act.put, List.setIfInBounds_toArray, List.set_cons_zero, List.set_cons_succ]
      refine wpAnyH_take (i := 5) (v := ?v41) (arr_at rfl) (by kernel_rfl) (by kernel_rfl) (by kernel_rfl) (fun _ _ _ h => h) (Or.inl ⟨by rfl, ?hy41⟩) (by assumption) ?_
      case hy41 => (intro w hSw; go_simp <;> with_reducible rfl)
      try simp only [Act.put, List.setIfInBounds_toArray, List.set_cons_zero, List.set_cons_succ]
      refine wpAnyH_ready (rs := [0, 10]) (by kernel_rfl) (by simp) ?_
      refine AllReadyH.cons (arr_at rfl) (fun K hK => ?_) ?_
      · go_simp
        refine hK.out _ _ ?_ (fun hHeld => ?_)
        · first | assumption | exact Sk_of (by go_grown) | exact ⟨Sk_of (by go_grown), by go_simp⟩
        clear hK K
        try simp only [Act.put, List.setIfInBounds_toArray, List.set_cons_zero, List.set_cons_succ]
        refine wpAnyH_switch (S' := fun w' => Sk W w' ∧ w'.cell? ⟨W.heap.size, 2, none⟩ = some (.func (.func 21) #[] #[])) (fun _ h => h.1) ⟨hHeld, by go_simp⟩ (fun hHeld2 => ?_)
        clear hHeld
        refine wpAnyH_take (i := 2) (v := ?v42) (arr_at rfl) (by kernel_rfl) (by kernel_rfl) (by kernel_rfl) (fun _ _ _ h => h) (Or.inl ⟨by rfl, ?hy42⟩) (by assumption) ?_
        case hy42 => (intro w hSw; go_simp <;> with_reducible rfl)
        try simp only [Act.put, List.setIfInBounds_toArray, List.set_cons_zero, List.set_cons_succ]
        refine wpAnyH_take (i := 3) (v := ?v43) (arr_at rfl) (by kernel_rfl) (by kernel_rfl) (by kernel_rfl) (fun _ _ _ h => h) (Or.inl ⟨by rfl, ?hy43⟩) (by assumption) ?_
        case hy43 => (intro w hSw; go_simp <;> with_reducible rfl)
        try simp only [Act.put, List.setIfInBounds_toArray, List.set_cons_zero, List.set_cons_succ]
        refine wpAnyH_ready (rs := [6, 10]) (by kernel_rfl) (by simp) ?_
        refine AllReadyH.cons (arr_at rfl) (fun K hK => ?_) ?_
        · go_simp; refine (R2.out _).mono ?_; rintro e w2 ⟨rfl, hb2⟩; obtain ⟨hc2, hf2⟩ := bcell hb2; have hz2 := hb2.size; (try simp at hz2); have hy2 : W.heap.size < w2.heap.size := (by omega); (try (have hy3 : W.heap.size + 1 < w2.heap.size := (by omega))); have hB2 : Below W.heap.size W w2 := below_step (by go_grown) hb2; go_wp2_with fail
          refine hK.out _ _ ?_ (fun hHeld => ?_)
          · first | assumption | exact Sk_of (by go_grown) | exact ⟨Sk_of (by go_grown), by go_simp⟩
          clear hK K
          try simp only [Act.put, List.setIfInBounds_toArray, List.set_cons_zero, List.set_cons_succ]
          refine wpAnyH_take (i := 7) (v := ?v44) (arr_at rfl) (by kernel_rfl) (by kernel_rfl) (by kernel_rfl) (fun _ _ _ h => h) (Or.inl ⟨by rfl, ?hy44⟩) (by assumption) ?_
          case hy44 => (intro w hSw; go_simp <;> with_reducible rfl)
          try simp only [Act.put, List.setIfInBounds_toArray, List.set_cons_zero, List.set_cons_succ]
          refine wpAnyH_take (i := 8) (v := ?v45) (arr_at rfl) (by kernel_rfl) (by kernel_rfl) (by kernel_rfl) (fun _ _ _ h => h) (Or.inl ⟨by rfl, ?hy45⟩) (by assumption) ?_
          case hy45 => (intro w hSw; go_simp <;> with_reducible rfl)
          try simp only [Act.put, List.setIfInBounds_toArray, List.set_cons_zero, List.set_cons_succ]
          refine wpAnyH_take (i := 9) (v := ?v46) (arr_at rfl) (by kernel_rfl) (by kernel_rfl) (by kernel_rfl) (fun _ _ _ h => h) (Or.inl ⟨by rfl, ?hy46⟩) (by assumption) ?_
          case hy46 => (intro w hSw; go_simp <;> with_reducible rfl)
          try simp only [Act.put, List.setIfInBounds_toArray, List.set_cons_zero, List.set_cons_succ]
          refine wpAnyH_ready (rs := [10]) (by kernel_rfl) (by simp) ?_
          refine AllReadyH.cons (arr_at rfl) (fun K hK => ?_) ?_
          · go_simp
            refine hK.out _ _ ?_ (fun hHeld => ?_)
            · first | assumption | exact Sk_of (by go_grown) | exact ⟨Sk_of (by go_grown), by go_simp⟩
            clear hK K
            try simp only [Act.put, List.setIfInBounds_toArray, List.set_cons_zero, List.set_cons_succ]
            refine wpAnyH_ready (rs := [11]) (by kernel_rfl) (by simp) ?_
            refine AllReadyH.cons (arr_at rfl) (fun K hK => ?_) ?_
            · go_simp
              refine hK.out _ _ ?_ (fun hHeld => ?_)
              · first | assumption | exact Sk_of (by go_grown) | exact ⟨Sk_of (by go_grown), by go_simp⟩
              clear hK K
              try simp only [Act.put, List.setIfInBounds_toArray, List.set_cons_zero, List.set_cons_succ]
              refine wpAnyH_take (i := 12) (v := ?v47) (arr_at rfl) (by kernel_rfl) (by kernel_rfl) (by kernel_rfl) (fun _ _ _ h => h) (Or.inl ⟨by rfl, ?hy47⟩) (by assumption) ?_
              case hy47 => (intro w hSw; go_simp <;> with_reducible rfl)
              try simp only [Act.put, List.setIfInBounds_toArray, List.set_cons_zero, List.set_cons_succ]
              refine wpAnyH_done (by kernel_rfl) ?_ _
              refine NoPanic.normal ?_
              have hSk : Sk W _ := (by assumption : Sk W _ ∧ _).1
              go_wp2_with fail
              go_roundw
              case rel => exact ⟨3, by omega, by go_num, hFW.next (by go_grown)⟩
              case measure => simp [intOf]
            exact AllReadyH.nil
          exact AllReadyH.nil
        refine AllReadyH.cons (arr_at rfl) (fun K hK => ?_) ?_
        · go_simp
          refine hK.out _ _ ?_ (fun hHeld => ?_)
          · first | assumption | exact Sk_of (by go_grown) | exact ⟨Sk_of (by go_grown), by go_simp⟩
          clear hK K
          try simp only [Act.put, List.setIfInBounds_toArray, List.set_cons_zero, List.set_cons_succ]
          refine wpAnyH_ready (rs := [6]) (by kernel_rfl) (by simp) ?_
          refine AllReadyH.cons (arr_at rfl) (fun K hK => ?_) ?_
          · go_simp; refine (R2.out _).mono ?_; rintro e w2 ⟨rfl, hb2⟩; obtain ⟨hc2, hf2⟩ := bcell hb2; have hz2 := hb2.size; (try simp at hz2); have hy2 : W.heap.size < w2.heap.size := (by omega); (try (have hy3 : W.heap.size + 1 < w2.heap.size := (by omega))); have hB2 : Below W.heap.size W w2 := below_step (by go_grown) hb2; go_wp2_with fail
            refine hK.out _ _ ?_ (fun hHeld => ?_)
            · first | assumption | exact Sk_of (by go_grown) | exact ⟨Sk_of (by go_grown), by go_simp⟩
            clear hK K
            try simp only [Act.put, List.setIfInBounds_toArray, List.set_cons_zero, List.set_cons_succ]
            refine wpAnyH_take (i := 7) (v := ?v48) (arr_at rfl) (by kernel_rfl) (by kernel_rfl) (by kernel_rfl) (fun _ _ _ h => h) (Or.inl ⟨by rfl, ?hy48⟩) (by assumption) ?_
            case hy48 => (intro w hSw; go_simp <;> with_reducible rfl)
            try simp only [Act.put, List.setIfInBounds_toArray, List.set_cons_zero, List.set_cons_succ]
            refine wpAnyH_take (i := 8) (v := ?v49) (arr_at rfl) (by kernel_rfl) (by kernel_rfl) (by kernel_rfl) (fun _ _ _ h => h) (Or.inl ⟨by rfl, ?hy49⟩) (by assumption) ?_
            case hy49 => (intro w hSw; go_simp <;> with_reducible rfl)
            try simp only [Act.put, List.setIfInBounds_toArray, List.set_cons_zero, List.set_cons_succ]
            refine wpAnyH_take (i := 9) (v := ?v50) (arr_at rfl) (by kernel_rfl) (by kernel_rfl) (by kernel_rfl) (fun _ _ _ h => h) (Or.inl ⟨by rfl, ?hy50⟩) (by assumption) ?_
            case hy50 => (intro w hSw; go_simp <;> with_reducible rfl)
            try simp only [Act.put, List.setIfInBounds_toArray, List.set_cons_zero, List.set_cons_succ]
            refine wpAnyH_ready (rs := [11]) (by kernel_rfl) (by simp) ?_
            refine AllReadyH.cons (arr_at rfl) (fun K hK => ?_) ?_
            · go_simp
              refine hK.out _ _ ?_ (fun hHeld => ?_)
              · first | assumption | exact Sk_of (by go_grown) | exact ⟨Sk_of (by go_grown), by go_simp⟩
              clear hK K
              try simp only [Act.put, List.setIfInBounds_toArray, List.set_cons_zero, List.set_cons_succ]
              refine wpAnyH_take (i := 12) (v := ?v51) (arr_at rfl) (by kernel_rfl) (by kernel_rfl) (by kernel_rfl) (fun _ _ _ h => h) (Or.inl ⟨by rfl, ?hy51⟩) (by assumption) ?_
              case hy51 => (intro w hSw; go_simp <;> with_reducible rfl)
              try simp only [Act.put, List.setIfInBounds_toArray, List.set_cons_zero, List.set_cons_succ]
              refine wpAnyH_done (by kernel_rfl) ?_ _
              refine NoPanic.normal ?_
              have hSk : Sk W _ := (by assumption : Sk W _ ∧ _).1
              go_wp2_with fail
              go_roundw
              case rel => exact ⟨3, by omega, by go_num, hFW.next (by go_grown)⟩
              case measure => simp [intOf]
            exact AllReadyH.nil
          exact AllReadyH.nil
        exact AllReadyH.nil
      refine AllReadyH.cons (arr_at rfl) (fun K hK => ?_) ?_
      · go_simp
        refine hK.out _ _ ?_ (fun hHeld => ?_)
        · first | assumption | exact Sk_of (by go_grown) | exact ⟨Sk_of (by go_grown), by go_simp⟩
        clear hK K
        try simp only [Act.put, List.setIfInBounds_toArray, List.set_cons_zero, List.set_cons_succ]
        refine wpAnyH_ready (rs := [0]) (by kernel_rfl) (by simp) ?_
        refine AllReadyH.cons (arr_at rfl) (fun K hK => ?_) ?_
        · go_simp
          refine hK.out _ _ ?_ (fun hHeld => ?_)
          · first | assumption | exact Sk_of (by go_grown) | exact ⟨Sk_of (by go_grown), by go_simp⟩
          clear hK K
          try simp only [Act.put, List.setIfInBounds_toArray, List.set_cons_zero, List.set_cons_succ]
          refine wpAnyH_switch (S' := fun w' => Sk W w' ∧ w'.cell? ⟨W.heap.size + 1, 2, none⟩ = some (.func (.func 21) #[] #[])) (fun _ h => h.1) ⟨hHeld, by go_simp⟩ (fun hHeld2 => ?_)
          clear hHeld
          refine wpAnyH_take (i := 2) (v := ?v52) (arr_at rfl) (by kernel_rfl) (by kernel_rfl) (by kernel_rfl) (fun _ _ _ h => h) (Or.inl ⟨by rfl, ?hy52⟩) (by assumption) ?_
          case hy52 => (intro w hSw; go_simp <;> with_reducible rfl)
          try simp only [Act.put, List.setIfInBounds_toArray, List.set_cons_zero, List.set_cons_succ]
          refine wpAnyH_take (i := 3) (v := ?v53) (arr_at rfl) (by kernel_rfl) (by kernel_rfl) (by kernel_rfl) (fun _ _ _ h => h) (Or.inl ⟨by rfl, ?hy53⟩) (by assumption) ?_
          case hy53 => (intro w hSw; go_simp <;> with_reducible rfl)
          try simp only [Act.put, List.setIfInBounds_toArray, List.set_cons_zero, List.set_cons_succ]
          refine wpAnyH_ready (rs := [6]) (by kernel_rfl) (by simp) ?_
          refine AllReadyH.cons (arr_at rfl) (fun K hK => ?_) ?_
          · go_simp; refine (R2.out _).mono ?_; rintro e w2 ⟨rfl, hb2⟩; obtain ⟨hc2, hf2⟩ := bcell hb2; have hz2 := hb2.size; (try simp at hz2); have hy2 : W.heap.size < w2.heap.size := (by omega); (try (have hy3 : W.heap.size + 1 < w2.heap.size := (by omega))); have hB2 : Below W.heap.size W w2 := below_step (by go_grown) hb2; go_wp2_with fail
            refine hK.out _ _ ?_ (fun hHeld => ?_)
            · first | assumption | exact Sk_of (by go_grown) | exact ⟨Sk_of (by go_grown), by go_simp⟩
            clear hK K
            try simp only [Act.put, List.setIfInBounds_toArray, List.set_cons_zero, List.set_cons_succ]
            refine wpAnyH_take (i := 7) (v := ?v54) (arr_at rfl) (by kernel_rfl) (by kernel_rfl) (by kernel_rfl) (fun _ _ _ h => h) (Or.inl ⟨by rfl, ?hy54⟩) (by assumption) ?_
            case hy54 => (intro w hSw; go_simp <;> with_reducible rfl)
            try simp only [Act.put, List.setIfInBounds_toArray, List.set_cons_zero, List.set_cons_succ]
            refine wpAnyH_take (i := 8) (v := ?v55) (arr_at rfl) (by kernel_rfl) (by kernel_rfl) (by kernel_rfl) (fun _ _ _ h => h) (Or.inl ⟨by rfl, ?hy55⟩) (by assumption) ?_
            case hy55 => (intro w hSw; go_simp <;> with_reducible rfl)
            try simp only [Act.put, List.setIfInBounds_toArray, List.set_cons_zero, List.set_cons_succ]
            refine wpAnyH_take (i := 9) (v := ?v56) (arr_at rfl) (by kernel_rfl) (by kernel_rfl) (by kernel_rfl) (fun _ _ _ h => h) (Or.inl ⟨by rfl, ?hy56⟩) (by assumption) ?_
            case hy56 => (intro w hSw; go_simp <;> with_reducible rfl)
            try simp only [Act.put, List.setIfInBounds_toArray, List.set_cons_zero, List.set_cons_succ]
            refine wpAnyH_ready (rs := [11]) (by kernel_rfl) (by simp) ?_
            refine AllReadyH.cons (arr_at rfl) (fun K hK => ?_) ?_
            · go_simp
              refine hK.out _ _ ?_ (fun hHeld => ?_)
              · first | assumption | exact Sk_of (by go_grown) | exact ⟨Sk_of (by go_grown), by go_simp⟩
              clear hK K
              try simp only [Act.put, List.setIfInBounds_toArray, List.set_cons_zero, List.set_cons_succ]
              refine wpAnyH_take (i := 12) (v := ?v57) (arr_at rfl) (by kernel_rfl) (by kernel_rfl) (by kernel_rfl) (fun _ _ _ h => h) (Or.inl ⟨by rfl, ?hy57⟩) (by assumption) ?_
              case hy57 => (intro w hSw; go_simp <;> with_reducible rfl)
              try simp only [Act.put, List.setIfInBounds_toArray, List.set_cons_zero, List.set_cons_succ]
              refine wpAnyH_done (by kernel_rfl) ?_ _
              refine NoPanic.normal ?_
              have hSk : Sk W _ := (by assumption : Sk W _ ∧ _).1
              go_wp2_with fail
              go_roundw
              case rel => exact ⟨3, by omega, by go_num, hFW.next (by go_grown)⟩
              case measure => simp [intOf]
            exact AllReadyH.nil
          exact AllReadyH.nil
        exact AllReadyH.nil
      exact AllReadyH.nil
    · have a0 := hF.a0
      have a1 := hF.a1
      have b0 := hF.b0
      have b1 := hF.b1
      have s3 := hF.s3
      have hzr := hF.hz
      have hzr0 : w.heap.size < wr.heap.size := by omega
      have hzr1 : w.heap.size + 1 < wr.heap.size := by omega
      go_wp2_with fail
      refine (T3.out _).mono ?_
      rintro e wa ⟨rfl, hba⟩
      have hFa := hF.next hba
      clear a0 a1 b0 b1 s3
      have hza := hba.size
      have hzs0 : w.heap.size < wa.heap.size := by omega
      have hzs1 : w.heap.size + 1 < wa.heap.size := by omega
      have a0 := hFa.a0
      have a1 := hFa.a1
      have b0 := hFa.b0
      have b1 := hFa.b1
      go_wp2_with fail
      refine wp_named fun W hW => ?_
      have k0 : W.cell? ⟨w.heap.size, 0, none⟩ = some (.int .i64 a) := by rw [hW]; clear hW; go_simp
      have k1 : W.cell? ⟨w.heap.size, 1, none⟩ = some (.int .i64 b) := by rw [hW]; clear hW; go_simp
      have k2 : W.cell? ⟨w.heap.size + 1, 0, none⟩ = some (.int .i64 c) := by rw [hW]; clear hW; go_simp
      have k3 : W.cell? ⟨w.heap.size + 1, 1, none⟩ = some (.int .i64 d) := by rw [hW]; clear hW; go_simp
      have k4 : W.cell? ⟨wa.heap.size, 0, none⟩ = some (.int .i64 x3) := by rw [hW]; clear hW; go_simp
      have k5 : W.cell? ⟨wa.heap.size, 1, none⟩ = some (.int .i64 y3) := by rw [hW]; clear hW; go_simp
      have hFW : FrS w a b c d W := hFa.next (by rw [hW]; go_grown)
      have hzW : wa.heap.size < W.heap.size := by rw [hW]; simp
      have q0 : W.heap.size < W.heap.size + 1 + 1 := by omega
      have hzW0 : w.heap.size < W.heap.size := by omega
      have hzW1 : w.heap.size + 1 < W.heap.size := by omega
      clear hW a0 a1 b0 b1 hzs0 hzs1 hzr hzr0 hzr1 hFa
      refine wp_region_noPanic ?_
      refine wp_region_held_drew (S := fun w' => Sk W w') (by kernel_rfl) (Sk_drew _) (fun hHeld => ?_)
      refine wpAnyH_take (i := 1) (v := ?v58) (arr_at rfl) (by kernel_rfl) (by kernel_rfl) (by kernel_rfl) (fun _ _ _ h => h) (Or.inl ⟨by rfl, ?hy58⟩) (by assumption) ?_
      case hy58 => (intro w hSw; go_simp <;> with_reducible rfl)
      try simp only [Act.put, List.setIfInBounds_toArray, List.set_cons_zero, List.set_cons_succ]
      refine wpAnyH_take (i := 4) (v := ?v59) (arr_at rfl) (by kernel_rfl) (by kernel_rfl) (by kernel_rfl) (fun _ _ _ h => h) (Or.inl ⟨by rfl, ?hy59⟩) (by assumption) ?_
      case hy59 => (intro w hSw; go_simp <;> with_reducible rfl)
      try simp only [Act.put, List.setIfInBounds_toArray, List.set_cons_zero, List.set_cons_succ]
      refine wpAnyH_take (i := 5) (v := ?v60) (arr_at rfl) (by kernel_rfl) (by kernel_rfl) (by kernel_rfl) (fun _ _ _ h => h) (Or.inl ⟨by rfl, ?hy60⟩) (by assumption) ?_
      case hy60 => (intro w hSw; go_simp <;> with_reducible rfl)
      try simp only [Act.put, List.setIfInBounds_toArray, List.set_cons_zero, List.set_cons_succ]
      refine wpAnyH_ready (rs := [0, 10]) (by kernel_rfl) (by simp) ?_
      refine AllReadyH.cons (arr_at rfl) (fun K hK => ?_) ?_
      · go_simp
        refine hK.out _ _ ?_ (fun hHeld => ?_)
        · first | assumption | exact Sk_of (by go_grown) | exact ⟨Sk_of (by go_grown), by go_simp⟩
        clear hK K
        try simp only [Act.put, List.setIfInBounds_toArray, List.set_cons_zero, List.set_cons_succ]
        refine wpAnyH_switch (S' := fun w' => Sk W w' ∧ w'.cell? ⟨W.heap.size, 3, none⟩ = some (.func (.func 22) #[] #[])) (fun _ h => h.1) ⟨hHeld, by go_simp⟩ (fun hHeld2 => ?_)
        clear hHeld
        refine wpAnyH_take (i := 2) (v := ?v61) (arr_at rfl) (by kernel_rfl) (by kernel_rfl) (by kernel_rfl) (fun _ _ _ h => h) (Or.inl ⟨by rfl, ?hy61⟩) (by assumption) ?_
        case hy61 => (intro w hSw; go_simp <;> with_reducible rfl)
        try simp only [Act.put, List.setIfInBounds_toArray, List.set_cons_zero, List.set_cons_succ]
        refine wpAnyH_take (i := 3) (v := ?v62) (arr_at rfl) (by kernel_rfl) (by kernel_rfl) (by kernel_rfl) (fun _ _ _ h => h) (Or.inl ⟨by rfl, ?hy62⟩) (by assumption) ?_
        case hy62 => (intro w hSw; go_simp <;> with_reducible rfl)
        try simp only [Act.put, List.setIfInBounds_toArray, List.set_cons_zero, List.set_cons_succ]
        refine wpAnyH_ready (rs := [6, 10]) (by kernel_rfl) (by simp) ?_
        refine AllReadyH.cons (arr_at rfl) (fun K hK => ?_) ?_
        · go_simp; refine (R3.out _).mono ?_; rintro e w2 ⟨rfl, hb2⟩; obtain ⟨hc2, hf2⟩ := bcell hb2; have hz2 := hb2.size; (try simp at hz2); have hy2 : W.heap.size < w2.heap.size := (by omega); (try (have hy3 : W.heap.size + 1 < w2.heap.size := (by omega))); have hB2 : Below W.heap.size W w2 := below_step (by go_grown) hb2; go_wp2_with fail
          refine hK.out _ _ ?_ (fun hHeld => ?_)
          · first | assumption | exact Sk_of (by go_grown) | exact ⟨Sk_of (by go_grown), by go_simp⟩
          clear hK K
          try simp only [Act.put, List.setIfInBounds_toArray, List.set_cons_zero, List.set_cons_succ]
          refine wpAnyH_take (i := 7) (v := ?v63) (arr_at rfl) (by kernel_rfl) (by kernel_rfl) (by kernel_rfl) (fun _ _ _ h => h) (Or.inl ⟨by rfl, ?hy63⟩) (by assumption) ?_
          case hy63 => (intro w hSw; go_simp <;> with_reducible rfl)
          try simp only [Act.put, List.setIfInBounds_toArray, List.set_cons_zero, List.set_cons_succ]
          refine wpAnyH_take (i := 8) (v := ?v64) (arr_at rfl) (by kernel_rfl) (by kernel_rfl) (by kernel_rfl) (fun _ _ _ h => h) (Or.inl ⟨by rfl, ?hy64⟩) (by assumption) ?_
          case hy64 => (intro w hSw; go_simp <;> with_reducible rfl)
          try simp only [Act.put, List.setIfInBounds_toArray, List.set_cons_zero, List.set_cons_succ]
          refine wpAnyH_take (i := 9) (v := ?v65) (arr_at rfl) (by kernel_rfl) (by kernel_rfl) (by kernel_rfl) (fun _ _ _ h => h) (Or.inl ⟨by rfl, ?hy65⟩) (by assumption) ?_
          case hy65 => (intro w hSw; go_simp <;> with_reducible rfl)
          try simp only [Act.put, List.setIfInBounds_toArray, List.set_cons_zero, List.set_cons_succ]
          refine wpAnyH_ready (rs := [10]) (by kernel_rfl) (by simp) ?_
          refine AllReadyH.cons (arr_at rfl) (fun K hK => ?_) ?_
          · go_simp
            refine hK.out _ _ ?_ (fun hHeld => ?_)
            · first | assumption | exact Sk_of (by go_grown) | exact ⟨Sk_of (by go_grown), by go_simp⟩
            clear hK K
            try simp only [Act.put, List.setIfInBounds_toArray, List.set_cons_zero, List.set_cons_succ]
            refine wpAnyH_ready (rs := [11]) (by kernel_rfl) (by simp) ?_
            refine AllReadyH.cons (arr_at rfl) (fun K hK => ?_) ?_
            · go_simp
              refine hK.out _ _ ?_ (fun hHeld => ?_)
              · first | assumption | exact Sk_of (by go_grown) | exact ⟨Sk_of (by go_grown), by go_simp⟩
              clear hK K
              try simp only [Act.put, List.setIfInBounds_toArray, List.set_cons_zero, List.set_cons_succ]
              refine wpAnyH_take (i := 12) (v := ?v66) (arr_at rfl) (by kernel_rfl) (by kernel_rfl) (by kernel_rfl) (fun _ _ _ h => h) (Or.inl ⟨by rfl, ?hy66⟩) (by assumption) ?_
              case hy66 => (intro w hSw; go_simp <;> with_reducible rfl)
              try simp only [Act.put, List.setIfInBounds_toArray, List.set_cons_zero, List.set_cons_succ]
              refine wpAnyH_done (by kernel_rfl) ?_ _
              refine NoPanic.normal ?_
              have hSk : Sk W _ := (by assumption : Sk W _ ∧ _).1
              go_wp2_with fail
              go_roundw
              case rel => exact ⟨4, by omega, by go_num, hFW.next (by go_grown)⟩
              case measure => simp [intOf]
            exact AllReadyH.nil
          exact AllReadyH.nil
        refine AllReadyH.cons (arr_at rfl) (fun K hK => ?_) ?_
        · go_simp
          refine hK.out _ _ ?_ (fun hHeld => ?_)
          · first | assumption | exact Sk_of (by go_grown) | exact ⟨Sk_of (by go_grown), by go_simp⟩
          clear hK K
          try simp only [Act.put, List.setIfInBounds_toArray, List.set_cons_zero, List.set_cons_succ]
          refine wpAnyH_ready (rs := [6]) (by kernel_rfl) (by simp) ?_
          refine AllReadyH.cons (arr_at rfl) (fun K hK => ?_) ?_
          · go_simp; refine (R3.out _).mono ?_; rintro e w2 ⟨rfl, hb2⟩; obtain ⟨hc2, hf2⟩ := bcell hb2; have hz2 := hb2.size; (try simp at hz2); have hy2 : W.heap.size < w2.heap.size := (by omega); (try (have hy3 : W.heap.size + 1 < w2.heap.size := (by omega))); have hB2 : Below W.heap.size W w2 := below_step (by go_grown) hb2; go_wp2_with fail
            refine hK.out _ _ ?_ (fun hHeld => ?_)
            · first | assumption | exact Sk_of (by go_grown) | exact ⟨Sk_of (by go_grown), by go_simp⟩
            clear hK K
            try simp only [Act.put, List.setIfInBounds_toArray, List.set_cons_zero, List.set_cons_succ]
            refine wpAnyH_take (i := 7) (v := ?v67) (arr_at rfl) (by kernel_rfl) (by kernel_rfl) (by kernel_rfl) (fun _ _ _ h => h) (Or.inl ⟨by rfl, ?hy67⟩) (by assumption) ?_
            case hy67 => (intro w hSw; go_simp <;> with_reducible rfl)
            try simp only [Act.put, List.setIfInBounds_toArray, List.set_cons_zero, List.set_cons_succ]
            refine wpAnyH_take (i := 8) (v := ?v68) (arr_at rfl) (by kernel_rfl) (by kernel_rfl) (by kernel_rfl) (fun _ _ _ h => h) (Or.inl ⟨by rfl, ?hy68⟩) (by assumption) ?_
            case hy68 => (intro w hSw; go_simp <;> with_reducible rfl)
            try simp only [Act.put, List.setIfInBounds_toArray, List.set_cons_zero, List.set_cons_succ]
            refine wpAnyH_take (i := 9) (v := ?v69) (arr_at rfl) (by kernel_rfl) (by kernel_rfl) (by kernel_rfl) (fun _ _ _ h => h) (Or.inl ⟨by rfl, ?hy69⟩) (by assumption) ?_
            case hy69 => (intro w hSw; go_simp <;> with_reducible rfl)
            try simp only [Act.put, List.setIfInBounds_toArray, List.set_cons_zero, List.set_cons_succ]
            refine wpAnyH_ready (rs := [11]) (by kernel_rfl) (by simp) ?_
            refine AllReadyH.cons (arr_at rfl) (fun K hK => ?_) ?_
            · go_simp
              refine hK.out _ _ ?_ (fun hHeld => ?_)
              · first | assumption | exact Sk_of (by go_grown) | exact ⟨Sk_of (by go_grown), by go_simp⟩
              clear hK K
              try simp only [Act.put, List.setIfInBounds_toArray, List.set_cons_zero, List.set_cons_succ]
              refine wpAnyH_take (i := 12) (v := ?v70) (arr_at rfl) (by kernel_rfl) (by kernel_rfl) (by kernel_rfl) (fun _ _ _ h => h) (Or.inl ⟨by rfl, ?hy70⟩) (by assumption) ?_
              case hy70 => (intro w hSw; go_simp <;> with_reducible rfl)
              try simp only [Act.put, List.setIfInBounds_toArray, List.set_cons_zero, List.set_cons_succ]
              refine wpAnyH_done (by kernel_rfl) ?_ _
              refine NoPanic.normal ?_
              have hSk : Sk W _ := (by assumption : Sk W _ ∧ _).1
              go_wp2_with fail
              go_roundw
              case rel => exact ⟨4, by omega, by go_num, hFW.next (by go_grown)⟩
              case measure => simp [intOf]
            exact AllReadyH.nil
          exact AllReadyH.nil
        exact AllReadyH.nil
      refine AllReadyH.cons (arr_at rfl) (fun K hK => ?_) ?_
      · go_simp
        refine hK.out _ _ ?_ (fun hHeld => ?_)
        · first | assumption | exact Sk_of (by go_grown) | exact ⟨Sk_of (by go_grown), by go_simp⟩
        clear hK K
        try simp only [Act.put, List.setIfInBounds_toArray, List.set_cons_zero, List.set_cons_succ]
        refine wpAnyH_ready (rs := [0]) (by kernel_rfl) (by simp) ?_
        refine AllReadyH.cons (arr_at rfl) (fun K hK => ?_) ?_
        · go_simp
          refine hK.out _ _ ?_ (fun hHeld => ?_)
          · first | assumption | exact Sk_of (by go_grown) | exact ⟨Sk_of (by go_grown), by go_simp⟩
          clear hK K
          try simp only [Act.put, List.setIfInBounds_toArray, List.set_cons_zero, List.set_cons_succ]
          refine wpAnyH_switch (S' := fun w' => Sk W w' ∧ w'.cell? ⟨W.heap.size + 1, 3, none⟩ = some (.func (.func 22) #[] #[])) (fun _ h => h.1) ⟨hHeld, by go_simp⟩ (fun hHeld2 => ?_)
          clear hHeld
          refine wpAnyH_take (i := 2) (v := ?v71) (arr_at rfl) (by kernel_rfl) (by kernel_rfl) (by kernel_rfl) (fun _ _ _ h => h) (Or.inl ⟨by rfl, ?hy71⟩) (by assumption) ?_
          case hy71 => (intro w hSw; go_simp <;> with_reducible rfl)
          try simp only [Act.put, List.setIfInBounds_toArray, List.set_cons_zero, List.set_cons_succ]
          refine wpAnyH_take (i := 3) (v := ?v72) (arr_at rfl) (by kernel_rfl) (by kernel_rfl) (by kernel_rfl) (fun _ _ _ h => h) (Or.inl ⟨by rfl, ?hy72⟩) (by assumption) ?_
          case hy72 => (intro w hSw; go_simp <;> with_reducible rfl)
          try simp only [Act.put, List.setIfInBounds_toArray, List.set_cons_zero, List.set_cons_succ]
          refine wpAnyH_ready (rs := [6]) (by kernel_rfl) (by simp) ?_
          refine AllReadyH.cons (arr_at rfl) (fun K hK => ?_) ?_
          · go_simp; refine (R3.out _).mono ?_; rintro e w2 ⟨rfl, hb2⟩; obtain ⟨hc2, hf2⟩ := bcell hb2; have hz2 := hb2.size; (try simp at hz2); have hy2 : W.heap.size < w2.heap.size := (by omega); (try (have hy3 : W.heap.size + 1 < w2.heap.size := (by omega))); have hB2 : Below W.heap.size W w2 := below_step (by go_grown) hb2; go_wp2_with fail
            refine hK.out _ _ ?_ (fun hHeld => ?_)
            · first | assumption | exact Sk_of (by go_grown) | exact ⟨Sk_of (by go_grown), by go_simp⟩
            clear hK K
            try simp only [Act.put, List.setIfInBounds_toArray, List.set_cons_zero, List.set_cons_succ]
            refine wpAnyH_take (i := 7) (v := ?v73) (arr_at rfl) (by kernel_rfl) (by kernel_rfl) (by kernel_rfl) (fun _ _ _ h => h) (Or.inl ⟨by rfl, ?hy73⟩) (by assumption) ?_
            case hy73 => (intro w hSw; go_simp <;> with_reducible rfl)
            try simp only [Act.put, List.setIfInBounds_toArray, List.set_cons_zero, List.set_cons_succ]
            refine wpAnyH_take (i := 8) (v := ?v74) (arr_at rfl) (by kernel_rfl) (by kernel_rfl) (by kernel_rfl) (fun _ _ _ h => h) (Or.inl ⟨by rfl, ?hy74⟩) (by assumption) ?_
            case hy74 => (intro w hSw; go_simp <;> with_reducible rfl)
            try simp only [Act.put, List.setIfInBounds_toArray, List.set_cons_zero, List.set_cons_succ]
            refine wpAnyH_take (i := 9) (v := ?v75) (arr_at rfl) (by kernel_rfl) (by kernel_rfl) (by kernel_rfl) (fun _ _ _ h => h) (Or.inl ⟨by rfl, ?hy75⟩) (by assumption) ?_
            case hy75 => (intro w hSw; go_simp <;> with_reducible rfl)
            try simp only [Act.put, List.setIfInBounds_toArray, List.set_cons_zero, List.set_cons_succ]
            refine wpAnyH_ready (rs := [11]) (by kernel_rfl) (by simp) ?_
            refine AllReadyH.cons (arr_at rfl) (fun K hK => ?_) ?_
            · go_simp
              refine hK.out _ _ ?_ (fun hHeld => ?_)
              · first | assumption | exact Sk_of (by go_grown) | exact ⟨Sk_of (by go_grown), by go_simp⟩
              clear hK K
              try simp only [Act.put, List.setIfInBounds_toArray, List.set_cons_zero, List.set_cons_succ]
              refine wpAnyH_take (i := 12) (v := ?v76) (arr_at rfl) (by kernel_rfl) (by kernel_rfl) (by kernel_rfl) (fun _ _ _ h => h) (Or.inl ⟨by rfl, ?hy76⟩) (by assumption) ?_
              case hy76 => (intro w hSw; go_simp <;> with_reducible rfl)
              try simp only [Act.put, List.setIfInBounds_toArray, List.set_cons_zero, List.set_cons_succ]
              refine wpAnyH_done (by kernel_rfl) ?_ _
              refine NoPanic.normal ?_
              have hSk : Sk W _ := (by assumption : Sk W _ ∧ _).1
              go_wp2_with fail
              go_roundw
              case rel => exact ⟨4, by omega, by go_num, hFW.next (by go_grown)⟩
              case measure => simp [intOf]
            exact AllReadyH.nil
          exact AllReadyH.nil
        exact AllReadyH.nil
      exact AllReadyH.nil
    · have a0 := hF.a0
      have a1 := hF.a1
      have b0 := hF.b0
      have b1 := hF.b1
      have hzr := hF.hz
      have hzr0 : w.heap.size < wr.heap.size := by omega
      have hzr1 : w.heap.size + 1 < wr.heap.size := by omega
      go_wp2_with fail
      refine (T5.out _).mono ?_
      rintro e w1 ⟨rfl, hb1⟩; obtain ⟨hc1, hf1⟩ := bcell hb1; have hz1 := hb1.size
      have g1 : w.heap.size < w1.heap.size := by omega
      have g1' : w.heap.size + 1 < w1.heap.size := by omega
      go_wp2_with fail
      refine (R5.out _).mono ?_
      rintro e w2 ⟨rfl, hb2⟩; obtain ⟨hc2, hf2⟩ := bcell hb2; have hz2 := hb2.size; (try simp at hz2)
      have g2 : w.heap.size < w2.heap.size := by omega
      have g2' : w.heap.size + 1 < w2.heap.size := by omega
      have g12 : w1.heap.size < w2.heap.size := by omega
      go_wp2_with fail
      refine (T4.out _).mono ?_
      rintro e w3 ⟨rfl, hb3⟩; obtain ⟨hc3, hf3⟩ := bcell hb3; have hz3 := hb3.size; (try simp at hz3)
      have g3 : w.heap.size < w3.heap.size := by omega
      have g3' : w.heap.size + 1 < w3.heap.size := by omega
      have g13 : w1.heap.size < w3.heap.size := by omega
      have g23 : w2.heap.size < w3.heap.size := by omega
      go_wp2_with fail
      refine (R4.out _).mono ?_
      rintro e w4 ⟨rfl, hb4⟩; obtain ⟨hc4, hf4⟩ := bcell hb4; have hz4 := hb4.size; (try simp at hz4)
      have g14 : w1.heap.size < w4.heap.size := by omega
      have g24 : w2.heap.size < w4.heap.size := by omega
      have hBr := hF.hB
      have l1 : Below w.heap.size w w1 := below_step hBr hb1
      have l2 : Below w.heap.size w w2 := below_step (by go_grown) hb2
      have l3 : Below w.heap.size w w3 := below_step (by go_grown) hb3
      have l4 : Below w.heap.size w w4 := below_step (by go_grown) hb4
      go_wp2_with fail
      go_ret
      exact ⟨rfl, by go_grown⟩
end Go.Proofs.YthfclapnkemjiaaGreatDoor
