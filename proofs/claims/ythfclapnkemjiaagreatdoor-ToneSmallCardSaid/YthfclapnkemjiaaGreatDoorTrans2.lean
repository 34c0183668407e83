/-
  The contract of tone.Transpose. Conditions: integers are of their type.
-/
import Derived.Test.YthfclapnkemjiaaGreatDoorTrans
namespace Go.Proofs.YthfclapnkemjiaaGreatDoor
open Go.RowKit Go.Maps
set_option linter.unusedSimpArgs false
set_option linter.unusedVariables false

set_option maxRecDepth 100000 in
set_option maxHeartbeats 4000000 in
theorem Transpose_in (s a st se n m to al rs ra re : Int) (w : World) (ok : Bool) (hto : Hid (s + st = to)) (hal : Hid (n + se - m = al)) (g1 : 0 ≤ s) (g2 : s < 70) (g3 : -200 ≤ st) (g4 : st ≤ 200) (t1 : 0 ≤ to) (t2 : to < 70)
    (hn : 0 ≤ n + 1) (hn2 : n ≤ 200001) (hm : 0 ≤ m) (hm2 : m ≤ 200000) (hs1 : -200 ≤ se) (hs2 : se ≤ 200)
    (H : Hid (∀ w, Calls Tryz.prog 83 #[.agg #[.int .i64 st, .int .i64 se]] w fun e w' => e = .returned (.bool true) ∧ Below w.heap.size w w'))
    (HS : Hid (∀ w, Calls Tryz.prog 84 #[.agg #[.int .i64 s, .int .i64 a]] w fun e w' => e = .returned (.tuple #[.int .i64 n, .int .i64 0]) ∧ Below w.heap.size w w'))
    (HN : Hid (∀ w, Calls Tryz.prog 85 #[.int .i64 to] w fun e w' => e = .returned (.int .i64 m) ∧ Below w.heap.size w w'))
    (HG : Hid (∀ w, Calls Tryz.prog 74 #[.agg #[.int .i64 to, .int .i64 al]] w fun e w' => e = .returned (.bool ok) ∧ Below w.heap.size w w'))
    (hr : Hid (trV rs ra re = if ok = true then trV to al 0 else trV 0 0 34)) :
    Calls Tryz.prog 49 #[.agg #[.int .i64 s, .int .i64 a], .agg #[.int .i64 st, .int .i64 se]] w fun e w' => e = .returned (trV rs ra re) ∧ Below w.heap.size w w' := by
  have e1 : IntKind.i64.wrap (IntKind.i64.wrap (n + se) - m) = al := by
    rw [IntWalk.i64_in (n + se) ⟨by omega, by omega⟩, IntWalk.i64_in (n + se - m) ⟨by omega, by omega⟩]; exact hal.out
  have e2 : IntKind.i64.wrap (n + se) = n + se := IntWalk.i64_in _ ⟨by omega, by omega⟩
  have e3 : IntKind.i64.wrap (n + se - m) = al := by rw [IntWalk.i64_in _ ⟨by omega, by omega⟩]; exact hal.out
  have E2 := Lib.hid e2
  have E3 := Lib.hid e3
  have b1 : 0 ≤ s + st := by have := hto.out; omega
  have b2 : s + st < 70 := by have := hto.out; omega
  clear e1 e2 e3 hal
  go_enter Tryz.func49, Tryz.ntmps49
  go_wp2_with (first | (go_at_call 83; refine (H.out _).mono ?_; rintro e w1 ⟨rfl, hb1⟩; obtain ⟨hc1, hf1⟩ := bcell hb1; have hz1 := hb1.size; (try simp at hz1); have hy1 : w.heap.size < w1.heap.size := (by omega); have hy1_1 : w.heap.size + 1 < w1.heap.size := (by omega); have hy1_2 : w.heap.size + 2 < w1.heap.size := (by omega); have hB1 : Below w.heap.size w w1 := below_step (by go_grown) hb1) | (go_at_call 84; refine (HS.out _).mono ?_; rintro e w2 ⟨rfl, hb2⟩; obtain ⟨hc2, hf2⟩ := bcell hb2; have hz2 := hb2.size; (try simp at hz2); have hy2 : w.heap.size < w2.heap.size := (by omega); have hy2_1 : w.heap.size + 1 < w2.heap.size := (by omega); have hy2_2 : w.heap.size + 2 < w2.heap.size := (by omega); have hB2 : Below w.heap.size w w2 := below_step (by go_grown) hb2))
  rw [hto.out]
  have k4 : w2.cell? ⟨w.heap.size + 1, 0, none⟩ = some (.int .i64 st) := by go_simp
  have k5 : w2.cell? ⟨w.heap.size + 1, 1, none⟩ = some (.int .i64 se) := by go_simp
  have k6 : w2.cell? ⟨w.heap.size + 2, 0, none⟩ = some (.int .i64 0) := by go_simp
  have k7 : w2.cell? ⟨w.heap.size + 2, 1, none⟩ = some (.int .i64 0) := by go_simp
  have k8 : w2.frozen? ⟨w.heap.size + 2, 0, none⟩ = false := by go_simp
  have k9 : w2.frozen? ⟨w.heap.size + 2, 1, none⟩ = false := by go_simp
  have e2 := E2.out
  have e3 := E3.out
  clear hc1 hc2 hf1 hf2 hb1 hb2 hB1 hz1 hz2
  go_region_held3 (fun w' => Sk w2 w') (first | assumption | exact Sk_drew _ | exact Sk_call (by assumption) (by assumption) | exact Sk_alloc (by assumption) _ | (refine Sk_set2 (by assumption) ?_ ?_ _ _ <;> first | exact Nat.le_refl _ | assumption) | (refine Sk_set (by assumption) ?_ _ <;> first | exact Nat.le_refl _ | assumption) | (refine Sk_of ?_; go_grown; done))
    (first | (go_at_call 85; refine (HN.out _).mono ?_; rintro e w3 ⟨rfl, hb3⟩; have hs3 : Sk w2 w3 := Sk_call (by assumption) hb3; obtain ⟨hc3, hf3⟩ := bcell hb3; have hz3 := hb3.size; (try simp at hz3); have hy3 : w2.heap.size ≤ w3.heap.size := (by omega)))
  all_goals
    have hS := (by assumption : Sk w2 _)
    have hB3 := hB2.trans (hS.2.mono (Nat.le_of_lt hy2))
    have hz2 := hS.2.size
    have hr0 := hr.out
    have HR := Lib.hid hr0
    clear e2 e3 hr0 hr
    cases ok with
    | false =>
      go_wp2_with (go_at_call 74; refine (HG.out _).mono ?_; rintro e w4 ⟨rfl, hb4⟩; have hc4 := (bcell hb4).1; have hz4 := hb4.size; simp only [World.size_alloc, World.size_setCell] at hz4 hz2; have hy4 : w2.heap.size < w4.heap.size := (by omega); have hy5 : w3.heap.size ≤ w4.heap.size := (by omega); have hy6 : w.heap.size + 2 < w3.heap.size := (by omega); have hy8 : w.heap.size + 1 < w3.heap.size := (by omega); have hy9 : w.heap.size < w3.heap.size := (by omega); have hy7 : w.heap.size + 2 < w4.heap.size := (by omega); have hB4 := hB3.trans (hb4.mono hB3.size); (try have hyA : w2.heap.size < w3.heap.size := (by omega)); have hB5 := hS.2.trans (hb4.mono hS.2.size); have c40 := (hB5.cell (p := ⟨w.heap.size + 2, 0, none⟩) hy2_2).trans k6; have c41 := (hB5.cell (p := ⟨w.heap.size + 2, 1, none⟩) hy2_2).trans k7; have f40 := (hB5.frozen (p := ⟨w.heap.size + 2, 0, none⟩) hy2_2).trans k8; have f41 := (hB5.frozen (p := ⟨w.heap.size + 2, 1, none⟩) hy2_2).trans k9)
      (try simp only [Exit.inBlock, Exit.then]); refine bodyPost_ret (by simp [results, Tryz.results49, go_sem, *]; try rfl) rfl ?_
      exact ⟨by rw [HR.out]; rfl, by go_grown⟩
    | true =>
      go_wp2_with (go_at_call 74; refine (HG.out _).mono ?_; rintro e w4 ⟨rfl, hb4⟩; have hc4 := (bcell hb4).1; have hz4 := hb4.size; simp only [World.size_alloc, World.size_setCell] at hz4 hz2; have hy4 : w2.heap.size < w4.heap.size := (by omega); have hy5 : w3.heap.size ≤ w4.heap.size := (by omega); have hy6 : w.heap.size + 2 < w3.heap.size := (by omega); have hy8 : w.heap.size + 1 < w3.heap.size := (by omega); have hy9 : w.heap.size < w3.heap.size := (by omega); have hy7 : w.heap.size + 2 < w4.heap.size := (by omega); have hB4 := hB3.trans (hb4.mono hB3.size); (try have hyA : w2.heap.size < w3.heap.size := (by omega)); have hB5 := hS.2.trans (hb4.mono hS.2.size); have c40 := (hB5.cell (p := ⟨w.heap.size + 2, 0, none⟩) hy2_2).trans k6; have c41 := (hB5.cell (p := ⟨w.heap.size + 2, 1, none⟩) hy2_2).trans k7; have f40 := (hB5.frozen (p := ⟨w.heap.size + 2, 0, none⟩) hy2_2).trans k8; have f41 := (hB5.frozen (p := ⟨w.heap.size + 2, 1, none⟩) hy2_2).trans k9)
      (try simp only [Exit.inBlock, Exit.then]); refine bodyPost_ret (by simp [results, Tryz.results49, go_sem, *]; try rfl) rfl ?_
      exact ⟨by rw [HR.out]; rfl, by go_grown⟩

instance (a b : Int) : Decidable (nearP a b) := by unfold nearP; infer_instance
instance (a b : Int) : Decidable (goodP a b) := by unfold goodP; infer_instance
/-- what Transpose returns: Step, Alter, error -/
def trOf (s a st se : Int) : Int × Int × Int :=
  if ¬ nearP st se then (0, 0, 8) else if ¬ (goodP s a ∧ 0 ≤ s + st ∧ s + st < 70) then (0, 0, 34)
  else if -1 ≤ nat7 s + a + se - nat7 (s + st) ∧ nat7 s + a + se - nat7 (s + st) ≤ 1 then (s + st, nat7 s + a + se - nat7 (s + st), 0) else (0, 0, 34)
theorem Transpose_c (s a st se : Int) (w : World) (h1 : i64P st) (h2 : i64P se) :
    Calls Tryz.prog 49 #[.agg #[.int .i64 s, .int .i64 a], .agg #[.int .i64 st, .int .i64 se]] w
      fun e w' => e = .returned (trV (trOf s a st se).1 (trOf s a st se).2.1 (trOf s a st se).2.2) ∧ Below w.heap.size w w' := by
  by_cases hn : nearP st se
  · by_cases hg : goodP s a ∧ 0 ≤ s + st ∧ s + st < 70
    · obtain ⟨g, t0, t1⟩ := hg
      have e0 : trOf s a st se = if -1 ≤ nat7 s + a + se - nat7 (s + st) ∧ nat7 s + a + se - nat7 (s + st) ≤ 1 then (s + st, nat7 s + a + se - nat7 (s + st), 0) else (0, 0, 34) := by
        unfold trOf
        rw [if_neg (fun h => h hn), if_neg (fun h => h ⟨g, t0, t1⟩)]
      have b1 := nat7_bd s g.1 (by have := g.2.1; omega)
      have b2 := nat7_bd (s + st) t0 (by omega)
      obtain ⟨g1, g2, g3, g4⟩ := g
      obtain ⟨n1, n2, n3, n4⟩ := hn
      rw [e0]
      by_cases ha : -1 ≤ nat7 s + a + se - nat7 (s + st) ∧ nat7 s + a + se - nat7 (s + st) ≤ 1
      · rw [if_pos ha]
        exact Transpose_in s a st se (nat7 s + a) (nat7 (s + st)) (s + st) _ _ _ _ w true rfl rfl g1 g2 n1 n2 t0 t1 (by omega) (by omega) (by omega) (by omega) n3 n4
          (fun w => near_yes st se w ⟨n1, n2, n3, n4⟩) (fun w => Semitone_yes s a w ⟨g1, g2, g3, g4⟩) (fun w => natural_c _ w t0 (by omega)) (fun w => good_yes _ _ w ⟨t0, t1, ha.1, ha.2⟩) rfl
      · rw [if_neg ha]
        exact Transpose_in s a st se (nat7 s + a) (nat7 (s + st)) (s + st) _ _ _ _ w false rfl rfl g1 g2 n1 n2 t0 t1 (by omega) (by omega) (by omega) (by omega) n3 n4
          (fun w => near_yes st se w ⟨n1, n2, n3, n4⟩) (fun w => Semitone_yes s a w ⟨g1, g2, g3, g4⟩) (fun w => natural_c _ w t0 (by omega)) (fun w => good_no _ _ w (fun h => ha ⟨h.2.2.1, h.2.2.2⟩)) rfl
    · have e0 : trOf s a st se = (0, 0, 34) := by
        unfold trOf
        rw [if_neg (fun h => h hn), if_pos hg]
      rw [e0]
      refine Transpose_bad s a st se w hn ?_
      by_cases g : goodP s a
      · right
        by_cases h0 : s + st < 0
        · exact .inl h0
        · right
          by_cases h1 : s + st < 70
          · exact absurd ⟨g, by omega, h1⟩ hg
          · omega
      · exact .inl g
  · have e0 : trOf s a st se = (0, 0, 8) := by
      unfold trOf
      rw [if_pos hn]
    rw [e0]
    exact Transpose_far s a st se w hn h1 h2
end Go.Proofs.YthfclapnkemjiaaGreatDoor
