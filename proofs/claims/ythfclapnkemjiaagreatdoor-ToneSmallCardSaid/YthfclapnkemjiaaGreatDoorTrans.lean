/-
  Contracts of tone.Title below, and of tone.Transpose. Conditions: integers are of their type.
-/
import Derived.Test.YthfclapnkemjiaaGreatDoorTitle
namespace Go.Proofs.YthfclapnkemjiaaGreatDoor
open Go.RowKit Go.Maps
set_option linter.unusedSimpArgs false
set_option linter.unusedVariables false

/-- the name of an interval -/
def titleT (st se : Int) : Option ByteArray :=
  if st < -69 ∨ 69 < st ∨ se < -200 ∨ 200 < se then none
  else if st < 0 ∨ (st = 0 ∧ se < 0) then (upT (-st) (-se)).map ((⟨#[45]⟩ : ByteArray) ++ ·) else upT st se
theorem upT_size {st se : Int} {s : ByteArray} (h : upT st se = some s) : s.size ≤ 3 := by
  unfold upT at h
  cases hq : qual (perf st) (se - nat7 st) with
  | none => rw [hq] at h; cases h
  | some q =>
    rw [hq] at h
    injection h with h
    subst h
    have h1 := qual_size hq
    have h2 := dec_size (st + 1).toNat
    simp only [ByteArray.size_append]
    omega
set_option maxRecDepth 100000 in
set_option maxHeartbeats 4000000 in
theorem Title_below (st se x : Int) (o : Option ByteArray) (w : World) (h1 : -70 ≤ st) (h2 : st < 0 ∨ (st = 0 ∧ se < 0)) (h3 : -200 ≤ se) (h4 : se ≤ 200) (hx2 : x ≤ 200)
    (H : Hid (∀ w, Calls Tryz.prog 69 #[.int .i64 se] w fun e w' => e = .returned (.int .u64 x) ∧ w = w'))
    (HT : Hid (∀ w, Calls Tryz.prog 55 #[.agg #[.int .i64 (-st), .int .i64 (-se)]] w fun e w' => e = .returned (titleV o) ∧ Below w.heap.size w w')) (ho : Hid (∀ s, o = some s → s.size ≤ 3)) :
    Calls Tryz.prog 55 #[.agg #[.int .i64 st, .int .i64 se]] w fun e w' => e = .returned (titleV (o.map ((⟨#[45]⟩ : ByteArray) ++ ·))) ∧ Below w.heap.size w w' := by
  have hz : st < 0 ∨ (¬ st < 0 ∧ (st == 0) = true ∧ se < 0 ∧ st ≤ 0) := by
    rcases h2 with h | ⟨h, h'⟩
    · exact .inl h
    · exact .inr ⟨by omega, by rw [h]; rfl, h', by omega⟩
  clear h2
  rcases hz with hz | ⟨hz, hz2, hz3, hz4⟩ <;> cases o with
  | none =>
    have HT2 : Hid (∀ w, Calls Tryz.prog 55 #[.agg #[.int .i64 (-st), .int .i64 (-se)]] w fun e w' => e = .returned (.tuple #[.string ByteArray.empty, .int .i64 8]) ∧ Below w.heap.size w w') := HT
    clear HT ho
    go_enter Tryz.func55, Tryz.ntmps55
    go_wp2_with (first | (go_at_call 69; refine (H.out _).mono ?_; rintro e w1 ⟨rfl, rfl⟩) | (go_at_call 55; refine (HT2.out _).mono ?_; rintro e w2 ⟨rfl, hb2⟩; obtain ⟨hc2, hf2⟩ := bcell hb2; have hz2 := hb2.size; (try simp at hz2); have hy2 : w.heap.size < w2.heap.size := (by omega); have hB2 : Below w.heap.size w w2 := below_step (by go_grown) hb2))
    go_ret2
    exact ⟨rfl, by go_grown⟩
  | some s =>
    have HT2 : Hid (∀ w, Calls Tryz.prog 55 #[.agg #[.int .i64 (-st), .int .i64 (-se)]] w fun e w' => e = .returned (.tuple #[.string s, .int .i64 0]) ∧ Below w.heap.size w w') := HT
    have hs := ho.out s rfl
    clear HT ho
    go_enter Tryz.func55, Tryz.ntmps55
    go_wp2_with (first | (go_at_call 69; refine (H.out _).mono ?_; rintro e w1 ⟨rfl, rfl⟩) | (go_at_call 55; refine (HT2.out _).mono ?_; rintro e w2 ⟨rfl, hb2⟩; obtain ⟨hc2, hf2⟩ := bcell hb2; have hz2 := hb2.size; (try simp at hz2); have hy2 : w.heap.size < w2.heap.size := (by omega); have hB2 : Below w.heap.size w w2 := below_step (by go_grown) hb2))
    go_ret2
    exact ⟨rfl, by go_grown⟩
theorem Title_c (st se : Int) (w : World) (h1 : i64P st) (h2 : i64P se) :
    Calls Tryz.prog 55 #[.agg #[.int .i64 st, .int .i64 se]] w fun e w' => e = .returned (titleV (titleT st se)) ∧ Below w.heap.size w w' := by
  unfold titleT i64P at *
  by_cases hr : st < -69 ∨ 69 < st ∨ se < -200 ∨ 200 < se
  · rw [if_pos hr]
    by_cases hr2 : st < -70 ∨ 70 ≤ st ∨ se < -200 ∨ 200 < se
    · exact Title_out st se w hr2 h2.1 h2.2
    · exact Title_below st se _ none w (by omega) (by omega) (by omega) (by omega) (by omega : (se.natAbs : Int) ≤ 200) (fun w => size_c se w h2.1 h2.2)
        (fun w => Title_out (-st) (-se) w (by omega) (by omega) (by omega)) (fun s h => by cases h)
  · rw [if_neg hr]
    by_cases hd : st < 0 ∨ (st = 0 ∧ se < 0)
    · rw [if_pos hd]
      exact Title_below st se _ _ w (by omega) hd (by omega) (by omega) (by omega : (se.natAbs : Int) ≤ 200) (fun w => size_c se w h2.1 h2.2)
        (fun w => Title_up (-st) (-se) w (by omega) (by omega) (by omega) (by omega) (by omega)) (fun s h => upT_size h)
    · rw [if_neg hd]
      exact Title_up st se w (by omega) (by omega) (by omega) (by omega) (by omega)

def trV (s a er : Int) : Value := .tuple #[.agg #[.int .i64 s, .int .i64 a], .int .i64 er]
def nearP (st se : Int) : Prop := -200 ≤ st ∧ st ≤ 200 ∧ -200 ≤ se ∧ se ≤ 200
theorem Transpose_far (s a st se : Int) (w : World) (h : ¬ nearP st se) (h1 : i64P st) (h2 : i64P se) :
    Calls Tryz.prog 49 #[.agg #[.int .i64 s, .int .i64 a], .agg #[.int .i64 st, .int .i64 se]] w fun e w' => e = .returned (trV 0 0 8) ∧ Below w.heap.size w w' := by
  have H := Lib.hid fun w => near_no st se w h h1.1 h1.2 h2.1 h2.2
  clear h h1 h2
  go_enter Tryz.func49, Tryz.ntmps49
  go_wp2_with (go_at_call 83; refine (H.out _).mono ?_; rintro e w1 ⟨rfl, hb1⟩; obtain ⟨hc1, hf1⟩ := bcell hb1; have hz1 := hb1.size; (try simp at hz1); have hy1 : w.heap.size < w1.heap.size := (by omega); have hy1_1 : w.heap.size + 1 < w1.heap.size := (by omega); have hy1_2 : w.heap.size + 2 < w1.heap.size := (by omega); have hB1 : Below w.heap.size w w1 := below_step (by go_grown) hb1)
  (try simp only [Exit.inBlock, Exit.then]); refine bodyPost_ret (by simp [results, Tryz.results49, go_sem, *]; try rfl) rfl ?_
  exact ⟨rfl, by go_grown⟩
set_option maxRecDepth 100000 in
set_option maxHeartbeats 4000000 in
theorem Transpose_bad (s a st se : Int) (w : World) (h : nearP st se) (h' : ¬ goodP s a ∨ s + st < 0 ∨ 70 ≤ s + st) :
    Calls Tryz.prog 49 #[.agg #[.int .i64 s, .int .i64 a], .agg #[.int .i64 st, .int .i64 se]] w fun e w' => e = .returned (trV 0 0 34) ∧ Below w.heap.size w w' := by
  have H := Lib.hid fun w => near_yes st se w h
  by_cases hg : goodP s a
  · have HS := Lib.hid fun w => Semitone_yes s a w hg
    obtain ⟨g1, g2, g3, g4⟩ := hg
    have hr : s + st < 0 ∨ (0 ≤ s + st ∧ 70 ≤ s + st) := by
      rcases h' with h' | h' | h'
      · exact absurd ⟨g1, g2, g3, g4⟩ h'
      · exact .inl h'
      · exact .inr ⟨by omega, h'⟩
    obtain ⟨n1, n2, n3, n4⟩ := h
    clear h'
    generalize nat7 s + a = n at *
    rcases hr with hr | ⟨hr1, hr⟩
    all_goals
      go_enter Tryz.func49, Tryz.ntmps49
      go_wp2_with (first | (go_at_call 83; refine (H.out _).mono ?_; rintro e w1 ⟨rfl, hb1⟩; obtain ⟨hc1, hf1⟩ := bcell hb1; have hz1 := hb1.size; (try simp at hz1); have hy1 : w.heap.size < w1.heap.size := (by omega); have hy1_1 : w.heap.size + 1 < w1.heap.size := (by omega); have hy1_2 : w.heap.size + 2 < w1.heap.size := (by omega); have hB1 : Below w.heap.size w w1 := below_step (by go_grown) hb1) | (go_at_call 84; refine (HS.out _).mono ?_; rintro e w2 ⟨rfl, hb2⟩; obtain ⟨hc2, hf2⟩ := bcell hb2; have hz2 := hb2.size; (try simp at hz2); have hy2 : w.heap.size < w2.heap.size := (by omega); have hy2_1 : w.heap.size + 1 < w2.heap.size := (by omega); have hy2_2 : w.heap.size + 2 < w2.heap.size := (by omega); have hB2 : Below w.heap.size w w2 := below_step (by go_grown) hb2))
      (try simp only [Exit.inBlock, Exit.then]); refine bodyPost_ret (by simp [results, Tryz.results49, go_sem, *]; try rfl) rfl ?_
      exact ⟨rfl, by go_grown⟩
  · have HS := Lib.hid fun w => Semitone_no s a w hg
    clear h' hg h
    go_enter Tryz.func49, Tryz.ntmps49
    go_wp2_with (first | (go_at_call 83; refine (H.out _).mono ?_; rintro e w1 ⟨rfl, hb1⟩; obtain ⟨hc1, hf1⟩ := bcell hb1; have hz1 := hb1.size; (try simp at hz1); have hy1 : w.heap.size < w1.heap.size := (by omega); have hy1_1 : w.heap.size + 1 < w1.heap.size := (by omega); have hy1_2 : w.heap.size + 2 < w1.heap.size := (by omega); have hB1 : Below w.heap.size w w1 := below_step (by go_grown) hb1) | (go_at_call 84; refine (HS.out _).mono ?_; rintro e w2 ⟨rfl, hb2⟩; obtain ⟨hc2, hf2⟩ := bcell hb2; have hz2 := hb2.size; (try simp at hz2); have hy2 : w.heap.size < w2.heap.size := (by omega); have hy2_1 : w.heap.size + 1 < w2.heap.size := (by omega); have hy2_2 : w.heap.size + 2 < w2.heap.size := (by omega); have hB2 : Below w.heap.size w w2 := below_step (by go_grown) hb2))
    (try simp only [Exit.inBlock, Exit.then]); refine bodyPost_ret (by simp [results, Tryz.results49, go_sem, *]; try rfl) rfl ?_
    exact ⟨rfl, by go_grown⟩
end Go.Proofs.YthfclapnkemjiaaGreatDoor
