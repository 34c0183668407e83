/-
  Contracts of quality and Title of the reference. Conditions: integers are of their type.
-/
import Derived.Test.YthfclapnkemjiaaGreatDoorRef5
import Derived.Test.YthfclapnkemjiaaGreatDoorRead
namespace Go.Proofs.YthfclapnkemjiaaGreatDoor
open Go.RowKit
set_option linter.unusedSimpArgs false
set_option linter.unusedVariables false

/-- what quality returns -/
def qualB (p : Bool) (d : Int) : ByteArray := match qualL p d with | none => ⟨#[]⟩ | some q => ⟨#[q]⟩
theorem qualB_of {p : Bool} {d : Int} (h : qualL p d = none) : qualB p d = ⟨#[]⟩ := by
  unfold qualB
  simp only [h]
theorem qualB_none {p : Bool} {d : Int} (h1 : p = true → d ≠ -1 ∧ d ≠ 0 ∧ d ≠ 1) (h2 : p = false → d ≠ -2 ∧ d ≠ -1 ∧ d ≠ 0 ∧ d ≠ 1) : qualL p d = none := by
  unfold qualL
  cases p
  · obtain ⟨a, b, c, e⟩ := h2 rfl
    rw [if_neg (by decide), if_neg e, if_neg c, if_neg b, if_neg a]
  · obtain ⟨a, b, c⟩ := h1 rfl
    rw [if_pos rfl, if_neg c, if_neg b, if_neg a]
set_option maxRecDepth 100000 in
set_option maxHeartbeats 4000000 in
theorem rqual_perf (m d : Int) (w : World) (hm : m = 0 ∨ m = 3 ∨ m = 4) :
    Calls Tryz.prog 91 #[.int .i64 m, .int .i64 d] w fun e w' => e = .returned (.string (qualB true d)) ∧ w = w' := by
  by_cases h : d = -1 ∨ d = 0 ∨ d = 1
  · rcases hm with rfl | rfl | rfl <;> rcases h with rfl | rfl | rfl
    all_goals
      go_enter Tryz.func91, Tryz.ntmps91
      go_wp2
      go_ret
      exact ⟨rfl, rfl⟩
  · have HN := Lib.hid (qualB_of (qualB_none (p := true) (d := d) (fun _ => by omega) (fun h => by cases h)))
    have k0 : (d == -1) = false := beq_eq_false_iff_ne.2 (by omega)
    have k1 : (d == 0) = false := beq_eq_false_iff_ne.2 (by omega)
    have k2 : (d == 1) = false := beq_eq_false_iff_ne.2 (by omega)
    clear h
    rcases hm with rfl | rfl | rfl
    all_goals
      go_enter Tryz.func91, Tryz.ntmps91
      go_wp2
      go_ret
      exact ⟨by rw [HN.out]; rfl, rfl⟩
set_option maxRecDepth 100000 in
set_option maxHeartbeats 4000000 in
theorem rqual_imp (m d : Int) (w : World) (hm : m = 1 ∨ m = 2 ∨ m = 5 ∨ m = 6) :
    Calls Tryz.prog 91 #[.int .i64 m, .int .i64 d] w fun e w' => e = .returned (.string (qualB false d)) ∧ w = w' := by
  by_cases h : d = -2 ∨ d = -1 ∨ d = 0 ∨ d = 1
  · rcases hm with rfl | rfl | rfl | rfl <;> rcases h with rfl | rfl | rfl | rfl
    all_goals
      go_enter Tryz.func91, Tryz.ntmps91
      go_wp2
      go_ret
      exact ⟨rfl, rfl⟩
  · have HN := Lib.hid (qualB_of (qualB_none (p := false) (d := d) (fun h => by cases h) (fun _ => by omega)))
    have k0 : (d == -2) = false := beq_eq_false_iff_ne.2 (by omega)
    have k1 : (d == -1) = false := beq_eq_false_iff_ne.2 (by omega)
    have k2 : (d == 0) = false := beq_eq_false_iff_ne.2 (by omega)
    have k3 : (d == 1) = false := beq_eq_false_iff_ne.2 (by omega)
    clear h
    rcases hm with rfl | rfl | rfl | rfl
    all_goals
      go_enter Tryz.func91, Tryz.ntmps91
      go_wp2
      go_ret
      exact ⟨by rw [HN.out]; rfl, rfl⟩
theorem rquality_c (st d : Int) (w : World) :
    Calls Tryz.prog 91 #[.int .i64 (st % 7), .int .i64 d] w fun e w' => e = .returned (.string (qualB (perf st) d)) ∧ w = w' := by
  unfold perf
  by_cases h : st % 7 = 0 ∨ st % 7 = 3 ∨ st % 7 = 4
  · rw [decide_eq_true h]; exact rqual_perf _ d w h
  · rw [decide_eq_false h]; exact rqual_imp _ d w (by omega)
/-- the name with its sign -/
def signV (sg : List UInt8) (o : Option UInt8) (n : Nat) : Value := match o with | none => .tuple #[.string ByteArray.empty, .int .i64 8] | some q => .tuple #[.string ⟨(sg ++ q :: decL n).toArray⟩, .int .i64 0]
set_option maxRecDepth 100000 in
set_option maxHeartbeats 4000000 in
theorem rTitle_neg_none (st se v d : Int) (p : Bool) (w : World) (h1 : -69 ≤ st) (hneg : st < 0 ∨ (¬ st < 0 ∧ (st == 0) = true ∧ se < 0 ∧ 0 ≤ st ∧ st ≤ 0)) (h3 : -200 ≤ se) (h4 : se ≤ 200) (v0 : 0 ≤ v) (v1 : v ≤ 200) (hd : Hid (IntKind.i64.wrap (-se - v) = d))
    (HN : Hid (∀ w, Calls Tryz.prog 92 #[.int .i64 (-st)] w fun e w' => e = .returned (.int .i64 v) ∧ w = w'))
    (HQ : Hid (∀ w, Calls Tryz.prog 91 #[.int .i64 ((-st) % 7), .int .i64 d] w fun e w' => e = .returned (.string ⟨#[]⟩) ∧ w = w')) :
    Calls Tryz.prog 56 #[.agg #[.int .i64 st, .int .i64 se]] w fun e w' => e = .returned (.tuple #[.string ByteArray.empty, .int .i64 8]) ∧ Below w.heap.size w w' := by
  have e2 : (-st).tmod 7 = (-st) % 7 := Int.tmod_eq_emod_of_nonneg (by omega)
  have e3 : IntKind.i64.wrap ((-st) % 7) = (-st) % 7 := IntWalk.i64_in _ ⟨by omega, by omega⟩
  have E2 := Lib.hid e2
  have E3 := Lib.hid e3
  clear e2 e3
  rcases hneg with hneg | ⟨hneg, hz, hz2, hz3, hz4⟩
  all_goals
    go_enter Tryz.func56, Tryz.ntmps56
    go_wp2_with fail
    refine wp_named fun W hW => ?_
    have k0 : W.cell? ⟨w.heap.size, 0, none⟩ = some (.int .i64 (-st)) := by rw [hW]; go_simp
    have k1 : W.cell? ⟨w.heap.size, 1, none⟩ = some (.int .i64 (-se)) := by rw [hW]; go_simp
    have hBW : Below w.heap.size w W := by rw [hW]; go_grown
    clear hW
    have e2 := E2.out
    have e3 := E3.out
    have e4 := hd.out
    go_quiet ((first | (go_at_call 92; exact calls_drewN (HN.out _)) | (go_at_call 91; exact calls_drewN (HQ.out _))))
    clear e2 e3 e4
    go_wp2_with fail
    go_ret2
    exact ⟨rfl, below_drewN' hBW _⟩
set_option maxRecDepth 100000 in
set_option maxHeartbeats 4000000 in
theorem rTitle_neg_some (st se v d : Int) (p : Bool) (q : UInt8) (n : Nat) (w : World) (h1 : -69 ≤ st) (hneg : st < 0 ∨ (¬ st < 0 ∧ (st == 0) = true ∧ se < 0 ∧ 0 ≤ st ∧ st ≤ 0)) (h3 : -200 ≤ se) (h4 : se ≤ 200) (v0 : 0 ≤ v) (v1 : v ≤ 200) (hd : Hid (IntKind.i64.wrap (-se - v) = d))
    (HN : Hid (∀ w, Calls Tryz.prog 92 #[.int .i64 (-st)] w fun e w' => e = .returned (.int .i64 v) ∧ w = w'))
    (HQ : Hid (∀ w, Calls Tryz.prog 91 #[.int .i64 ((-st) % 7), .int .i64 d] w fun e w' => e = .returned (.string ⟨#[q]⟩) ∧ w = w'))
    (HD : Hid (∀ w, Calls Tryz.prog 93 #[.int .i64 (-st + 1)] w fun e w' => e = .returned (.string (dec n)) ∧ Below w.heap.size w w')) :
    Calls Tryz.prog 56 #[.agg #[.int .i64 st, .int .i64 se]] w fun e w' => e = .returned (.tuple #[.string ⟨([45] ++ q :: decL n).toArray⟩, .int .i64 0]) ∧ Below w.heap.size w w' := by
  have e2 : (-st).tmod 7 = (-st) % 7 := Int.tmod_eq_emod_of_nonneg (by omega)
  have e3 : IntKind.i64.wrap ((-st) % 7) = (-st) % 7 := IntWalk.i64_in _ ⟨by omega, by omega⟩
  have E2 := Lib.hid e2
  have E3 := Lib.hid e3
  clear e2 e3
  have hl := decL_len n
  have a1 : ∀ w, (Op.stringOp .add ⟨#[45]⟩ ⟨#[q]⟩).run Tryz.prog w = .ok (.string ⟨#[45, q]⟩) w := fun w => add_lists [45] [q] (by simp) (by simp) w
  have a2 : ∀ w, (Op.stringOp .add ⟨#[45, q]⟩ (dec n)).run Tryz.prog w = .ok (.string ⟨([45, q] ++ decL n).toArray⟩) w := fun w => add_lists [45, q] (decL n) (by simp) (by omega) w
  have A1 := Lib.hid a1
  have A2 := Lib.hid a2
  clear a1 a2 hl
  rcases hneg with hneg | ⟨hneg, hz, hz2, hz3, hz4⟩
  all_goals
    go_enter Tryz.func56, Tryz.ntmps56
    go_wp2_with fail
    refine wp_named fun W hW => ?_
    have k0 : W.cell? ⟨w.heap.size, 0, none⟩ = some (.int .i64 (-st)) := by rw [hW]; go_simp
    have k1 : W.cell? ⟨w.heap.size, 1, none⟩ = some (.int .i64 (-se)) := by rw [hW]; go_simp
    have hBW : Below w.heap.size w W := by rw [hW]; go_grown
    clear hW
    have e2 := E2.out
    have e3 := E3.out
    have e4 := hd.out
    go_quiet ((first | (go_at_call 92; exact calls_drewN (HN.out _)) | (go_at_call 91; exact calls_drewN (HQ.out _))))
    clear e2 e3 e4
    have a1 := A1.out
    have a2 := A2.out
    go_wp2_with fail
    refine (HD.out _).mono ?_
    rintro e w2 ⟨rfl, hb2⟩
    go_wp2_with fail
    go_ret2
    exact ⟨rfl, below_step (below_drewN' hBW _) hb2⟩
set_option maxRecDepth 100000 in
set_option maxHeartbeats 4000000 in
theorem rTitle_pos_none (st se v d : Int) (p : Bool) (w : World) (h1 : st ≤ 69) (hneg : 0 < st ∨ (¬ st < 0 ∧ (st == 0) = true ∧ 0 ≤ se ∧ 0 ≤ st ∧ st ≤ 0)) (h3 : -200 ≤ se) (h4 : se ≤ 200) (v0 : 0 ≤ v) (v1 : v ≤ 200) (hd : Hid (IntKind.i64.wrap (se - v) = d))
    (HN : Hid (∀ w, Calls Tryz.prog 92 #[.int .i64 (st)] w fun e w' => e = .returned (.int .i64 v) ∧ w = w'))
    (HQ : Hid (∀ w, Calls Tryz.prog 91 #[.int .i64 ((st) % 7), .int .i64 d] w fun e w' => e = .returned (.string ⟨#[]⟩) ∧ w = w')) :
    Calls Tryz.prog 56 #[.agg #[.int .i64 st, .int .i64 se]] w fun e w' => e = .returned (.tuple #[.string ByteArray.empty, .int .i64 8]) ∧ Below w.heap.size w w' := by
  have e2 : (st).tmod 7 = (st) % 7 := Int.tmod_eq_emod_of_nonneg (by omega)
  have e3 : IntKind.i64.wrap ((st) % 7) = (st) % 7 := IntWalk.i64_in _ ⟨by omega, by omega⟩
  have E2 := Lib.hid e2
  have E3 := Lib.hid e3
  clear e2 e3
  rcases hneg with hneg | ⟨hneg, hz, hz2, hz3, hz4⟩
  all_goals
    go_enter Tryz.func56, Tryz.ntmps56
    go_wp2_with fail
    refine wp_named fun W hW => ?_
    have k0 : W.cell? ⟨w.heap.size, 0, none⟩ = some (.int .i64 (st)) := by rw [hW]; go_simp
    have k1 : W.cell? ⟨w.heap.size, 1, none⟩ = some (.int .i64 (se)) := by rw [hW]; go_simp
    have hBW : Below w.heap.size w W := by rw [hW]; go_grown
    clear hW
    have e2 := E2.out
    have e3 := E3.out
    have e4 := hd.out
    go_quiet ((first | (go_at_call 92; exact calls_drewN (HN.out _)) | (go_at_call 91; exact calls_drewN (HQ.out _))))
    clear e2 e3 e4
    go_wp2_with fail
    go_ret2
    exact ⟨rfl, below_drewN' hBW _⟩
set_option maxRecDepth 100000 in
set_option maxHeartbeats 4000000 in
theorem rTitle_pos_some (st se v d : Int) (p : Bool) (q : UInt8) (n : Nat) (w : World) (h1 : st ≤ 69) (hneg : 0 < st ∨ (¬ st < 0 ∧ (st == 0) = true ∧ 0 ≤ se ∧ 0 ≤ st ∧ st ≤ 0)) (h3 : -200 ≤ se) (h4 : se ≤ 200) (v0 : 0 ≤ v) (v1 : v ≤ 200) (hd : Hid (IntKind.i64.wrap (se - v) = d))
    (HN : Hid (∀ w, Calls Tryz.prog 92 #[.int .i64 (st)] w fun e w' => e = .returned (.int .i64 v) ∧ w = w'))
    (HQ : Hid (∀ w, Calls Tryz.prog 91 #[.int .i64 ((st) % 7), .int .i64 d] w fun e w' => e = .returned (.string ⟨#[q]⟩) ∧ w = w'))
    (HD : Hid (∀ w, Calls Tryz.prog 93 #[.int .i64 (st + 1)] w fun e w' => e = .returned (.string (dec n)) ∧ Below w.heap.size w w')) :
    Calls Tryz.prog 56 #[.agg #[.int .i64 st, .int .i64 se]] w fun e w' => e = .returned (.tuple #[.string ⟨([] ++ q :: decL n).toArray⟩, .int .i64 0]) ∧ Below w.heap.size w w' := by
  have e2 : (st).tmod 7 = (st) % 7 := Int.tmod_eq_emod_of_nonneg (by omega)
  have e3 : IntKind.i64.wrap ((st) % 7) = (st) % 7 := IntWalk.i64_in _ ⟨by omega, by omega⟩
  have E2 := Lib.hid e2
  have E3 := Lib.hid e3
  clear e2 e3
  have hl := decL_len n
  have a1 : ∀ w, (Op.stringOp .add ⟨#[]⟩ ⟨#[q]⟩).run Tryz.prog w = .ok (.string ⟨#[q]⟩) w := fun w => add_lists [] [q] (by simp) (by simp) w
  have a2 : ∀ w, (Op.stringOp .add ⟨#[q]⟩ (dec n)).run Tryz.prog w = .ok (.string ⟨([q] ++ decL n).toArray⟩) w := fun w => add_lists [q] (decL n) (by simp) (by omega) w
  have A1 := Lib.hid a1
  have A2 := Lib.hid a2
  clear a1 a2 hl
  rcases hneg with hneg | ⟨hneg, hz, hz2, hz3, hz4⟩
  all_goals
    go_enter Tryz.func56, Tryz.ntmps56
    go_wp2_with fail
    refine wp_named fun W hW => ?_
    have k0 : W.cell? ⟨w.heap.size, 0, none⟩ = some (.int .i64 (st)) := by rw [hW]; go_simp
    have k1 : W.cell? ⟨w.heap.size, 1, none⟩ = some (.int .i64 (se)) := by rw [hW]; go_simp
    have hBW : Below w.heap.size w W := by rw [hW]; go_grown
    clear hW
    have e2 := E2.out
    have e3 := E3.out
    have e4 := hd.out
    go_quiet ((first | (go_at_call 92; exact calls_drewN (HN.out _)) | (go_at_call 91; exact calls_drewN (HQ.out _))))
    clear e2 e3 e4
    have a1 := A1.out
    have a2 := A2.out
    go_wp2_with fail
    refine (HD.out _).mono ?_
    rintro e w2 ⟨rfl, hb2⟩
    go_wp2_with fail
    go_ret2
    exact ⟨rfl, below_step (below_drewN' hBW _) hb2⟩
set_option maxRecDepth 100000 in
set_option maxHeartbeats 4000000 in
theorem rTitle_out (st se : Int) (w : World) (h : st < -69 ∨ 69 < st ∨ se < -200 ∨ 200 < se) :
    Calls Tryz.prog 56 #[.agg #[.int .i64 st, .int .i64 se]] w fun e w' => e = .returned (.tuple #[.string ByteArray.empty, .int .i64 8]) ∧ Below w.heap.size w w' := by
  have h' : st < -69 ∨ (¬ st < -69 ∧ 69 < st) ∨ (¬ st < -69 ∧ ¬ 69 < st ∧ se < -200) ∨ (¬ st < -69 ∧ ¬ 69 < st ∧ ¬ se < -200 ∧ 200 < se) := by omega
  clear h
  rcases h' with h | ⟨h, h1⟩ | ⟨h, h1, h2⟩ | ⟨h, h1, h2, h3⟩
  all_goals
    go_enter Tryz.func56, Tryz.ntmps56
    go_wp2_with fail
    go_ret2
    exact ⟨rfl, by go_grown⟩
theorem rTitle_c (st se : Int) (w : World) :
    Calls Tryz.prog 56 #[.agg #[.int .i64 st, .int .i64 se]] w fun e w' => e = .returned (titleV (titleT st se)) ∧ Below w.heap.size w w' := by
  rw [titleT_eq]
  unfold titleL
  by_cases hr : st < -69 ∨ 69 < st ∨ se < -200 ∨ 200 < se
  · rw [if_pos hr]; exact rTitle_out st se w hr
  · rw [if_neg hr]
    by_cases hn : st < 0 ∨ (st = 0 ∧ se < 0)
    · rw [if_pos hn]
      have hn' : st < 0 ∨ (¬ st < 0 ∧ (st == 0) = true ∧ se < 0 ∧ 0 ≤ st ∧ st ≤ 0) := by
        by_cases h0 : st < 0
        · exact .inl h0
        · have : st = 0 := by omega
          subst this; exact .inr ⟨by omega, rfl, by omega, by omega, by omega⟩
      have hv := nat7_200 (-st) (by omega) (by omega)
      have HN := Lib.hid fun w => rNatural_c (-st) w (by omega) (by omega)
      have HQ := fun w => rquality_c (-st) (-se - nat7 (-st)) w
      have hd : IntKind.i64.wrap (-se - nat7 (-st)) = -se - nat7 (-st) := IntWalk.i64_in _ ⟨by omega, by omega⟩
      unfold upL
      cases hq : qualL (perf (-st)) (-se - nat7 (-st)) with
      | none => rw [qualB_of hq] at HQ; exact rTitle_neg_none st se _ _ true w (by omega) hn' (by omega) (by omega) hv.1 hv.2 hd HN HQ
      | some q =>
        have e : qualB (perf (-st)) (-se - nat7 (-st)) = ⟨#[q]⟩ := by unfold qualB; simp only [hq]
        rw [e] at HQ
        exact rTitle_neg_some st se _ _ true q _ w (by omega) hn' (by omega) (by omega) hv.1 hv.2 hd HN HQ (fun w => rDigits_c (-st + 1) w (by omega) (by omega))
    · rw [if_neg hn]
      have hn' : 0 < st ∨ (¬ st < 0 ∧ (st == 0) = true ∧ 0 ≤ se ∧ 0 ≤ st ∧ st ≤ 0) := by
        by_cases h0 : 0 < st
        · exact .inl h0
        · have : st = 0 := by omega
          subst this; exact .inr ⟨by omega, rfl, by omega, by omega, by omega⟩
      have hv := nat7_200 st (by omega) (by omega)
      have HN := Lib.hid fun w => rNatural_c st w (by omega) (by omega)
      have HQ := fun w => rquality_c st (se - nat7 st) w
      have hd : IntKind.i64.wrap (se - nat7 st) = se - nat7 st := IntWalk.i64_in _ ⟨by omega, by omega⟩
      unfold upL
      cases hq : qualL (perf st) (se - nat7 st) with
      | none => rw [qualB_of hq] at HQ; exact rTitle_pos_none st se _ _ true w (by omega) hn' (by omega) (by omega) hv.1 hv.2 hd HN HQ
      | some q =>
        have e : qualB (perf st) (se - nat7 st) = ⟨#[q]⟩ := by unfold qualB; simp only [hq]
        rw [e] at HQ
        exact rTitle_pos_some st se _ _ true q _ w (by omega) hn' (by omega) (by omega) hv.1 hv.2 hd HN HQ (fun w => rDigits_c (st + 1) w (by omega) (by omega))
end Go.Proofs.YthfclapnkemjiaaGreatDoor
