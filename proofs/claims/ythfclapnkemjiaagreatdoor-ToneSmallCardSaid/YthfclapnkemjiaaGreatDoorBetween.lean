/-
  Contracts of cmp.Or at two error numbers, tone.Between and tone.Key. Conditions: integers are of their type.
-/
import Derived.Test.YthfclapnkemjiaaGreatDoorTrans2
import Derived.Test.YthfclapnkemjiaaGreatDoorLine
namespace Go.Proofs.YthfclapnkemjiaaGreatDoor
open Go.RowKit
set_option linter.unusedSimpArgs false
set_option linter.unusedVariables false

def orE (x y : Int) : Int := if x = 0 then y else x
set_option maxRecDepth 100000 in
theorem Or_c (b : Nat) (x y : Int) (w : World) (hx : w.cell? ⟨b, 0, none⟩ = some (.int .i64 x)) (hy : w.cell? ⟨b, 1, none⟩ = some (.int .i64 y)) :
    Calls Tryz.prog 88 #[.slice (some ⟨b, 0, none⟩) 2 2] w fun e w' => e = .returned (.int .i64 (orE x y)) ∧ w = w' := by
  go_enter Tryz.func88, Tryz.ntmps88
  go_wp2_with fail
  go_loop [8] (fun i => ∃ k : Nat, k ≤ 2 ∧ i = .int .i64 k ∧ Hid ((1 ≤ k → x = 0) ∧ (2 ≤ k → y = 0))) (fun i => 2 - (intOf i).toNat)
  case atStart => exact ⟨0, by omega, rfl, fun h => by omega, fun h => by omega⟩
  case round =>
    obtain ⟨k, hk, rfl, HV⟩ := hrel
    rcases (by omega : k = 0 ∨ k = 1 ∨ k = 2) with rfl | rfl | rfl
    · by_cases h : x = 0
      · have hb : (x != 0) = false := by rw [h]; rfl
        have HX := Lib.hid h
        clear h HV
        go_wp2_with fail
        go_round
        case rel => exact ⟨1, by omega, by go_num, fun _ => HX.out, fun h => absurd h (by decide)⟩
        case measure => simp [intOf]
      · have hb : (x != 0) = true := by simp [h]
        have HX := Lib.hid h
        clear h HV
        go_wp2_with fail
        go_ret
        exact ⟨ret_int (by unfold orE; rw [if_neg HX.out]), rfl⟩
    · have h0 := Lib.hid (HV.out.1 (by omega))
      by_cases h : y = 0
      · have hb : (y != 0) = false := by rw [h]; rfl
        have HX := Lib.hid h
        clear h HV
        go_wp2_with fail
        go_round
        case rel => exact ⟨2, by omega, by go_num, fun _ => h0.out, fun _ => HX.out⟩
        case measure => simp [intOf]
      · have hb : (y != 0) = true := by simp [h]
        clear h HV
        go_wp2_with fail
        go_ret
        exact ⟨ret_int (by unfold orE; rw [if_pos h0.out]), rfl⟩
    · obtain ⟨h0, h1⟩ := HV.out
      have H0 := Lib.hid (h0 (by omega))
      have H1 := Lib.hid (h1 (by omega))
      clear h0 h1 HV
      go_wp2_with fail
      go_ret
      exact ⟨ret_int (by unfold orE; rw [if_pos H0.out, H1.out]), rfl⟩

/-- what Semitone returns -/
def semN (s a : Int) : Int := if 0 ≤ s ∧ s < 70 ∧ -1 ≤ a ∧ a ≤ 1 then nat7 s + a else 0
def semE (s a : Int) : Int := if 0 ≤ s ∧ s < 70 ∧ -1 ≤ a ∧ a ≤ 1 then 0 else 34
theorem Semitone_c (s a : Int) (w : World) : Calls Tryz.prog 84 #[.agg #[.int .i64 s, .int .i64 a]] w fun e w' => e = .returned (.tuple #[.int .i64 (semN s a), .int .i64 (semE s a)]) ∧ Below w.heap.size w w' := by
  by_cases h : 0 ≤ s ∧ s < 70 ∧ -1 ≤ a ∧ a ≤ 1
  · unfold semN semE; rw [if_pos h, if_pos h]; exact Semitone_yes s a w h
  · unfold semN semE; rw [if_neg h, if_neg h]; exact Semitone_no s a w h
theorem semN_bd (s a : Int) : -1 ≤ semN s a ∧ semN s a ≤ 201 := by
  unfold semN
  split
  · have := nat7_bd s (by omega) (by omega)
    have h2 : nat7 s ≤ 200 := by
      unfold nat7
      have : ∀ k, k < 7 → ([0, 2, 4, 5, 7, 9, 11] : List Int).getD k 0 ≤ 11 := by decide
      have := this (s % 7).toNat (by omega)
      omega
    omega
  · omega
/-- what Between returns -/
def btE (s a c d : Int) : Int := orE (semE s a) (semE c d)
def btX (s a c d : Int) : Int := if btE s a c d = 0 then c - s else 0
def btY (s a c d : Int) : Int := if btE s a c d = 0 then semN c d - semN s a else 0
theorem semE_cases (s a : Int) : (semE s a = 0 ∧ 0 ≤ s ∧ s < 70 ∧ -1 ≤ a ∧ a ≤ 1) ∨ semE s a = 34 := by
  unfold semE
  split
  · rename_i h; exact .inl ⟨rfl, h⟩
  · exact .inr rfl
set_option maxRecDepth 100000 in
set_option maxHeartbeats 4000000 in
theorem Between_c (s a c d : Int) (w : World) :
    Calls Tryz.prog 53 #[.agg #[.int .i64 s, .int .i64 a], .agg #[.int .i64 c, .int .i64 d]] w fun e w' => e = .returned (.tuple #[.agg #[.int .i64 (btX s a c d), .int .i64 (btY s a c d)], .int .i64 (btE s a c d)]) ∧ Below w.heap.size w w' := by
  have H1 := Lib.hid fun w => Semitone_c s a w
  have H2 := Lib.hid fun w => Semitone_c c d w
  have b1 := semN_bd s a
  have b2 := semN_bd c d
  have HX : Hid (btX s a c d = if orE (semE s a) (semE c d) = 0 then c - s else 0) := rfl
  have HY : Hid (btY s a c d = if orE (semE s a) (semE c d) = 0 then semN c d - semN s a else 0) := rfl
  have HE : Hid (btE s a c d = orE (semE s a) (semE c d)) := rfl
  have hd : (orE (semE s a) (semE c d) = 0 ∧ 0 ≤ s ∧ s < 70 ∧ 0 ≤ c ∧ c < 70) ∨ orE (semE s a) (semE c d) = 34 := by
    rcases semE_cases s a with ⟨h, g1, g2, _⟩ | h <;> rcases semE_cases c d with ⟨k, k1, k2, _⟩ | k <;> rw [h, k]
    · exact .inl ⟨rfl, g1, g2, k1, k2⟩
    · exact .inr rfl
    · exact .inr rfl
    · exact .inr rfl
  have HO := Lib.hid fun b w h1 h2 => Or_c b (semE s a) (semE c d) w h1 h2
  generalize orE (semE s a) (semE c d) = o at *
  generalize semE s a = e1 at *
  generalize semE c d = e2 at *
  generalize semN s a = m at *
  generalize semN c d = n at *
  rw [HX.out, HY.out, HE.out]
  clear HX HY HE
  rcases hd with ⟨rfl, g1, g2, g3, g4⟩ | rfl
  · rw [if_pos rfl, if_pos rfl]
    have s1 : IntKind.i64.wrap (c - s) = c - s := IntWalk.i64_in _ ⟨by omega, by omega⟩
    go_enter Tryz.func53, Tryz.ntmps53
    go_wp2_with fail
    refine (H1.out _).mono ?_
    rintro e w1 ⟨rfl, hb1⟩; obtain ⟨hc1, hf1⟩ := bcell hb1; have hz1 := hb1.size; (try simp at hz1); have hy1 : w.heap.size < w1.heap.size := (by omega); have hy1_1 : w.heap.size + 1 < w1.heap.size := (by omega); have hy1_2 : w.heap.size + 2 < w1.heap.size := (by omega); have hB1 : Below w.heap.size w w1 := below_step (by go_grown) hb1
    go_wp2_with fail
    refine (H2.out _).mono ?_
    rintro e w2 ⟨rfl, hb2⟩; obtain ⟨hc2, hf2⟩ := bcell hb2; have hz2 := hb2.size; (try simp at hz2); have hy2 : w.heap.size < w2.heap.size := (by omega); have hy2_1 : w.heap.size + 1 < w2.heap.size := (by omega); have hy2_2 : w.heap.size + 2 < w2.heap.size := (by omega); have hB2 : Below w.heap.size w w2 := below_step (by go_grown) hb2
    go_wp2_with fail
    refine (HO.out _ _ (by go_simp) (by go_simp)).mono ?_
    rintro e w3 ⟨rfl, rfl⟩
    go_wp2_with fail
    (try simp only [Exit.inBlock, Exit.then]); refine bodyPost_ret (by simp [results, Tryz.results53, go_sem, *]; try rfl) rfl ?_
    exact ⟨rfl, by go_grown⟩
  · rw [if_neg (by decide), if_neg (by decide)]
    go_enter Tryz.func53, Tryz.ntmps53
    go_wp2_with fail
    refine (H1.out _).mono ?_
    rintro e w1 ⟨rfl, hb1⟩; obtain ⟨hc1, hf1⟩ := bcell hb1; have hz1 := hb1.size; (try simp at hz1); have hy1 : w.heap.size < w1.heap.size := (by omega); have hy1_1 : w.heap.size + 1 < w1.heap.size := (by omega); have hy1_2 : w.heap.size + 2 < w1.heap.size := (by omega); have hB1 : Below w.heap.size w w1 := below_step (by go_grown) hb1
    go_wp2_with fail
    refine (H2.out _).mono ?_
    rintro e w2 ⟨rfl, hb2⟩; obtain ⟨hc2, hf2⟩ := bcell hb2; have hz2 := hb2.size; (try simp at hz2); have hy2 : w.heap.size < w2.heap.size := (by omega); have hy2_1 : w.heap.size + 1 < w2.heap.size := (by omega); have hy2_2 : w.heap.size + 2 < w2.heap.size := (by omega); have hB2 : Below w.heap.size w w2 := below_step (by go_grown) hb2
    go_wp2_with fail
    refine (HO.out _ _ (by go_simp) (by go_simp)).mono ?_
    rintro e w3 ⟨rfl, rfl⟩
    go_wp2_with fail
    (try simp only [Exit.inBlock, Exit.then]); refine bodyPost_ret (by simp [results, Tryz.results53, go_sem, *]; try rfl) rfl ?_
    exact ⟨rfl, by go_grown⟩

/-- what Key returns -/
def keyE (k st se : Int) : Int := if ¬ (-200 ≤ st ∧ st ≤ 200 ∧ -200 ≤ se ∧ se ≤ 200) then 8 else if ¬ (-4 ≤ k ∧ k ≤ 4) then 31 else if ¬ (-4 ≤ k + 7 * se - 12 * st ∧ k + 7 * se - 12 * st ≤ 4) then 31 else 0
def keyN (k st se : Int) : Int := if keyE k st se = 0 then k + 7 * se - 12 * st else 0
set_option maxRecDepth 100000 in
set_option maxHeartbeats 4000000 in
theorem Key_c (k st se : Int) (w : World) (h1 : i64P st) (h2 : i64P se) :
    Calls Tryz.prog 51 #[.int .i64 k, .agg #[.int .i64 st, .int .i64 se]] w fun e w' => e = .returned (.tuple #[.int .i64 (keyN k st se), .int .i64 (keyE k st se)]) ∧ Below w.heap.size w w' := by
  by_cases hn : -200 ≤ st ∧ st ≤ 200 ∧ -200 ≤ se ∧ se ≤ 200
  · have HN := Lib.hid fun w => near_yes st se w hn
    by_cases hk : -4 ≤ k ∧ k ≤ 4
    · have HK := Lib.hid fun w => isKey_yes k w hk.1 hk.2
      obtain ⟨n1, n2, n3, n4⟩ := hn
      obtain ⟨k1, k2⟩ := hk
      by_cases hr : -4 ≤ k + 7 * se - 12 * st ∧ k + 7 * se - 12 * st ≤ 4
      · have HR := Lib.hid fun w => isKey_yes (k + 7 * se - 12 * st) w hr.1 hr.2
        have e1 : keyE k st se = 0 := by unfold keyE; rw [if_neg (fun h => h ⟨n1, n2, n3, n4⟩), if_neg (fun h => h ⟨k1, k2⟩), if_neg (fun h => h hr)]
        have e2 : keyN k st se = k + 7 * se - 12 * st := by unfold keyN; rw [if_pos e1]
        rw [e1, e2]
        clear e1 e2 hr
        go_enter Tryz.func51, Tryz.ntmps51
        go_wp2_with fail
        refine (HN.out _).mono ?_
        rintro e w1 ⟨rfl, hb1⟩; obtain ⟨hc1, hf1⟩ := bcell hb1; have hz1 := hb1.size; (try simp at hz1); have hy1 : w.heap.size < w1.heap.size := (by omega); have hB1 : Below w.heap.size w w1 := below_step (by go_grown) hb1
        go_wp2_with fail
        refine (HK.out _).mono ?_
        rintro e w2 ⟨rfl, rfl⟩
        go_wp2_with fail
        refine (HR.out _).mono ?_
        rintro e w2 ⟨rfl, rfl⟩
        go_wp2_with fail
        go_ret2
        exact ⟨rfl, by go_grown⟩
      · have HR := Lib.hid fun w => isKey_no (k + 7 * se - 12 * st) w (by omega)
        have e1 : keyE k st se = 31 := by unfold keyE; rw [if_neg (fun h => h ⟨n1, n2, n3, n4⟩), if_neg (fun h => h ⟨k1, k2⟩), if_pos hr]
        have e2 : keyN k st se = 0 := by unfold keyN; rw [e1]; rfl
        rw [e1, e2]
        clear e1 e2 hr
        go_enter Tryz.func51, Tryz.ntmps51
        go_wp2_with fail
        refine (HN.out _).mono ?_
        rintro e w1 ⟨rfl, hb1⟩; obtain ⟨hc1, hf1⟩ := bcell hb1; have hz1 := hb1.size; (try simp at hz1); have hy1 : w.heap.size < w1.heap.size := (by omega); have hB1 : Below w.heap.size w w1 := below_step (by go_grown) hb1
        go_wp2_with fail
        refine (HK.out _).mono ?_
        rintro e w2 ⟨rfl, rfl⟩
        go_wp2_with fail
        refine (HR.out _).mono ?_
        rintro e w2 ⟨rfl, rfl⟩
        go_wp2_with fail
        go_ret2
        exact ⟨rfl, by go_grown⟩
    · have HK := Lib.hid fun w => isKey_no k w (by omega)
      have e1 : keyE k st se = 31 := by unfold keyE; rw [if_neg (fun h => h hn), if_pos hk]
      have e2 : keyN k st se = 0 := by unfold keyN; rw [e1]; rfl
      rw [e1, e2]
      clear e1 e2 hk hn
      go_enter Tryz.func51, Tryz.ntmps51
      go_wp2_with fail
      refine (HN.out _).mono ?_
      rintro e w1 ⟨rfl, hb1⟩; obtain ⟨hc1, hf1⟩ := bcell hb1; have hz1 := hb1.size; (try simp at hz1); have hy1 : w.heap.size < w1.heap.size := (by omega); have hB1 : Below w.heap.size w w1 := below_step (by go_grown) hb1
      go_wp2_with fail
      refine (HK.out _).mono ?_
      rintro e w2 ⟨rfl, rfl⟩
      go_wp2_with fail
      go_ret2
      exact ⟨rfl, by go_grown⟩
  · have HN := Lib.hid fun w => near_no st se w hn h1.1 h1.2 h2.1 h2.2
    have e1 : keyE k st se = 8 := by unfold keyE; rw [if_pos hn]
    have e2 : keyN k st se = 0 := by unfold keyN; rw [e1]; rfl
    rw [e1, e2]
    clear e1 e2 hn h1 h2
    go_enter Tryz.func51, Tryz.ntmps51
    go_wp2_with fail
    refine (HN.out _).mono ?_
    rintro e w1 ⟨rfl, hb1⟩; obtain ⟨hc1, hf1⟩ := bcell hb1; have hz1 := hb1.size; (try simp at hz1); have hy1 : w.heap.size < w1.heap.size := (by omega); have hB1 : Below w.heap.size w w1 := below_step (by go_grown) hb1
    go_wp2_with fail
    go_ret2
    exact ⟨rfl, by go_grown⟩
end Go.Proofs.YthfclapnkemjiaaGreatDoor
