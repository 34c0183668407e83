/-
  Contracts of small, Transpose, Key and Between of the reference. Conditions: integers are of their type.
-/
import Derived.Test.YthfclapnkemjiaaGreatDoorRName
import Derived.Test.YthfclapnkemjiaaGreatDoorBetween
namespace Go.Proofs.YthfclapnkemjiaaGreatDoor
open Go.RowKit
set_option linter.unusedSimpArgs false
set_option linter.unusedVariables false

theorem rsmall_yes (st se : Int) (w : World) (h : nearP st se) :
    Calls Tryz.prog 86 #[.agg #[.int .i64 st, .int .i64 se]] w fun e w' => e = .returned (.bool true) ∧ Below w.heap.size w w' := by
  obtain ⟨h1, h2, h3, h4⟩ := h
  go_enter Tryz.func86, Tryz.ntmps86
  go_wp2
  go_ret
  exact ⟨rfl, by go_grown⟩
theorem rsmall_no (st se : Int) (w : World) (h : ¬ nearP st se) :
    Calls Tryz.prog 86 #[.agg #[.int .i64 st, .int .i64 se]] w fun e w' => e = .returned (.bool false) ∧ Below w.heap.size w w' := by
  unfold nearP at h
  by_cases h1 : -200 ≤ st
  · by_cases h2 : st ≤ 200
    · by_cases h3 : -200 ≤ se
      · have h4 : ¬ se ≤ 200 := by omega
        clear h
        go_enter Tryz.func86, Tryz.ntmps86
        go_wp2
        go_ret
        exact ⟨rfl, by go_grown⟩
      · clear h
        go_enter Tryz.func86, Tryz.ntmps86
        go_wp2
        go_ret
        exact ⟨rfl, by go_grown⟩
    · clear h
      go_enter Tryz.func86, Tryz.ntmps86
      go_wp2
      go_ret
      exact ⟨rfl, by go_grown⟩
  · clear h
    go_enter Tryz.func86, Tryz.ntmps86
    go_wp2
    go_ret
    exact ⟨rfl, by go_grown⟩
theorem rSemitone_c (s a : Int) (w : World) : Calls Tryz.prog 87 #[.agg #[.int .i64 s, .int .i64 a]] w fun e w' => e = .returned (.tuple #[.int .i64 (semN s a), .int .i64 (semE s a)]) ∧ Below w.heap.size w w' := by
  by_cases h : 0 ≤ s ∧ s < 70 ∧ -1 ≤ a ∧ a ≤ 1
  · unfold semN semE; rw [if_pos h, if_pos h]; exact rSemitone_yes s a w h
  · unfold semN semE; rw [if_neg h, if_neg h]; exact rSemitone_no s a w h

set_option maxRecDepth 100000 in
set_option maxHeartbeats 4000000 in
theorem rTranspose_far (s a st se : Int) (w : World) (h : ¬ nearP st se) :
    Calls Tryz.prog 50 #[.agg #[.int .i64 s, .int .i64 a], .agg #[.int .i64 st, .int .i64 se]] w fun e w' => e = .returned (trV 0 0 8) ∧ Below w.heap.size w w' := by
  have H := Lib.hid fun w => rsmall_no st se w h
  clear h
  go_enter Tryz.func50, Tryz.ntmps50
  go_wp2_with fail
  refine (H.out _).mono ?_
  rintro e w1 ⟨rfl, hb1⟩; obtain ⟨hc1, hf1⟩ := bcell hb1; have hz1 := hb1.size; (try simp at hz1); have hy1 : w.heap.size < w1.heap.size := (by omega); have hy1_1 : w.heap.size + 1 < w1.heap.size := (by omega); have hy1_2 : w.heap.size + 2 < w1.heap.size := (by omega); have hB1 : Below w.heap.size w w1 := below_step (by go_grown) hb1
  go_wp2_with fail
  (try simp only [Exit.inBlock, Exit.then]); refine bodyPost_ret (by simp [results, Tryz.results50, go_sem, *]; try rfl) rfl ?_
  exact ⟨rfl, by go_grown⟩
set_option maxRecDepth 100000 in
set_option maxHeartbeats 4000000 in
theorem rTranspose_bad (s a st se : Int) (w : World) (h : nearP st se) (h' : ¬ goodP s a) :
    Calls Tryz.prog 50 #[.agg #[.int .i64 s, .int .i64 a], .agg #[.int .i64 st, .int .i64 se]] w fun e w' => e = .returned (trV 0 0 34) ∧ Below w.heap.size w w' := by
  have H := Lib.hid fun w => rsmall_yes st se w h
  have HS := Lib.hid fun w => rSemitone_no s a w h'
  clear h h'
  go_enter Tryz.func50, Tryz.ntmps50
  go_wp2_with fail
  refine (H.out _).mono ?_
  rintro e w1 ⟨rfl, hb1⟩; obtain ⟨hc1, hf1⟩ := bcell hb1; have hz1 := hb1.size; (try simp at hz1); have hy1 : w.heap.size < w1.heap.size := (by omega); have hy1_1 : w.heap.size + 1 < w1.heap.size := (by omega); have hy1_2 : w.heap.size + 2 < w1.heap.size := (by omega); have hB1 : Below w.heap.size w w1 := below_step (by go_grown) hb1
  go_wp2_with fail
  refine (HS.out _).mono ?_
  rintro e w2 ⟨rfl, hb2⟩; obtain ⟨hc2, hf2⟩ := bcell hb2; have hz2 := hb2.size; (try simp at hz2); have hy2 : w.heap.size < w2.heap.size := (by omega); have hy2_1 : w.heap.size + 1 < w2.heap.size := (by omega); have hy2_2 : w.heap.size + 2 < w2.heap.size := (by omega); have hB2 : Below w.heap.size w w2 := below_step (by go_grown) hb2
  go_wp2_with fail
  (try simp only [Exit.inBlock, Exit.then]); refine bodyPost_ret (by simp [results, Tryz.results50, go_sem, *]; try rfl) rfl ?_
  exact ⟨rfl, by go_grown⟩
set_option maxRecDepth 100000 in
set_option maxHeartbeats 8000000 in
theorem rTranspose_in (s a st se n m e1 rs ra re : Int) (w : World) (g1 : 0 ≤ s) (g2 : s < 70) (n1 : -200 ≤ st) (n2 : st ≤ 200) (n3 : -200 ≤ se) (n4 : se ≤ 200) (hn0 : -1 ≤ n) (hn1 : n ≤ 201) (hm0 : 0 ≤ m) (hm1 : m ≤ 200)
    (H : Hid (∀ w, Calls Tryz.prog 86 #[.agg #[.int .i64 st, .int .i64 se]] w fun e w' => e = .returned (.bool true) ∧ Below w.heap.size w w'))
    (HS : Hid (∀ w, Calls Tryz.prog 87 #[.agg #[.int .i64 s, .int .i64 a]] w fun e w' => e = .returned (.tuple #[.int .i64 n, .int .i64 0]) ∧ Below w.heap.size w w'))
    (HT : Hid (∀ k, -1 ≤ k → k ≤ 1 → ∃ v, (e1 = 0 → v = m + k) ∧ ∀ w, Calls Tryz.prog 87 #[.agg #[.int .i64 (s + st), .int .i64 k]] w fun e w' => e = .returned (.tuple #[.int .i64 v, .int .i64 e1]) ∧ Below w.heap.size w w'))
    (HA : Hid (∀ k, -1 ≤ k → k ≤ 1 → e1 = 0 → m + k = n + se → rs = s + st ∧ ra = k ∧ re = 0)) (HE : Hid ((∀ k, -1 ≤ k → k ≤ 1 → e1 = 0 → m + k ≠ n + se) → rs = 0 ∧ ra = 0 ∧ re = 34)) :
    Calls Tryz.prog 50 #[.agg #[.int .i64 s, .int .i64 a], .agg #[.int .i64 st, .int .i64 se]] w fun e w' => e = .returned (trV rs ra re) ∧ Below w.heap.size w w' := by
  go_enter Tryz.func50, Tryz.ntmps50
  go_wp2_with fail
  refine (H.out _).mono ?_
  rintro e w1 ⟨rfl, hb1⟩; obtain ⟨hc1, hf1⟩ := bcell hb1; have hz1 := hb1.size; (try simp at hz1); have hy1 : w.heap.size < w1.heap.size := (by omega); have hy1_1 : w.heap.size + 1 < w1.heap.size := (by omega); have hy1_2 : w.heap.size + 2 < w1.heap.size := (by omega); have hB1 : Below w.heap.size w w1 := below_step (by go_grown) hb1
  go_wp2_with fail
  refine (HS.out _).mono ?_
  rintro e w2 ⟨rfl, hb2⟩; obtain ⟨hc2, hf2⟩ := bcell hb2; have hz2 := hb2.size; (try simp at hz2); have hy2 : w.heap.size < w2.heap.size := (by omega); have hy2_1 : w.heap.size + 1 < w2.heap.size := (by omega); have hy2_2 : w.heap.size + 2 < w2.heap.size := (by omega); have hB2 : Below w.heap.size w w2 := below_step (by go_grown) hb2
  have Pp : Pair w2 w.heap.size s a := ⟨by go_simp, by go_simp, by omega, by go_simp, by go_simp⟩
  have Pi : Pair w2 (w.heap.size + 1) st se := ⟨by go_simp, by go_simp, by omega, by go_simp, by go_simp⟩
  have Pr : Pair w2 (w.heap.size + 1 + 1) 0 0 := ⟨by go_simp, by go_simp, by omega, by go_simp, by go_simp⟩
  clear hb1 hc1 hf1 hz1 hB1 hb2 hc2 hf2 hz2 H HS
  go_wp2_with fail
  go_loopw [8] (fun i wr => ∃ k : Int, -1 ≤ k ∧ k ≤ 2 ∧ i = .int .i64 k ∧ Hid (∀ j, -1 ≤ j → j < k → e1 = 0 → m + j ≠ n + se) ∧ Pair wr w.heap.size s a ∧ Pair wr (w.heap.size + 1) st se ∧ Pair wr (w.heap.size + 1 + 1) 0 0 ∧ Below w.heap.size w wr) (fun i _ => (2 - intOf i).toNat)
  case atStart => exact ⟨-1, by omega, by omega, rfl, fun j h1 h2 => by omega, Pp, Pi, Pr, hB2⟩
  case round =>
    clear Pp Pi Pr hB2 hy1 hy1_1 hy1_2 hy2 hy2_1 hy2_2
    obtain ⟨k, hk0, hk1, rfl, HV, Pp, Pi, Pr, HB⟩ := hrel
    by_cases hlt : k ≤ 1
    · obtain ⟨v, hv, hT⟩ := HT.out k hk0 hlt
      have JT := Lib.hid hT
      clear hT
      have hq1 : w.heap.size + 1 + 1 < wr.heap.size := Pr.lt
      obtain ⟨p0, p1, p2, -, -⟩ := id Pp
      obtain ⟨i0, i1, i2, -, -⟩ := id Pi
      go_wp2_with fail
      refine calls_named fun W hW => ?_
      replace Pp := Pp.next (below_named hW)
      replace Pi := Pi.next (below_named hW)
      replace Pr := Pr.next (below_named hW)
      have Pq := Pair.made hW
      replace HB := below_step HB (below_named hW)
      clear hW p0 p1 p2 i0 i1 i2
      refine (JT.out _).mono ?_
      rintro e u ⟨rfl, hb⟩
      replace Pp := Pp.next hb
      replace Pi := Pi.next hb
      replace Pr := Pr.next hb
      replace Pq := Pq.next hb
      replace HB := below_step HB hb
      clear hb JT
      by_cases he : e1 = 0
      · have hv' := hv he
        subst hv'
        subst he
        clear hv
        by_cases hh : m + k = n + se
        · obtain ⟨h1, h2, h3⟩ := HA.out k hk0 hlt rfl hh
          have HX : Hid (rs = s + st ∧ ra = k ∧ re = 0) := ⟨h1, h2, h3⟩
          clear h1 h2 h3 HV
          have hb : (m + k == n + se) = true := beq_iff_eq.2 hh
          clear hh
          obtain ⟨i0, i1, i2, -, -⟩ := id Pi
          obtain ⟨q0, q1, q2, -, -⟩ := id Pq
          obtain ⟨r0, r1, r2, r3, r4⟩ := id Pr
          go_wp2_with fail
          (try simp only [Exit.inBlock, Exit.then]); refine bodyPost_ret (by simp [results, Tryz.results50, go_sem, *]; try rfl) rfl ?_
          obtain ⟨h1, h2, h3⟩ := HX.out
          exact ⟨by rw [h1, h2, h3]; rfl, by go_grown⟩
        · have HV2 : Hid (∀ j, -1 ≤ j → j < k + 1 → (0 : Int) = 0 → m + j ≠ n + se) := by
            intro j h1 h2 h3
            by_cases hj : j = k
            · subst hj; exact hh
            · exact HV.out j h1 (by omega) rfl
          have hb : (m + k == n + se) = false := beq_eq_false_iff_ne.2 hh
          clear hh HV
          obtain ⟨i0, i1, i2, -, -⟩ := id Pi
          go_wp2_with fail
          go_roundw
          case rel => exact ⟨k + 1, by omega, by omega, by go_num, HV2, Pp, Pi, Pr, HB⟩
          case measure => simp [intOf]; omega
      · have heb : (e1 == 0) = false := beq_eq_false_iff_ne.2 he
        have HV2 : Hid (∀ j, -1 ≤ j → j < k + 1 → e1 = 0 → m + j ≠ n + se) := fun j h1 h2 h3 => absurd h3 he
        clear he hv HV
        go_wp2_with fail
        go_roundw
        case rel => exact ⟨k + 1, by omega, by omega, by go_num, HV2, Pp, Pi, Pr, HB⟩
        case measure => simp [intOf]; omega
    · obtain ⟨h1, h2, h3⟩ := HE.out (fun j h1 h2 => HV.out j h1 (by omega))
      have HX : Hid (rs = 0 ∧ ra = 0 ∧ re = 34) := ⟨h1, h2, h3⟩
      clear h1 h2 h3 HV
      obtain ⟨r0, r1, r2, r3, r4⟩ := id Pr
      go_wp2_with fail
      (try simp only [Exit.inBlock, Exit.then]); refine bodyPost_ret (by simp [results, Tryz.results50, go_sem, *]; try rfl) rfl ?_
      obtain ⟨h1, h2, h3⟩ := HX.out
      exact ⟨by rw [h1, h2, h3]; rfl, by go_grown⟩
theorem nat7_69 (s : Int) (h0 : 0 ≤ s) (h1 : s < 70) : 0 ≤ nat7 s ∧ nat7 s ≤ 200 := by
  unfold nat7
  have : ∀ k, k < 7 → 0 ≤ ([0, 2, 4, 5, 7, 9, 11] : List Int).getD k 0 ∧ ([0, 2, 4, 5, 7, 9, 11] : List Int).getD k 0 ≤ 11 := by decide
  have := this (s % 7).toNat (by omega)
  omega
theorem rTranspose_c (s a st se : Int) (w : World) :
    Calls Tryz.prog 50 #[.agg #[.int .i64 s, .int .i64 a], .agg #[.int .i64 st, .int .i64 se]] w
      fun e w' => e = .returned (trV (trOf s a st se).1 (trOf s a st se).2.1 (trOf s a st se).2.2) ∧ Below w.heap.size w w' := by
  by_cases hn : nearP st se
  · by_cases hg : goodP s a
    · have ht : trOf s a st se = if ¬ (goodP s a ∧ 0 ≤ s + st ∧ s + st < 70) then (0, 0, 34)
        else if -1 ≤ nat7 s + a + se - nat7 (s + st) ∧ nat7 s + a + se - nat7 (s + st) ≤ 1 then (s + st, nat7 s + a + se - nat7 (s + st), 0) else (0, 0, 34) := by
        unfold trOf; rw [if_neg (fun h => h hn)]
      obtain ⟨n1, n2, n3, n4⟩ := hn
      have b1 := nat7_69 s hg.1 hg.2.1
      obtain ⟨g1, g2, g3, g4⟩ := hg
      by_cases hr : 0 ≤ s + st ∧ s + st < 70
      · rw [if_neg (fun h => h ⟨⟨g1, g2, g3, g4⟩, hr.1, hr.2⟩)] at ht
        have b2 := nat7_69 (s + st) hr.1 hr.2
        refine rTranspose_in s a st se (nat7 s + a) (nat7 (s + st)) 0 _ _ _ w g1 g2 n1 n2 n3 n4 (by omega) (by omega) b2.1 b2.2 (fun w => rsmall_yes st se w ⟨n1, n2, n3, n4⟩) (fun w => rSemitone_yes s a w ⟨g1, g2, g3, g4⟩)
          (fun k k0 k1 => ⟨nat7 (s + st) + k, fun _ => rfl, fun w => rSemitone_yes (s + st) k w ⟨hr.1, hr.2, k0, k1⟩⟩) (fun k k0 k1 _ h => ?_) (fun h => ?_)
        · rw [ht, if_pos ⟨by omega, by omega⟩]; exact ⟨rfl, by show nat7 s + a + se - nat7 (s + st) = k; omega, rfl⟩
        · have hne : ¬ (-1 ≤ nat7 s + a + se - nat7 (s + st) ∧ nat7 s + a + se - nat7 (s + st) ≤ 1) := fun ⟨x, y⟩ => h _ x y rfl (by omega)
          rw [ht, if_neg hne]; exact ⟨rfl, rfl, rfl⟩
      · rw [if_pos (fun h => hr ⟨h.2.1, h.2.2⟩)] at ht
        have hno : ∀ k, ¬ goodP (s + st) k := fun k h => hr ⟨h.1, h.2.1⟩
        refine rTranspose_in s a st se (nat7 s + a) 0 34 _ _ _ w g1 g2 n1 n2 n3 n4 (by omega) (by omega) (by omega) (by omega) (fun w => rsmall_yes st se w ⟨n1, n2, n3, n4⟩) (fun w => rSemitone_yes s a w ⟨g1, g2, g3, g4⟩)
          (fun k k0 k1 => ⟨0, fun h => absurd h (by decide), fun w => rSemitone_no (s + st) k w (hno k)⟩) (fun k k0 k1 h => absurd h (by decide)) (fun h => ?_)
        rw [ht]; exact ⟨rfl, rfl, rfl⟩
    · have ht : trOf s a st se = (0, 0, 34) := by unfold trOf; rw [if_neg (fun h => h hn), if_pos (fun h => hg h.1)]
      rw [ht]; exact rTranspose_bad s a st se w hn hg
  · have ht : trOf s a st se = (0, 0, 8) := by unfold trOf; rw [if_pos hn]
    rw [ht]; exact rTranspose_far s a st se w hn

set_option maxRecDepth 100000 in
set_option maxHeartbeats 4000000 in
theorem rBetween_c (s a c d : Int) (w : World) :
    Calls Tryz.prog 54 #[.agg #[.int .i64 s, .int .i64 a], .agg #[.int .i64 c, .int .i64 d]] w fun e w' => e = .returned (.tuple #[.agg #[.int .i64 (btX s a c d), .int .i64 (btY s a c d)], .int .i64 (btE s a c d)]) ∧ Below w.heap.size w w' := by
  have H1 := Lib.hid fun w => rSemitone_c s a w
  have H2 := Lib.hid fun w => rSemitone_c c d w
  have b1 := semN_bd s a
  have b2 := semN_bd c d
  have HX : Hid (btX s a c d = if orE (semE s a) (semE c d) = 0 then c - s else 0) := rfl
  have HY : Hid (btY s a c d = if orE (semE s a) (semE c d) = 0 then semN c d - semN s a else 0) := rfl
  have HE : Hid (btE s a c d = orE (semE s a) (semE c d)) := rfl
  rw [HX.out, HY.out, HE.out]
  clear HX HY HE
  rcases semE_cases s a with ⟨h, g1, g2, _⟩ | h
  · rcases semE_cases c d with ⟨k, k1, k2, _⟩ | k
    · rw [h] at H1 ⊢
      rw [k] at H2 ⊢
      generalize semN s a = m at *
      generalize semN c d = n at *
      rw [show orE 0 0 = 0 from rfl, if_pos rfl, if_pos rfl]
      clear h k
      go_enter Tryz.func54, Tryz.ntmps54
      go_wp2_with fail
      refine (H1.out _).mono ?_
      rintro e w1 ⟨rfl, hb1⟩; obtain ⟨hc1, hf1⟩ := bcell hb1; have hz1 := hb1.size; (try simp at hz1); have hy1 : w.heap.size < w1.heap.size := (by omega); have hy1_1 : w.heap.size + 1 < w1.heap.size := (by omega); have hy1_2 : w.heap.size + 2 < w1.heap.size := (by omega); have hB1 : Below w.heap.size w w1 := below_step (by go_grown) hb1
      go_wp2_with fail
      refine (H2.out _).mono ?_
      rintro e w2 ⟨rfl, hb2⟩; obtain ⟨hc2, hf2⟩ := bcell hb2; have hz2 := hb2.size; (try simp at hz2); have hy2 : w.heap.size < w2.heap.size := (by omega); have hy2_1 : w.heap.size + 1 < w2.heap.size := (by omega); have hy2_2 : w.heap.size + 2 < w2.heap.size := (by omega); have hB2 : Below w.heap.size w w2 := below_step (by go_grown) hb2
      go_wp2_with fail
      (try simp only [Exit.inBlock, Exit.then]); refine bodyPost_ret (by simp [results, Tryz.results54, go_sem, *]; try rfl) rfl ?_
      exact ⟨rfl, by go_grown⟩
    · rw [h] at H1 ⊢
      rw [k] at H2 ⊢
      generalize semN s a = m at *
      generalize semN c d = n at *
      rw [show orE 0 34 = 34 from rfl, if_neg (by decide), if_neg (by decide)]
      clear h k
      go_enter Tryz.func54, Tryz.ntmps54
      go_wp2_with fail
      refine (H1.out _).mono ?_
      rintro e w1 ⟨rfl, hb1⟩; obtain ⟨hc1, hf1⟩ := bcell hb1; have hz1 := hb1.size; (try simp at hz1); have hy1 : w.heap.size < w1.heap.size := (by omega); have hy1_1 : w.heap.size + 1 < w1.heap.size := (by omega); have hy1_2 : w.heap.size + 2 < w1.heap.size := (by omega); have hB1 : Below w.heap.size w w1 := below_step (by go_grown) hb1
      go_wp2_with fail
      refine (H2.out _).mono ?_
      rintro e w2 ⟨rfl, hb2⟩; obtain ⟨hc2, hf2⟩ := bcell hb2; have hz2 := hb2.size; (try simp at hz2); have hy2 : w.heap.size < w2.heap.size := (by omega); have hy2_1 : w.heap.size + 1 < w2.heap.size := (by omega); have hy2_2 : w.heap.size + 2 < w2.heap.size := (by omega); have hB2 : Below w.heap.size w w2 := below_step (by go_grown) hb2
      go_wp2_with fail
      (try simp only [Exit.inBlock, Exit.then]); refine bodyPost_ret (by simp [results, Tryz.results54, go_sem, *]; try rfl) rfl ?_
      exact ⟨rfl, by go_grown⟩
  · rw [h] at H1 ⊢
    generalize semN s a = m at *
    rw [show orE 34 (semE c d) = 34 from rfl, if_neg (by decide), if_neg (by decide)]
    clear h H2
    go_enter Tryz.func54, Tryz.ntmps54
    go_wp2_with fail
    refine (H1.out _).mono ?_
    rintro e w1 ⟨rfl, hb1⟩; obtain ⟨hc1, hf1⟩ := bcell hb1; have hz1 := hb1.size; (try simp at hz1); have hy1 : w.heap.size < w1.heap.size := (by omega); have hy1_1 : w.heap.size + 1 < w1.heap.size := (by omega); have hy1_2 : w.heap.size + 2 < w1.heap.size := (by omega); have hB1 : Below w.heap.size w w1 := below_step (by go_grown) hb1
    go_wp2_with fail
    (try simp only [Exit.inBlock, Exit.then]); refine bodyPost_ret (by simp [results, Tryz.results54, go_sem, *]; try rfl) rfl ?_
    exact ⟨rfl, by go_grown⟩

set_option maxRecDepth 100000 in
set_option maxHeartbeats 4000000 in
theorem rKey_c (k st se : Int) (w : World) :
    Calls Tryz.prog 52 #[.int .i64 k, .agg #[.int .i64 st, .int .i64 se]] w fun e w' => e = .returned (.tuple #[.int .i64 (keyN k st se), .int .i64 (keyE k st se)]) ∧ Below w.heap.size w w' := by
  by_cases hn : -200 ≤ st ∧ st ≤ 200 ∧ -200 ≤ se ∧ se ≤ 200
  · have HN := Lib.hid fun w => rsmall_yes st se w hn
    by_cases hk : -4 ≤ k ∧ k ≤ 4
    · have HK := Lib.hid fun w => rIsKey_yes k w hk.1 hk.2
      obtain ⟨n1, n2, n3, n4⟩ := hn
      obtain ⟨k1, k2⟩ := hk
      by_cases hr : -4 ≤ k + 7 * se - 12 * st ∧ k + 7 * se - 12 * st ≤ 4
      · have HR := Lib.hid fun w => rIsKey_yes (k + 7 * se - 12 * st) w hr.1 hr.2
        have e1 : keyE k st se = 0 := by unfold keyE; rw [if_neg (fun h => h ⟨n1, n2, n3, n4⟩), if_neg (fun h => h ⟨k1, k2⟩), if_neg (fun h => h hr)]
        have e2 : keyN k st se = k + 7 * se - 12 * st := by unfold keyN; rw [if_pos e1]
        rw [e1, e2]
        clear e1 e2 hr
        go_enter Tryz.func52, Tryz.ntmps52
        go_wp2_with fail
        refine (HN.out _).mono ?_
        rintro e w1 ⟨rfl, hb1⟩; obtain ⟨hc1, hf1⟩ := bcell hb1; have hz1 := hb1.size; (try simp at hz1); have hy1 : w.heap.size < w1.heap.size := (by omega); have hB1 : Below w.heap.size w w1 := below_step (by go_grown) hb1
        go_wp2_with fail
        refine (HK.out _).mono ?_
        rintro e w2 ⟨rfl, rfl⟩
        go_wp2_with fail
        refine (HR.out _).mono ?_
        rintro e w2 ⟨rfl, rfl⟩
        go_wp2_with fail
        go_ret2
        exact ⟨rfl, by go_grown⟩
      · have HR := Lib.hid fun w => rIsKey_no (k + 7 * se - 12 * st) w (by omega)
        have e1 : keyE k st se = 31 := by unfold keyE; rw [if_neg (fun h => h ⟨n1, n2, n3, n4⟩), if_neg (fun h => h ⟨k1, k2⟩), if_pos hr]
        have e2 : keyN k st se = 0 := by unfold keyN; rw [e1]; rfl
        rw [e1, e2]
        clear e1 e2 hr
        go_enter Tryz.func52, Tryz.ntmps52
        go_wp2_with fail
        refine (HN.out _).mono ?_
        rintro e w1 ⟨rfl, hb1⟩; obtain ⟨hc1, hf1⟩ := bcell hb1; have hz1 := hb1.size; (try simp at hz1); have hy1 : w.heap.size < w1.heap.size := (by omega); have hB1 : Below w.heap.size w w1 := below_step (by go_grown) hb1
        go_wp2_with fail
        refine (HK.out _).mono ?_
        rintro e w2 ⟨rfl, rfl⟩
        go_wp2_with fail
        refine (HR.out _).mono ?_
        rintro e w2 ⟨rfl, rfl⟩
        go_wp2_with fail
        go_ret2
        exact ⟨rfl, by go_grown⟩
    · have HK := Lib.hid fun w => rIsKey_no k w (by omega)
      have e1 : keyE k st se = 31 := by unfold keyE; rw [if_neg (fun h => h hn), if_pos hk]
      have e2 : keyN k st se = 0 := by unfold keyN; rw [e1]; rfl
      rw [e1, e2]
      clear e1 e2 hk hn
      go_enter Tryz.func52, Tryz.ntmps52
      go_wp2_with fail
      refine (HN.out _).mono ?_
      rintro e w1 ⟨rfl, hb1⟩; obtain ⟨hc1, hf1⟩ := bcell hb1; have hz1 := hb1.size; (try simp at hz1); have hy1 : w.heap.size < w1.heap.size := (by omega); have hB1 : Below w.heap.size w w1 := below_step (by go_grown) hb1
      go_wp2_with fail
      refine (HK.out _).mono ?_
      rintro e w2 ⟨rfl, rfl⟩
      go_wp2_with fail
      go_ret2
      exact ⟨rfl, by go_grown⟩
  · have HN := Lib.hid fun w => rsmall_no st se w hn
    have e1 : keyE k st se = 8 := by unfold keyE; rw [if_pos hn]
    have e2 : keyN k st se = 0 := by unfold keyN; rw [e1]; rfl
    rw [e1, e2]
    clear e1 e2 hn
    go_enter Tryz.func52, Tryz.ntmps52
    go_wp2_with fail
    refine (HN.out _).mono ?_
    rintro e w1 ⟨rfl, hb1⟩; obtain ⟨hc1, hf1⟩ := bcell hb1; have hz1 := hb1.size; (try simp at hz1); have hy1 : w.heap.size < w1.heap.size := (by omega); have hB1 : Below w.heap.size w w1 := below_step (by go_grown) hb1
    go_wp2_with fail
    go_ret2
    exact ⟨rfl, by go_grown⟩
end Go.Proofs.YthfclapnkemjiaaGreatDoor
