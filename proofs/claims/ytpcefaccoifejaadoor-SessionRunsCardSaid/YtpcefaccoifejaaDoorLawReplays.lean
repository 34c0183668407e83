/-
  The walk of custoslaw13.SessionReplays. Conditions: the arguments can be read as the given statement says.
-/
import Derived.Test.YtpcefaccoifejaaDoorAG2
import Derived.Test.YtpcefaccoifejaaDoorM1
import Derived.Test.YtpcefaccoifejaaDoorAW
import Derived.Test.YtpcefaccoifejaaDoorAR
namespace Go.Proofs.YtpcefaccoifejaaDoor
open Go.RowKit
set_option linter.unusedSimpArgs false
set_option linter.unusedVariables false
set_option maxRecDepth 100000

theorem wf_small {fs : List Ft} (h : ∀ f ∈ fs, wfP f.1 ∧ ∀ o ∈ f.2, wfO o) (hb : bigB fs = false) : wfFs fs := by
  unfold bigB at hb
  rw [Bool.or_eq_false_iff] at hb
  intro f hf
  have := List.any_eq_false.1 hb.2 f hf
  simp only [decide_eq_true_eq] at this
  exact ⟨(h f hf).1, (h f hf).2, by omega⟩
theorem len_small {fs : List Ft} (hb : bigB fs = false) : fs.length ≤ 60 := by
  unfold bigB at hb
  rw [Bool.or_eq_false_iff] at hb
  have := of_decide_eq_false hb.1
  omega
theorem ActsAt.len {w : World} {lo hi : Nat} {v : Value} {l : List Ac} (h : ActsAt w lo hi v l) : ∃ a cap, v = .slice a l.length cap := by
  obtain ⟨a, cap, e, -⟩ := h
  exact ⟨a, cap, e⟩
theorem FeatsAt.len {w : World} {lo hi : Nat} {v : Value} {l : List Ft} (h : FeatsAt w lo hi v l) : ∃ a cap, v = .slice a l.length cap := by
  obtain ⟨a, cap, vs, e, -⟩ := h
  exact ⟨a, cap, e⟩
section
variable (v0 v1 v2 : Value) (f0 f1 : List Ft) (a2 : List Ac) (q1 q2 q3 q4 q5 : Int) (W : World)
/-- what is more than is looked at -/
theorem Replays_big (hF0 : FeatsAt W 0 W.heap.size v0 f0) (hF1 : FeatsAt W 0 W.heap.size v1 f1) (hA2 : ActsAt W 0 W.heap.size v2 a2) (h : bigB f0 = true ∨ bigB f1 = true ∨ 60 < a2.length) :
    Calls Tryd.prog 3 #[v0, v1, v2, .agg #[.int .i64 q1, .int .i64 q2, .int .i64 q3, .int .i64 q4, .int .i64 q5]] W fun e w' => e = .returned (.bool true) ∧ Below W.heap.size W w' := by
  have HB0 := Lib.hid fun W' (hb : Below W.heap.size W W') => big_c v0 f0 0 W.heap.size W' (hF0.move (Same.of_below hb))
  have HB1 := Lib.hid fun W' (hb : Below W.heap.size W W') => big_c v1 f1 0 W.heap.size W' (hF1.move (Same.of_below hb))
  obtain ⟨aa, ac, rfl⟩ := hA2.len
  clear hF0 hF1 hA2
  cases hb0 : bigB f0 with
  | true =>
    rw [hb0] at HB0
    clear hb0 h
    go_enter Tryd.func3, Tryd.ntmps3
    go_wp2_with fail
    refine (HB0.out _ (by go_grown)).mono ?_
    rintro rr w1 ⟨rfl, rfl⟩
    go_wp2_with fail
    refine (awake_c _).mono ?_
    rintro rr w2 ⟨rfl, hb2⟩
    have HB2 := Lib.hid (below_step (w := W) (by go_grown) hb2)
    clear hb2
    go_wp2
    go_ret
    exact ⟨rfl, HB2.out⟩
  | false =>
    rw [hb0] at HB0
    rcases h with h | h
    · exact absurd (hb0.symm.trans h) (by simp)
    clear hb0
    cases hb1 : bigB f1 with
    | true =>
      rw [hb1] at HB1
      clear hb1 h
      go_enter Tryd.func3, Tryd.ntmps3
      go_wp2_with fail
      refine (HB0.out _ (by go_grown)).mono ?_
      rintro rr w1 ⟨rfl, rfl⟩
      go_wp2_with fail
      refine (HB1.out _ (by go_grown)).mono ?_
      rintro rr w1 ⟨rfl, rfl⟩
      go_wp2_with fail
      refine (awake_c _).mono ?_
      rintro rr w2 ⟨rfl, hb2⟩
      have HB2 := Lib.hid (below_step (w := W) (by go_grown) hb2)
      clear hb2
      go_wp2
      go_ret
      exact ⟨rfl, HB2.out⟩
    | false =>
      rw [hb1] at HB1
      rcases h with h | h
      · exact absurd (hb1.symm.trans h) (by simp)
      clear hb1
      have h60 : 60 < (a2.length : Int) := by omega
      clear h
      go_enter Tryd.func3, Tryd.ntmps3
      go_wp2_with fail
      refine (HB0.out _ (by go_grown)).mono ?_
      rintro rr w1 ⟨rfl, rfl⟩
      go_wp2_with fail
      refine (HB1.out _ (by go_grown)).mono ?_
      rintro rr w1 ⟨rfl, rfl⟩
      go_wp2_with fail
      refine (awake_c _).mono ?_
      rintro rr w2 ⟨rfl, hb2⟩
      have HB2 := Lib.hid (below_step (w := W) (by go_grown) hb2)
      clear hb2
      go_wp2
      go_ret
      exact ⟨rfl, HB2.out⟩
set_option maxHeartbeats 4000000 in
theorem Replays_small (hF0 : FeatsAt W 0 W.heap.size v0 f0) (hF1 : FeatsAt W 0 W.heap.size v1 f1) (hA2 : ActsAt W 0 W.heap.size v2 a2) (hb0 : bigB f0 = false) (hb1 : bigB f1 = false) (h60 : a2.length ≤ 60)
    (wf0 : wfFs f0) (wf1 : wfFs f1) (wf2 : wfAs a2) (wq : wfP (q1, q2, q3, q4, q5)) :
    Calls Tryd.prog 3 #[v0, v1, v2, .agg #[.int .i64 q1, .int .i64 q2, .int .i64 q3, .int .i64 q4, .int .i64 q5]] W fun e w' => e = .returned (.bool true) ∧ Below W.heap.size W w' := by
  have HB0 := Lib.hid fun W' (hb : Below W.heap.size W W') => big_c v0 f0 0 W.heap.size W' (hF0.move (Same.of_below hb))
  have HB1 := Lib.hid fun W' (hb : Below W.heap.size W W') => big_c v1 f1 0 W.heap.size W' (hF1.move (Same.of_below hb))
  rw [hb0] at HB0
  rw [hb1] at HB1
  have hl0 := len_small hb0
  have hl1 := len_small hb1
  have HMD := Lib.hid fun W' (hb : Below W.heap.size W W') => made_c v0 v2 f0 a2 0 W.heap.size 0 W.heap.size W' (hF0.move (Same.of_below hb)) hb.size (hA2.move (Same.of_below hb)) hb.size wf0 wf2 (by omega) h60
  have HF1 := Lib.hid hF1
  have HWD := doneL_wf f0 wf2
  have HAD := doneL_acted f0 wf2
  have HWF := Lib.hid (And.intro wf0 wf1)
  have HWQ := Lib.hid wq
  obtain ⟨D, hD⟩ : ∃ D, doneL f0 a2 = D := ⟨_, rfl⟩
  have HDD := Lib.hid hD
  rw [hD] at HWD HAD
  have HLD := HAD.len
  have HPW := play_all f1 D [] [] (Acted.nil f1) (fun _ h => by cases h) HWD
  have HPL := play_len f1 D [] []
  have X1 := Lib.hid HWD
  have X2 := Lib.hid HAD
  have X3 := Lib.hid HPW
  obtain ⟨aa, ac, hv2⟩ := hA2.len
  subst hv2
  have h6 : ¬ (60 < (a2.length : Int)) := by omega
  obtain ⟨na, hna⟩ : ∃ na, a2.length = na := ⟨_, rfl⟩
  rw [hna] at HMD h6 ⊢
  have h6' : (na : Int) ≤ 60 := by omega
  clear hF0 hF1 hA2 hb0 hb1 h60 wf0 wf1 wf2 wq hD HWD HAD HPW hna h6
  go_enter Tryd.func3, Tryd.ntmps3
  go_wp2_with fail
  refine (HB0.out _ (by go_grown)).mono ?_
  rintro rr w1 ⟨rfl, rfl⟩
  go_wp2_with fail
  refine (HB1.out _ (by go_grown)).mono ?_
  rintro rr w1 ⟨rfl, rfl⟩
  go_wp2_with fail
  refine calls_named fun W1 hW1 => ?_
  have hBW1 : Below W.heap.size W W1 := by rw [hW1]; go_grown
  have hP1 : W1.heap[W.heap.size]? = some (.cells #[.int .i64 q1, .int .i64 q2, .int .i64 q3, .int .i64 q4, .int .i64 q5] 26 (0, 0)) := by rw [hW1]; exact heap_alloc_new _ _
  have HBW1 := Lib.hid hBW1
  have HP1 := Lib.hid hP1
  have y0 : W.heap.size < W1.heap.size := (Array.getElem?_eq_some_iff.1 hP1).1
  clear hW1 hBW1 hP1 HB0 HB1
  refine (HMD.out _ HBW1.out).mono ?_
  rintro rr w2 ⟨hb2, hres⟩
  have HB2 : Hid (Below W1.heap.size W1 w2) := hb2
  clear hb2 HMD
  rcases hres with ⟨hne, rfl⟩ | ⟨he0, p, m, flo, fhi, va, vf, tf, ta, rfl, hses, htf, hta⟩
  · clear hne
    go_wp2_with fail
    refine (awake_c _).mono ?_
    rintro rr w3 ⟨rfl, hb3⟩
    have HB3 := Lib.hid (below_step (w := W) (below_step HBW1.out (below_step HB2.out (by go_grown))) hb3)
    clear hb3
    go_wp2
    go_ret
    exact ⟨rfl, HB3.out⟩
  · rw [HDD.out] at hses hta
    obtain ⟨tfa, tfc, rfl⟩ := htf.len
    obtain ⟨taa, tac, rfl⟩ := hta.len
    have HS2 := Lib.hid hses
    have HT2 := Lib.hid htf
    have HA2 := Lib.hid hta
    have HE0 := Lib.hid he0
    clear he0 hses htf hta
    go_wp2_with fail
    refine calls_named fun W3 hW3 => ?_
    have hb3 : Below w2.heap.size w2 W3 := by rw [hW3]; exact (Below.refl _ _).alloc (Nat.le_refl _) _
    have hT3 : W3.heap[w2.heap.size]? = some (.cells #[.slice tfa f0.length tfc, .slice taa D.length tac] 31 (0, 0)) := by rw [hW3]; exact heap_alloc_new _ _
    have HS3 := Lib.hid (HS2.out.below hb3)
    have HT3 : Hid (FeatsAt W3 W1.heap.size w2.heap.size (.slice tfa f0.length tfc) f0) := HT2.out.move (Same.of_below hb3)
    have HA3 : Hid (ActsAt W3 0 w2.heap.size (.slice taa D.length tac) D) := HA2.out.move (Same.of_below hb3)
    have HB3 : Hid (Below W1.heap.size W1 W3) := below_step HB2.out hb3
    have HX3 := Lib.hid hT3
    have HZ3 := Lib.hid hb3.size
    clear hW3 hb3 hT3 HS2 HT2 HA2
    have HBW3 : Hid (Below W.heap.size W W3) := below_step HBW1.out HB3.out
    refine (Replay_c W1.heap.size p m flo fhi va vf f0 D v1 f1 0 W.heap.size W3 HS3.out (HF1.out.move (Same.of_below HBW3.out)) HBW3.out.size HWF.out.2 X1.out (by omega) (by omega)).mono ?_
    rintro rr w4 ⟨hb4, hres⟩
    have HS4 := Lib.hid (HS3.out.below hb4)
    have HT4 : Hid (FeatsAt w4 W1.heap.size w2.heap.size (.slice tfa f0.length tfc) f0) := HT3.out.move (Same.of_below (hb4.mono HZ3.out))
    have HA4 : Hid (ActsAt w4 0 w2.heap.size (.slice taa D.length tac) D) := HA3.out.move (Same.of_below (hb4.mono HZ3.out))
    have HB4 : Hid (Below W1.heap.size W1 w4) := below_step HB3.out hb4
    have hX4 : w4.heap[w2.heap.size]? = some (.cells #[.slice tfa f0.length tfc, .slice taa D.length tac] 31 (0, 0)) := (hb4.block _ (Array.getElem?_eq_some_iff.1 HX3.out).1).trans HX3.out
    have HX4 := Lib.hid hX4
    have HZ4 : Hid (w2.heap.size ≤ w4.heap.size) := Nat.le_trans HZ3.out hb4.size
    have HBW4 : Hid (Below W.heap.size W w4) := below_step HBW1.out HB4.out
    clear HS3 HT3 HA3 HX3 HZ3 HBW3 hb4
    have e0 : w4.cell? ⟨w2.heap.size, 0, none⟩ = some (.slice tfa f0.length tfc) := by rw [cell_of_row _ _ _ _ _ _ hX4]; rfl
    have e1 : w4.cell? ⟨w2.heap.size, 1, none⟩ = some (.slice taa D.length tac) := by rw [cell_of_row _ _ _ _ _ _ hX4]; rfl
    have hrp := rReplay_c (.slice tfa f0.length tfc) (.slice taa D.length tac) f0.length tfa tfc rfl D 0 w2.heap.size v1 f1 0 W.heap.size w4 HA4.out HZ4.out (HF1.out.move (Same.of_below HBW4.out)) HBW4.out.size HWF.out.2 (by omega) (by omega)
    have HRP := Lib.hid hrp
    have HAG : Hid (∀ Wk, Below w4.heap.size w4 Wk → Calls Tryd.prog 13 #[.pointer (some ⟨p, 0, none⟩), .agg #[.slice tfa f0.length tfc, .slice taa D.length tac], .agg #[.int .i64 q1, .int .i64 q2, .int .i64 q3, .int .i64 q4, .int .i64 q5]] Wk fun e w' => e = .returned (.bool true) ∧ Below Wk.heap.size Wk w') := fun Wk hb =>
      agree_c W1.heap.size p m flo fhi va vf f0 D (.slice tfa f0.length tfc) (.slice taa D.length tac) W1.heap.size w2.heap.size 0 w2.heap.size q1 q2 q3 q4 q5 Wk (HS4.out.below hb) (HT4.out.move (Same.of_below (hb.mono HZ4.out))) (Nat.le_trans HZ4.out hb.size) (HA4.out.move (Same.of_below (hb.mono HZ4.out))) (Nat.le_trans HZ4.out hb.size) (good_of_newE HE0.out) X2.out HWF.out.1 X1.out HWQ.out
    have HCE : Hid (∀ Wk, Below w4.heap.size w4 Wk → (Wk.cell? ⟨w2.heap.size, 0, none⟩ = some (.slice tfa f0.length tfc) ∧ Wk.cell? ⟨w2.heap.size, 1, none⟩ = some (.slice taa D.length tac))) := fun Wk hb => by
      have hx := (hb.block _ (Array.getElem?_eq_some_iff.1 HX4.out).1).trans HX4.out
      exact ⟨by rw [cell_of_row _ _ _ _ _ _ hx]; rfl, by rw [cell_of_row _ _ _ _ _ _ hx]; rfl⟩
    have HCP : Hid (∀ Wk, Below w4.heap.size w4 Wk → (Wk.cell? ⟨W.heap.size, 0, none⟩ = some (.int .i64 q1) ∧ Wk.cell? ⟨W.heap.size, 1, none⟩ = some (.int .i64 q2) ∧ Wk.cell? ⟨W.heap.size, 2, none⟩ = some (.int .i64 q3) ∧ Wk.cell? ⟨W.heap.size, 3, none⟩ = some (.int .i64 q4) ∧ Wk.cell? ⟨W.heap.size, 4, none⟩ = some (.int .i64 q5))) := fun Wk hb => by
      have hx := ((below_step HB4.out hb).block _ y0).trans HP1.out
      exact ⟨by rw [cell_of_row _ _ _ _ _ _ hx]; rfl, by rw [cell_of_row _ _ _ _ _ _ hx]; rfl, by rw [cell_of_row _ _ _ _ _ _ hx]; rfl, by rw [cell_of_row _ _ _ _ _ _ hx]; rfl, by rw [cell_of_row _ _ _ _ _ _ hx]; rfl⟩
    clear hX4 hrp HS4 HT4 HA4 HX4 HB4
    rcases hres with ⟨hne, rfl⟩ | ⟨he1, p', m', flo', fhi', va', vf', lv, rfl, hs', hl'⟩
    · have HNE := Lib.hid hne
      obtain ⟨E, hE⟩ : ∃ E, newE f1 = E := ⟨_, rfl⟩
      have HE := Lib.hid hE
      rw [hE] at hne ⊢
      have hE2 : (E != 0) = true := by simpa using hne
      have hE1 : ¬ E = 0 := hne
      clear hE hne
      go_wp2_with fail
      refine HRP.out.mono ?_
      rintro rr w5 ⟨hb5, hr5⟩
      obtain rfl : rr = .returned (.tuple #[.agg #[.slice none 0 0, .slice none 0 0], .slice none 0 0, .int .i64 E]) := by
        rcases hr5 with h | h
        · rw [h.2, HE.out]
        · exact absurd h.1 HNE.out
      have HB5 := Lib.hid hb5
      clear hb5 hr5 e0 e1
      go_wp2_with fail
      have hnil : ∀ W', ActsAt W' 0 0 (.slice none 0 0) [] := fun W' => ⟨none, 0, rfl, fun _ => rfl, Row.none _ _ _ _ _ _⟩
      have HBA : Hid (Below w4.heap.size w4 (w5.alloc (.cells #[.slice none 0 0, .slice none 0 0] 31))) := HB5.out.alloc HB5.out.size _
      refine (sameActs_c (.slice none 0 0) (.slice none 0 0) [] [] 0 0 0 0 _ (hnil _) (hnil _) (Nat.zero_le _) (Nat.zero_le _) (Nat.zero_le _)).mono ?_
      rintro rr w6 ⟨rfl, hb6⟩
      have HB6 : Hid (Below w4.heap.size w4 w6) := below_step HBA.out hb6
      obtain ⟨e0, e1⟩ := HCE.out w6 HB6.out
      obtain ⟨p0, p1, p2, p3, p4⟩ := HCP.out w6 HB6.out
      clear hb6 hnil HB5 HBA
      go_wp2_with fail
      refine (HAG.out _ HB6.out).mono ?_
      rintro rr w7 ⟨rfl, hb7⟩
      have HB7 : Hid (Below w4.heap.size w4 w7) := below_step HB6.out hb7
      clear hb7 HB6 e0 e1 p0 p1 p2 p3 p4
      go_wp2_with fail
      refine (awake_c _).mono ?_
      rintro rr w8 ⟨rfl, hb8⟩
      have HB8 : Hid (Below W.heap.size W w8) := below_step (below_step HBW4.out HB7.out) hb8
      clear hb8
      go_wp2
      go_ret
      exact ⟨rfl, HB8.out⟩
    · have HE1 := Lib.hid he1
      obtain ⟨G, hG⟩ : ∃ G, playGo f1 [] [] D = G := ⟨_, rfl⟩
      have HG := Lib.hid hG
      rw [hG] at hs' hl' HPL X3
      have HS' := Lib.hid hs'
      have HL' := Lib.hid hl'
      obtain ⟨la, lc, rfl⟩ := own_shape hl'
      clear hG hs' hl' he1
      go_wp2_with fail
      refine HRP.out.mono ?_
      rintro rr w5 ⟨hb5, hr5⟩
      obtain ⟨rf, ra, rl, rfl, h1, h2, h3⟩ : ∃ rf ra rl, rr = .returned (.tuple #[.agg #[rf, ra], rl, .int .i64 0]) ∧ FeatsAt w5 w4.heap.size w5.heap.size rf f1 ∧ ActsAt w5 0 w5.heap.size ra G.1 ∧ ActsAt w5 w4.heap.size w5.heap.size rl G.2 := by
        rcases hr5 with h | ⟨_, rf, ra, rl, e, h1, h2, h3⟩
        · exact absurd HE1.out h.1
        · rw [HG.out] at h2 h3
          exact ⟨rf, ra, rl, e, h1, h2, h3⟩
      obtain ⟨rfa, rfc, rfl⟩ := h1.len
      obtain ⟨raa, rac, rfl⟩ := h2.len
      obtain ⟨rla, rlc, rfl⟩ := h3.len
      have H5 := Lib.hid (And.intro h1 (And.intro h2 h3))
      have HB5 := Lib.hid hb5
      have HS5 := Lib.hid (HS'.out.below hb5)
      have HL5 := Lib.hid (own_below HL'.out hb5)
      clear hb5 hr5 h1 h2 h3 HS' HL' e0 e1
      go_wp2_with fail
      refine calls_named fun W6 hW6 => ?_
      have hb6 : Below w5.heap.size w5 W6 := by rw [hW6]; exact (Below.refl _ _).alloc (Nat.le_refl _) _
      have HX6 : Hid (W6.heap[w5.heap.size]? = some (.cells #[.slice rfa f1.length rfc, .slice raa G.1.length rac] 31 (0, 0))) := by rw [hW6]; exact heap_alloc_new _ _
      have HB6 : Hid (Below w4.heap.size w4 W6) := below_step HB5.out hb6
      have HS6 := Lib.hid (HS5.out.below hb6)
      have HL6 := Lib.hid (own_below HL5.out hb6)
      have HZ6 := Lib.hid hb6.size
      have HT6 : Hid (FeatsAt W6 w4.heap.size w5.heap.size (.slice rfa f1.length rfc) f1) := H5.out.1.move (Same.of_below hb6)
      have HA6 : Hid (ActsAt W6 0 w5.heap.size (.slice raa G.1.length rac) G.1) := H5.out.2.1.move (Same.of_below hb6)
      have HR6 : Hid (ActsAt W6 w4.heap.size w5.heap.size (.slice rla G.2.length rlc) G.2) := H5.out.2.2.move (Same.of_below hb6)
      clear hW6 hb6 HS5 HL5 H5 HB5
      have hsa := sameActs_c (.slice la G.2.length lc) (.slice rla G.2.length rlc) G.2 G.2 _ _ _ _ W6 (acts_of_own HL6.out) HR6.out (Nat.le_refl _) HZ6.out (by simp only [List.length_nil] at HPL; omega)
      rw [decide_eq_true rfl] at hsa
      have HSA := Lib.hid hsa
      clear hsa
      refine HSA.out.mono ?_
      rintro rr w7 ⟨rfl, hb7⟩
      have HB7 : Hid (Below w4.heap.size w4 w7) := below_step HB6.out hb7
      have hx7 : w7.heap[w5.heap.size]? = some (.cells #[.slice rfa f1.length rfc, .slice raa G.1.length rac] 31 (0, 0)) := (hb7.block _ (Array.getElem?_eq_some_iff.1 HX6.out).1).trans HX6.out
      have x0 : w7.cell? ⟨w5.heap.size, 0, none⟩ = some (.slice rfa f1.length rfc) := by rw [cell_of_row _ _ _ _ _ _ hx7]; rfl
      have x1 : w7.cell? ⟨w5.heap.size, 1, none⟩ = some (.slice raa G.1.length rac) := by rw [cell_of_row _ _ _ _ _ _ hx7]; rfl
      have hag := agree_c _ p' m' flo' fhi' va' vf' f1 G.1 (.slice rfa f1.length rfc) (.slice raa G.1.length rac) w4.heap.size w5.heap.size 0 w5.heap.size q1 q2 q3 q4 q5 w7 (HS6.out.below hb7) (HT6.out.move (Same.of_below (hb7.mono HZ6.out))) (Nat.le_trans HZ6.out hb7.size) (HA6.out.move (Same.of_below (hb7.mono HZ6.out))) (Nat.le_trans HZ6.out hb7.size) (good_of_newE HE1.out) X3.out.1 HWF.out.2 X3.out.2 HWQ.out
      have HAG2 := Lib.hid hag
      obtain ⟨p0, p1, p2, p3, p4⟩ := HCP.out w7 HB7.out
      clear hb7 hx7 hag HX6 HB6 HS6 HL6 HT6 HA6 HR6 HSA
      go_wp2_with fail
      refine HAG2.out.mono ?_
      rintro rr w8 ⟨rfl, hb8⟩
      have HB8 : Hid (Below w4.heap.size w4 w8) := below_step HB7.out hb8
      clear hb8 HB7 x0 x1 p0 p1 p2 p3 p4
      obtain ⟨e0, e1⟩ := HCE.out w8 HB8.out
      obtain ⟨p0, p1, p2, p3, p4⟩ := HCP.out w8 HB8.out
      go_wp2_with fail
      refine (HAG.out _ HB8.out).mono ?_
      rintro rr w9 ⟨rfl, hb9⟩
      have HB9 : Hid (Below w4.heap.size w4 w9) := below_step HB8.out hb9
      clear hb9 HB8 e0 e1 p0 p1 p2 p3 p4
      go_wp2_with fail
      refine (awake_c _).mono ?_
      rintro rr w10 ⟨rfl, hb10⟩
      have HB10 : Hid (Below W.heap.size W w10) := below_step (below_step HBW4.out HB9.out) hb10
      clear hb10
      go_wp2
      go_ret
      exact ⟨rfl, HB10.out⟩
end
theorem Replays_walk (v0 v1 v2 : Value) (f0 f1 : List Ft) (a2 : List Ac) (q : Pl) (W : World) (hF0 : FeatsAt W 0 W.heap.size v0 f0) (hF1 : FeatsAt W 0 W.heap.size v1 f1) (hA2 : ActsAt W 0 W.heap.size v2 a2)
    (wf0 : ∀ f ∈ f0, wfP f.1 ∧ ∀ o ∈ f.2, wfO o) (wf1 : ∀ f ∈ f1, wfP f.1 ∧ ∀ o ∈ f.2, wfO o) (wf2 : ∀ a ∈ a2, wfA a) (wq : wfP q) :
    Calls Tryd.prog 3 #[v0, v1, v2, .agg (plV q).toArray] W fun e w' => e = .returned (.bool true) ∧ Below W.heap.size W w' := by
  obtain ⟨q1, q2, q3, q4, q5⟩ := q
  show Calls Tryd.prog 3 #[v0, v1, v2, .agg #[.int .i64 q1, .int .i64 q2, .int .i64 q3, .int .i64 q4, .int .i64 q5]] W _
  by_cases h : bigB f0 = true ∨ bigB f1 = true ∨ 60 < a2.length
  · exact Replays_big v0 v1 v2 f0 f1 a2 q1 q2 q3 q4 q5 W hF0 hF1 hA2 h
  · rw [not_or, not_or] at h
    have hb0 : bigB f0 = false := by simpa using h.1
    have hb1 : bigB f1 = false := by simpa using h.2.1
    exact Replays_small v0 v1 v2 f0 f1 a2 q1 q2 q3 q4 q5 W hF0 hF1 hA2 hb0 hb1 (by omega) (wf_small wf0 hb0) (wf_small wf1 hb1) wf2 wq
end Go.Proofs.YtpcefaccoifejaaDoor
