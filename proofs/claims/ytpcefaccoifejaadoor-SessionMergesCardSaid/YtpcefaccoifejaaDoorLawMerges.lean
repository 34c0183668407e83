/-
  The walk of custoslaw13.SessionMerges. Conditions: the arguments can be read as the given statement says.
-/
import Derived.Test.YtpcefaccoifejaaDoorAG2
import Derived.Test.YtpcefaccoifejaaDoorAW
import Derived.Test.YtpcefaccoifejaaDoorAR
import Derived.Test.YtpcefaccoifejaaDoorME3
import Derived.Test.YtpcefaccoifejaaDoorME4
namespace Go.Proofs.YtpcefaccoifejaaDoor
open Go.RowKit
set_option linter.unusedSimpArgs false
set_option linter.unusedVariables false
set_option maxRecDepth 100000

theorem wf_small {fs : List Ft} (h : ∀ f ∈ fs, wfP f.1 ∧ ∀ o ∈ f.2, wfO o) (hb : bigB fs = false) : wfFs fs := by
  unfold bigB at hb
  rw [Bool.or_eq_false_iff] at hb
  intro f hf
  have := List.any_eq_false.1 hb.2 f hf
  simp only [decide_eq_true_eq] at this
  exact ⟨(h f hf).1, (h f hf).2, by omega⟩
theorem len_small {fs : List Ft} (hb : bigB fs = false) : fs.length ≤ 60 := by
  unfold bigB at hb
  rw [Bool.or_eq_false_iff] at hb
  have := of_decide_eq_false hb.1
  omega
theorem ActsAt.len {w : World} {lo hi : Nat} {v : Value} {l : List Ac} (h : ActsAt w lo hi v l) : ∃ a cap, v = .slice a l.length cap := by
  obtain ⟨a, cap, e, -⟩ := h
  exact ⟨a, cap, e⟩
theorem FeatsAt.len {w : World} {lo hi : Nat} {v : Value} {l : List Ft} (h : FeatsAt w lo hi v l) : ∃ a cap, v = .slice a l.length cap := by
  obtain ⟨a, cap, vs, e, -⟩ := h
  exact ⟨a, cap, e⟩
theorem merge_sub (fs : List Ft) (a1 a2 : List Ac) : ∀ a ∈ mergeA fs a1 a2, a ∈ a1 ∨ a ∈ a2 := fun a h => by
  unfold mergeA keepA at h
  exact List.mem_append.1 (List.mem_filter.1 h).1
theorem merge_acted {fs : List Ft} {a1 a2 : List Ac} (h1 : Acted fs a1) (h2 : Acted fs a2) (hn : a1.length + a2.length ≤ 4096) : Acted fs (mergeA fs a1 a2) := by
  refine ⟨Nat.le_trans (keep_len _ _) (by rw [List.length_append]; exact hn), fun a ha => ?_, fun a ha => ?_⟩
  · rcases merge_sub fs a1 a2 a ha with h | h
    · exact h1.place a h
    · exact h2.place a h
  · rcases merge_sub fs a1 a2 a ha with h | h
    · exact h1.kind a h
    · exact h2.kind a h
theorem merge_wf {fs : List Ft} {a1 a2 : List Ac} (h1 : wfAs a1) (h2 : wfAs a2) : wfAs (mergeA fs a1 a2) := fun a ha => by
  rcases merge_sub fs a1 a2 a ha with h | h
  · exact h1 a h
  · exact h2 a h

theorem Merges_big_true (v0 v1 v3 v4 : Value) (f0 f1 : List Ft) (a3 a4 : List Ac) (q1 q2 q3 q4 q5 : Int) (W : World) (hF0 : FeatsAt W 0 W.heap.size v0 f0) (hA3 : ActsAt W 0 W.heap.size v3 a3) (hA4 : ActsAt W 0 W.heap.size v4 a4) (h : bigB f0 = true ∨ bigB f0 = true ∨ 60 < a3.length ∨ 60 < a4.length) :
    Calls Tryd.prog 5 #[v0, v1, .bool true, v3, v4, .agg #[.int .i64 q1, .int .i64 q2, .int .i64 q3, .int .i64 q4, .int .i64 q5]] W fun e w' => e = .returned (.bool true) ∧ Below W.heap.size W w' := by
  have HB0 := Lib.hid fun W' (hb : Below W.heap.size W W') => big_c v0 f0 0 W.heap.size W' (hF0.move (Same.of_below hb))
  have HB1 := Lib.hid fun W' (hb : Below W.heap.size W W') => big_c v0 f0 0 W.heap.size W' (hF0.move (Same.of_below hb))
  obtain ⟨aa, ac, rfl⟩ := hA3.len
  obtain ⟨ba, bc, rfl⟩ := hA4.len
  clear hF0 hA3 hA4
  cases hb0 : bigB f0 with
  | true =>
    rw [hb0] at HB0
    clear hb0 h
    go_enter Tryd.func5, Tryd.ntmps5
    go_wp2_with fail
    refine (HB0.out _ (by go_grown)).mono ?_
    rintro rr w1 ⟨rfl, rfl⟩
    go_wp2_with fail
    refine (awake_c _).mono ?_
    rintro rr w9 ⟨rfl, hb9⟩
    have HB9 := Lib.hid (below_step (w := W) (by go_grown) hb9)
    clear hb9
    go_wp2
    go_ret
    exact ⟨rfl, HB9.out⟩
  | false =>
    have hb0' := hb0
    rw [hb0] at HB0
    cases hb1 : bigB f0 with
    | true =>
      rw [hb1] at HB1
      clear hb0 hb1 h hb0'
      go_enter Tryd.func5, Tryd.ntmps5
      go_wp2_with fail
      refine (HB0.out _ (by go_grown)).mono ?_
      rintro rr w1 ⟨rfl, rfl⟩
      go_wp2_with fail
      refine (HB1.out _ (by go_grown)).mono ?_
      rintro rr w1 ⟨rfl, rfl⟩
      go_wp2_with fail
      refine (awake_c _).mono ?_
      rintro rr w9 ⟨rfl, hb9⟩
      have HB9 := Lib.hid (below_step (w := W) (by go_grown) hb9)
      clear hb9
      go_wp2
      go_ret
      exact ⟨rfl, HB9.out⟩
    | false =>
      have hb1' := hb1
      rw [hb1] at HB1
      have h2 : 60 < a3.length ∨ 60 < a4.length := by
        rcases h with h | h | h
        · exact absurd (hb0'.symm.trans h) (by simp)
        · exact absurd (hb1'.symm.trans h) (by simp)
        · exact h
      clear h hb0 hb1 hb0' hb1'
      by_cases h3 : 60 < a3.length
      · have h60 : 60 < (a3.length : Int) := by omega
        clear h2 h3
        go_enter Tryd.func5, Tryd.ntmps5
        go_wp2_with fail
        refine (HB0.out _ (by go_grown)).mono ?_
        rintro rr w1 ⟨rfl, rfl⟩
        go_wp2_with fail
        refine (HB1.out _ (by go_grown)).mono ?_
        rintro rr w1 ⟨rfl, rfl⟩
        go_wp2_with fail
        refine (awake_c _).mono ?_
        rintro rr w9 ⟨rfl, hb9⟩
        have HB9 := Lib.hid (below_step (w := W) (by go_grown) hb9)
        clear hb9
        go_wp2
        go_ret
        exact ⟨rfl, HB9.out⟩
      · have h60 : ¬ (60 < (a3.length : Int)) := by omega
        have h61 : 60 < (a4.length : Int) := by omega
        clear h2 h3
        go_enter Tryd.func5, Tryd.ntmps5
        go_wp2_with fail
        refine (HB0.out _ (by go_grown)).mono ?_
        rintro rr w1 ⟨rfl, rfl⟩
        go_wp2_with fail
        refine (HB1.out _ (by go_grown)).mono ?_
        rintro rr w1 ⟨rfl, rfl⟩
        go_wp2_with fail
        refine (awake_c _).mono ?_
        rintro rr w9 ⟨rfl, hb9⟩
        have HB9 := Lib.hid (below_step (w := W) (by go_grown) hb9)
        clear hb9
        go_wp2
        go_ret
        exact ⟨rfl, HB9.out⟩
theorem Merges_big_false (v0 v1 v3 v4 : Value) (f0 f1 : List Ft) (a3 a4 : List Ac) (q1 q2 q3 q4 q5 : Int) (W : World) (hF0 : FeatsAt W 0 W.heap.size v0 f0) (hF1 : FeatsAt W 0 W.heap.size v1 f1) (hA3 : ActsAt W 0 W.heap.size v3 a3) (hA4 : ActsAt W 0 W.heap.size v4 a4) (h : bigB f0 = true ∨ bigB f1 = true ∨ 60 < a3.length ∨ 60 < a4.length) :
    Calls Tryd.prog 5 #[v0, v1, .bool false, v3, v4, .agg #[.int .i64 q1, .int .i64 q2, .int .i64 q3, .int .i64 q4, .int .i64 q5]] W fun e w' => e = .returned (.bool true) ∧ Below W.heap.size W w' := by
  have HB0 := Lib.hid fun W' (hb : Below W.heap.size W W') => big_c v0 f0 0 W.heap.size W' (hF0.move (Same.of_below hb))
  have HB1 := Lib.hid fun W' (hb : Below W.heap.size W W') => big_c v1 f1 0 W.heap.size W' (hF1.move (Same.of_below hb))
  obtain ⟨aa, ac, rfl⟩ := hA3.len
  obtain ⟨ba, bc, rfl⟩ := hA4.len
  clear hF0 hA3 hA4 hF1
  cases hb0 : bigB f0 with
  | true =>
    rw [hb0] at HB0
    clear hb0 h
    go_enter Tryd.func5, Tryd.ntmps5
    go_wp2_with fail
    refine (HB0.out _ (by go_grown)).mono ?_
    rintro rr w1 ⟨rfl, rfl⟩
    go_wp2_with fail
    refine (awake_c _).mono ?_
    rintro rr w9 ⟨rfl, hb9⟩
    have HB9 := Lib.hid (below_step (w := W) (by go_grown) hb9)
    clear hb9
    go_wp2
    go_ret
    exact ⟨rfl, HB9.out⟩
  | false =>
    have hb0' := hb0
    rw [hb0] at HB0
    cases hb1 : bigB f1 with
    | true =>
      rw [hb1] at HB1
      clear hb0 hb1 h hb0'
      go_enter Tryd.func5, Tryd.ntmps5
      go_wp2_with fail
      refine (HB0.out _ (by go_grown)).mono ?_
      rintro rr w1 ⟨rfl, rfl⟩
      go_wp2_with fail
      refine (HB1.out _ (by go_grown)).mono ?_
      rintro rr w1 ⟨rfl, rfl⟩
      go_wp2_with fail
      refine (awake_c _).mono ?_
      rintro rr w9 ⟨rfl, hb9⟩
      have HB9 := Lib.hid (below_step (w := W) (by go_grown) hb9)
      clear hb9
      go_wp2
      go_ret
      exact ⟨rfl, HB9.out⟩
    | false =>
      have hb1' := hb1
      rw [hb1] at HB1
      have h2 : 60 < a3.length ∨ 60 < a4.length := by
        rcases h with h | h | h
        · exact absurd (hb0'.symm.trans h) (by simp)
        · exact absurd (hb1'.symm.trans h) (by simp)
        · exact h
      clear h hb0 hb1 hb0' hb1'
      by_cases h3 : 60 < a3.length
      · have h60 : 60 < (a3.length : Int) := by omega
        clear h2 h3
        go_enter Tryd.func5, Tryd.ntmps5
        go_wp2_with fail
        refine (HB0.out _ (by go_grown)).mono ?_
        rintro rr w1 ⟨rfl, rfl⟩
        go_wp2_with fail
        refine (HB1.out _ (by go_grown)).mono ?_
        rintro rr w1 ⟨rfl, rfl⟩
        go_wp2_with fail
        refine (awake_c _).mono ?_
        rintro rr w9 ⟨rfl, hb9⟩
        have HB9 := Lib.hid (below_step (w := W) (by go_grown) hb9)
        clear hb9
        go_wp2
        go_ret
        exact ⟨rfl, HB9.out⟩
      · have h60 : ¬ (60 < (a3.length : Int)) := by omega
        have h61 : 60 < (a4.length : Int) := by omega
        clear h2 h3
        go_enter Tryd.func5, Tryd.ntmps5
        go_wp2_with fail
        refine (HB0.out _ (by go_grown)).mono ?_
        rintro rr w1 ⟨rfl, rfl⟩
        go_wp2_with fail
        refine (HB1.out _ (by go_grown)).mono ?_
        rintro rr w1 ⟨rfl, rfl⟩
        go_wp2_with fail
        refine (awake_c _).mono ?_
        rintro rr w9 ⟨rfl, hb9⟩
        have HB9 := Lib.hid (below_step (w := W) (by go_grown) hb9)
        clear hb9
        go_wp2
        go_ret
        exact ⟨rfl, HB9.out⟩
set_option maxHeartbeats 8000000 in
theorem Merges_small_true (v0 v1 v3 v4 : Value) (f0 f1 : List Ft) (a3 a4 : List Ac) (q1 q2 q3 q4 q5 : Int) (W : World) (hF0 : FeatsAt W 0 W.heap.size v0 f0) (hA3 : ActsAt W 0 W.heap.size v3 a3) (hA4 : ActsAt W 0 W.heap.size v4 a4) (hb0 : bigB f0 = false) (h60 : a3.length ≤ 60) (h61 : a4.length ≤ 60)
    (wf0 : wfFs f0) (wf3 : wfAs a3) (wf4 : wfAs a4) (wq : wfP (q1, q2, q3, q4, q5)) :
    Calls Tryd.prog 5 #[v0, v1, .bool true, v3, v4, .agg #[.int .i64 q1, .int .i64 q2, .int .i64 q3, .int .i64 q4, .int .i64 q5]] W fun e w' => e = .returned (.bool true) ∧ Below W.heap.size W w' := by
  have HB0 := Lib.hid fun W' (hb : Below W.heap.size W W') => big_c v0 f0 0 W.heap.size W' (hF0.move (Same.of_below hb))
  have HB1 := Lib.hid fun W' (hb : Below W.heap.size W W') => big_c v0 f0 0 W.heap.size W' (hF0.move (Same.of_below hb))
  rw [hb0] at HB0
  rw [hb0] at HB1
  have hl0 := len_small hb0
  have hl1 := len_small hb0
  have HMD1 := Lib.hid fun W' (hb : Below W.heap.size W W') => made_c v0 v3 f0 a3 0 W.heap.size 0 W.heap.size W' (hF0.move (Same.of_below hb)) hb.size (hA3.move (Same.of_below hb)) hb.size wf0 wf3 (by omega) h60
  have HMD2 := Lib.hid fun W' (hb : Below W.heap.size W W') => made_c v0 v4 f0 a4 0 W.heap.size 0 W.heap.size W' (hF0.move (Same.of_below hb)) hb.size (hA4.move (Same.of_below hb)) hb.size wf0 wf4 (by omega) h61
  have X1 := Lib.hid (doneL_wf f0 wf3)
  have Y1 := Lib.hid (doneL_acted f0 wf3)
  have X2 := Lib.hid (doneL_wf f0 wf4)
  have Y2 := Lib.hid (doneL_acted f0 wf4)
  have hd1 := doneL_len f0 a3 []
  have hd2 := doneL_len f0 a4 []
  have HDN : Hid ((doneL f0 a3).length + (doneL f0 a4).length ≤ 4096) := by
    show (a3.foldl (doA f0) []).length + (a4.foldl (doA f0) []).length ≤ 4096
    simp only [List.length_nil] at hd1 hd2
    omega
  obtain ⟨D1, hD1⟩ : ∃ D, doneL f0 a3 = D := ⟨_, rfl⟩
  obtain ⟨D2, hD2⟩ : ∃ D, doneL f0 a4 = D := ⟨_, rfl⟩
  have E1 := Lib.hid hD1
  have E2 := Lib.hid hD2
  rw [hD1] at X1 Y1 HDN
  rw [hD2] at X2 Y2 HDN
  have HWF := Lib.hid (And.intro wf0 wf0)
  have HWQ := Lib.hid wq
  obtain ⟨aa, ac, hv3⟩ := hA3.len
  obtain ⟨ba, bc, hv4⟩ := hA4.len
  subst hv3 hv4
  obtain ⟨na, hna⟩ : ∃ na, a3.length = na := ⟨_, rfl⟩
  obtain ⟨nb, hnb⟩ : ∃ nb, a4.length = nb := ⟨_, rfl⟩
  rw [hna] at HMD1 h60 ⊢
  rw [hnb] at HMD2 h61 ⊢
  have h6 : ¬ (60 < (na : Int)) := by omega
  have h7 : ¬ (60 < (nb : Int)) := by omega
  clear hF0 hA3 hA4 hb0 wf0 wf3 wf4 wq hd1 hd2 hD1 hD2 hna hnb h60 h61
  go_enter Tryd.func5, Tryd.ntmps5
  go_wp2_with fail
  refine (HB0.out _ (by go_grown)).mono ?_
  rintro rr w1 ⟨rfl, rfl⟩
  go_wp2_with fail
  refine (HB1.out _ (by go_grown)).mono ?_
  rintro rr w1 ⟨rfl, rfl⟩
  go_wp2_with fail
  refine calls_named fun W1 hW1 => ?_
  have hBW1 : Below W.heap.size W W1 := by rw [hW1]; go_grown
  have hP1 : W1.heap[W.heap.size]? = some (.cells #[.int .i64 q1, .int .i64 q2, .int .i64 q3, .int .i64 q4, .int .i64 q5] 26 (0, 0)) := by rw [hW1]; exact heap_alloc_new _ _
  have HBW1 := Lib.hid hBW1
  have HP1 := Lib.hid hP1
  have y0 : W.heap.size < W1.heap.size := (Array.getElem?_eq_some_iff.1 hP1).1
  clear hW1 hBW1 hP1 HB0 HB1
  refine (HMD1.out _ HBW1.out).mono ?_
  rintro rr w2 ⟨hb2, hres⟩
  have HB2 : Hid (Below W1.heap.size W1 w2) := hb2
  clear hb2 HMD1
  rcases hres with ⟨hne, rfl⟩ | ⟨he0, p, m, flo, fhi, va, vf, tf, ta, rfl, hses, htf, hta⟩
  · clear hne
    go_wp2_with fail
    have HB2A : Hid (Below W.heap.size W (w2.alloc (.cells #[.slice none 0 0, .slice none 0 0] 31))) := below_step (below_step HBW1.out HB2.out) (by go_grown)
    refine (HMD2.out _ HB2A.out).mono ?_
    rintro rr w3 ⟨hb3, hres⟩
    have HB3 := Lib.hid (below_step HB2A.out hb3)
    clear hb3 HMD2 HB2A
    rcases hres with ⟨hne, rfl⟩ | ⟨he1, p', m', glo, ghi, vb, vg, tg, tb, rfl, hsb, htg, htb⟩
    · clear hne
      go_wp2_with fail
      refine (awake_c _).mono ?_
      rintro rr w5 ⟨rfl, hb5⟩
      have HB5 := Lib.hid (below_step (w := W) (below_step HB3.out (by go_grown)) hb5)
      clear hb5
      go_wp2
      go_ret
      exact ⟨rfl, HB5.out⟩
    · obtain ⟨tga, tgc, rfl⟩ := htg.len
      obtain ⟨tba, tbc, rfl⟩ := htb.len
      clear he1 hsb htg htb
      go_wp2_with fail
      refine (awake_c _).mono ?_
      rintro rr w5 ⟨rfl, hb5⟩
      have HB5 := Lib.hid (below_step (w := W) (below_step HB3.out (by go_grown)) hb5)
      clear hb5
      go_wp2
      go_ret
      exact ⟨rfl, HB5.out⟩
  · rw [E1.out] at hses hta
    obtain ⟨tfa, tfc, rfl⟩ := htf.len
    obtain ⟨taa, tac, rfl⟩ := hta.len
    have HS2 := Lib.hid hses
    have HT2 := Lib.hid htf
    have HA2 := Lib.hid hta
    have HE0 := Lib.hid he0
    clear he0 hses htf hta
    go_wp2_with fail
    refine calls_named fun W3 hW3 => ?_
    have hb3 : Below w2.heap.size w2 W3 := by rw [hW3]; exact (Below.refl _ _).alloc (Nat.le_refl _) _
    have hT3 : W3.heap[w2.heap.size]? = some (.cells #[.slice tfa f0.length tfc, .slice taa D1.length tac] 31 (0, 0)) := by rw [hW3]; exact heap_alloc_new _ _
    have HS3 := Lib.hid (HS2.out.below hb3)
    have HT3 : Hid (FeatsAt W3 W1.heap.size w2.heap.size (.slice tfa f0.length tfc) f0) := HT2.out.move (Same.of_below hb3)
    have HA3 : Hid (ActsAt W3 0 w2.heap.size (.slice taa D1.length tac) D1) := HA2.out.move (Same.of_below hb3)
    have HB3 : Hid (Below W1.heap.size W1 W3) := below_step HB2.out hb3
    have HX3 := Lib.hid hT3
    have HZ3 := Lib.hid hb3.size
    clear hW3 hb3 hT3 HS2 HT2 HA2
    have HBW3 : Hid (Below W.heap.size W W3) := below_step HBW1.out HB3.out
    refine (HMD2.out _ HBW3.out).mono ?_
    rintro rr w4 ⟨hb4, hres⟩
    have HB34 : Hid (Below W3.heap.size W3 w4) := hb4
    clear hb4 HMD2
    rcases hres with ⟨hne, rfl⟩ | ⟨he1, p', m', glo, ghi, vb, vg, tg, tb, rfl, hsb, htg, htb⟩
    · clear hne
      go_wp2_with fail
      refine (awake_c _).mono ?_
      rintro rr w5 ⟨rfl, hb5⟩
      have HB5 := Lib.hid (below_step (w := W) (below_step HBW3.out (below_step HB34.out (by go_grown))) hb5)
      clear hb5
      go_wp2
      go_ret
      exact ⟨rfl, HB5.out⟩
    · rw [E2.out] at hsb htb
      obtain ⟨tga, tgc, rfl⟩ := htg.len
      obtain ⟨tba, tbc, rfl⟩ := htb.len
      have HSB4 := Lib.hid hsb
      have HTG4 := Lib.hid htg
      have HTB4 := Lib.hid htb
      have HE1 := Lib.hid he1
      clear he1 hsb htg htb
      go_wp2_with fail
      refine calls_named fun W5 hW5 => ?_
      have hb5 : Below w4.heap.size w4 W5 := by rw [hW5]; exact (Below.refl _ _).alloc (Nat.le_refl _) _
      have HX5 : Hid (W5.heap[w4.heap.size]? = some (.cells #[.slice tga f0.length tgc, .slice tba D2.length tbc] 31 (0, 0))) := by rw [hW5]; exact heap_alloc_new _ _
      have hb35 : Below W3.heap.size W3 W5 := below_step HB34.out hb5
      have HS5 := Lib.hid (HS3.out.below hb35)
      have HT5 : Hid (FeatsAt W5 W1.heap.size w2.heap.size (.slice tfa f0.length tfc) f0) := HT3.out.move (Same.of_below (hb35.mono HZ3.out))
      have HA5 : Hid (ActsAt W5 0 w2.heap.size (.slice taa D1.length tac) D1) := HA3.out.move (Same.of_below (hb35.mono HZ3.out))
      have HX53 : Hid (W5.heap[w2.heap.size]? = some (.cells #[.slice tfa f0.length tfc, .slice taa D1.length tac] 31 (0, 0))) := (hb35.block _ (Array.getElem?_eq_some_iff.1 HX3.out).1).trans HX3.out
      have HSB5 := Lib.hid (HSB4.out.below hb5)
      have HTG5 : Hid (FeatsAt W5 W3.heap.size w4.heap.size (.slice tga f0.length tgc) f0) := HTG4.out.move (Same.of_below hb5)
      have HTB5 : Hid (ActsAt W5 0 w4.heap.size (.slice tba D2.length tbc) D2) := HTB4.out.move (Same.of_below hb5)
      have HZ5 : Hid (w2.heap.size ≤ W5.heap.size ∧ w4.heap.size ≤ W5.heap.size) := ⟨Nat.le_trans HZ3.out hb35.size, hb5.size⟩
      have HBW5 : Hid (Below W.heap.size W W5) := below_step HBW3.out hb35
      have HB15 : Hid (Below W1.heap.size W1 W5) := below_step HB3.out hb35
      clear hW5 hb5 hb35 HS3 HT3 HA3 HX3 HZ3 HB34 HSB4 HTG4 HTB4 HB3 HBW3
      -- what stays so from here on
      have HAG1 : Hid (∀ Wk, Below W5.heap.size W5 Wk → Calls Tryd.prog 13 #[.pointer (some ⟨p, 0, none⟩), .agg #[.slice tfa f0.length tfc, .slice taa D1.length tac], .agg #[.int .i64 q1, .int .i64 q2, .int .i64 q3, .int .i64 q4, .int .i64 q5]] Wk fun e w' => e = .returned (.bool true) ∧ Below Wk.heap.size Wk w') := fun Wk hb =>
        agree_c _ p m flo fhi va vf f0 D1 _ _ W1.heap.size w2.heap.size 0 w2.heap.size q1 q2 q3 q4 q5 Wk (HS5.out.below hb) (HT5.out.move (Same.of_below (hb.mono HZ5.out.1))) (Nat.le_trans HZ5.out.1 hb.size) (HA5.out.move (Same.of_below (hb.mono HZ5.out.1))) (Nat.le_trans HZ5.out.1 hb.size) (good_of_newE HE0.out) Y1.out HWF.out.1 X1.out HWQ.out
      have HAG2 : Hid (∀ Wk, Below W5.heap.size W5 Wk → Calls Tryd.prog 13 #[.pointer (some ⟨p', 0, none⟩), .agg #[.slice tga f0.length tgc, .slice tba D2.length tbc], .agg #[.int .i64 q1, .int .i64 q2, .int .i64 q3, .int .i64 q4, .int .i64 q5]] Wk fun e w' => e = .returned (.bool true) ∧ Below Wk.heap.size Wk w') := fun Wk hb =>
        agree_c _ p' m' glo ghi vb vg f0 D2 _ _ W3.heap.size w4.heap.size 0 w4.heap.size q1 q2 q3 q4 q5 Wk (HSB5.out.below hb) (HTG5.out.move (Same.of_below (hb.mono HZ5.out.2))) (Nat.le_trans HZ5.out.2 hb.size) (HTB5.out.move (Same.of_below (hb.mono HZ5.out.2))) (Nat.le_trans HZ5.out.2 hb.size) (good_of_newE HE1.out) Y2.out HWF.out.2 X2.out HWQ.out
      have HC1 : Hid (∀ Wk, Below W5.heap.size W5 Wk → (Wk.cell? ⟨w2.heap.size, 0, none⟩ = some (.slice tfa f0.length tfc) ∧ Wk.cell? ⟨w2.heap.size, 1, none⟩ = some (.slice taa D1.length tac))) := fun Wk hb => by
        have hx := (hb.block _ (Array.getElem?_eq_some_iff.1 HX53.out).1).trans HX53.out
        exact ⟨by rw [cell_of_row _ _ _ _ _ _ hx]; rfl, by rw [cell_of_row _ _ _ _ _ _ hx]; rfl⟩
      have HC2 : Hid (∀ Wk, Below W5.heap.size W5 Wk → (Wk.cell? ⟨w4.heap.size, 0, none⟩ = some (.slice tga f0.length tgc) ∧ Wk.cell? ⟨w4.heap.size, 1, none⟩ = some (.slice tba D2.length tbc))) := fun Wk hb => by
        have hx := (hb.block _ (Array.getElem?_eq_some_iff.1 HX5.out).1).trans HX5.out
        exact ⟨by rw [cell_of_row _ _ _ _ _ _ hx]; rfl, by rw [cell_of_row _ _ _ _ _ _ hx]; rfl⟩
      have HCP : Hid (∀ Wk, Below W5.heap.size W5 Wk → (Wk.cell? ⟨W.heap.size, 0, none⟩ = some (.int .i64 q1) ∧ Wk.cell? ⟨W.heap.size, 1, none⟩ = some (.int .i64 q2) ∧ Wk.cell? ⟨W.heap.size, 2, none⟩ = some (.int .i64 q3) ∧ Wk.cell? ⟨W.heap.size, 3, none⟩ = some (.int .i64 q4) ∧ Wk.cell? ⟨W.heap.size, 4, none⟩ = some (.int .i64 q5))) := fun Wk hb => by
        have hx := ((below_step HB15.out hb).block _ y0).trans HP1.out
        exact ⟨by rw [cell_of_row _ _ _ _ _ _ hx]; rfl, by rw [cell_of_row _ _ _ _ _ _ hx]; rfl, by rw [cell_of_row _ _ _ _ _ _ hx]; rfl, by rw [cell_of_row _ _ _ _ _ _ hx]; rfl, by rw [cell_of_row _ _ _ _ _ _ hx]; rfl⟩
      have HRM := Lib.hid fun Wk (hb : Below W5.heap.size W5 Wk) => rMerge_c (.slice tfa f0.length tfc) (.slice tga f0.length tgc) (.slice taa D1.length tac) (.slice tba D2.length tbc) f0 f0 D1 D2 W1.heap.size w2.heap.size W3.heap.size w4.heap.size 0 w2.heap.size 0 w4.heap.size Wk
        (HT5.out.move (Same.of_below (hb.mono HZ5.out.1))) (HTG5.out.move (Same.of_below (hb.mono HZ5.out.2))) (HA5.out.move (Same.of_below (hb.mono HZ5.out.1))) (HTB5.out.move (Same.of_below (hb.mono HZ5.out.2))) (Nat.le_trans HZ5.out.1 hb.size) (Nat.le_trans HZ5.out.2 hb.size) (Nat.le_trans HZ5.out.1 hb.size) (Nat.le_trans HZ5.out.2 hb.size) (good_of_newE HE0.out) HWF.out.1 HDN.out
      have HTM := Lib.hid fun Wk (hb : Below W5.heap.size W5 Wk) => HT5.out.move (Same.of_below (hb.mono HZ5.out.1))
      refine (Merge_c _ p m flo fhi va vf _ p' m' glo ghi vb vg f0 f0 D1 D2 W5 HS5.out HSB5.out HE0.out HWF.out.1 X1.out X2.out HDN.out).mono ?_
      rintro rr w6 ⟨hb6, hres⟩
      have HB6 : Hid (Below W5.heap.size W5 w6) := hb6
      obtain ⟨e0, e1⟩ := HC1.out _ HB6.out
      obtain ⟨g0, g1⟩ := HC2.out _ HB6.out
      clear hb6 HX53 HX5 HS5 HA5 HTG5 HTB5 HSB5
      rcases hres with ⟨hfg, rfl⟩ | ⟨hfg, p2, m2, flo2, fhi2, va2, vf2, cv, rfl, hs6, hc6⟩
      · have HFG := Lib.hid hfg
        clear hfg
        go_wp2_with fail
        refine (HRM.out _ HB6.out).mono ?_
        rintro rr w7 ⟨hb7, hr7⟩
        obtain rfl : rr = .returned (.tuple #[.agg #[.slice none 0 0, .slice none 0 0], .slice none 0 0, .int .i64 81]) := by
          rcases hr7 with h | h
          · exact h.2
          · exact absurd h.1 HFG.out
        have HB7 : Hid (Below W5.heap.size W5 w7) := below_step HB6.out hb7
        clear hb7 hr7 e0 e1 g0 g1
        go_wp2_with fail
        have HBA : Hid (Below W5.heap.size W5 (w7.alloc (.cells #[.slice none 0 0, .slice none 0 0] 31))) := HB7.out.alloc HB7.out.size _
        have hnil : ∀ W', PlsAt W' 0 0 (.slice none 0 0) [] := fun W' => ⟨none, 0, rfl, fun _ => rfl, Row.none _ _ _ _ _ _⟩
        refine (SamePlaces_c (.slice none 0 0) (.slice none 0 0) [] [] 0 0 0 0 _ (hnil _) (hnil _) (Nat.zero_le _) (Nat.zero_le _) (Nat.zero_le _)).mono ?_
        rintro rr w8 ⟨rfl, hb8⟩
        have HB8 : Hid (Below W5.heap.size W5 w8) := below_step HBA.out hb8
        clear hb8 hnil HBA HB7
        obtain ⟨e0, e1⟩ := HC1.out _ HB8.out
        obtain ⟨u0, u1, u2, u3, u4⟩ := HCP.out _ HB8.out
        go_wp2_with fail
        refine (HAG1.out _ HB8.out).mono ?_
        rintro rr w10 ⟨rfl, hb10⟩
        have HB10 : Hid (Below W5.heap.size W5 w10) := below_step HB8.out hb10
        clear hb10 e0 e1 u0 u1 u2 u3 u4
        obtain ⟨e0, e1⟩ := HC2.out _ HB10.out
        obtain ⟨u0, u1, u2, u3, u4⟩ := HCP.out _ HB10.out
        go_wp2_with fail
        refine (HAG2.out _ HB10.out).mono ?_
        rintro rr w11 ⟨rfl, hb11⟩
        have HB11 : Hid (Below W5.heap.size W5 w11) := below_step HB10.out hb11
        clear hb11 e0 e1 u0 u1 u2 u3 u4
        go_wp2_with fail
        refine (awake_c _).mono ?_
        rintro rr w12 ⟨rfl, hb12⟩
        have HB12 : Hid (Below W.heap.size W w12) := below_step (below_step HBW5.out HB11.out) hb12
        clear hb12
        go_wp2
        go_ret
        exact ⟨rfl, HB12.out⟩
      · have HFG := Lib.hid hfg
        have HS6 := Lib.hid hs6
        have HC6 := Lib.hid hc6
        obtain ⟨ca, cc, rfl⟩ : ∃ ca cc, cv = .slice ca (clashL f0 D1 D2).length cc := by
          obtain ⟨a, c, e, -⟩ := hc6
          exact ⟨a, c, e⟩
        clear hfg hs6 hc6
        go_wp2_with fail
        refine (HRM.out _ HB6.out).mono ?_
        rintro rr w7 ⟨hb7, hr7⟩
        obtain ⟨ra, rv, rfl, hra, hrv⟩ : ∃ ra rv, rr = .returned (.tuple #[.agg #[.slice tfa f0.length tfc, ra], rv, .int .i64 0]) ∧ ActsAt w7 w6.heap.size w7.heap.size ra (mergeA f0 D1 D2) ∧ PlsAt w7 w6.heap.size w7.heap.size rv (clashL f0 D1 D2) := by
          rcases hr7 with h | ⟨_, ra, rv, e, h1, h2⟩
          · exact absurd rfl h.1
          · exact ⟨ra, rv, e, h1, h2⟩
        obtain ⟨raa, rac, rfl⟩ := hra.len
        obtain ⟨rva, rvc, rfl⟩ : ∃ ca cc, rv = .slice ca (clashL f0 D1 D2).length cc := by
          obtain ⟨a, c, e, -⟩ := hrv
          exact ⟨a, c, e⟩
        have HRA := Lib.hid hra
        have HRV := Lib.hid hrv
        have HB67 : Hid (Below w6.heap.size w6 w7) := hb7
        clear hb7 hr7 hra hrv e0 e1 g0 g1
        go_wp2_with fail
        refine calls_named fun W8 hW8 => ?_
        have hb78 : Below w7.heap.size w7 W8 := by rw [hW8]; exact (Below.refl _ _).alloc (Nat.le_refl _) _
        have HX8 : Hid (W8.heap[w7.heap.size]? = some (.cells #[.slice tfa f0.length tfc, .slice raa (mergeA f0 D1 D2).length rac] 31 (0, 0))) := by rw [hW8]; exact heap_alloc_new _ _
        have hb68 : Below w6.heap.size w6 W8 := below_step HB67.out hb78
        have HB58 : Hid (Below W5.heap.size W5 W8) := below_step HB6.out hb68
        have HS8 := Lib.hid (HS6.out.below hb68)
        have HC8 : Hid (PlsAt W8 W5.heap.size w6.heap.size (.slice ca (clashL f0 D1 D2).length cc) (clashL f0 D1 D2)) := HC6.out.move (Same.of_below hb68)
        have HRV8 : Hid (PlsAt W8 w6.heap.size w7.heap.size (.slice rva (clashL f0 D1 D2).length rvc) (clashL f0 D1 D2)) := HRV.out.move (Same.of_below hb78)
        have HRA8 : Hid (ActsAt W8 w6.heap.size w7.heap.size (.slice raa (mergeA f0 D1 D2).length rac) (mergeA f0 D1 D2)) := HRA.out.move (Same.of_below hb78)
        have HZ8 : Hid (w6.heap.size ≤ W8.heap.size ∧ w7.heap.size ≤ W8.heap.size) := ⟨hb68.size, hb78.size⟩
        have hcl : (clashL f0 D1 D2).length ≤ 1000000 := Nat.le_trans (clash_len _ _ _) (by omega)
        have hsp := SamePlaces_c (.slice ca (clashL f0 D1 D2).length cc) (.slice rva (clashL f0 D1 D2).length rvc) _ _ _ _ _ _ W8 HC8.out HRV8.out HZ8.out.1 HZ8.out.2 hcl
        rw [decide_eq_true rfl] at hsp
        have HSP := Lib.hid hsp
        clear hW8 hb78 hb68 HS6 HC6 HRA HRV HB67 hcl hsp
        refine HSP.out.mono ?_
        rintro rr w9 ⟨rfl, hb9⟩
        have HB9 : Hid (Below W5.heap.size W5 w9) := below_step HB58.out hb9
        have hx9 : w9.heap[w7.heap.size]? = some (.cells #[.slice tfa f0.length tfc, .slice raa (mergeA f0 D1 D2).length rac] 31 (0, 0)) := (hb9.block _ (Array.getElem?_eq_some_iff.1 HX8.out).1).trans HX8.out
        have x0 : w9.cell? ⟨w7.heap.size, 0, none⟩ = some (.slice tfa f0.length tfc) := by rw [cell_of_row _ _ _ _ _ _ hx9]; rfl
        have x1 : w9.cell? ⟨w7.heap.size, 1, none⟩ = some (.slice raa (mergeA f0 D1 D2).length rac) := by rw [cell_of_row _ _ _ _ _ _ hx9]; rfl
        have hac := Y2.out
        have HAG3 := Lib.hid (agree_c _ p2 m2 flo2 fhi2 va2 vf2 f0 (mergeA f0 D1 D2) (.slice tfa f0.length tfc) (.slice raa (mergeA f0 D1 D2).length rac) W1.heap.size w2.heap.size w6.heap.size w7.heap.size q1 q2 q3 q4 q5 w9 (HS8.out.below hb9) (HTM.out _ HB9.out) (Nat.le_trans HZ5.out.1 HB9.out.size) (HRA8.out.move (Same.of_below (hb9.mono HZ8.out.2))) (Nat.le_trans HZ8.out.2 hb9.size) (good_of_newE HE0.out) (merge_acted Y1.out hac HDN.out) HWF.out.1 (merge_wf X1.out X2.out) HWQ.out)
        obtain ⟨u0, u1, u2, u3, u4⟩ := HCP.out _ HB9.out
        clear hb9 hx9 hac HX8 HB58 HS8 HC8 HRV8 HRA8 HSP
        go_wp2_with fail
        refine HAG3.out.mono ?_
        rintro rr w8 ⟨rfl, hb8⟩
        have HB8 : Hid (Below W5.heap.size W5 w8) := below_step HB9.out hb8
        clear hb8 x0 x1 u0 u1 u2 u3 u4 HAG3 HB9
        obtain ⟨e0, e1⟩ := HC1.out _ HB8.out
        obtain ⟨u0, u1, u2, u3, u4⟩ := HCP.out _ HB8.out
        go_wp2_with fail
        refine (HAG1.out _ HB8.out).mono ?_
        rintro rr w10 ⟨rfl, hb10⟩
        have HB10 : Hid (Below W5.heap.size W5 w10) := below_step HB8.out hb10
        clear hb10 e0 e1 u0 u1 u2 u3 u4
        obtain ⟨e0, e1⟩ := HC2.out _ HB10.out
        obtain ⟨u0, u1, u2, u3, u4⟩ := HCP.out _ HB10.out
        go_wp2_with fail
        refine (HAG2.out _ HB10.out).mono ?_
        rintro rr w11 ⟨rfl, hb11⟩
        have HB11 : Hid (Below W5.heap.size W5 w11) := below_step HB10.out hb11
        clear hb11 e0 e1 u0 u1 u2 u3 u4
        go_wp2_with fail
        refine (awake_c _).mono ?_
        rintro rr w12 ⟨rfl, hb12⟩
        have HB12 : Hid (Below W.heap.size W w12) := below_step (below_step HBW5.out HB11.out) hb12
        clear hb12
        go_wp2
        go_ret
        exact ⟨rfl, HB12.out⟩
set_option maxHeartbeats 8000000 in
theorem Merges_small_false (v0 v1 v3 v4 : Value) (f0 f1 : List Ft) (a3 a4 : List Ac) (q1 q2 q3 q4 q5 : Int) (W : World) (hF0 : FeatsAt W 0 W.heap.size v0 f0) (hF1 : FeatsAt W 0 W.heap.size v1 f1) (hA3 : ActsAt W 0 W.heap.size v3 a3) (hA4 : ActsAt W 0 W.heap.size v4 a4) (hb0 : bigB f0 = false) (hb1 : bigB f1 = false) (h60 : a3.length ≤ 60) (h61 : a4.length ≤ 60)
    (wf0 : wfFs f0) (wf1 : wfFs f1) (wf3 : wfAs a3) (wf4 : wfAs a4) (wq : wfP (q1, q2, q3, q4, q5)) :
    Calls Tryd.prog 5 #[v0, v1, .bool false, v3, v4, .agg #[.int .i64 q1, .int .i64 q2, .int .i64 q3, .int .i64 q4, .int .i64 q5]] W fun e w' => e = .returned (.bool true) ∧ Below W.heap.size W w' := by
  have HB0 := Lib.hid fun W' (hb : Below W.heap.size W W') => big_c v0 f0 0 W.heap.size W' (hF0.move (Same.of_below hb))
  have HB1 := Lib.hid fun W' (hb : Below W.heap.size W W') => big_c v1 f1 0 W.heap.size W' (hF1.move (Same.of_below hb))
  rw [hb0] at HB0
  rw [hb1] at HB1
  have hl0 := len_small hb0
  have hl1 := len_small hb1
  have HMD1 := Lib.hid fun W' (hb : Below W.heap.size W W') => made_c v0 v3 f0 a3 0 W.heap.size 0 W.heap.size W' (hF0.move (Same.of_below hb)) hb.size (hA3.move (Same.of_below hb)) hb.size wf0 wf3 (by omega) h60
  have HMD2 := Lib.hid fun W' (hb : Below W.heap.size W W') => made_c v1 v4 f1 a4 0 W.heap.size 0 W.heap.size W' (hF1.move (Same.of_below hb)) hb.size (hA4.move (Same.of_below hb)) hb.size wf1 wf4 (by omega) h61
  have X1 := Lib.hid (doneL_wf f0 wf3)
  have Y1 := Lib.hid (doneL_acted f0 wf3)
  have X2 := Lib.hid (doneL_wf f1 wf4)
  have Y2 := Lib.hid (doneL_acted f1 wf4)
  have hd1 := doneL_len f0 a3 []
  have hd2 := doneL_len f1 a4 []
  have HDN : Hid ((doneL f0 a3).length + (doneL f1 a4).length ≤ 4096) := by
    show (a3.foldl (doA f0) []).length + (a4.foldl (doA f1) []).length ≤ 4096
    simp only [List.length_nil] at hd1 hd2
    omega
  obtain ⟨D1, hD1⟩ : ∃ D, doneL f0 a3 = D := ⟨_, rfl⟩
  obtain ⟨D2, hD2⟩ : ∃ D, doneL f1 a4 = D := ⟨_, rfl⟩
  have E1 := Lib.hid hD1
  have E2 := Lib.hid hD2
  rw [hD1] at X1 Y1 HDN
  rw [hD2] at X2 Y2 HDN
  have HWF := Lib.hid (And.intro wf0 wf1)
  have HWQ := Lib.hid wq
  obtain ⟨aa, ac, hv3⟩ := hA3.len
  obtain ⟨ba, bc, hv4⟩ := hA4.len
  subst hv3 hv4
  obtain ⟨na, hna⟩ : ∃ na, a3.length = na := ⟨_, rfl⟩
  obtain ⟨nb, hnb⟩ : ∃ nb, a4.length = nb := ⟨_, rfl⟩
  rw [hna] at HMD1 h60 ⊢
  rw [hnb] at HMD2 h61 ⊢
  have h6 : ¬ (60 < (na : Int)) := by omega
  have h7 : ¬ (60 < (nb : Int)) := by omega
  clear hF0 hA3 hA4 hF1 hb0 hb1 wf0 wf1 wf3 wf4 wq hd1 hd2 hD1 hD2 hna hnb h60 h61
  go_enter Tryd.func5, Tryd.ntmps5
  go_wp2_with fail
  refine (HB0.out _ (by go_grown)).mono ?_
  rintro rr w1 ⟨rfl, rfl⟩
  go_wp2_with fail
  refine (HB1.out _ (by go_grown)).mono ?_
  rintro rr w1 ⟨rfl, rfl⟩
  go_wp2_with fail
  refine calls_named fun W1 hW1 => ?_
  have hBW1 : Below W.heap.size W W1 := by rw [hW1]; go_grown
  have hP1 : W1.heap[W.heap.size]? = some (.cells #[.int .i64 q1, .int .i64 q2, .int .i64 q3, .int .i64 q4, .int .i64 q5] 26 (0, 0)) := by rw [hW1]; exact heap_alloc_new _ _
  have HBW1 := Lib.hid hBW1
  have HP1 := Lib.hid hP1
  have y0 : W.heap.size < W1.heap.size := (Array.getElem?_eq_some_iff.1 hP1).1
  clear hW1 hBW1 hP1 HB0 HB1
  refine (HMD1.out _ HBW1.out).mono ?_
  rintro rr w2 ⟨hb2, hres⟩
  have HB2 : Hid (Below W1.heap.size W1 w2) := hb2
  clear hb2 HMD1
  rcases hres with ⟨hne, rfl⟩ | ⟨he0, p, m, flo, fhi, va, vf, tf, ta, rfl, hses, htf, hta⟩
  · clear hne
    go_wp2_with fail
    have HB2A : Hid (Below W.heap.size W (w2.alloc (.cells #[.slice none 0 0, .slice none 0 0] 31))) := below_step (below_step HBW1.out HB2.out) (by go_grown)
    refine (HMD2.out _ HB2A.out).mono ?_
    rintro rr w3 ⟨hb3, hres⟩
    have HB3 := Lib.hid (below_step HB2A.out hb3)
    clear hb3 HMD2 HB2A
    rcases hres with ⟨hne, rfl⟩ | ⟨he1, p', m', glo, ghi, vb, vg, tg, tb, rfl, hsb, htg, htb⟩
    · clear hne
      go_wp2_with fail
      refine (awake_c _).mono ?_
      rintro rr w5 ⟨rfl, hb5⟩
      have HB5 := Lib.hid (below_step (w := W) (below_step HB3.out (by go_grown)) hb5)
      clear hb5
      go_wp2
      go_ret
      exact ⟨rfl, HB5.out⟩
    · obtain ⟨tga, tgc, rfl⟩ := htg.len
      obtain ⟨tba, tbc, rfl⟩ := htb.len
      clear he1 hsb htg htb
      go_wp2_with fail
      refine (awake_c _).mono ?_
      rintro rr w5 ⟨rfl, hb5⟩
      have HB5 := Lib.hid (below_step (w := W) (below_step HB3.out (by go_grown)) hb5)
      clear hb5
      go_wp2
      go_ret
      exact ⟨rfl, HB5.out⟩
  · rw [E1.out] at hses hta
    obtain ⟨tfa, tfc, rfl⟩ := htf.len
    obtain ⟨taa, tac, rfl⟩ := hta.len
    have HS2 := Lib.hid hses
    have HT2 := Lib.hid htf
    have HA2 := Lib.hid hta
    have HE0 := Lib.hid he0
    clear he0 hses htf hta
    go_wp2_with fail
    refine calls_named fun W3 hW3 => ?_
    have hb3 : Below w2.heap.size w2 W3 := by rw [hW3]; exact (Below.refl _ _).alloc (Nat.le_refl _) _
    have hT3 : W3.heap[w2.heap.size]? = some (.cells #[.slice tfa f0.length tfc, .slice taa D1.length tac] 31 (0, 0)) := by rw [hW3]; exact heap_alloc_new _ _
    have HS3 := Lib.hid (HS2.out.below hb3)
    have HT3 : Hid (FeatsAt W3 W1.heap.size w2.heap.size (.slice tfa f0.length tfc) f0) := HT2.out.move (Same.of_below hb3)
    have HA3 : Hid (ActsAt W3 0 w2.heap.size (.slice taa D1.length tac) D1) := HA2.out.move (Same.of_below hb3)
    have HB3 : Hid (Below W1.heap.size W1 W3) := below_step HB2.out hb3
    have HX3 := Lib.hid hT3
    have HZ3 := Lib.hid hb3.size
    clear hW3 hb3 hT3 HS2 HT2 HA2
    have HBW3 : Hid (Below W.heap.size W W3) := below_step HBW1.out HB3.out
    refine (HMD2.out _ HBW3.out).mono ?_
    rintro rr w4 ⟨hb4, hres⟩
    have HB34 : Hid (Below W3.heap.size W3 w4) := hb4
    clear hb4 HMD2
    rcases hres with ⟨hne, rfl⟩ | ⟨he1, p', m', glo, ghi, vb, vg, tg, tb, rfl, hsb, htg, htb⟩
    · clear hne
      go_wp2_with fail
      refine (awake_c _).mono ?_
      rintro rr w5 ⟨rfl, hb5⟩
      have HB5 := Lib.hid (below_step (w := W) (below_step HBW3.out (below_step HB34.out (by go_grown))) hb5)
      clear hb5
      go_wp2
      go_ret
      exact ⟨rfl, HB5.out⟩
    · rw [E2.out] at hsb htb
      obtain ⟨tga, tgc, rfl⟩ := htg.len
      obtain ⟨tba, tbc, rfl⟩ := htb.len
      have HSB4 := Lib.hid hsb
      have HTG4 := Lib.hid htg
      have HTB4 := Lib.hid htb
      have HE1 := Lib.hid he1
      clear he1 hsb htg htb
      go_wp2_with fail
      refine calls_named fun W5 hW5 => ?_
      have hb5 : Below w4.heap.size w4 W5 := by rw [hW5]; exact (Below.refl _ _).alloc (Nat.le_refl _) _
      have HX5 : Hid (W5.heap[w4.heap.size]? = some (.cells #[.slice tga f1.length tgc, .slice tba D2.length tbc] 31 (0, 0))) := by rw [hW5]; exact heap_alloc_new _ _
      have hb35 : Below W3.heap.size W3 W5 := below_step HB34.out hb5
      have HS5 := Lib.hid (HS3.out.below hb35)
      have HT5 : Hid (FeatsAt W5 W1.heap.size w2.heap.size (.slice tfa f0.length tfc) f0) := HT3.out.move (Same.of_below (hb35.mono HZ3.out))
      have HA5 : Hid (ActsAt W5 0 w2.heap.size (.slice taa D1.length tac) D1) := HA3.out.move (Same.of_below (hb35.mono HZ3.out))
      have HX53 : Hid (W5.heap[w2.heap.size]? = some (.cells #[.slice tfa f0.length tfc, .slice taa D1.length tac] 31 (0, 0))) := (hb35.block _ (Array.getElem?_eq_some_iff.1 HX3.out).1).trans HX3.out
      have HSB5 := Lib.hid (HSB4.out.below hb5)
      have HTG5 : Hid (FeatsAt W5 W3.heap.size w4.heap.size (.slice tga f1.length tgc) f1) := HTG4.out.move (Same.of_below hb5)
      have HTB5 : Hid (ActsAt W5 0 w4.heap.size (.slice tba D2.length tbc) D2) := HTB4.out.move (Same.of_below hb5)
      have HZ5 : Hid (w2.heap.size ≤ W5.heap.size ∧ w4.heap.size ≤ W5.heap.size) := ⟨Nat.le_trans HZ3.out hb35.size, hb5.size⟩
      have HBW5 : Hid (Below W.heap.size W W5) := below_step HBW3.out hb35
      have HB15 : Hid (Below W1.heap.size W1 W5) := below_step HB3.out hb35
      clear hW5 hb5 hb35 HS3 HT3 HA3 HX3 HZ3 HB34 HSB4 HTG4 HTB4 HB3 HBW3
      -- what stays so from here on
      have HAG1 : Hid (∀ Wk, Below W5.heap.size W5 Wk → Calls Tryd.prog 13 #[.pointer (some ⟨p, 0, none⟩), .agg #[.slice tfa f0.length tfc, .slice taa D1.length tac], .agg #[.int .i64 q1, .int .i64 q2, .int .i64 q3, .int .i64 q4, .int .i64 q5]] Wk fun e w' => e = .returned (.bool true) ∧ Below Wk.heap.size Wk w') := fun Wk hb =>
        agree_c _ p m flo fhi va vf f0 D1 _ _ W1.heap.size w2.heap.size 0 w2.heap.size q1 q2 q3 q4 q5 Wk (HS5.out.below hb) (HT5.out.move (Same.of_below (hb.mono HZ5.out.1))) (Nat.le_trans HZ5.out.1 hb.size) (HA5.out.move (Same.of_below (hb.mono HZ5.out.1))) (Nat.le_trans HZ5.out.1 hb.size) (good_of_newE HE0.out) Y1.out HWF.out.1 X1.out HWQ.out
      have HAG2 : Hid (∀ Wk, Below W5.heap.size W5 Wk → Calls Tryd.prog 13 #[.pointer (some ⟨p', 0, none⟩), .agg #[.slice tga f1.length tgc, .slice tba D2.length tbc], .agg #[.int .i64 q1, .int .i64 q2, .int .i64 q3, .int .i64 q4, .int .i64 q5]] Wk fun e w' => e = .returned (.bool true) ∧ Below Wk.heap.size Wk w') := fun Wk hb =>
        agree_c _ p' m' glo ghi vb vg f1 D2 _ _ W3.heap.size w4.heap.size 0 w4.heap.size q1 q2 q3 q4 q5 Wk (HSB5.out.below hb) (HTG5.out.move (Same.of_below (hb.mono HZ5.out.2))) (Nat.le_trans HZ5.out.2 hb.size) (HTB5.out.move (Same.of_below (hb.mono HZ5.out.2))) (Nat.le_trans HZ5.out.2 hb.size) (good_of_newE HE1.out) Y2.out HWF.out.2 X2.out HWQ.out
      have HC1 : Hid (∀ Wk, Below W5.heap.size W5 Wk → (Wk.cell? ⟨w2.heap.size, 0, none⟩ = some (.slice tfa f0.length tfc) ∧ Wk.cell? ⟨w2.heap.size, 1, none⟩ = some (.slice taa D1.length tac))) := fun Wk hb => by
        have hx := (hb.block _ (Array.getElem?_eq_some_iff.1 HX53.out).1).trans HX53.out
        exact ⟨by rw [cell_of_row _ _ _ _ _ _ hx]; rfl, by rw [cell_of_row _ _ _ _ _ _ hx]; rfl⟩
      have HC2 : Hid (∀ Wk, Below W5.heap.size W5 Wk → (Wk.cell? ⟨w4.heap.size, 0, none⟩ = some (.slice tga f1.length tgc) ∧ Wk.cell? ⟨w4.heap.size, 1, none⟩ = some (.slice tba D2.length tbc))) := fun Wk hb => by
        have hx := (hb.block _ (Array.getElem?_eq_some_iff.1 HX5.out).1).trans HX5.out
        exact ⟨by rw [cell_of_row _ _ _ _ _ _ hx]; rfl, by rw [cell_of_row _ _ _ _ _ _ hx]; rfl⟩
      have HCP : Hid (∀ Wk, Below W5.heap.size W5 Wk → (Wk.cell? ⟨W.heap.size, 0, none⟩ = some (.int .i64 q1) ∧ Wk.cell? ⟨W.heap.size, 1, none⟩ = some (.int .i64 q2) ∧ Wk.cell? ⟨W.heap.size, 2, none⟩ = some (.int .i64 q3) ∧ Wk.cell? ⟨W.heap.size, 3, none⟩ = some (.int .i64 q4) ∧ Wk.cell? ⟨W.heap.size, 4, none⟩ = some (.int .i64 q5))) := fun Wk hb => by
        have hx := ((below_step HB15.out hb).block _ y0).trans HP1.out
        exact ⟨by rw [cell_of_row _ _ _ _ _ _ hx]; rfl, by rw [cell_of_row _ _ _ _ _ _ hx]; rfl, by rw [cell_of_row _ _ _ _ _ _ hx]; rfl, by rw [cell_of_row _ _ _ _ _ _ hx]; rfl, by rw [cell_of_row _ _ _ _ _ _ hx]; rfl⟩
      have HRM := Lib.hid fun Wk (hb : Below W5.heap.size W5 Wk) => rMerge_c (.slice tfa f0.length tfc) (.slice tga f1.length tgc) (.slice taa D1.length tac) (.slice tba D2.length tbc) f0 f1 D1 D2 W1.heap.size w2.heap.size W3.heap.size w4.heap.size 0 w2.heap.size 0 w4.heap.size Wk
        (HT5.out.move (Same.of_below (hb.mono HZ5.out.1))) (HTG5.out.move (Same.of_below (hb.mono HZ5.out.2))) (HA5.out.move (Same.of_below (hb.mono HZ5.out.1))) (HTB5.out.move (Same.of_below (hb.mono HZ5.out.2))) (Nat.le_trans HZ5.out.1 hb.size) (Nat.le_trans HZ5.out.2 hb.size) (Nat.le_trans HZ5.out.1 hb.size) (Nat.le_trans HZ5.out.2 hb.size) (good_of_newE HE0.out) HWF.out.1 HDN.out
      have HTM := Lib.hid fun Wk (hb : Below W5.heap.size W5 Wk) => HT5.out.move (Same.of_below (hb.mono HZ5.out.1))
      refine (Merge_c _ p m flo fhi va vf _ p' m' glo ghi vb vg f0 f1 D1 D2 W5 HS5.out HSB5.out HE0.out HWF.out.1 X1.out X2.out HDN.out).mono ?_
      rintro rr w6 ⟨hb6, hres⟩
      have HB6 : Hid (Below W5.heap.size W5 w6) := hb6
      obtain ⟨e0, e1⟩ := HC1.out _ HB6.out
      obtain ⟨g0, g1⟩ := HC2.out _ HB6.out
      clear hb6 HX53 HX5 HS5 HA5 HTG5 HTB5 HSB5
      rcases hres with ⟨hfg, rfl⟩ | ⟨hfg, p2, m2, flo2, fhi2, va2, vf2, cv, rfl, hs6, hc6⟩
      · have HFG := Lib.hid hfg
        clear hfg
        go_wp2_with fail
        refine (HRM.out _ HB6.out).mono ?_
        rintro rr w7 ⟨hb7, hr7⟩
        obtain rfl : rr = .returned (.tuple #[.agg #[.slice none 0 0, .slice none 0 0], .slice none 0 0, .int .i64 81]) := by
          rcases hr7 with h | h
          · exact h.2
          · exact absurd h.1 HFG.out
        have HB7 : Hid (Below W5.heap.size W5 w7) := below_step HB6.out hb7
        clear hb7 hr7 e0 e1 g0 g1
        go_wp2_with fail
        have HBA : Hid (Below W5.heap.size W5 (w7.alloc (.cells #[.slice none 0 0, .slice none 0 0] 31))) := HB7.out.alloc HB7.out.size _
        have hnil : ∀ W', PlsAt W' 0 0 (.slice none 0 0) [] := fun W' => ⟨none, 0, rfl, fun _ => rfl, Row.none _ _ _ _ _ _⟩
        refine (SamePlaces_c (.slice none 0 0) (.slice none 0 0) [] [] 0 0 0 0 _ (hnil _) (hnil _) (Nat.zero_le _) (Nat.zero_le _) (Nat.zero_le _)).mono ?_
        rintro rr w8 ⟨rfl, hb8⟩
        have HB8 : Hid (Below W5.heap.size W5 w8) := below_step HBA.out hb8
        clear hb8 hnil HBA HB7
        obtain ⟨e0, e1⟩ := HC1.out _ HB8.out
        obtain ⟨u0, u1, u2, u3, u4⟩ := HCP.out _ HB8.out
        go_wp2_with fail
        refine (HAG1.out _ HB8.out).mono ?_
        rintro rr w10 ⟨rfl, hb10⟩
        have HB10 : Hid (Below W5.heap.size W5 w10) := below_step HB8.out hb10
        clear hb10 e0 e1 u0 u1 u2 u3 u4
        obtain ⟨e0, e1⟩ := HC2.out _ HB10.out
        obtain ⟨u0, u1, u2, u3, u4⟩ := HCP.out _ HB10.out
        go_wp2_with fail
        refine (HAG2.out _ HB10.out).mono ?_
        rintro rr w11 ⟨rfl, hb11⟩
        have HB11 : Hid (Below W5.heap.size W5 w11) := below_step HB10.out hb11
        clear hb11 e0 e1 u0 u1 u2 u3 u4
        go_wp2_with fail
        refine (awake_c _).mono ?_
        rintro rr w12 ⟨rfl, hb12⟩
        have HB12 : Hid (Below W.heap.size W w12) := below_step (below_step HBW5.out HB11.out) hb12
        clear hb12
        go_wp2
        go_ret
        exact ⟨rfl, HB12.out⟩
      · have HFG := Lib.hid hfg
        have HS6 := Lib.hid hs6
        have HC6 := Lib.hid hc6
        obtain ⟨ca, cc, rfl⟩ : ∃ ca cc, cv = .slice ca (clashL f0 D1 D2).length cc := by
          obtain ⟨a, c, e, -⟩ := hc6
          exact ⟨a, c, e⟩
        clear hfg hs6 hc6
        go_wp2_with fail
        refine (HRM.out _ HB6.out).mono ?_
        rintro rr w7 ⟨hb7, hr7⟩
        obtain ⟨ra, rv, rfl, hra, hrv⟩ : ∃ ra rv, rr = .returned (.tuple #[.agg #[.slice tfa f0.length tfc, ra], rv, .int .i64 0]) ∧ ActsAt w7 w6.heap.size w7.heap.size ra (mergeA f0 D1 D2) ∧ PlsAt w7 w6.heap.size w7.heap.size rv (clashL f0 D1 D2) := by
          rcases hr7 with h | ⟨_, ra, rv, e, h1, h2⟩
          · exact absurd HFG.out h.1
          · exact ⟨ra, rv, e, h1, h2⟩
        obtain ⟨raa, rac, rfl⟩ := hra.len
        obtain ⟨rva, rvc, rfl⟩ : ∃ ca cc, rv = .slice ca (clashL f0 D1 D2).length cc := by
          obtain ⟨a, c, e, -⟩ := hrv
          exact ⟨a, c, e⟩
        have HRA := Lib.hid hra
        have HRV := Lib.hid hrv
        have HB67 : Hid (Below w6.heap.size w6 w7) := hb7
        clear hb7 hr7 hra hrv e0 e1 g0 g1
        go_wp2_with fail
        refine calls_named fun W8 hW8 => ?_
        have hb78 : Below w7.heap.size w7 W8 := by rw [hW8]; exact (Below.refl _ _).alloc (Nat.le_refl _) _
        have HX8 : Hid (W8.heap[w7.heap.size]? = some (.cells #[.slice tfa f0.length tfc, .slice raa (mergeA f0 D1 D2).length rac] 31 (0, 0))) := by rw [hW8]; exact heap_alloc_new _ _
        have hb68 : Below w6.heap.size w6 W8 := below_step HB67.out hb78
        have HB58 : Hid (Below W5.heap.size W5 W8) := below_step HB6.out hb68
        have HS8 := Lib.hid (HS6.out.below hb68)
        have HC8 : Hid (PlsAt W8 W5.heap.size w6.heap.size (.slice ca (clashL f0 D1 D2).length cc) (clashL f0 D1 D2)) := HC6.out.move (Same.of_below hb68)
        have HRV8 : Hid (PlsAt W8 w6.heap.size w7.heap.size (.slice rva (clashL f0 D1 D2).length rvc) (clashL f0 D1 D2)) := HRV.out.move (Same.of_below hb78)
        have HRA8 : Hid (ActsAt W8 w6.heap.size w7.heap.size (.slice raa (mergeA f0 D1 D2).length rac) (mergeA f0 D1 D2)) := HRA.out.move (Same.of_below hb78)
        have HZ8 : Hid (w6.heap.size ≤ W8.heap.size ∧ w7.heap.size ≤ W8.heap.size) := ⟨hb68.size, hb78.size⟩
        have hcl : (clashL f0 D1 D2).length ≤ 1000000 := Nat.le_trans (clash_len _ _ _) (by omega)
        have hsp := SamePlaces_c (.slice ca (clashL f0 D1 D2).length cc) (.slice rva (clashL f0 D1 D2).length rvc) _ _ _ _ _ _ W8 HC8.out HRV8.out HZ8.out.1 HZ8.out.2 hcl
        rw [decide_eq_true rfl] at hsp
        have HSP := Lib.hid hsp
        clear hW8 hb78 hb68 HS6 HC6 HRA HRV HB67 hcl hsp
        refine HSP.out.mono ?_
        rintro rr w9 ⟨rfl, hb9⟩
        have HB9 : Hid (Below W5.heap.size W5 w9) := below_step HB58.out hb9
        have hx9 : w9.heap[w7.heap.size]? = some (.cells #[.slice tfa f0.length tfc, .slice raa (mergeA f0 D1 D2).length rac] 31 (0, 0)) := (hb9.block _ (Array.getElem?_eq_some_iff.1 HX8.out).1).trans HX8.out
        have x0 : w9.cell? ⟨w7.heap.size, 0, none⟩ = some (.slice tfa f0.length tfc) := by rw [cell_of_row _ _ _ _ _ _ hx9]; rfl
        have x1 : w9.cell? ⟨w7.heap.size, 1, none⟩ = some (.slice raa (mergeA f0 D1 D2).length rac) := by rw [cell_of_row _ _ _ _ _ _ hx9]; rfl
        have hac := Y2.out
        rw [← HFG.out] at hac
        have HAG3 := Lib.hid (agree_c _ p2 m2 flo2 fhi2 va2 vf2 f0 (mergeA f0 D1 D2) (.slice tfa f0.length tfc) (.slice raa (mergeA f0 D1 D2).length rac) W1.heap.size w2.heap.size w6.heap.size w7.heap.size q1 q2 q3 q4 q5 w9 (HS8.out.below hb9) (HTM.out _ HB9.out) (Nat.le_trans HZ5.out.1 HB9.out.size) (HRA8.out.move (Same.of_below (hb9.mono HZ8.out.2))) (Nat.le_trans HZ8.out.2 hb9.size) (good_of_newE HE0.out) (merge_acted Y1.out hac HDN.out) HWF.out.1 (merge_wf X1.out X2.out) HWQ.out)
        obtain ⟨u0, u1, u2, u3, u4⟩ := HCP.out _ HB9.out
        clear hb9 hx9 hac HX8 HB58 HS8 HC8 HRV8 HRA8 HSP
        go_wp2_with fail
        refine HAG3.out.mono ?_
        rintro rr w8 ⟨rfl, hb8⟩
        have HB8 : Hid (Below W5.heap.size W5 w8) := below_step HB9.out hb8
        clear hb8 x0 x1 u0 u1 u2 u3 u4 HAG3 HB9
        obtain ⟨e0, e1⟩ := HC1.out _ HB8.out
        obtain ⟨u0, u1, u2, u3, u4⟩ := HCP.out _ HB8.out
        go_wp2_with fail
        refine (HAG1.out _ HB8.out).mono ?_
        rintro rr w10 ⟨rfl, hb10⟩
        have HB10 : Hid (Below W5.heap.size W5 w10) := below_step HB8.out hb10
        clear hb10 e0 e1 u0 u1 u2 u3 u4
        obtain ⟨e0, e1⟩ := HC2.out _ HB10.out
        obtain ⟨u0, u1, u2, u3, u4⟩ := HCP.out _ HB10.out
        go_wp2_with fail
        refine (HAG2.out _ HB10.out).mono ?_
        rintro rr w11 ⟨rfl, hb11⟩
        have HB11 : Hid (Below W5.heap.size W5 w11) := below_step HB10.out hb11
        clear hb11 e0 e1 u0 u1 u2 u3 u4
        go_wp2_with fail
        refine (awake_c _).mono ?_
        rintro rr w12 ⟨rfl, hb12⟩
        have HB12 : Hid (Below W.heap.size W w12) := below_step (below_step HBW5.out HB11.out) hb12
        clear hb12
        go_wp2
        go_ret
        exact ⟨rfl, HB12.out⟩
theorem Merges_walk (v0 v1 v3 v4 : Value) (sm : Bool) (f0 f1 : List Ft) (a3 a4 : List Ac) (q : Pl) (W : World) (hF0 : FeatsAt W 0 W.heap.size v0 f0) (hF1 : FeatsAt W 0 W.heap.size v1 f1) (hA3 : ActsAt W 0 W.heap.size v3 a3) (hA4 : ActsAt W 0 W.heap.size v4 a4)
    (wf0 : ∀ f ∈ f0, wfP f.1 ∧ ∀ o ∈ f.2, wfO o) (wf1 : ∀ f ∈ f1, wfP f.1 ∧ ∀ o ∈ f.2, wfO o) (wf3 : ∀ a ∈ a3, wfA a) (wf4 : ∀ a ∈ a4, wfA a) (wq : wfP q) :
    Calls Tryd.prog 5 #[v0, v1, .bool sm, v3, v4, .agg (plV q).toArray] W fun e w' => e = .returned (.bool true) ∧ Below W.heap.size W w' := by
  obtain ⟨q1, q2, q3, q4, q5⟩ := q
  show Calls Tryd.prog 5 #[v0, v1, .bool sm, v3, v4, .agg #[.int .i64 q1, .int .i64 q2, .int .i64 q3, .int .i64 q4, .int .i64 q5]] W _
  cases sm with
  | true =>
    by_cases h : bigB f0 = true ∨ bigB f0 = true ∨ 60 < a3.length ∨ 60 < a4.length
    · exact Merges_big_true v0 v1 v3 v4 f0 f1 a3 a4 q1 q2 q3 q4 q5 W hF0 hA3 hA4 h
    · rw [not_or, not_or, not_or] at h
      have hb0 : bigB f0 = false := by simpa using h.1
      exact Merges_small_true v0 v1 v3 v4 f0 f1 a3 a4 q1 q2 q3 q4 q5 W hF0 hA3 hA4 hb0 (by omega) (by omega) (wf_small wf0 hb0) wf3 wf4 wq
  | false =>
    by_cases h : bigB f0 = true ∨ bigB f1 = true ∨ 60 < a3.length ∨ 60 < a4.length
    · exact Merges_big_false v0 v1 v3 v4 f0 f1 a3 a4 q1 q2 q3 q4 q5 W hF0 hF1 hA3 hA4 h
    · rw [not_or, not_or, not_or] at h
      have hb0 : bigB f0 = false := by simpa using h.1
      have hb1 : bigB f1 = false := by simpa using h.2.1
      exact Merges_small_false v0 v1 v3 v4 f0 f1 a3 a4 q1 q2 q3 q4 q5 W hF0 hF1 hA3 hA4 hb0 hb1 (by omega) (by omega) (wf_small wf0 hb0) (wf_small wf1 hb1) wf3 wf4 wq
end Go.Proofs.YtpcefaccoifejaaDoor
