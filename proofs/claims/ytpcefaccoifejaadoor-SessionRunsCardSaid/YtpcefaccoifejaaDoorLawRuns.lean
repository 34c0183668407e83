/-
  The walk of custoslaw13.SessionRuns. Conditions: the arguments can be read as the given statement says.
-/
import Derived.Test.YtpcefaccoifejaaDoorAR2
import Derived.Test.YtpcefaccoifejaaDoorLawReplays
namespace Go.Proofs.YtpcefaccoifejaaDoor
open Go.RowKit
set_option linter.unusedSimpArgs false
set_option linter.unusedVariables false
set_option maxRecDepth 100000

theorem StepsAt.len {w : World} {lo hi : Nat} {v : Value} {l : List St} (h : StepsAt w lo hi v l) : ∃ a cap, v = .slice a l.length cap := by
  obtain ⟨a, cap, e, -⟩ := h
  exact ⟨a, cap, e⟩
section
variable (v0 v1 : Value) (f0 : List Ft) (l1 : List St) (q1 q2 q3 q4 q5 : Int) (W : World)
/-- what is more than is looked at -/
theorem Runs_big (hF0 : FeatsAt W 0 W.heap.size v0 f0) (hS : StepsAt W 0 W.heap.size v1 l1) (h : bigB f0 = true ∨ 60 < l1.length) :
    Calls Tryd.prog 4 #[v0, v1, .agg #[.int .i64 q1, .int .i64 q2, .int .i64 q3, .int .i64 q4, .int .i64 q5]] W fun e w' => e = .returned (.bool true) ∧ Below W.heap.size W w' := by
  have HB0 := Lib.hid fun W' (hb : Below W.heap.size W W') => big_c v0 f0 0 W.heap.size W' (hF0.move (Same.of_below hb))
  obtain ⟨aa, ac, rfl⟩ := hS.len
  clear hF0 hS
  cases hb0 : bigB f0 with
  | true =>
    rw [hb0] at HB0
    clear hb0 h
    go_enter Tryd.func4, Tryd.ntmps4
    go_wp2_with fail
    refine (HB0.out _ (by go_grown)).mono ?_
    rintro rr w1 ⟨rfl, rfl⟩
    go_wp2_with fail
    refine (awake_c _).mono ?_
    rintro rr w2 ⟨rfl, hb2⟩
    have HB2 := Lib.hid (below_step (w := W) (by go_grown) hb2)
    clear hb2
    go_wp2
    go_ret
    exact ⟨rfl, HB2.out⟩
  | false =>
    rw [hb0] at HB0
    rcases h with h | h
    · exact absurd (hb0.symm.trans h) (by simp)
    have h60 : 60 < (l1.length : Int) := by omega
    clear h hb0
    go_enter Tryd.func4, Tryd.ntmps4
    go_wp2_with fail
    refine (HB0.out _ (by go_grown)).mono ?_
    rintro rr w1 ⟨rfl, rfl⟩
    go_wp2_with fail
    refine (awake_c _).mono ?_
    rintro rr w2 ⟨rfl, hb2⟩
    have HB2 := Lib.hid (below_step (w := W) (by go_grown) hb2)
    clear hb2
    go_wp2
    go_ret
    exact ⟨rfl, HB2.out⟩
set_option maxHeartbeats 8000000 in
theorem Runs_small (hF0 : FeatsAt W 0 W.heap.size v0 f0) (hS : StepsAt W 0 W.heap.size v1 l1) (hb0 : bigB f0 = false) (h60 : l1.length ≤ 60) (wf0 : wfFs f0) (wf1 : ∀ s ∈ l1, wfS s) (wq : wfP (q1, q2, q3, q4, q5)) :
    Calls Tryd.prog 4 #[v0, v1, .agg #[.int .i64 q1, .int .i64 q2, .int .i64 q3, .int .i64 q4, .int .i64 q5]] W fun e w' => e = .returned (.bool true) ∧ Below W.heap.size W w' := by
  have HB0 := Lib.hid fun W' (hb : Below W.heap.size W W') => big_c v0 f0 0 W.heap.size W' (hF0.move (Same.of_below hb))
  rw [hb0] at HB0
  have hl0 := len_small hb0
  have hl00 : f0.length ≤ 20000 := by omega
  have HCF := Lib.hid fun W' (hb : Below W.heap.size W W') => CopyFeatures_c v0 f0 0 W.heap.size W' (hF0.move (Same.of_below hb)) hb.size hl00 wf0
  have HRN := Lib.hid fun W' (hb : Below W.heap.size W W') => RNew_c v0 f0 0 W.heap.size W' (hF0.move (Same.of_below hb)) hb.size wf0 (by omega)
  have HF0 := Lib.hid hF0
  have HWF := Lib.hid wf0
  have HWS := Lib.hid wf1
  have HWQ := Lib.hid wq
  obtain ⟨aa, ac, rfl, -, hrow⟩ := hS
  have HROW := Lib.hid hrow
  obtain ⟨n, hn⟩ : ∃ n, l1.length = n := ⟨_, rfl⟩
  have HN := Lib.hid hn
  rw [hn] at HROW h60 ⊢
  have h6' : (n : Int) ≤ 60 := by omega
  clear hF0 hb0 wf0 wf1 wq hrow hn
  go_enter Tryd.func4, Tryd.ntmps4
  go_wp2_with fail
  refine (HB0.out _ (by go_grown)).mono ?_
  rintro rr w1 ⟨rfl, rfl⟩
  go_wp2_with fail
  refine calls_named fun W1 hW1 => ?_
  have hBW1 : Below W.heap.size W W1 := by rw [hW1]; go_grown
  have hP1 : W1.heap[W.heap.size]? = some (.cells #[.int .i64 q1, .int .i64 q2, .int .i64 q3, .int .i64 q4, .int .i64 q5] 26 (0, 0)) := by rw [hW1]; exact heap_alloc_new _ _
  have HBW1 := Lib.hid hBW1
  have HP1 := Lib.hid hP1
  have y0 : W.heap.size < W1.heap.size := (Array.getElem?_eq_some_iff.1 hP1).1
  clear hW1 hBW1 hP1 HB0
  refine (HCF.out _ HBW1.out).mono ?_
  rintro rr w2 ⟨mv, rfl, hof, hb2⟩
  obtain ⟨ma, mc, rfl⟩ : ∃ ma mc, mv = .slice ma f0.length mc := by
    obtain ⟨vs, h1, h2, h3⟩ := hof
    exact own_shape h2
  have HOF := Lib.hid hof
  have HB2 : Hid (Below W1.heap.size W1 w2) := hb2
  have HNEW := Lib.hid (New_c (.slice ma f0.length mc) f0 W1.heap.size w2.heap.size w2 hof.feats (Nat.le_refl _) HWF.out (by omega))
  clear hof hb2 HCF
  go_wp2_with fail
  refine HNEW.out.mono ?_
  rintro rr w3 ⟨hb3, hres⟩
  have HB3 : Hid (Below w2.heap.size w2 w3) := hb3
  have HBW2 : Hid (Below W.heap.size W w2) := below_step HBW1.out HB2.out
  have HBW3 : Hid (Below W.heap.size W w3) := below_step HBW2.out HB3.out
  clear hb3 HNEW
  have HSF : Hid (∀ Wk, Below w2.heap.size w2 Wk → Calls Tryd.prog 17 #[.slice ma f0.length mc, v0] Wk fun e w' => e = .returned (.bool true) ∧ Below Wk.heap.size Wk w') := fun Wk hb => by
    have := SameFeatures_c (.slice ma f0.length mc) v0 f0 f0 W1.heap.size Wk.heap.size 0 W.heap.size Wk (HOF.out.below hb).feats (HF0.out.move (Same.of_below (below_step HBW2.out hb))) (Nat.le_refl _) (below_step HBW2.out hb).size hl00 HWF.out
    rwa [decide_eq_true rfl] at this
  obtain ⟨nf, hnf⟩ : ∃ nf, f0.length = nf := ⟨_, rfl⟩
  have HNF := Lib.hid hnf
  rw [hnf] at HSF HOF hl00 hl0 ⊢
  clear hnf
  rcases hres with ⟨hne, rfl⟩ | ⟨he0, p, m, flo, fhi, vf, rfl, hses⟩
  · have HNE := Lib.hid hne
    obtain ⟨E, hE⟩ : ∃ E, newE f0 = E := ⟨_, rfl⟩
    have HE := Lib.hid hE
    rw [hE] at hne ⊢
    have hE2 : (E != 0) = true := by simpa using hne
    have hE1 : ¬ E = 0 := hne
    clear hE hne
    go_wp2_with fail
    refine (HRN.out _ HBW3.out).mono ?_
    rintro rr w4 ⟨hb4, hr4⟩
    obtain rfl : rr = .returned (.tuple #[.agg #[.slice none 0 0, .slice none 0 0], .int .i64 E]) := by
      rcases hr4 with h | h
      · rw [h.2, HE.out]
      · exact absurd h.1 HNE.out
    have HB4 : Hid (Below w2.heap.size w2 w4) := below_step HB3.out hb4
    clear hb4 hr4
    go_wp2_with fail
    have HBA : Hid (Below w2.heap.size w2 (w4.alloc (.cells #[.slice none 0 0, .slice none 0 0] 31))) := HB4.out.alloc HB4.out.size _
    refine (HSF.out _ HBA.out).mono ?_
    rintro rr w6 ⟨rfl, hb6⟩
    have HB6 : Hid (Below w2.heap.size w2 w6) := below_step HBA.out hb6
    clear hb6 HB4 HBA
    go_wp2_with fail
    refine (awake_c _).mono ?_
    rintro rr w8 ⟨rfl, hb8⟩
    have HB8 : Hid (Below W.heap.size W w8) := below_step (below_step HBW2.out HB6.out) hb8
    clear hb8
    go_wp2
    go_ret
    exact ⟨rfl, HB8.out⟩
  · have HE0 := Lib.hid he0
    have HSES := Lib.hid hses
    clear he0 hses
    go_wp2_with fail
    refine (HRN.out _ HBW3.out).mono ?_
    rintro rr w4 ⟨hb4, hr4⟩
    obtain ⟨tf, rfl, hoft⟩ : ∃ vf, rr = .returned (.tuple #[.agg #[vf, .slice none 0 0], .int .i64 0]) ∧ OwnFeats w4 w3.heap.size vf f0 := by
      rcases hr4 with h | ⟨_, vf, e, h⟩
      · exact absurd HE0.out h.1
      · exact ⟨vf, e, h⟩
    obtain ⟨oa, oc, rfl⟩ : ∃ oa oc, tf = .slice oa nf oc := by
      obtain ⟨vs, h1, h2, h3⟩ := hoft
      rw [HNF.out] at h2
      exact own_shape h2
    have HB4 : Hid (Below w2.heap.size w2 w4) := below_step HB3.out hb4
    have hM5 : MkR w2.heap.size (w4.alloc (.cells #[.slice oa nf oc, .slice none 0 0] 31)) (w4.alloc (.cells #[.slice oa nf oc, .slice none 0 0] 31)) p m flo fhi w3.heap.size w4.heap.size w4.heap.size (.slice none 0 0) vf (.slice oa nf oc) (.slice none 0 0) f0 [] := by
      have hba : Below w4.heap.size w4 (w4.alloc (.cells #[.slice oa nf oc, .slice none 0 0] 31)) := (Below.refl _ _).alloc (Nat.le_refl _) _
      have hs4 := HSES.out.below hb4
      have g1 : p < w3.heap.size := (Array.getElem?_eq_some_iff.1 HSES.out.cells).1
      have g2 : m < w3.heap.size := HSES.out.map.lt
      have g3 := HSES.out.hf
      have g4 := hb4.size
      have g5 := HB3.out.size
      have g6 := hba.size
      exact ⟨hs4.below hba, heap_alloc_new _ _, .inl ⟨rfl, rfl⟩, hoft.feats.move (Same.of_below hba), fun g hg => (by cases hg), by omega, by omega, by omega, by omega, by omega, hba.size, by omega, by omega, Below.refl _ _, by omega⟩
    have HM5 := Lib.hid hM5
    clear hr4 hb4 hoft hM5 HSES
    go_wp2_with fail
    have HBA : Hid (Below w2.heap.size w2 (w4.alloc (.cells #[.slice oa nf oc, .slice none 0 0] 31))) := HB4.out.alloc HB4.out.size _
    refine (HSF.out _ HBA.out).mono ?_
    rintro rr w6 ⟨rfl, hb6⟩
    have HM6 := Lib.hid (HM5.out.below hb6)
    have HB6 : Hid (Below w2.heap.size w2 w6) := below_step HBA.out hb6
    have HBW6 : Hid (Below W.heap.size W w6) := below_step HBW2.out HB6.out
    have HLG := Lib.hid (good_of_newE HE0.out).some
    clear hb6 HM5 HBA HB4 HB3 HSF HRN HBW3
    go_wp2
    go_loopw [12] (fun i wr => ∃ (j : Nat), j ≤ nf ∧ i = .int .i64 (j : Int) ∧ Below W.heap.size W wr ∧ (∀ b, w2.heap.size ≤ b → wr.heap[b]? = w6.heap[b]?) ∧ (∀ (b : Nat) (c : Array Value) (Y : TypeId) (z : Nat × Nat), w6.heap[b]? = some (Obj.cells c Y z) → Y ≠ 51 → wr.heap[b]? = w6.heap[b]?) ∧ (∀ b, Soft w6 b 51 1 → Soft wr b 51 1) ∧ w6.heap.size ≤ wr.heap.size) (fun i wr => nf - (intOf i).toNat)
    case atStart => exact ⟨0, Nat.zero_le _, rfl, HBW6.out, fun _ _ => rfl, fun _ _ _ _ _ _ => rfl, fun _ h => h, Nat.le_refl _⟩
    case round =>
      obtain ⟨j, hjn, rfl, hB, hK, hT, hS, hZ⟩ := hrel
      have HB := Lib.hid hB
      have HK := Lib.hid hK
      have HT := Lib.hid hT
      have HS := Lib.hid hS
      have HZ := Lib.hid hZ
      clear hB hK hT hS hZ
      by_cases hj : j < nf
      · have hjf : j < f0.length := by rw [HNF.out]; exact hj
        obtain ⟨g, cap, o, n2, cap2, hv, ⟨c, hc⟩, hcell, hlo, hso, h0⟩ := own_one HOF.out hjf (HLG.out _ (ftAt_mem hjf))
        rw [HNF.out] at hv
        simp only [Value.slice.injEq, true_and] at hv
        obtain ⟨rfl, rfl⟩ := hv
        have hc6 := (HB6.out.block g (Array.getElem?_eq_some_iff.1 hc).1).trans hc
        have hc5 : wr.cell? ⟨g, j * 6 + 5, none⟩ = some (.slice (some ⟨o, 0, none⟩) n2 cap2) := (World.cell?_of_block ((HT.out _ _ _ _ hc6 (by decide)).trans (HB6.out.block g (Array.getElem?_eq_some_iff.1 hc).1))).trans hcell
        have hol := hso.lt
        have hsw := HS.out _ (hso.below HB6.out)
        obtain ⟨u, hu⟩ := hsw.cell (j := 0) (by omega)
        have hfz := hsw.free 0
        have HSW := Lib.hid hsw
        have HOL := Lib.hid hol
        have HLO : Hid (W.heap.size ≤ o) := Nat.le_trans HBW1.out.size hlo
        have hj0 : (0 : Int) ≤ j := by omega
        have hj1 : (j : Int) < nf := by omega
        have hj2 : (j : Int) ≤ 20000 := by omega
        have hn2 : (0 : Int) < n2 := by omega
        clear hso hsw hcell hc hjf hc6 hlo hol
        go_wp2
        go_roundw
        case rel =>
          refine ⟨j + 1, by omega, by go_num, HB.out.setCell (p := ⟨o, 0, none⟩) HLO.out _, fun b hb => ?_, fun b c Y z hb hY => ?_, fun b hs => (HS.out b hs).set _ _ _, Nat.le_trans HZ.out (by simp [World.setCell])⟩
          · exact (Below.heap_setCell wr ⟨o, 0, none⟩ _ b (fun e => by have := HOL.out; dsimp only at e; omega)).trans (HK.out b hb)
          · have hbo : b ≠ o := fun e => by
              subst e
              obtain ⟨c', hc', -⟩ := HSW.out
              rw [HT.out _ _ _ _ hb hY, hb] at hc'
              simp only [Option.some.injEq, Obj.cells.injEq] at hc'
              exact hY hc'.2.1
            exact (Below.heap_setCell wr ⟨o, 0, none⟩ _ b hbo).trans (HT.out b c Y z hb hY)
        case measure => simp [intOf]; omega
      · obtain rfl : nf = j := by omega
        obtain ⟨wL, rfl⟩ : ∃ wo : World, wo = wr := ⟨_, rfl⟩
        have HML := Lib.hid (HM6.out.kept HK.out HZ.out)
        have HBL := HB
        have HPL : Hid (wL.heap[W.heap.size]? = some (.cells #[.int .i64 q1, .int .i64 q2, .int .i64 q3, .int .i64 q4, .int .i64 q5] 26 (0, 0))) := by
          have h6 : w6.heap[W.heap.size]? = _ := ((below_step HB2.out HB6.out).block _ y0).trans HP1.out
          exact (HT.out _ _ _ _ h6 (by decide)).trans h6
        have y1 : W.heap.size < w2.heap.size := Nat.lt_of_lt_of_le y0 HB2.out.size
        have hBn := HB2.out.size
        have HBn : Hid (W.heap.size ≤ w2.heap.size) := Nat.le_of_lt y1
        clear hBn HB HK HT HS HZ HM6 HB6 HBW6 HOF HLG HB2 HP1
        have HCP : Hid (∀ Wk, Below w2.heap.size wL Wk → (Wk.cell? ⟨W.heap.size, 0, none⟩ = some (.int .i64 q1) ∧ Wk.cell? ⟨W.heap.size, 1, none⟩ = some (.int .i64 q2) ∧ Wk.cell? ⟨W.heap.size, 2, none⟩ = some (.int .i64 q3) ∧ Wk.cell? ⟨W.heap.size, 3, none⟩ = some (.int .i64 q4) ∧ Wk.cell? ⟨W.heap.size, 4, none⟩ = some (.int .i64 q5))) := fun Wk hb => by
          have hx := (hb.block _ y1).trans HPL.out
          exact ⟨by rw [cell_of_row _ _ _ _ _ _ hx]; rfl, by rw [cell_of_row _ _ _ _ _ _ hx]; rfl, by rw [cell_of_row _ _ _ _ _ _ hx]; rfl, by rw [cell_of_row _ _ _ _ _ _ hx]; rfl, by rw [cell_of_row _ _ _ _ _ _ hx]; rfl⟩
        have HBK : Hid (∀ Wk, Below w2.heap.size wL Wk → Below W.heap.size W Wk) := fun Wk hb => HBL.out.trans (hb.mono HBn.out)
        go_wp2
        go_loopw [8, 13] (fun s i wr => ∃ (k p m flo fhi : Nat) (va vf ta : Value) (D : List Ac), k ≤ n ∧ s = .pointer (some ⟨p, 0, none⟩) ∧ i = .int .i64 (k : Int) ∧ MkR w2.heap.size wL wr p m flo fhi w3.heap.size w4.heap.size w4.heap.size va vf (.slice oa nf oc) ta f0 D ∧ Acted f0 D ∧ wfAs D ∧ CapIn ta) (fun s i wr => n - (intOf i).toNat)
        case atStart => exact ⟨0, _, _, _, _, _, _, _, _, Nat.zero_le _, rfl, rfl, HML.out, Acted.nil _, (fun _ h => by cases h), ⟨none, 0, 0, rfl, Nat.le_refl _⟩⟩
        case round =>
          obtain ⟨k, p, m, flo, fhi, va, vf, ta, D, hkn, rfl, rfl, hM, hAct, hwD, hcap⟩ := hrel
          have HM := Lib.hid hM
          obtain ⟨ya, yc, rfl⟩ := hM.ref.shape
          have hDl := hAct.len
          have HACT := Lib.hid hAct
          have HWD := Lib.hid hwD
          have HCAP : Hid (D.length ≤ yc) := by
            obtain ⟨a, n', c, e, hl⟩ := hcap
            simp only [Value.slice.injEq] at e
            obtain ⟨-, e1, e2⟩ := e
            show D.length ≤ yc
            omega
          have hnf20 : f0.length ≤ 20000 := by rw [HNF.out]; exact hl00
          clear hM hAct hwD hcap
          by_cases hk : k < n
          · have hkf : k < l1.length := by rw [HN.out]; exact hk
            obtain ⟨bf, off, rfl, hb1', hb2, hc⟩ := HROW.out (by omega)
            have hcw : ∀ j u, (stV (stAt l1 k))[j]? = some u → W.cell? ⟨bf, off + k * 8 + j, none⟩ = some u := fun j u hu => hc k hk j u hu
            have hwa := HWS.out _ (stAt_mem hkf)
            generalize stAt l1 k = A at *
            obtain ⟨how, kd, ⟨a1, a2, a3, a4, a5⟩, av⟩ := A
            have d0 := hcw 0 _ rfl
            have d1 := hcw 1 _ rfl
            have d2 := hcw 2 _ rfl
            have d3 := hcw 3 _ rfl
            have d4 := hcw 4 _ rfl
            have d5 := hcw 5 _ rfl
            have d6 := hcw 6 _ rfl
            have d7 := hcw 7 _ rfl
            simp only [Nat.add_zero] at d0
            have HWA : Hid (wfA (kd, (a1, a2, a3, a4, a5), av)) := hwa.2
            have HWH : Hid (i64B how) := hwa.1
            have hk0 : (0 : Int) ≤ k := by omega
            have hk1 : (k : Int) < n := by omega
            have hk2 : (k : Int) ≤ 60 := by omega
            have HC0 : Hid (∀ Wk, Below W.heap.size W Wk → Wk.cell? ⟨bf, off + k * 8, none⟩ = some (.int .i64 how)) := fun Wk hb => (hb.cell (p := ⟨bf, _, none⟩) hb2).trans d0
            have HCW : Hid (∀ Wk, Below W.heap.size W Wk → (Wk.cell? ⟨bf, off + k * 8 + 1, none⟩ = some (.int .i64 kd) ∧ Wk.cell? ⟨bf, off + k * 8 + 2, none⟩ = some (.int .i64 a1) ∧ Wk.cell? ⟨bf, off + k * 8 + 3, none⟩ = some (.int .i64 a2) ∧ Wk.cell? ⟨bf, off + k * 8 + 4, none⟩ = some (.int .i64 a3) ∧ Wk.cell? ⟨bf, off + k * 8 + 5, none⟩ = some (.int .i64 a4) ∧ Wk.cell? ⟨bf, off + k * 8 + 6, none⟩ = some (.int .i64 a5) ∧ Wk.cell? ⟨bf, off + k * 8 + 7, none⟩ = some (.int .i64 av))) := fun Wk hb =>
              ⟨(hb.cell (p := ⟨bf, _, none⟩) hb2).trans d1, (hb.cell (p := ⟨bf, _, none⟩) hb2).trans d2, (hb.cell (p := ⟨bf, _, none⟩) hb2).trans d3, (hb.cell (p := ⟨bf, _, none⟩) hb2).trans d4, (hb.cell (p := ⟨bf, _, none⟩) hb2).trans d5, (hb.cell (p := ⟨bf, _, none⟩) hb2).trans d6, (hb.cell (p := ⟨bf, _, none⟩) hb2).trans d7⟩
            have HBF := Lib.hid hb2
            have c0 := HC0.out _ (HBK.out _ HM.out.bel)
            clear hcw hc hwa hb2 d0 d1 d2 d3 d4 d5 d6 d7
            have hpk := pickL_in how
            go_wp2_with fail
            refine (Pick_c how _ HWH.out).mono ?_
            rintro rr w5 ⟨rfl, hb5⟩
            have HM5 := Lib.hid (HM.out.below hb5)
            clear hb5 c0
            rcases hpk with hpk | hpk | hpk
            · rw [hpk]
              obtain ⟨c1, c2, c3, c4, c5, c6, c7⟩ := HCW.out _ (HBK.out _ HM5.out.bel)
              go_wp2_with fail
              refine (own_c _ _ _ _ _ _ _ _).mono ?_
              rintro rr w10 ⟨rfl, hb10⟩
              have HM10 := Lib.hid (HM5.out.below hb10)
              clear hb10 c1 c2 c3 c4 c5 c6 c7
              go_wp2_with fail
              refine (Do_c w2.heap.size p m flo fhi va vf f0 D kd a1 a2 a3 a4 a5 av w10 HM10.out.ses HM10.out.le HWF.out HWA.out.2.1 (by omega) hnf20).mono ?_
              rintro rr w11 ⟨rfl, va', hs11, ht11⟩
              have HJ := Lib.hid (HM10.out.turn hs11 ht11)
              have HS11 := Lib.hid ht11.size
              clear hs11 ht11
              obtain ⟨X, hX⟩ : ∃ X, doE f0 D (kd, (a1, a2, a3, a4, a5), av) = X := ⟨_, rfl⟩
              have HX := Lib.hid hX
              rw [hX]
              clear hX
              obtain ⟨c1, c2, c3, c4, c5, c6, c7⟩ := HCW.out _ (HBK.out _ HJ.out.bel)
              obtain ⟨t0, t1, tf0, tf1⟩ := sesBlock HJ.out.box
              have hne9 : some bf ≠ some w4.heap.size := fun e => by injection e with e; have := HBF.out; have := HM.out.lo; have := HBn.out; omega
              have HSC : Hid (∀ w', Kg w11 (some w4.heap.size) w' → (w'.cell? ⟨bf, off + k * 8 + 1, none⟩ = some (.int .i64 kd) ∧ w'.cell? ⟨bf, off + k * 8 + 2, none⟩ = some (.int .i64 a1) ∧ w'.cell? ⟨bf, off + k * 8 + 3, none⟩ = some (.int .i64 a2) ∧ w'.cell? ⟨bf, off + k * 8 + 4, none⟩ = some (.int .i64 a3) ∧ w'.cell? ⟨bf, off + k * 8 + 5, none⟩ = some (.int .i64 a4) ∧ w'.cell? ⟨bf, off + k * 8 + 6, none⟩ = some (.int .i64 a5) ∧ w'.cell? ⟨bf, off + k * 8 + 7, none⟩ = some (.int .i64 av) ∧ Kg w11 (some w4.heap.size) w')) := fun w' hb =>
                ⟨hb.cell c1 hne9, hb.cell c2 hne9, hb.cell c3 hne9, hb.cell c4 hne9, hb.cell c5 hne9, hb.cell c6 hne9, hb.cell c7 hne9, hb⟩
              have HRD := Lib.hid (rDoS_c (.slice oa nf oc) (.slice ya D.length yc) f0 D 0 w3.heap.size w4.heap.size kd a1 a2 a3 a4 a5 av w11.drew (HJ.out.tfs.move (fun _ _ _ => rfl)) HJ.out.th (HJ.out.ref.at.move (fun _ _ _ => rfl)) (Nat.zero_le _) HWF.out (by omega) hnf20)
              clear c1 c2 c3 c4 c5 c6 c7 hne9
              go_wp2_with fail
              refine wp_region_noPanic ?_
              refine wp_region_held_drew (S := fun w' => w'.cell? ⟨bf, off + k * 8 + 1, none⟩ = some (.int .i64 kd) ∧ w'.cell? ⟨bf, off + k * 8 + 2, none⟩ = some (.int .i64 a1) ∧ w'.cell? ⟨bf, off + k * 8 + 3, none⟩ = some (.int .i64 a2) ∧ w'.cell? ⟨bf, off + k * 8 + 4, none⟩ = some (.int .i64 a3) ∧ w'.cell? ⟨bf, off + k * 8 + 5, none⟩ = some (.int .i64 a4) ∧ w'.cell? ⟨bf, off + k * 8 + 6, none⟩ = some (.int .i64 a5) ∧ w'.cell? ⟨bf, off + k * 8 + 7, none⟩ = some (.int .i64 av) ∧ Kg w11 (some w4.heap.size) w') (by kernel_rfl) (HSC.out _ (Kg.drew _ _)) (fun hHeld => ?_)
              refine wpAnyH_take (i := 1) (v := ?v1) (arr_at rfl) (by kernel_rfl) (by kernel_rfl) (by kernel_rfl) (fun _ _ _ h => h) (Or.inl ⟨by rfl, ?hy1⟩) (by assumption) ?_
              case hy1 => (intro w hSw; (try dsimp only at hSw); go_simp <;> with_reducible rfl)
              try simp only [Act.put, List.setIfInBounds_toArray, List.set_cons_zero, List.set_cons_succ]
              refine wpAnyH_take (i := 2) (v := ?v2) (arr_at rfl) (by kernel_rfl) (by kernel_rfl) (by kernel_rfl) (fun _ _ _ h => h) (Or.inl ⟨by rfl, ?hy2⟩) (by assumption) ?_
              case hy2 => (intro w hSw; (try dsimp only at hSw); go_simp <;> with_reducible rfl)
              try simp only [Act.put, List.setIfInBounds_toArray, List.set_cons_zero, List.set_cons_succ]
              refine wpAnyH_take (i := 3) (v := ?v3) (arr_at rfl) (by kernel_rfl) (by kernel_rfl) (by kernel_rfl) (fun _ _ _ h => h) (Or.inl ⟨by rfl, ?hy3⟩) (by assumption) ?_
              case hy3 => (intro w hSw; (try dsimp only at hSw); go_simp <;> with_reducible rfl)
              try simp only [Act.put, List.setIfInBounds_toArray, List.set_cons_zero, List.set_cons_succ]
              refine wpAnyH_take (i := 4) (v := ?v4) (arr_at rfl) (by kernel_rfl) (by kernel_rfl) (by kernel_rfl) (fun _ _ _ h => h) (Or.inl ⟨by rfl, ?hy4⟩) (by assumption) ?_
              case hy4 => (intro w hSw; (try dsimp only at hSw); go_simp <;> with_reducible rfl)
              try simp only [Act.put, List.setIfInBounds_toArray, List.set_cons_zero, List.set_cons_succ]
              refine wpAnyH_take (i := 5) (v := ?v5) (arr_at rfl) (by kernel_rfl) (by kernel_rfl) (by kernel_rfl) (fun _ _ _ h => h) (Or.inl ⟨by rfl, ?hy5⟩) (by assumption) ?_
              case hy5 => (intro w hSw; (try dsimp only at hSw); go_simp <;> with_reducible rfl)
              try simp only [Act.put, List.setIfInBounds_toArray, List.set_cons_zero, List.set_cons_succ]
              refine wpAnyH_ready (rs := [0]) (by kernel_rfl) (by simp) ?_
              refine AllReadyH.cons (arr_at rfl) (fun K hK => ?_) ?_
              · go_simp
                refine hK.out _ _ ?_ (fun hHeld => ?_)
                · exact HSC.out _ (Kg.drew _ _)
                clear hK K
                try simp only [Act.put, List.setIfInBounds_toArray, List.set_cons_zero, List.set_cons_succ]
                refine wpAnyH_ready (rs := [6]) (by kernel_rfl) (by simp) ?_
                refine AllReadyH.cons (arr_at rfl) (fun K hK => ?_) ?_
                · go_simp; refine HRD.out.mono ?_; rintro rr w12 ⟨ta', rfl, hok, hno, hb12⟩; have HOK := Lib.hid hok; have HNO := Lib.hid hno; have HB12 : Hid (Below w11.heap.size w11 w12) := below_step (Bw.drew w11) hb12; have HK12 : Hid (Kg w11 (some w4.heap.size) w12) := (Kg.drew _ _).call hb12; have HBX := Lib.hid ((HB12.out.block _ (Array.getElem?_eq_some_iff.1 HJ.out.box).1).trans HJ.out.box); obtain ⟨z0, z1, zf0, zf1⟩ := sesBlock HBX.out; obtain ⟨za, zl, zc, rfl⟩ : ∃ za zl zc, ta' = .slice za zl zc := Classical.byCases (p := doE f0 D (kd, (a1, a2, a3, a4, a5), av) = 0) (fun h => match (hok h).1 with | ⟨a, c, e, _⟩ => ⟨_, _, _, e⟩) (fun h => ⟨_, _, _, hno h⟩); rw [HX.out]; clear hb12 hok hno
                  refine hK.out _ _ ?_ (fun hHeld => ?_)
                  · exact HSC.out _ HK12.out
                  clear hK K
                  try simp only [Act.put, List.setIfInBounds_toArray, List.set_cons_zero, List.set_cons_succ]
                  refine wpAnyH_take (i := 7) (v := ?v6) (arr_at rfl) (by kernel_rfl) (by kernel_rfl) (by kernel_rfl) (fun _ _ _ h => h) (Or.inl ⟨by rfl, ?hy6⟩) (by assumption) ?_
                  case hy6 => (intro w hSw; (try dsimp only at hSw); go_simp <;> with_reducible rfl)
                  try simp only [Act.put, List.setIfInBounds_toArray, List.set_cons_zero, List.set_cons_succ]
                  refine wpAnyH_take (i := 8) (v := ?v7) (arr_at rfl) (by kernel_rfl) (by kernel_rfl) (by kernel_rfl) (fun _ _ _ h => h) (Or.inl ⟨by rfl, ?hy7⟩) (by assumption) ?_
                  case hy7 => (intro w hSw; (try dsimp only at hSw); go_simp <;> with_reducible rfl)
                  try simp only [Act.put, List.setIfInBounds_toArray, List.set_cons_zero, List.set_cons_succ]
                  refine wpAnyH_take (i := 9) (v := ?v8) (arr_at rfl) (by kernel_rfl) (by kernel_rfl) (by kernel_rfl) (fun _ _ _ h => h) (Or.inl ⟨by rfl, ?hy8⟩) (by assumption) ?_
                  case hy8 => (intro w hSw; (try dsimp only at hSw); go_simp <;> with_reducible rfl)
                  try simp only [Act.put, List.setIfInBounds_toArray, List.set_cons_zero, List.set_cons_succ]
                  refine wpAnyH_ready (rs := [10]) (by kernel_rfl) (by simp) ?_
                  refine AllReadyH.cons (arr_at rfl) (fun K hK => ?_) ?_
                  · go_simp
                    refine hK.out _ _ ?_ (fun hHeld => ?_)
                    · exact HSC.out _ ((HK12.out.setCell _ _).setCell _ _)
                    clear hK K
                    try simp only [Act.put, List.setIfInBounds_toArray, List.set_cons_zero, List.set_cons_succ]
                    refine wpAnyH_take (i := 11) (v := ?v9) (arr_at rfl) (by kernel_rfl) (by kernel_rfl) (by kernel_rfl) (fun _ _ _ h => h) (Or.inl ⟨by rfl, ?hy9⟩) (by assumption) ?_
                    case hy9 => (intro w hSw; (try dsimp only at hSw); go_simp <;> with_reducible rfl)
                    try simp only [Act.put, List.setIfInBounds_toArray, List.set_cons_zero, List.set_cons_succ]
                    refine wpAnyH_done (by kernel_rfl) ?_ _
                    refine NoPanic.normal ?_
                    refine exit_named (Q := Exit.inBlock _ _) fun W13 hW13 => ?_
                    have hk13 : Kg w11 (some w4.heap.size) W13 := by rw [hW13]; exact (HK12.out.setCell _ _).setCell _ _
                    have hx13 : W13.heap[w4.heap.size]? = some (.cells #[.slice oa nf oc, .slice za zl zc] 31 (0, 0)) := by rw [hW13]; exact set_two HBX.out
                    have hl9 : w4.heap.size < w11.heap.size := (Array.getElem?_eq_some_iff.1 HJ.out.box).1
                    have hp11 : p < w11.heap.size := (Array.getElem?_eq_some_iff.1 HJ.out.ses.cells).1
                    have hs13 : Same w11.heap.size w12.heap.size w12 W13 := fun b b1 b2 => by rw [hW13]; exact (Below.heap_setCell _ ⟨w4.heap.size, 1, none⟩ _ b (by dsimp only; omega)).trans (Below.heap_setCell _ ⟨w4.heap.size, 0, none⟩ _ b (by dsimp only; omega))
                    have hz13 : w12.heap.size ≤ W13.heap.size := by rw [hW13]; simp [World.setCell]
                    have hr13 : ActsIn W13 (.slice za zl zc) (doA f0 D (kd, (a1, a2, a3, a4, a5), av)) (fun b => b < w2.heap.size ∨ b = p ∨ b = w4.heap.size ∨ va'.ownBlock = some b) := by
                      by_cases h : doE f0 D (kd, (a1, a2, a3, a4, a5), av) = 0
                      · refine ActsIn.of_at ((HOK.out h).1.move hs13) hz13 (by unfold doA; rw [if_pos h]; simp) (fun b b1 b2 hP => ?_)
                        have hb6 : w11.heap.size ≤ b := b1
                        have h1 := HJ.out.le
                        rcases hP with e | e | e | e
                        · omega
                        · omega
                        · omega
                        · have := (HJ.out.ses.acts.lt b e).2; omega
                      · have e1 : doA f0 D (kd, (a1, a2, a3, a4, a5), av) = D := if_neg h
                        rw [e1, HNO.out h]
                        exact HJ.out.ref.move hk13.size (fun b hP hb => hk13.block b hb (fun e => hP (by injection e with e; exact .inr (.inr (.inl e))))) (fun b _ => id)
                    have hcp : CapIn (.slice za zl zc) := by
                      by_cases h : doE f0 D (kd, (a1, a2, a3, a4, a5), av) = 0
                      · exact (HOK.out h).2
                      · rw [HNO.out h]; exact ⟨_, _, _, rfl, HCAP.out⟩
                    have HCP2 := Lib.hid hcp
                    have HMX := Lib.hid (HM10.out.next HJ.out hk13 hx13 hr13)
                    clear hW13 hk13 hx13 hl9 hp11 hs13 hz13 hr13 hcp z0 z1 zf0 zf1 t0 t1 tf0 tf1
                    have hag := HMX.out.agree HE0.out (HACT.out.doA (kd, (a1, a2, a3, a4, a5), av)) HWF.out (wfAs_doA (fs := f0) HWD.out HWA.out) HWQ.out
                    have HAG := Lib.hid hag
                    have HACX := Lib.hid (HACT.out.doA (kd, (a1, a2, a3, a4, a5), av))
                    have HWDX := Lib.hid (wfAs_doA (fs := f0) HWD.out HWA.out)
                    have HCAX : Hid (CapIn _) := HCP2.out
                    obtain ⟨t0, t1, -, -⟩ := sesBlock HMX.out.box
                    obtain ⟨u0, u1, u2, u3, u4⟩ := HCP.out _ HMX.out.bel
                    clear hag
                    go_wp2_with fail
                    refine HAG.out.mono ?_
                    rintro rr w20 ⟨rfl, hb20⟩
                    have HM20 := Lib.hid (HMX.out.below hb20)
                    clear hb20 t0 t1 u0 u1 u2 u3 u4 HAG
                    go_wp2
                    go_roundw
                    case rel => exact ⟨k + 1, _, _, _, _, _, _, _, _, by omega, rfl, by go_num, HM20.out, HACX.out, HWDX.out, HCAX.out⟩
                    case measure => simp [intOf]; omega
                  exact AllReadyH.nil
                exact AllReadyH.nil
              exact AllReadyH.nil
            · rw [hpk]
              go_wp2_with fail
              refine (Undo_c w2.heap.size p m flo fhi va vf f0 D w5 HM5.out.ses (by omega)).mono ?_
              rintro rr w11 ⟨rfl, va', hs11, ht11⟩
              have HJ := Lib.hid (HM5.out.turn hs11 ht11)
              clear hs11 ht11
              obtain ⟨t0, t1, tf0, tf1⟩ := sesBlock HJ.out.box
              have hDs : 0 < D.length → ∃ b o, ya = some ⟨b, o, none⟩ := fun h => by
                obtain ⟨a, c, e, -, hr⟩ := HJ.out.ref.at
                obtain ⟨b, o, e2, -⟩ := hr h
                simp only [Value.slice.injEq, true_and] at e
                exact ⟨b, o, e.1.trans e2⟩
              have hru := rUndo_c oa nf oc ya D.length yc w11 (by omega) HCAP.out hDs
              have hue : (if D.length = 0 then (6 : Int) else 0) = undoE D := by
                unfold undoE
                by_cases h : D = []
                · subst h; rfl
                · rw [if_neg h, if_neg (fun e => h (List.eq_nil_of_length_eq_zero e))]
              rw [hue] at hru
              have HRU := Lib.hid hru
              clear hDs hru hue
              obtain ⟨X, hX⟩ : ∃ X, undoE D = X := ⟨_, rfl⟩
              rw [hX] at HRU ⊢
              clear hX
              go_wp2_with fail
              refine HRU.out.mono ?_
              rintro rr w12 ⟨rfl, hb12⟩
              have HJ2 := Lib.hid (HJ.out.below hb12)
              obtain ⟨z0, z1, zf0, zf1⟩ := sesBlock HJ2.out.box
              clear hb12 t0 t1 tf0 tf1
              go_wp2_with (first | (refine wpList_named fun W13 hW13 => ?_; have hW13' : W13 = (w12.setCell ⟨w4.heap.size, 0, none⟩ _).setCell ⟨w4.heap.size, 1, none⟩ _ := (by with_reducible exact hW13); clear hW13'; refine wpList_veil ?_))
              have hk13 : Kg w12 (some w4.heap.size) W13 := by rw [hW13]; exact ((Kg.refl w12 (some w4.heap.size)).setCell _ _).setCell _ _
              have hx13 : W13.heap[w4.heap.size]? = some (.cells #[.slice oa nf oc, .slice ya (D.length - 1) yc] 31 (0, 0)) := by rw [hW13]; exact set_two HJ2.out.box
              have hr13 : ActsIn W13 (.slice ya (D.length - 1) yc) D.dropLast (fun b => b < w2.heap.size ∨ b = p ∨ b = w4.heap.size ∨ va'.ownBlock = some b) :=
                (HJ2.out.ref.move (P' := fun b => b < w2.heap.size ∨ b = p ∨ b = w4.heap.size ∨ va'.ownBlock = some b) hk13.size (fun b hP hb => hk13.block b hb (fun e => hP (by injection e with e; exact .inr (.inr (.inl e))))) (fun b _ => id)).drop
              have HMX := Lib.hid (HM5.out.next HJ2.out hk13 hx13 hr13)
              have HCP2 : Hid (CapIn (.slice ya (D.length - 1) yc)) := ⟨_, _, _, rfl, by have := HCAP.out; omega⟩
              clear hW13 hk13 hx13 hr13 z0 z1 zf0 zf1
              refine wpList_unveil ?_
              have hag := HMX.out.agree HE0.out HACT.out.drop HWF.out (fun a h => HWD.out a (List.dropLast_subset _ h)) HWQ.out
              have HAG := Lib.hid hag
              have HACX := Lib.hid HACT.out.drop
              have HWDX := Lib.hid (fun a h => HWD.out a (List.dropLast_subset _ h))
              have HCAX : Hid (CapIn _) := HCP2.out
              obtain ⟨t0, t1, -, -⟩ := sesBlock HMX.out.box
              obtain ⟨u0, u1, u2, u3, u4⟩ := HCP.out _ HMX.out.bel
              clear hag
              go_wp2_with fail
              refine HAG.out.mono ?_
              rintro rr w20 ⟨rfl, hb20⟩
              have HM20 := Lib.hid (HMX.out.below hb20)
              clear hb20 t0 t1 u0 u1 u2 u3 u4 HAG
              go_wp2
              go_roundw
              case rel => exact ⟨k + 1, _, _, _, _, _, _, _, _, by omega, rfl, by go_num, HM20.out, HACX.out, HWDX.out, HCAX.out⟩
              case measure => simp [intOf]; omega
            · rw [hpk]
              have HCO := Lib.hid (Copy_c w2.heap.size p m flo fhi va vf f0 D w5 HM5.out.ses HE0.out HWF.out (by omega))
              go_wp2_with fail
              refine HCO.out.mono ?_
              rintro rr w10 ⟨⟨p2, m2, flo2, fhi2, va2, vf2, rfl, hs10⟩, hb10⟩
              have HS10 := Lib.hid hs10
              have HB10 : Hid (Below w5.heap.size w5 w10) := hb10
              have HM10 := Lib.hid (HM5.out.below hb10)
              clear hs10 hb10 HCO
              have HUN := Lib.hid (Undo_c w2.heap.size p m flo fhi va vf f0 D w10 HM10.out.ses (by omega))
              by_cases hD0 : D = []
              · have HU6 : Hid (undoE D = 6) := by unfold undoE; rw [if_pos hD0]; rfl
                have hDl0 : D.length = 0 := by rw [hD0]; rfl
                have HDL0 := Lib.hid hDl0
                clear hD0
                go_wp2_with fail
                refine HUN.out.mono ?_
                rintro rr w11 ⟨hrr, va', hs11, ht11⟩
                rw [HU6.out] at hrr
                subst hrr
                have HMX := Lib.hid (HM5.out.copied HS10.out HB10.out ht11)
                clear hs11 ht11 HS10 HB10 HM10 HUN HU6
                have HCP2 : Hid (CapIn (.slice ya D.length yc)) := ⟨_, _, _, rfl, HCAP.out⟩
                clear hDl0
                have hag := HMX.out.agree HE0.out HACT.out HWF.out HWD.out HWQ.out
                rw [HDL0.out] at hag
                have HAG := Lib.hid hag
                have HACX := Lib.hid HACT.out
                have HWDX := Lib.hid HWD.out
                have HCAX : Hid (CapIn _) := HCP2.out
                obtain ⟨t0, t1, -, -⟩ := sesBlock HMX.out.box
                rw [HDL0.out] at t1
                obtain ⟨u0, u1, u2, u3, u4⟩ := HCP.out _ HMX.out.bel
                clear hag
                go_wp2_with fail
                refine HAG.out.mono ?_
                rintro rr w20 ⟨rfl, hb20⟩
                have HM20 := Lib.hid (HMX.out.below hb20)
                clear hb20 t0 t1 u0 u1 u2 u3 u4 HAG
                go_wp2
                go_roundw
                case rel => exact ⟨k + 1, _, _, _, _, _, _, _, _, by omega, rfl, by go_num, HM20.out, HACX.out, HWDX.out, HCAX.out⟩
                case measure => simp [intOf]; omega
              · have HU0 : Hid (undoE D = 0) := by unfold undoE; rw [if_neg hD0]; rfl
                clear hD0
                go_wp2_with fail
                refine HUN.out.mono ?_
                rintro rr w11 ⟨hrr, va', hs11, ht11⟩
                rw [HU0.out] at hrr
                subst hrr
                have HMX := Lib.hid (HM5.out.copied HS10.out HB10.out ht11)
                clear hs11 ht11 HS10 HB10 HM10 HUN HU0
                have HCP2 : Hid (CapIn (.slice ya D.length yc)) := ⟨_, _, _, rfl, HCAP.out⟩
                have hag := HMX.out.agree HE0.out HACT.out HWF.out HWD.out HWQ.out
                have HAG := Lib.hid hag
                have HACX := Lib.hid HACT.out
                have HWDX := Lib.hid HWD.out
                have HCAX : Hid (CapIn _) := HCP2.out
                obtain ⟨t0, t1, -, -⟩ := sesBlock HMX.out.box
                obtain ⟨u0, u1, u2, u3, u4⟩ := HCP.out _ HMX.out.bel
                clear hag
                go_wp2_with fail
                refine HAG.out.mono ?_
                rintro rr w20 ⟨rfl, hb20⟩
                have HM20 := Lib.hid (HMX.out.below hb20)
                clear hb20 t0 t1 u0 u1 u2 u3 u4 HAG
                go_wp2
                go_roundw
                case rel => exact ⟨k + 1, _, _, _, _, _, _, _, _, by omega, rfl, by go_num, HM20.out, HACX.out, HWDX.out, HCAX.out⟩
                case measure => simp [intOf]; omega
          · obtain rfl : n = k := by omega
            have hag := HM.out.agree HE0.out HACT.out HWF.out HWD.out HWQ.out
            have HAG := Lib.hid hag
            obtain ⟨t0, t1, -, -⟩ := sesBlock HM.out.box
            obtain ⟨u0, u1, u2, u3, u4⟩ := HCP.out _ HM.out.bel
            clear hag
            go_wp2_with fail
            refine HAG.out.mono ?_
            rintro rr w20 ⟨rfl, hb20⟩
            have HB20 : Hid (Below w2.heap.size wL w20) := HM.out.bel.trans (hb20.mono HM.out.le)
            clear hb20 t0 t1 u0 u1 u2 u3 u4 HAG
            go_wp2_with fail
            refine (awake_c _).mono ?_
            rintro rr w21 ⟨rfl, hb21⟩
            have HB21 : Hid (Below W.heap.size W w21) := below_step (HBK.out _ HB20.out) hb21
            clear hb21
            go_wp2
            go_ret
            exact ⟨rfl, HB21.out⟩
end
theorem Runs_walk (v0 v1 : Value) (f0 : List Ft) (l1 : List St) (q : Pl) (W : World) (hF0 : FeatsAt W 0 W.heap.size v0 f0) (hS : StepsAt W 0 W.heap.size v1 l1)
    (wf0 : ∀ f ∈ f0, wfP f.1 ∧ ∀ o ∈ f.2, wfO o) (wf1 : ∀ s ∈ l1, wfS s) (wq : wfP q) :
    Calls Tryd.prog 4 #[v0, v1, .agg (plV q).toArray] W fun e w' => e = .returned (.bool true) ∧ Below W.heap.size W w' := by
  obtain ⟨q1, q2, q3, q4, q5⟩ := q
  show Calls Tryd.prog 4 #[v0, v1, .agg #[.int .i64 q1, .int .i64 q2, .int .i64 q3, .int .i64 q4, .int .i64 q5]] W _
  by_cases h : bigB f0 = true ∨ 60 < l1.length
  · exact Runs_big v0 v1 f0 l1 q1 q2 q3 q4 q5 W hF0 hS h
  · rw [not_or] at h
    have hb0 : bigB f0 = false := by simpa using h.1
    exact Runs_small v0 v1 f0 l1 q1 q2 q3 q4 q5 W hF0 hS hb0 (by omega) (wf_small wf0 hb0) wf1 wq
end Go.Proofs.YtpcefaccoifejaaDoor
