/-
  Contracts of present and Value of custosref13. Conditions: what is read lies in memory as SW says; lists are not too long; features have options.
-/
import Derived.Test.YtpcefaccoifejaaDoorR1
import Derived.Test.YtpcefaccoifejaaDoorK15
namespace Go.Proofs.YtpcefaccoifejaaDoor
open Go.RowKit Go.Maps
set_option linter.unusedSimpArgs false
set_option linter.unusedVariables false
set_option maxRecDepth 100000

set_option maxHeartbeats 2000000 in
theorem rPresent_c (x : Option Addr) (y z : Nat) (va : Value) (acts : List Ac) (alo ahi : Nat) (a b c d e : Int) (v : Value) (os : List Opt) (lo hi : Nat) (w : World) (h : OptsAt w lo hi v os) (hh : hi ≤ w.heap.size) (hl : os.length ≤ 1000000) (hne : os ≠ [])
    (ha : ActsAt w alo ahi va acts) (hah : ahi ≤ w.heap.size) (hn : acts.length ≤ 100000) :
    Calls Tryd.prog 54 #[.agg #[.slice x y z, va], .agg #[.int .i64 a, .int .i64 b, .int .i64 c, .int .i64 d, .int .i64 e, v]] w fun r w' => r = .returned (.tuple #[.int .i64 (pres acts ((a, b, c, d, e), os)), .bool (touched acts (a, b, c, d, e))]) ∧ Below w.heap.size w w' := by
  have HBE := Lib.hid fun W (hb : Below w.heap.size w W) => rBest_c a b c d e v os lo hi W (h.move (Same.of_below (hb.mono hh))) (Nat.le_trans hh hb.size) hl hne
  obtain ⟨av, cap, rfl, -, -⟩ := h
  obtain ⟨aa, ac, rfl, -, hr⟩ := ha
  have HR := Lib.hid hr
  have HP : Hid (pres acts ((a, b, c, d, e), os) = (corr acts (a, b, c, d, e)).getD (best os)) := rfl
  generalize pres acts ((a, b, c, d, e), os) = X at *
  generalize best os = B at *
  obtain ⟨n, hn'⟩ : ∃ n, acts.length = n := ⟨_, rfl⟩
  have HN := Lib.hid hn'
  obtain ⟨T, hT⟩ : ∃ T, touched acts (a, b, c, d, e) = T := ⟨_, rfl⟩
  have HT := Lib.hid hT
  rw [hn'] at hn ⊢
  rw [hT]
  generalize os.length = no at *
  clear hr hn' hT hne hl
  go_enter Tryd.func54, Tryd.ntmps54
  go_wp2_with fail
  refine (HBE.out _ (by go_grown)).mono ?_
  rintro rr w1 ⟨rfl, hb1⟩
  have hz1 : w.heap.size + 1 < w1.heap.size := by have := hb1.size; simp at this; omega
  have hS1 : w1.heap[w.heap.size]? = some (.cells #[.slice x y z, .slice aa n ac] 31 (0, 0)) := (hb1.block _ (by simp; omega)).trans (heap_alloc2_old _ _ _)
  have hF1 : w1.heap[w.heap.size + 1]? = some (.cells #[.int .i64 a, .int .i64 b, .int .i64 c, .int .i64 d, .int .i64 e, .slice av no cap] 54 (0, 0)) := (hb1.block _ (by simp)).trans (heap_alloc2_new _ _ _)
  have HB1 : Hid (Below w.heap.size w w1) := below_step (by go_grown) hb1
  have H1 := Lib.hid (And.intro hS1 hF1)
  clear hS1 hF1 hb1
  go_wp2
  go_loopw [6, 7, 8] (fun u s i wr => ∃ (k : Nat), k ≤ n ∧ i = .int .i64 (k : Int) ∧ u = .int .i64 ((corr (acts.take k) (a, b, c, d, e)).getD B) ∧ s = .bool (touched (acts.take k) (a, b, c, d, e)) ∧ wr.heap[w.heap.size]? = some (.cells #[.slice x y z, .slice aa n ac] 31 (0, 0)) ∧ wr.heap[w.heap.size + 1]? = some (.cells #[.int .i64 a, .int .i64 b, .int .i64 c, .int .i64 d, .int .i64 e, .slice av no cap] 54 (0, 0)) ∧ Below w.heap.size w wr)
    (fun u s i wr => n - (intOf i).toNat)
  case atStart => exact ⟨0, Nat.zero_le _, rfl, rfl, rfl, H1.out.1, H1.out.2, HB1.out⟩
  case round =>
    obtain ⟨k, hkn, rfl, rfl, rfl, hs, hf, hB⟩ := hrel
    have HSS := Lib.hid hs
    have HF := Lib.hid hf
    have HB := Lib.hid hB
    have s1 : wr.cell? ⟨w.heap.size, 1, none⟩ = some (.slice aa n ac) := by rw [cell_of_row _ _ _ _ _ _ hs]; rfl
    have f0 : wr.cell? ⟨w.heap.size + 1, 0, none⟩ = some (.int .i64 a) := by rw [cell_of_row _ _ _ _ _ _ hf]; rfl
    have f1 : wr.cell? ⟨w.heap.size + 1, 1, none⟩ = some (.int .i64 b) := by rw [cell_of_row _ _ _ _ _ _ hf]; rfl
    have f2 : wr.cell? ⟨w.heap.size + 1, 2, none⟩ = some (.int .i64 c) := by rw [cell_of_row _ _ _ _ _ _ hf]; rfl
    have f3 : wr.cell? ⟨w.heap.size + 1, 3, none⟩ = some (.int .i64 d) := by rw [cell_of_row _ _ _ _ _ _ hf]; rfl
    have f4 : wr.cell? ⟨w.heap.size + 1, 4, none⟩ = some (.int .i64 e) := by rw [cell_of_row _ _ _ _ _ _ hf]; rfl
    by_cases hk : k < n
    · have hkf : k < acts.length := by rw [HN.out]; exact hk
      obtain ⟨bf, off, rfl, hb1, hb2, hc⟩ := HR.out (by rw [HN.out]; omega)
      have hcw : ∀ j u, (acV (acAt acts k))[j]? = some u → wr.cell? ⟨bf, off + k * 7 + j, none⟩ = some u := fun j u hu => (hB.cell (p := ⟨bf, off + k * 7 + j, none⟩) (show bf < w.heap.size by omega)).trans (hc k hkf j u hu)
      have htk : acts.take (k + 1) = acts.take k ++ [acAt acts k] := by rw [take_snoc hkf, acAt_get hkf]
      have HC1 := Lib.hid (show corr (acts.take (k + 1)) (a, b, c, d, e) = _ from (congrArg (fun l => corr l (a, b, c, d, e)) htk).trans (corr_snoc _ _ _))
      have HT1 := Lib.hid (show touched (acts.take (k + 1)) (a, b, c, d, e) = _ from (congrArg (fun l => touched l (a, b, c, d, e)) htk).trans (touched_snoc _ _ _))
      generalize corr (acts.take k) (a, b, c, d, e) = CK at *
      generalize touched (acts.take k) (a, b, c, d, e) = TK at *
      generalize acAt acts k = A at *
      obtain ⟨kd, ⟨q1, q2, q3, q4, q5⟩, av2⟩ := A
      have c0 := hcw 0 _ rfl
      have c1 := hcw 1 _ rfl
      have c2 := hcw 2 _ rfl
      have c3 := hcw 3 _ rfl
      have c4 := hcw 4 _ rfl
      have c5 := hcw 5 _ rfl
      have c6 := hcw 6 _ rfl
      simp only [Nat.add_zero] at c0
      have hk0 : (0 : Int) ≤ k := by omega
      have hk1 : (k : Int) < n := by omega
      have hk2 : (k : Int) ≤ 100000 := by omega
      clear hc hcw hB hs hf htk
      by_cases hp : (q1, q2, q3, q4, q5) = (a, b, c, d, e)
      · have he : ∀ w, (Op.equalIn 10000 26 (.agg #[.int .i64 q1, .int .i64 q2, .int .i64 q3, .int .i64 q4, .int .i64 q5]) (.agg #[.int .i64 a, .int .i64 b, .int .i64 c, .int .i64 d, .int .i64 e])).run Tryd.prog w = .ok true w := fun w => by rw [ein_pl, decide_eq_true hp]
        have HT2 : Hid (touched (acts.take (k + 1)) (a, b, c, d, e) = true) := by
          show touched _ _ = true
          rw [HT1.out, decide_eq_true hp, Bool.or_true]
        by_cases hk : kd = 1
        · have HC2 : Hid (corr (acts.take (k + 1)) (a, b, c, d, e) = some av2) := HC1.out.trans (if_pos ⟨hp, hk⟩)
          subst hk
          clear hp
          go_wp2_with fail
          go_quiet (fail)
          go_wp2
          go_roundw
          case rel => exact ⟨k + 1, by omega, by go_num, by rw [HC2.out]; rfl, by rw [HT2.out], HSS.out, HF.out, below_drewN HB.out _⟩
          case measure => simp [intOf]; omega
        · have HC2 : Hid (corr (acts.take (k + 1)) (a, b, c, d, e) = CK) := HC1.out.trans (if_neg (fun x => hk x.2))
          clear hp
          go_wp2_with fail
          go_quiet (fail)
          go_wp2
          go_roundw
          case rel => exact ⟨k + 1, by omega, by go_num, by rw [HC2.out], by rw [HT2.out], HSS.out, HF.out, below_drewN HB.out _⟩
          case measure => simp [intOf]; omega
      · have he : ∀ w, (Op.equalIn 10000 26 (.agg #[.int .i64 q1, .int .i64 q2, .int .i64 q3, .int .i64 q4, .int .i64 q5]) (.agg #[.int .i64 a, .int .i64 b, .int .i64 c, .int .i64 d, .int .i64 e])).run Tryd.prog w = .ok false w := fun w => by rw [ein_pl, decide_eq_false hp]
        have HT2 : Hid (touched (acts.take (k + 1)) (a, b, c, d, e) = TK) := by
          show touched _ _ = TK
          rw [HT1.out, decide_eq_false hp, Bool.or_false]
        have HC2 : Hid (corr (acts.take (k + 1)) (a, b, c, d, e) = CK) := HC1.out.trans (if_neg (fun x => hp x.1))
        clear hp
        go_wp2_with fail
        go_quiet (fail)
        go_wp2
        go_roundw
        case rel => exact ⟨k + 1, by omega, by go_num, by rw [HC2.out], by rw [HT2.out], HSS.out, HF.out, below_drewN HB.out _⟩
        case measure => simp [intOf]; omega
    · obtain rfl : k = n := by omega
      have hta : acts.take k = acts := by rw [← HN.out, List.take_length]
      rw [hta, HT.out, ← HP.out]
      clear hs hf hB hta
      go_wp2
      go_ret2
      exact ⟨rfl, HB.out⟩
set_option maxHeartbeats 1000000 in
theorem rValue_c (vf va : Value) (fs : List Ft) (acts : List Ac) (lo hi alo ahi : Nat) (a b c d e : Int) (w : World) (h : FeatsAt w lo hi vf fs) (hh : hi ≤ w.heap.size) (hA : ActsAt w alo ahi va acts) (hah : ahi ≤ w.heap.size) (hg : Good fs) (hw : wfFs fs) (hn : acts.length ≤ 100000) :
    Calls Tryd.prog 40 #[.agg #[vf, va], .agg #[.int .i64 a, .int .i64 b, .int .i64 c, .int .i64 d, .int .i64 e]] w fun r w' => r = .returned (.tuple #[.int .i64 (valE fs acts (a, b, c, d, e)).1, .int .i64 (valE fs acts (a, b, c, d, e)).2]) ∧ Below w.heap.size w w' := by
  have HA := Lib.hid hA
  obtain ⟨aa, ac, rfl, -, -⟩ := hA
  have HAT := Lib.hid fun W (hb : Below w.heap.size w W) => rAt_c vf aa acts.length ac fs lo hi a b c d e W (h.move (Same.of_below (hb.mono hh))) (Nat.le_trans hh hb.size) hg.len
  obtain ⟨fa, fc, vs, rfl, -, hr, ho⟩ := h
  have HR := Lib.hid hr
  have HO := Lib.hid ho
  have HVE : Hid (valE fs acts (a, b, c, d, e) = match atF fs (a, b, c, d, e) with | none => (0, 82) | some i => (pres acts (ftAt fs i), 0)) := rfl
  have HAS : Hid (∀ i, atF fs (a, b, c, d, e) = some i → i < fs.length) := fun i x => (atF_some x).1
  unfold atI at HAT
  generalize valE fs acts (a, b, c, d, e) = V at *
  generalize hat : atF fs (a, b, c, d, e) = at1 at *
  obtain ⟨na, hna⟩ : ∃ na, acts.length = na := ⟨_, rfl⟩
  rw [hna] at HAT HA ⊢
  clear hat hr ho
  cases at1 with
  | none =>
    have hv : V = (0, 82) := HVE.out
    subst hv
    go_enter Tryd.func40, Tryd.ntmps40
    go_wp2_with fail
    refine (HAT.out _ (by go_grown)).mono ?_
    rintro rr w1 ⟨rfl, hb1⟩
    have HB1 : Hid (Below w.heap.size w w1) := below_step (by go_grown) hb1
    clear hb1
    go_wp2
    go_ret2
    exact ⟨rfl, HB1.out⟩
  | some i =>
    have hif := HAS.out i rfl
    have hv : V = (pres acts (ftAt fs i), 0) := HVE.out
    have hi0 : (0 : Int) ≤ (i : Int) := by omega
    have hi1 : (i : Int) < (fs.length : Int) := by omega
    have hi2 : (i : Int) ≤ 20000 := by have := hg.len; omega
    obtain ⟨bf, off, hfa, hb1, hb2, hcf⟩ := HR.out (by omega)
    subst hfa
    have hcf' : ∀ j u, (ftV (ftAt fs i).1 (vs i))[j]? = some u → w.cell? ⟨bf, off + i * 6 + j, none⟩ = some u := fun j u hu => hcf i hif j u hu
    have hop := HO.out i hif
    have hwo := (hw _ (ftAt_mem hif)).2.2
    have hne := hg.some _ (ftAt_mem hif)
    generalize ftAt fs i = f at *
    obtain ⟨⟨q1, q2, q3, q4, q5⟩, os⟩ := f
    have HPR := Lib.hid fun W (hb : Below w.heap.size w W) => rPresent_c (some ⟨bf, off, none⟩) fs.length fc (.slice aa na ac) acts alo ahi q1 q2 q3 q4 q5 (vs i) os lo hi W (hop.move (Same.of_below (hb.mono hh))) (Nat.le_trans hh hb.size) hwo hne (HA.out.move (Same.of_below (hb.mono hah))) (Nat.le_trans hah hb.size) hn
    obtain ⟨oa, oc, hvo, -, -⟩ := hop
    rw [hvo] at hcf' HPR
    have c0 := hcf' 0 _ rfl
    have c1 := hcf' 1 _ rfl
    have c2 := hcf' 2 _ rfl
    have c3 := hcf' 3 _ rfl
    have c4 := hcf' 4 _ rfl
    have c5 := hcf' 5 _ rfl
    simp only [Nat.add_zero] at c0
    have hbf : bf < w.heap.size := by omega
    generalize pres acts ((q1, q2, q3, q4, q5), os) = X at *
    generalize touched acts (q1, q2, q3, q4, q5) = T at *
    subst hv
    clear hcf hcf' hwo hne hvo hg hw
    go_enter Tryd.func40, Tryd.ntmps40
    go_wp2_with fail
    refine (HAT.out _ (by go_grown)).mono ?_
    rintro rr w1 ⟨rfl, hb1⟩
    have hS1 : w1.heap[w.heap.size]? = some (.cells #[.slice (some ⟨bf, off, none⟩) fs.length fc, .slice aa na ac] 31 (0, 0)) := (hb1.block _ (by simp; omega)).trans (heap_alloc2_old _ _ _)
    have hB1 : Below w.heap.size w w1 := below_step (by go_grown) hb1
    have s0 : w1.cell? ⟨w.heap.size, 0, none⟩ = some (.slice (some ⟨bf, off, none⟩) fs.length fc) := by rw [cell_of_row _ _ _ _ _ _ hS1]; rfl
    have s1 : w1.cell? ⟨w.heap.size, 1, none⟩ = some (.slice aa na ac) := by rw [cell_of_row _ _ _ _ _ _ hS1]; rfl
    have d0 := (hB1.cell (p := ⟨bf, off + i * 6, none⟩) hbf).trans c0
    have d1 := (hB1.cell (p := ⟨bf, off + i * 6 + 1, none⟩) hbf).trans c1
    have d2 := (hB1.cell (p := ⟨bf, off + i * 6 + 2, none⟩) hbf).trans c2
    have d3 := (hB1.cell (p := ⟨bf, off + i * 6 + 3, none⟩) hbf).trans c3
    have d4 := (hB1.cell (p := ⟨bf, off + i * 6 + 4, none⟩) hbf).trans c4
    have d5 := (hB1.cell (p := ⟨bf, off + i * 6 + 5, none⟩) hbf).trans c5
    have y1 : w.heap.size < w1.heap.size := by have := hb1.size; simp at this; omega
    have y2 : bf < w1.heap.size := by omega
    have HB1 := Lib.hid hB1
    clear hb1 hS1 hB1 c0 c1 c2 c3 c4 c5
    go_wp2_with fail
    have HSC : Hid (∀ w', Bw w1 w' → (w'.cell? ⟨w.heap.size, 0, none⟩ = some (.slice (some ⟨bf, off, none⟩) fs.length fc) ∧ w'.cell? ⟨w.heap.size, 1, none⟩ = some (.slice aa na ac) ∧ w'.cell? ⟨bf, off + i * 6, none⟩ = some (.int .i64 q1) ∧ w'.cell? ⟨bf, off + i * 6 + 1, none⟩ = some (.int .i64 q2) ∧ w'.cell? ⟨bf, off + i * 6 + 2, none⟩ = some (.int .i64 q3) ∧ w'.cell? ⟨bf, off + i * 6 + 3, none⟩ = some (.int .i64 q4) ∧ w'.cell? ⟨bf, off + i * 6 + 4, none⟩ = some (.int .i64 q5) ∧ w'.cell? ⟨bf, off + i * 6 + 5, none⟩ = some (.slice oa os.length oc) ∧ Bw w1 w')) := fun w' hb =>
      ⟨(hb.cell (p := ⟨w.heap.size, 0, none⟩) y1).trans s0, (hb.cell (p := ⟨w.heap.size, 1, none⟩) y1).trans s1, (hb.cell (p := ⟨bf, _, none⟩) y2).trans d0, (hb.cell (p := ⟨bf, _, none⟩) y2).trans d1, (hb.cell (p := ⟨bf, _, none⟩) y2).trans d2, (hb.cell (p := ⟨bf, _, none⟩) y2).trans d3, (hb.cell (p := ⟨bf, _, none⟩) y2).trans d4, (hb.cell (p := ⟨bf, _, none⟩) y2).trans d5, hb⟩
    go_region_held3 (fun w' => w'.cell? ⟨w.heap.size, 0, none⟩ = some (.slice (some ⟨bf, off, none⟩) fs.length fc) ∧ w'.cell? ⟨w.heap.size, 1, none⟩ = some (.slice aa na ac) ∧ w'.cell? ⟨bf, off + i * 6, none⟩ = some (.int .i64 q1) ∧ w'.cell? ⟨bf, off + i * 6 + 1, none⟩ = some (.int .i64 q2) ∧ w'.cell? ⟨bf, off + i * 6 + 2, none⟩ = some (.int .i64 q3) ∧ w'.cell? ⟨bf, off + i * 6 + 3, none⟩ = some (.int .i64 q4) ∧ w'.cell? ⟨bf, off + i * 6 + 4, none⟩ = some (.int .i64 q5) ∧ w'.cell? ⟨bf, off + i * 6 + 5, none⟩ = some (.slice oa os.length oc) ∧ Bw w1 w')
      ((refine HSC.out _ ?_; with_reducible (first | exact Bw.drew _ | assumption)))
      ((go_at_call 54; refine (HPR.out _ (below_drewN HB1.out 1)).mono ?_; rintro rr w3 ⟨rfl, hb3⟩; have hBw3 : Bw w1 w3 := below_step (Bw.drew _) hb3; clear hb3))
    all_goals
      have hBw := (by assumption : Bw w1 _)
      go_wp2
      go_ret2
      exact ⟨rfl, HB1.out.trans (hBw.mono HB1.out.size)⟩
end Go.Proofs.YtpcefaccoifejaaDoor
