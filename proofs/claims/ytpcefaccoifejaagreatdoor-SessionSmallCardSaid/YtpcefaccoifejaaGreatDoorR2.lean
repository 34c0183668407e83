/-
  Contracts of present and Value of custosref13. Conditions: what is read lies in memory as SW says; lists are not too long; features have options.
-/
import Derived.Test.YtpcefaccoifejaaGreatDoorR1
import Derived.Test.YtpcefaccoifejaaGreatDoorKC
namespace Go.Proofs.YtpcefaccoifejaaGreatDoor
open Go.RowKit Go.Maps
set_option linter.unusedSimpArgs false
set_option linter.unusedVariables false
set_option maxRecDepth 100000

set_option maxHeartbeats 2000000 in
theorem rPresent_c (x : Option Addr) (y z : Nat) (va : Value) (acts : List Ac) (alo ahi : Nat) (a b c d e : Int) (v : Value) (os : List Opt) (lo hi : Nat) (w : World) (h : OptsAt w lo hi v os) (hh : hi ≤ w.heap.size) (hl : os.length ≤ 1000000) (hne : os ≠ [])
    (ha : ActsAt w alo ahi va acts) (hah : ahi ≤ w.heap.size) (hn : acts.length ≤ 100000) :
    Calls Tryz.prog 48 #[.agg #[.slice x y z, va], .agg #[.int .i64 a, .int .i64 b, .int .i64 c, .int .i64 d, .int .i64 e, v]] w fun r w' => r = .returned (.tuple #[.int .i64 (pres acts ((a, b, c, d, e), os)), .bool (touched acts (a, b, c, d, e))]) ∧ Below w.heap.size w w' := by
  have HBE := Lib.hid fun W (hb : Below w.heap.size w W) => rBest_c a b c d e v os lo hi W (h.move (Same.of_below (hb.mono hh))) (Nat.le_trans hh hb.size) hl hne
  obtain ⟨av, cap, rfl, -, -⟩ := h
  obtain ⟨aa, ac, rfl, -, hr⟩ := ha
  have HR := Lib.hid hr
  have HP : Hid (pres acts ((a, b, c, d, e), os) = (corr acts (a, b, c, d, e)).getD (best os)) := rfl
  generalize pres acts ((a, b, c, d, e), os) = X at *
  generalize best os = B at *
  obtain ⟨n, hn'⟩ : ∃ n, acts.length = n := ⟨_, rfl⟩
  have HN := Lib.hid hn'
  obtain ⟨T, hT⟩ : ∃ T, touched acts (a, b, c, d, e) = T := ⟨_, rfl⟩
  have HT := Lib.hid hT
  rw [hn'] at hn ⊢
  rw [hT]
  generalize os.length = no at *
  clear hr hn' hT hne hl
  go_enter Tryz.func48, Tryz.ntmps48
  go_wp2_with fail
  refine (HBE.out _ (by go_grown)).mono ?_
  rintro rr w1 ⟨rfl, hb1⟩
  have hz1 : w.heap.size + 1 < w1.heap.size := by have := hb1.size; simp at this; omega
  have hS1 : w1.heap[w.heap.size]? = some (.cells #[.slice x y z, .slice aa n ac] 52 (0, 0)) := (hb1.block _ (by simp; omega)).trans (heap_alloc2_old _ _ _)
  have hF1 : w1.heap[w.heap.size + 1]? = some (.cells #[.int .i64 a, .int .i64 b, .int .i64 c, .int .i64 d, .int .i64 e, .slice av no cap] 47 (0, 0)) := (hb1.block _ (by simp)).trans (heap_alloc2_new _ _ _)
  have HB1 : Hid (Below w.heap.size w w1) := below_step (by go_grown) hb1
  have H1 := Lib.hid (And.intro hS1 hF1)
  clear hS1 hF1 hb1
  go_wp2
  go_loopw [6, 7, 8] (fun u s i wr => ∃ (k : Nat), k ≤ n ∧ i = .int .i64 (k : Int) ∧ u = .int .i64 ((corr (acts.take k) (a, b, c, d, e)).getD B) ∧ s = .bool (touched (acts.take k) (a, b, c, d, e)) ∧ wr.heap[w.heap.size]? = some (.cells #[.slice x y z, .slice aa n ac] 52 (0, 0)) ∧ wr.heap[w.heap.size + 1]? = some (.cells #[.int .i64 a, .int .i64 b, .int .i64 c, .int .i64 d, .int .i64 e, .slice av no cap] 47 (0, 0)) ∧ Below w.heap.size w wr)
    (fun u s i wr => n - (intOf i).toNat)
  case atStart => exact ⟨0, Nat.zero_le _, rfl, rfl, rfl, H1.out.1, H1.out.2, HB1.out⟩
  case round =>
    obtain ⟨k, hkn, rfl, rfl, rfl, hs, hf, hB⟩ := hrel
    have HSS := Lib.hid hs
    have HF := Lib.hid hf
    have HB := Lib.hid hB
    have s1 : wr.cell? ⟨w.heap.size, 1, none⟩ = some (.slice aa n ac) := by rw [cell_of_row _ _ _ _ _ _ hs]; rfl
    have f0 : wr.cell? ⟨w.heap.size + 1, 0, none⟩ = some (.int .i64 a) := by rw [cell_of_row _ _ _ _ _ _ hf]; rfl
    have f1 : wr.cell? ⟨w.heap.size + 1, 1, none⟩ = some (.int .i64 b) := by rw [cell_of_row _ _ _ _ _ _ hf]; rfl
    have f2 : wr.cell? ⟨w.heap.size + 1, 2, none⟩ = some (.int .i64 c) := by rw [cell_of_row _ _ _ _ _ _ hf]; rfl
    have f3 : wr.cell? ⟨w.heap.size + 1, 3, none⟩ = some (.int .i64 d) := by rw [cell_of_row _ _ _ _ _ _ hf]; rfl
    have f4 : wr.cell? ⟨w.heap.size + 1, 4, none⟩ = some (.int .i64 e) := by rw [cell_of_row _ _ _ _ _ _ hf]; rfl
    by_cases hk : k < n
    · have hkf : k < acts.length := by rw [HN.out]; exact hk
      obtain ⟨bf, off, rfl, hb1, hb2, hc⟩ := HR.out (by rw [HN.out]; omega)
      have hcw : ∀ j u, (acV (acAt acts k))[j]? = some u → wr.cell? ⟨bf, off + k * 7 + j, none⟩ = some u := fun j u hu => (hB.cell (p := ⟨bf, off + k * 7 + j, none⟩) (show bf < w.heap.size by omega)).trans (hc k hkf j u hu)
      have htk : acts.take (k + 1) = acts.take k ++ [acAt acts k] := by rw [take_snoc hkf, acAt_get hkf]
      have HC1 := Lib.hid (show corr (acts.take (k + 1)) (a, b, c, d, e) = _ from (congrArg (fun l => corr l (a, b, c, d, e)) htk).trans (corr_snoc _ _ _))
      have HT1 := Lib.hid (show touched (acts.take (k + 1)) (a, b, c, d, e) = _ from (congrArg (fun l => touched l (a, b, c, d, e)) htk).trans (touched_snoc _ _ _))
      generalize corr (acts.take k) (a, b, c, d, e) = CK at *
      generalize touched (acts.take k) (a, b, c, d, e) = TK at *
      generalize acAt acts k = A at *
      obtain ⟨kd, ⟨q1, q2, q3, q4, q5⟩, av2⟩ := A
      have c0 := hcw 0 _ rfl
      have c1 := hcw 1 _ rfl
      have c2 := hcw 2 _ rfl
      have c3 := hcw 3 _ rfl
      have c4 := hcw 4 _ rfl
      have c5 := hcw 5 _ rfl
      have c6 := hcw 6 _ rfl
      simp only [Nat.add_zero] at c0
      have hk0 : (0 : Int) ≤ k := by omega
      have hk1 : (k : Int) < n := by omega
      have hk2 : (k : Int) ≤ 100000 := by omega
      clear hc hcw hB hs hf htk
      by_cases hp : (q1, q2, q3, q4, q5) = (a, b, c, d, e)
      · have he : ∀ w, (Op.equalIn 10000 44 (.agg #[.int .i64 q1, .int .i64 q2, .int .i64 q3, .int .i64 q4, .int .i64 q5]) (.agg #[.int .i64 a, .int .i64 b, .int .i64 c, .int .i64 d, .int .i64 e])).run Tryz.prog w = .ok true w := fun w => by rw [ein_pl, decide_eq_true hp]
        have HT2 : Hid (touched (acts.take (k + 1)) (a, b, c, d, e) = true) := by
          show touched _ _ = true
          rw [HT1.out, decide_eq_true hp, Bool.or_true]
        by_cases hk : kd = 1
        · have HC2 : Hid (corr (acts.take (k + 1)) (a, b, c, d, e) = some av2) := HC1.out.trans (if_pos ⟨hp, hk⟩)
          subst hk
          clear hp
          go_wp2_with fail
          go_quiet (fail)
          go_wp2
          go_roundw
          case rel => exact ⟨k + 1, by omega, by go_num, by rw [HC2.out]; rfl, by rw [HT2.out], HSS.out, HF.out, below_drewN HB.out _⟩
          case measure => simp [intOf]; omega
        · have HC2 : Hid (corr (acts.take (k + 1)) (a, b, c, d, e) = CK) := HC1.out.trans (if_neg (fun x => hk x.2))
          clear hp
          go_wp2_with fail
          go_quiet (fail)
          go_wp2
          go_roundw
          case rel => exact ⟨k + 1, by omega, by go_num, by rw [HC2.out], by rw [HT2.out], HSS.out, HF.out, below_drewN HB.out _⟩
          case measure => simp [intOf]; omega
      · have he : ∀ w, (Op.equalIn 10000 44 (.agg #[.int .i64 q1, .int .i64 q2, .int .i64 q3, .int .i64 q4, .int .i64 q5]) (.agg #[.int .i64 a, .int .i64 b, .int .i64 c, .int .i64 d, .int .i64 e])).run Tryz.prog w = .ok false w := fun w => by rw [ein_pl, decide_eq_false hp]
        have HT2 : Hid (touched (acts.take (k + 1)) (a, b, c, d, e) = TK) := by
          show touched _ _ = TK
          rw [HT1.out, decide_eq_false hp, Bool.or_false]
        have HC2 : Hid (corr (acts.take (k + 1)) (a, b, c, d, e) = CK) := HC1.out.trans (if_neg (fun x => hp x.1))
        clear hp
        go_wp2_with fail
        go_quiet (fail)
        go_wp2
        go_roundw
        case rel => exact ⟨k + 1, by omega, by go_num, by rw [HC2.out], by rw [HT2.out], HSS.out, HF.out, below_drewN HB.out _⟩
        case measure => simp [intOf]; omega
    · obtain rfl : k = n := by omega
      have hta : acts.take k = acts := by rw [← HN.out, List.take_length]
      rw [hta, HT.out, ← HP.out]
      clear hs hf hB hta
      go_wp2
      go_ret2
      exact ⟨rfl, HB.out⟩
end Go.Proofs.YtpcefaccoifejaaGreatDoor
