/-
  Contracts of slices.MinFunc at options and of session's best. Conditions: what is read lies in memory as SW says; there is an option; misses are within their bounds.
-/
import Derived.Test.YtpcefaccoifejaaGreatDoorK11
namespace Go.Proofs.YtpcefaccoifejaaGreatDoor
open Go.RowKit Go.Maps
set_option linter.unusedSimpArgs false
set_option linter.unusedVariables false
set_option maxRecDepth 100000

theorem best1_c (x y x' y' : Int) (w : World) (h0 : 0 ≤ y ∧ y ≤ 10000) (h1 : 0 ≤ y' ∧ y' ≤ 10000) :
    Calls Tryz.prog 71 #[.agg #[.int .i64 x, .int .i64 y], .agg #[.int .i64 x', .int .i64 y']] w fun e w' => e = .returned (.int .i64 (y - y')) ∧ Below w.heap.size w w' := by
  obtain ⟨h0a, h0b⟩ := h0
  obtain ⟨h1a, h1b⟩ := h1
  go_enter Tryz.func71, Tryz.ntmps71
  go_wp2
  go_ret
  exact ⟨by first | rfl | (congr 3; go_num), by go_grown⟩
def bestO : List Opt → Opt
  | [] => (0, 0)
  | o :: r => bestGo o r
theorem best_eq : ∀ os : List Opt, best os = (bestO os).1
  | [] => rfl
  | _ :: _ => rfl
theorem opt_drop {os : List Opt} {k : Nat} (h : k < os.length) : os.drop k = optAt os k :: os.drop (k + 1) := by
  rw [optAt_get h]
  exact List.drop_eq_getElem_cons h
theorem Sk_set {W w2 : World} (h : Sk W w2) {a : Addr} (ha : W.heap.size ≤ a.block) (u : Value) : Sk W (w2.setCell a u) := Sk_of (h.2.setCell ha u)
set_option maxHeartbeats 1000000 in
theorem MinFunc_c (v : Value) (os : List Opt) (lo hi : Nat) (w : World) (h : OptsAt w lo hi v os) (hh : hi ≤ w.heap.size) (hl : os.length ≤ 1000000) (hne : os ≠ []) (hm : ∀ o ∈ os, 0 ≤ o.2 ∧ o.2 ≤ 10000) :
    Calls Tryz.prog 70 #[v, .func (.func 71) #[] #[]] w fun e w' => e = .returned (.agg #[.int .i64 (bestO os).1, .int .i64 (bestO os).2]) ∧ Below w.heap.size w w' := by
  obtain ⟨a, cap, rfl, -, hr⟩ := h
  have hpos : 0 < os.length := List.length_pos_iff.2 hne
  obtain ⟨b, off, rfl, hb1, hb2, hc⟩ := hr hpos
  have HC : Hid (∀ W, Below w.heap.size w W → ∀ k, k < os.length → W.cell? ⟨b, off + k * 2, none⟩ = some (.int .i64 (optAt os k).1) ∧ W.cell? ⟨b, off + k * 2 + 1, none⟩ = some (.int .i64 (optAt os k).2)) := fun W hB k hk =>
    ⟨(hB.cell (p := ⟨b, _, none⟩) (show b < _ by omega)).trans (hc k hk 0 _ rfl), (hB.cell (p := ⟨b, _, none⟩) (show b < _ by omega)).trans (hc k hk 1 _ rfl)⟩
  have HM : Hid (∀ k, k < os.length → 0 ≤ (optAt os k).2 ∧ (optAt os k).2 ≤ 10000) := fun k hk => hm _ (optAt_mem hk)
  have HB0 : Hid (bestO os = bestGo (optAt os 0) (os.drop 1)) := by
    cases os with
    | nil => exact absurd rfl hne
    | cons o r => rfl
  obtain ⟨n, hn⟩ : ∃ n, os.length = n := ⟨_, rfl⟩
  have HN := Lib.hid hn
  have HD : Hid (∀ k, k < n → os.drop k = optAt os k :: os.drop (k + 1)) := fun k hk => opt_drop (by omega)
  have HE : Hid (os.drop n = []) := by rw [← hn]; exact List.drop_length
  rw [hn] at hl hpos ⊢
  have c0 := (HC.out w (Below.refl _ _) 0 (by omega)).1
  have c1 := (HC.out w (Below.refl _ _) 0 (by omega)).2
  simp only [Nat.zero_mul, Nat.add_zero] at c0 c1
  have hn0 : (0 : Int) < n := by omega
  have hn1 : (1 : Int) ≤ n := by omega
  have hbw : b < w.heap.size := by omega
  obtain ⟨R, hR⟩ : ∃ R, bestO os = R := ⟨_, rfl⟩
  have HR := Lib.hid hR
  rw [hR]
  have HB1 := Lib.hid (HB0.out.symm.trans hR)
  have HM0 := HM.out 0 (by omega)
  generalize hq0 : optAt os 0 = q0 at *
  obtain ⟨x0, y0⟩ := q0
  obtain ⟨rx, ry⟩ := R
  clear hr hc hn hR hm hne HB0
  have HMM := Lib.hid HM0
  clear HM0 hq0
  go_enter Tryz.func70, Tryz.ntmps70
  go_wp2
  go_loopw [6] (fun i wr => ∃ (k : Nat) (x y : Int), 1 ≤ k ∧ k ≤ n ∧ i = .int .i64 (k : Int) ∧ (0 ≤ y ∧ y ≤ 10000) ∧ bestGo (x, y) (os.drop k) = (rx, ry) ∧ wr.heap[w.heap.size + 1]? = some (.cells #[.int .i64 x, .int .i64 y] 41 (0, 0)) ∧
      (∃ u v, wr.heap[w.heap.size]? = some (.cells #[u, v] 41 (0, 0))) ∧ Below w.heap.size w wr)
    (fun i wr => n - (intOf i).toNat)
  case atStart =>
    refine ⟨1, x0, y0, Nat.le_refl _, hpos, rfl, HMM.out, HB1.out, ?_, ⟨.int .i64 0, .int .i64 0, ?_⟩, by go_grown⟩
    · first | exact heap_alloc2_new w _ _ | go_simp
    · first | exact heap_alloc2_old w _ _ | go_simp
  case round =>
    obtain ⟨k, x, y, hk1, hkn, rfl, hy, hbg, hblk, ⟨u, v, hblk0⟩, hB⟩ := hrel
    have HY := Lib.hid hy
    have HBG := Lib.hid hbg
    have HBLK := Lib.hid hblk
    have HBLK0 := Lib.hid hblk0
    have m0 : wr.cell? ⟨w.heap.size + 1, 0, none⟩ = some (.int .i64 x) := by rw [cell_of_row _ _ _ _ _ _ hblk]; rfl
    have m1 : wr.cell? ⟨w.heap.size + 1, 1, none⟩ = some (.int .i64 y) := by rw [cell_of_row _ _ _ _ _ _ hblk]; rfl
    have hlt1 : w.heap.size + 1 < wr.heap.size := (Array.getElem?_eq_some_iff.1 hblk).1
    clear c0 c1 hy hbg hblk hblk0
    by_cases hk : k < n
    · have d0 := (HC.out wr hB k (by rw [HN.out]; exact hk)).1
      have d1 := (HC.out wr hB k (by rw [HN.out]; exact hk)).2
      have HMk := HM.out k (by rw [HN.out]; exact hk)
      have hdk := HD.out k hk
      have hbk := HBG.out
      rw [hdk] at hbk
      generalize optAt os k = q at *
      obtain ⟨x1, y1⟩ := q
      have HBK : Hid (bestGo (if y1 < y then (x1, y1) else (x, y)) (os.drop (k + 1)) = (rx, ry)) := hbk
      have HCL := Lib.hid fun W => best1_c x1 y1 x y W HMk HY.out
      have hk0 : (0 : Int) ≤ k := by omega
      have hkn' : (k : Int) < n := by omega
      have hbwr : b < wr.heap.size := by omega
      have hs := hB.size
      have HB := Lib.hid hB
      have HMKH := Lib.hid HMk
      clear hdk hbk HMk hB
      go_wp2_with fail
      go_region_held3 (fun w' => Sk wr w') (first | assumption | exact Sk_drew _ | with_reducible exact Sk_call (by assumption) (by assumption))
        ((go_at_call 71; refine (HCL.out _).mono ?_; rintro rr w3 ⟨rfl, hb3⟩))
      have hSk := (by assumption : Sk wr w3)
      have hblk3 := (hSk.2.block _ hlt1).trans HBLK.out
      have hblk03 := (hSk.2.block _ (by omega)).trans HBLK0.out
      have HB3 := Lib.hid (HB.out.trans (hSk.2.mono hs))
      by_cases hyy : y1 < y
      · have hlt : y1 - y < 0 := by omega
        have hbg := HBK.out
        rw [if_pos hyy] at hbg
        have HBG2 := Lib.hid hbg
        have fz0 : w3.frozen? ⟨w.heap.size + 1, 0, none⟩ = false := frozen_of_row _ _ _ _ _ hblk3
        have fz1 : w3.frozen? ⟨w.heap.size + 1, 1, none⟩ = false := frozen_of_row _ _ _ _ _ hblk3
        have H3 := Lib.hid (And.intro hblk3 hblk03)
        clear hSk hblk3 hblk03 hbg hyy
        go_wp2
        go_roundw
        case rel =>
          refine ⟨k + 1, x1, y1, by omega, by omega, by go_num, HMKH.out, HBG2.out, ?_, ⟨u, v, ?_⟩, ?_⟩
          · rw [heap_setCell_same _ _ _ _ _ _ (heap_setCell_same _ _ _ _ _ _ H3.out.1)]; rfl
          · exact (Below.heap_setCell _ _ _ _ (by simp)).trans ((Below.heap_setCell _ _ _ _ (by simp)).trans H3.out.2)
          · exact (HB3.out.setCell (p := ⟨w.heap.size + 1, 0, none⟩) (Nat.le_succ _) _).setCell (p := ⟨w.heap.size + 1, 1, none⟩) (Nat.le_succ _) _
        case measure => simp [intOf]; omega
      · have hlt : 0 ≤ y1 - y := by omega
        have hbg := HBK.out
        rw [if_neg hyy] at hbg
        have HBG2 := Lib.hid hbg
        have H3 := Lib.hid (And.intro hblk3 hblk03)
        clear hSk hblk3 hblk03 hbg hyy
        go_wp2
        go_roundw
        case rel => exact ⟨k + 1, x, y, by omega, by omega, by go_num, HY.out, HBG2.out, H3.out.1, ⟨u, v, H3.out.2⟩, HB3.out⟩
        case measure => simp [intOf]; omega
    · have hk' : k = n := by omega
      subst hk'
      have hbg := HBG.out
      rw [HE.out] at hbg
      have hxy : x = rx ∧ y = ry := by
        have : (x, y) = (rx, ry) := hbg
        injection this with h1 h2
        exact ⟨h1, h2⟩
      obtain ⟨rfl, rfl⟩ := hxy
      have fz0 : wr.frozen? ⟨w.heap.size, 0, none⟩ = false := frozen_of_row _ _ _ _ _ HBLK0.out
      have fz1 : wr.frozen? ⟨w.heap.size, 1, none⟩ = false := frozen_of_row _ _ _ _ _ HBLK0.out
      have g0 : wr.cell? ⟨w.heap.size, 0, none⟩ = some u := by rw [cell_of_row _ _ _ _ _ _ HBLK0.out]; rfl
      have g1 : wr.cell? ⟨w.heap.size, 1, none⟩ = some v := by rw [cell_of_row _ _ _ _ _ _ HBLK0.out]; rfl
      have HB := Lib.hid hB
      clear hB hbg
      go_wp2
      (try simp only [Exit.inBlock, Exit.then]); refine bodyPost_ret (by simp [results, Tryz.results70, go_sem, *]; try rfl) rfl ?_
      exact ⟨rfl, (HB.out.setCell (p := ⟨w.heap.size, 0, none⟩) (Nat.le_refl _) _).setCell (p := ⟨w.heap.size, 1, none⟩) (Nat.le_refl _) _⟩
theorem run_field_opt (x y : Int) (w : World) : (Instr.field 41 (.agg #[.int .i64 x, .int .i64 y]) 0).run Tryz.prog w = .ok (.int .i64 x) w := by
  have u3 := Tryz.underlying3
  have a3 := Tryz.isAgg3
  have z3 := Tryz.sizeOf3
  have hu := Tryz.underlying41
  unfold Instr.field
  rw [Sem.run_bind, run_underlying hu]
  go_simp
  simp [asAgg, Result.andThen]
theorem best_c (a b c d e : Int) (v : Value) (os : List Opt) (lo hi : Nat) (w : World) (h : OptsAt w lo hi v os) (hh : hi ≤ w.heap.size) (hl : os.length ≤ 1000000) (hne : os ≠ []) (hm : ∀ o ∈ os, 0 ≤ o.2 ∧ o.2 ≤ 10000) :
    Calls Tryz.prog 47 #[.agg #[.int .i64 a, .int .i64 b, .int .i64 c, .int .i64 d, .int .i64 e, v]] w fun r w' => r = .returned (.int .i64 (best os)) ∧ Below w.heap.size w w' := by
  have HC := Lib.hid fun W (hb : Below w.heap.size w W) => MinFunc_c v os lo hi W (h.move (Same.of_below (hb.mono hh))) (Nat.le_trans hh hb.size) hl hne hm
  obtain ⟨av, cap, rfl, -, -⟩ := h
  rw [best_eq]
  generalize bestO os = q at *
  obtain ⟨x, y⟩ := q
  generalize os.length = n at *
  clear hm hne hl
  go_enter Tryz.func47, Tryz.ntmps47
  go_wp2_with fail
  refine (HC.out _ (by go_grown)).mono ?_
  rintro rr w3 ⟨rfl, hb3⟩
  have hf := fun w => run_field_opt x y w
  go_wp2
  go_ret
  exact ⟨rfl, below_step (by go_grown) hb3⟩
end Go.Proofs.YtpcefaccoifejaaGreatDoor
