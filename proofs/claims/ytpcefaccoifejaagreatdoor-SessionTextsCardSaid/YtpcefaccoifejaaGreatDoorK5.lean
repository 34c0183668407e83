/-
  Contracts of custoskit's comparison of options. Conditions: what is read lies in memory as SW says.
-/
import Derived.Test.YtpcefaccoifejaaGreatDoorK4
namespace Go.Proofs.YtpcefaccoifejaaGreatDoor
open Go.RowKit Go.Maps
set_option linter.unusedSimpArgs false
set_option linter.unusedVariables false
set_option maxRecDepth 100000

theorem below_drewN {w w' : World} (h : Below w.heap.size w w') (q : Nat) : Below w.heap.size w (w'.drewN q) := ⟨h.os, h.tape, h.output, h.size, h.block⟩
theorem list_ext_at {α : Type} [Inhabited α] {xs ys : List α} (hl : xs.length = ys.length) (h : ∀ i, i < xs.length → xs.getD i default = ys.getD i default) : xs = ys := by
  apply List.ext_getElem hl
  intro i h1 h2
  have := h i h1
  rw [List.getD_eq_getElem?_getD, List.getD_eq_getElem?_getD, List.getElem?_eq_getElem h1, List.getElem?_eq_getElem h2] at this
  exact this
set_option maxHeartbeats 1000000 in
theorem SameOptions_c (va vb : Value) (xs ys : List Opt) (lo hi lo2 hi2 : Nat) (w : World) (ha : OptsAt w lo hi va xs) (hb : OptsAt w lo2 hi2 vb ys) (hh : hi ≤ w.heap.size) (hh2 : hi2 ≤ w.heap.size) (hlx : xs.length ≤ 1000000) :
    Calls Tryz.prog 27 #[va, vb] w fun e w' => e = .returned (.bool (decide (xs = ys))) ∧ Below w.heap.size w w' := by
  obtain ⟨a, ca, rfl, -, ra⟩ := ha
  obtain ⟨b, cb, rfl, -, rb⟩ := hb
  by_cases hl : xs.length = ys.length
  · have HL := Lib.hid hl
    have RA := Lib.hid ra
    have RB := Lib.hid rb
    rw [← hl]
    obtain ⟨n, hn⟩ : ∃ n, xs.length = n := ⟨_, rfl⟩
    have HN := Lib.hid hn
    rw [hn] at hlx ⊢
    clear ra rb hl hn
    go_enter Tryz.func27, Tryz.ntmps27
    go_wp2
    go_loopw [5] (fun i wr => ∃ (k : Nat), k ≤ n ∧ i = .int .i64 (k : Int) ∧ (∀ j, j < k → optAt xs j = optAt ys j) ∧ Below w.heap.size w wr) (fun i wr => n - (intOf i).toNat)
    case atStart => exact ⟨0, Nat.zero_le _, rfl, fun j hj => absurd hj (Nat.not_lt_zero _), Below.refl _ _⟩
    case round =>
      obtain ⟨k, hkn, rfl, heq, hB⟩ := hrel
      have HE := Lib.hid heq
      clear heq
      by_cases hk : k < n
      · obtain ⟨ba, oa, rfl, ha1, ha2, hca⟩ := RA.out (by rw [HN.out]; omega)
        obtain ⟨bb, ob, rfl, hb1, hb2, hcb⟩ := RB.out (by rw [← HL.out, HN.out]; omega)
        have c0 : wr.cell? ⟨ba, oa + k * 2, none⟩ = some (.int .i64 (optAt xs k).1) := (hB.cell (p := ⟨ba, _, none⟩) (show ba < _ by omega)).trans (hca k (by rw [HN.out]; exact hk) 0 _ rfl)
        have c1 : wr.cell? ⟨ba, oa + k * 2 + 1, none⟩ = some (.int .i64 (optAt xs k).2) := (hB.cell (p := ⟨ba, _, none⟩) (show ba < _ by omega)).trans (hca k (by rw [HN.out]; exact hk) 1 _ rfl)
        have d0 : wr.cell? ⟨bb, ob + k * 2, none⟩ = some (.int .i64 (optAt ys k).1) := (hB.cell (p := ⟨bb, _, none⟩) (show bb < _ by omega)).trans (hcb k (by rw [← HL.out, HN.out]; exact hk) 0 _ rfl)
        have d1 : wr.cell? ⟨bb, ob + k * 2 + 1, none⟩ = some (.int .i64 (optAt ys k).2) := (hB.cell (p := ⟨bb, _, none⟩) (show bb < _ by omega)).trans (hcb k (by rw [← HL.out, HN.out]; exact hk) 1 _ rfl)
        have hk0 : (0 : Int) ≤ k := by omega
        have hk1 : (k : Int) < n := by omega
        have HB := Lib.hid hB
        have HX : Hid (optAt xs k = ((optAt xs k).1, (optAt xs k).2) ∧ optAt ys k = ((optAt ys k).1, (optAt ys k).2)) := ⟨rfl, rfl⟩
        clear hca hcb hB
        generalize (optAt xs k).1 = x1 at *
        generalize (optAt xs k).2 = x2 at *
        generalize (optAt ys k).1 = y1 at *
        generalize (optAt ys k).2 = y2 at *
        by_cases hxy : (x1, x2) = (y1, y2)
        · have he : ∀ w, (Op.equalIn 10000 41 (.agg #[.int .i64 x1, .int .i64 x2]) (.agg #[.int .i64 y1, .int .i64 y2])).run Tryz.prog w = .ok true w := fun w => by rw [ein_opt, decide_eq_true hxy]
          have HXY := Lib.hid hxy
          clear hxy
          go_wp2_with fail
          go_quiet (fail)
          go_wp2
          go_roundw
          case rel => exact ⟨k + 1, by omega, by go_num, fun j hj => by
            rcases Nat.lt_succ_iff_lt_or_eq.1 hj with h | rfl
            · exact HE.out j h
            · rw [HX.out.1, HX.out.2]; exact HXY.out, below_drewN HB.out _⟩
          case measure => simp [intOf]; omega
        · have he : ∀ w, (Op.equalIn 10000 41 (.agg #[.int .i64 x1, .int .i64 x2]) (.agg #[.int .i64 y1, .int .i64 y2])).run Tryz.prog w = .ok false w := fun w => by rw [ein_opt, decide_eq_false hxy]
          have HXY := Lib.hid hxy
          clear hxy
          go_wp2_with fail
          go_quiet (fail)
          go_wp2
          go_ret
          refine ⟨?_, below_drewN HB.out _⟩
          rw [decide_eq_false (fun e => HXY.out (HX.out.1.symm.trans ((congrArg (optAt · k) e).trans HX.out.2)))]
          rfl
      · have hk' : k = n := by omega
        subst hk'
        go_wp2
        go_ret
        refine ⟨?_, hB⟩
        rw [decide_eq_true (list_ext_at HL.out (fun i hi => HE.out i (by rw [← HN.out]; exact hi)))]
        rfl
  · have hne : ¬ ((xs.length : Int) = (ys.length : Int)) := by omega
    have hd : decide (xs = ys) = false := decide_eq_false (fun e => hl (by rw [e]))
    rw [hd]
    clear hd hl ra rb
    generalize xs.length = n at *
    generalize ys.length = m at *
    go_enter Tryz.func27, Tryz.ntmps27
    go_wp2
    go_ret
    exact ⟨rfl, Below.refl _ _⟩
end Go.Proofs.YtpcefaccoifejaaGreatDoor
