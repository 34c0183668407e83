/-
  Contracts of slices.Equal over options, session.same with what it calls, custoskit.SamePlaces. Conditions: what is read lies in memory as SW says.
-/
import Derived.Test.YtpcefaccoifejaaGreatDoorKA
namespace Go.Proofs.YtpcefaccoifejaaGreatDoor
open Go.RowKit Go.Maps
set_option linter.unusedSimpArgs false
set_option linter.unusedVariables false
set_option maxRecDepth 100000

set_option maxHeartbeats 1000000 in
theorem Equal_c (va vb : Value) (xs ys : List Opt) (lo hi lo2 hi2 : Nat) (w : World) (ha : OptsAt w lo hi va xs) (hb : OptsAt w lo2 hi2 vb ys) (hh : hi ≤ w.heap.size) (hh2 : hi2 ≤ w.heap.size) (hlx : xs.length ≤ 1000000) :
    Calls Tryz.prog 74 #[va, vb] w fun e w' => e = .returned (.bool (decide (xs = ys))) ∧ Below w.heap.size w w' := by
  obtain ⟨a, ca, rfl, -, ra⟩ := ha
  obtain ⟨b, cb, rfl, -, rb⟩ := hb
  by_cases hl : xs.length = ys.length
  · have HL := Lib.hid hl
    have RA := Lib.hid ra
    have RB := Lib.hid rb
    rw [← hl]
    obtain ⟨n, hn⟩ : ∃ n, xs.length = n := ⟨_, rfl⟩
    have HN := Lib.hid hn
    rw [hn] at hlx ⊢
    clear ra rb hl hn
    go_enter Tryz.func74, Tryz.ntmps74
    go_wp2
    go_loopw [13] (fun i wr => ∃ (k : Nat), k ≤ n ∧ i = .int .i64 (k : Int) ∧ (∀ j, j < k → optAt xs j = optAt ys j) ∧ Below w.heap.size w wr) (fun i wr => n - (intOf i).toNat)
    case atStart => exact ⟨0, Nat.zero_le _, rfl, fun j hj => absurd hj (Nat.not_lt_zero _), Below.refl _ _⟩
    case round =>
      obtain ⟨k, hkn, rfl, heq, hB⟩ := hrel
      have HE := Lib.hid heq
      clear heq
      by_cases hk : k < n
      · obtain ⟨ba, oa, rfl, ha1, ha2, hca⟩ := RA.out (by rw [HN.out]; omega)
        obtain ⟨bb, ob, rfl, hb1, hb2, hcb⟩ := RB.out (by rw [← HL.out, HN.out]; omega)
        have c0 : wr.cell? ⟨ba, oa + k * 2, none⟩ = some (.int .i64 (optAt xs k).1) := (hB.cell (p := ⟨ba, _, none⟩) (show ba < _ by omega)).trans (hca k (by rw [HN.out]; exact hk) 0 _ rfl)
        have c1 : wr.cell? ⟨ba, oa + k * 2 + 1, none⟩ = some (.int .i64 (optAt xs k).2) := (hB.cell (p := ⟨ba, _, none⟩) (show ba < _ by omega)).trans (hca k (by rw [HN.out]; exact hk) 1 _ rfl)
        have d0 : wr.cell? ⟨bb, ob + k * 2, none⟩ = some (.int .i64 (optAt ys k).1) := (hB.cell (p := ⟨bb, _, none⟩) (show bb < _ by omega)).trans (hcb k (by rw [← HL.out, HN.out]; exact hk) 0 _ rfl)
        have d1 : wr.cell? ⟨bb, ob + k * 2 + 1, none⟩ = some (.int .i64 (optAt ys k).2) := (hB.cell (p := ⟨bb, _, none⟩) (show bb < _ by omega)).trans (hcb k (by rw [← HL.out, HN.out]; exact hk) 1 _ rfl)
        have hk0 : (0 : Int) ≤ k := by omega
        have hk1 : (k : Int) < n := by omega
        have HB := Lib.hid hB
        have HX : Hid (optAt xs k = ((optAt xs k).1, (optAt xs k).2) ∧ optAt ys k = ((optAt ys k).1, (optAt ys k).2)) := ⟨rfl, rfl⟩
        clear hca hcb hB
        generalize (optAt xs k).1 = x1 at *
        generalize (optAt xs k).2 = x2 at *
        generalize (optAt ys k).1 = y1 at *
        generalize (optAt ys k).2 = y2 at *
        by_cases hxy : (x1, x2) = (y1, y2)
        · have he : ∀ w, (Op.equalIn 10000 41 (.agg #[.int .i64 x1, .int .i64 x2]) (.agg #[.int .i64 y1, .int .i64 y2])).run Tryz.prog w = .ok true w := fun w => by rw [ein_opt, decide_eq_true hxy]
          have HXY := Lib.hid hxy
          clear hxy
          go_wp2_with fail
          go_quiet (fail)
          go_wp2
          go_roundw
          case rel => exact ⟨k + 1, by omega, by go_num, fun j hj => by
            rcases Nat.lt_succ_iff_lt_or_eq.1 hj with h | rfl
            · exact HE.out j h
            · rw [HX.out.1, HX.out.2]; exact HXY.out, below_drewN HB.out _⟩
          case measure => simp [intOf]; omega
        · have he : ∀ w, (Op.equalIn 10000 41 (.agg #[.int .i64 x1, .int .i64 x2]) (.agg #[.int .i64 y1, .int .i64 y2])).run Tryz.prog w = .ok false w := fun w => by rw [ein_opt, decide_eq_false hxy]
          have HXY := Lib.hid hxy
          clear hxy
          go_wp2_with fail
          go_quiet (fail)
          go_wp2
          go_ret
          refine ⟨?_, below_drewN HB.out _⟩
          rw [decide_eq_false (fun e => HXY.out (HX.out.1.symm.trans ((congrArg (optAt · k) e).trans HX.out.2)))]
          rfl
      · have hk' : k = n := by omega
        subst hk'
        go_wp2
        go_ret
        refine ⟨?_, hB⟩
        rw [decide_eq_true (list_ext_at HL.out (fun i hi => HE.out i (by rw [← HN.out]; exact hi)))]
        rfl
  · have hne : ¬ ((xs.length : Int) = (ys.length : Int)) := by omega
    have hd : decide (xs = ys) = false := decide_eq_false (fun e => hl (by rw [e]))
    rw [hd]
    clear hd hl ra rb
    generalize xs.length = n at *
    generalize ys.length = m at *
    go_enter Tryz.func74, Tryz.ntmps74
    go_wp2
    go_ret
    exact ⟨rfl, Below.refl _ _⟩
theorem same1_c (a b c d e a' b' c' d' e' : Int) (va vb : Value) (xs ys : List Opt) (lo hi lo2 hi2 : Nat) (w : World) (ha : OptsAt w lo hi va xs) (hb : OptsAt w lo2 hi2 vb ys) (hh : hi ≤ w.heap.size) (hh2 : hi2 ≤ w.heap.size) (hlx : xs.length ≤ 1000000) :
    Calls Tryz.prog 73 #[.agg #[.int .i64 a, .int .i64 b, .int .i64 c, .int .i64 d, .int .i64 e, va], .agg #[.int .i64 a', .int .i64 b', .int .i64 c', .int .i64 d', .int .i64 e', vb]] w fun r w' =>
      r = .returned (.bool (decide (((a, b, c, d, e), xs) = ((a', b', c', d', e'), ys)))) ∧ Below w.heap.size w w' := by
  have HC := Lib.hid fun W (h : Below w.heap.size w W) => Equal_c va vb xs ys lo hi lo2 hi2 W (ha.move (Same.of_below (h.mono hh))) (hb.move (Same.of_below (h.mono hh2))) (Nat.le_trans hh h.size) (Nat.le_trans hh2 h.size) hlx
  obtain ⟨av, ca, rfl, -, -⟩ := ha
  obtain ⟨bv, cb, rfl, -, -⟩ := hb
  by_cases hp : (a, b, c, d, e) = (a', b', c', d', e')
  · have he : ∀ w, (Op.equalIn 10000 44 (.agg #[.int .i64 a, .int .i64 b, .int .i64 c, .int .i64 d, .int .i64 e]) (.agg #[.int .i64 a', .int .i64 b', .int .i64 c', .int .i64 d', .int .i64 e'])).run Tryz.prog w = .ok true w := fun w => by rw [ein_pl, decide_eq_true hp]
    have hr : decide (((a, b, c, d, e), xs) = ((a', b', c', d', e'), ys)) = decide (xs = ys) := by
      rw [hp]
      by_cases h : xs = ys <;> simp [h]
    rw [hr]
    generalize decide (xs = ys) = r at *
    generalize xs.length = n at *
    generalize ys.length = m at *
    clear hr hp
    go_enter Tryz.func73, Tryz.ntmps73
    go_wp2_with (go_at_call 74; refine (HC.out _ (by go_grown)).mono ?_; rintro r w3 ⟨rfl, hb3⟩)
    go_ret
    exact ⟨rfl, below_step (by go_grown) hb3⟩
  · have he : ∀ w, (Op.equalIn 10000 44 (.agg #[.int .i64 a, .int .i64 b, .int .i64 c, .int .i64 d, .int .i64 e]) (.agg #[.int .i64 a', .int .i64 b', .int .i64 c', .int .i64 d', .int .i64 e'])).run Tryz.prog w = .ok false w := fun w => by rw [ein_pl, decide_eq_false hp]
    have hr : decide (((a, b, c, d, e), xs) = ((a', b', c', d', e'), ys)) = false := decide_eq_false (fun h => hp (by injection h))
    rw [hr]
    generalize xs.length = n at *
    generalize ys.length = m at *
    clear hr hp HC
    go_enter Tryz.func73, Tryz.ntmps73
    go_wp2
    go_ret
    exact ⟨rfl, by go_grown⟩
set_option maxHeartbeats 1000000 in
theorem EqualFunc_c (va vb : Value) (xs ys : List Ft) (lo hi lo2 hi2 : Nat) (w : World) (ha : FeatsAt w lo hi va xs) (hb : FeatsAt w lo2 hi2 vb ys) (hh : hi ≤ w.heap.size) (hh2 : hi2 ≤ w.heap.size) (hlx : xs.length ≤ 20000) (hwx : wfFs xs) :
    Calls Tryz.prog 72 #[va, vb, .func (.func 73) #[] #[]] w fun e w' => e = .returned (.bool (decide (xs = ys))) ∧ Below w.heap.size w w' := by
  obtain ⟨a, ca, vs, rfl, -, ra, oa⟩ := ha
  obtain ⟨b, cb, us, rfl, -, rb, ob⟩ := hb
  by_cases hl : xs.length = ys.length
  · have HL := Lib.hid hl
    have RA := Lib.hid ra
    have RB := Lib.hid rb
    have OA := Lib.hid oa
    have OB := Lib.hid ob
    have HW := Lib.hid hwx
    rw [← hl]
    obtain ⟨n, hn⟩ : ∃ n, xs.length = n := ⟨_, rfl⟩
    have HN := Lib.hid hn
    rw [hn] at hlx ⊢
    clear ra rb hl hn oa ob hwx
    go_enter Tryz.func72, Tryz.ntmps72
    go_wp2
    go_loopw [17] (fun i wr => ∃ (k : Nat), k ≤ n ∧ i = .int .i64 (k : Int) ∧ (∀ j, j < k → ftAt xs j = ftAt ys j) ∧ Below w.heap.size w wr) (fun i wr => n - (intOf i).toNat)
    case atStart => exact ⟨0, Nat.zero_le _, rfl, fun j hj => absurd hj (Nat.not_lt_zero _), Below.refl _ _⟩
    case round =>
      obtain ⟨k, hkn, rfl, heq, hB⟩ := hrel
      have HE := Lib.hid heq
      clear heq
      by_cases hk : k < n
      · have hkx : k < xs.length := by rw [HN.out]; exact hk
        have hky : k < ys.length := by rw [← HL.out, HN.out]; exact hk
        obtain ⟨ba, oa, rfl, ha1, ha2, hca⟩ := RA.out (by omega)
        obtain ⟨bb, ob, rfl, hb1, hb2, hcb⟩ := RB.out (by omega)
        have hs := hB.size
        have hba : ba < wr.heap.size := by omega
        have hbb : bb < wr.heap.size := by omega
        have hca' : ∀ j u, (ftV (ftAt xs k).1 (vs k))[j]? = some u → wr.cell? ⟨ba, oa + k * 6 + j, none⟩ = some u := fun j u hu => (hB.cell (p := ⟨ba, oa + k * 6 + j, none⟩) (show ba < w.heap.size by omega)).trans (hca k hkx j u hu)
        have hcb' : ∀ j u, (ftV (ftAt ys k).1 (us k))[j]? = some u → wr.cell? ⟨bb, ob + k * 6 + j, none⟩ = some u := fun j u hu => (hB.cell (p := ⟨bb, ob + k * 6 + j, none⟩) (show bb < w.heap.size by omega)).trans (hcb k hky j u hu)
        have HOA := OA.out k hkx
        have HOB := OB.out k hky
        have hwk := (HW.out _ (ftAt_mem hkx)).2.2
        have HK : Hid (ftAt xs k = ftAt ys k → ∀ j, j < k + 1 → ftAt xs j = ftAt ys j) := fun h j hj => by
          rcases Nat.lt_succ_iff_lt_or_eq.1 hj with h' | rfl
          · exact HE.out j h'
          · exact h
        have HK2 : Hid (ftAt xs k ≠ ftAt ys k → decide (xs = ys) = false) := fun h => decide_eq_false (fun e => h (by rw [e]))
        clear hca hcb
        generalize ftAt xs k = f at *
        generalize ftAt ys k = g at *
        obtain ⟨⟨p1, p2, p3, p4, p5⟩, os⟩ := f
        obtain ⟨⟨q1, q2, q3, q4, q5⟩, ps⟩ := g
        have HC := Lib.hid fun W (h : Below w.heap.size w W) => same1_c p1 p2 p3 p4 p5 q1 q2 q3 q4 q5 (vs k) (us k) os ps lo hi lo2 hi2 W (HOA.move (Same.of_below (h.mono hh))) (HOB.move (Same.of_below (h.mono hh2))) (Nat.le_trans hh h.size) (Nat.le_trans hh2 h.size) hwk
        obtain ⟨oo1, oc1, hvo1, -, -⟩ := HOA
        obtain ⟨oo2, oc2, hvo2, -, -⟩ := HOB
        rw [hvo1] at hca' HC
        rw [hvo2] at hcb' HC
        have c0 := hca' 0 _ rfl
        have c1 := hca' 1 _ rfl
        have c2 := hca' 2 _ rfl
        have c3 := hca' 3 _ rfl
        have c4 := hca' 4 _ rfl
        have c5 := hca' 5 _ rfl
        have d0 := hcb' 0 _ rfl
        have d1 := hcb' 1 _ rfl
        have d2 := hcb' 2 _ rfl
        have d3 := hcb' 3 _ rfl
        have d4 := hcb' 4 _ rfl
        have d5 := hcb' 5 _ rfl
        simp only [Nat.add_zero] at c0 d0
        have hk0 : (0 : Int) ≤ k := by omega
        have hk1 : (k : Int) < n := by omega
        have HB := Lib.hid hB
        clear hca' hcb' hwk hB hvo1 hvo2
        generalize hr : decide (((p1, p2, p3, p4, p5), os) = ((q1, q2, q3, q4, q5), ps)) = r at *
        have HR := Lib.hid hr
        clear hr
        go_wp2_with fail
        refine (HC.out _ (below_step HB.out (by go_grown))).mono ?_
        rintro rr w3 ⟨rfl, hb3⟩
        have HB3 := Lib.hid (below_step (below_step HB.out (by go_grown)) hb3)
        clear hb3
        cases r
        · go_wp2
          go_ret
          refine ⟨?_, HB3.out⟩
          rw [HK2.out (of_decide_eq_false HR.out)]
          rfl
        · go_wp2
          go_roundw
          case rel => exact ⟨k + 1, by omega, by go_num, HK.out (of_decide_eq_true HR.out), HB3.out⟩
          case measure => simp [intOf]; omega
      · have hk' : k = n := by omega
        subst hk'
        go_wp2
        go_ret
        refine ⟨?_, hB⟩
        rw [decide_eq_true (list_ext_at HL.out (fun i hi => HE.out i (by rw [← HN.out]; exact hi)))]
        rfl
  · have hne : ¬ ((xs.length : Int) = (ys.length : Int)) := by omega
    have hd : decide (xs = ys) = false := decide_eq_false (fun e => hl (by rw [e]))
    rw [hd]
    clear hd hl ra rb oa ob hwx
    generalize xs.length = n at *
    generalize ys.length = m at *
    go_enter Tryz.func72, Tryz.ntmps72
    go_wp2
    go_ret
    exact ⟨rfl, Below.refl _ _⟩
theorem same_c (va vb : Value) (xs ys : List Ft) (lo hi lo2 hi2 : Nat) (w : World) (ha : FeatsAt w lo hi va xs) (hb : FeatsAt w lo2 hi2 vb ys) (hh : hi ≤ w.heap.size) (hh2 : hi2 ≤ w.heap.size) (hlx : xs.length ≤ 20000) (hwx : wfFs xs) :
    Calls Tryz.prog 51 #[va, vb] w fun e w' => e = .returned (.bool (decide (xs = ys))) ∧ Below w.heap.size w w' := by
  have HC := Lib.hid (EqualFunc_c va vb xs ys lo hi lo2 hi2 w ha hb hh hh2 hlx hwx)
  generalize decide (xs = ys) = r at *
  clear ha hb hh hh2 hlx hwx
  go_enter Tryz.func51, Tryz.ntmps51
  go_wp2_with fail
  refine HC.out.mono ?_
  rintro rr w3 ⟨rfl, hb3⟩
  go_wp2
  go_ret
  exact ⟨rfl, hb3⟩

def plAt (ps : List Pl) (i : Nat) : Pl := ps.getD i default
/-- places -/
def PlsAt (w : World) (lo hi : Nat) (v : Value) (ps : List Pl) : Prop := ∃ a cap, v = .slice a ps.length cap ∧ (a = none → cap = 0) ∧ Row w lo hi 5 a ps.length (fun j => plV (plAt ps j))
theorem PlsAt.move {w w' : World} {lo hi : Nat} {v : Value} {ps : List Pl} (h : PlsAt w lo hi v ps) (hs : Same lo hi w w') : PlsAt w' lo hi v ps := by
  obtain ⟨a, cap, e, z, r⟩ := h
  exact ⟨a, cap, e, z, r.move hs⟩
theorem plV_len (p : Pl) : (plV p).length = 5 := rfl
theorem pls_of_own {w : World} {lo : Nat} {e : TypeId} {v : Value} {ps : List Pl} (h : w.ownsRow lo e 5 v ps.length (ps.flatMap plV)) : PlsAt w lo w.heap.size v ps := row_of_own plV_len h
end Go.Proofs.YtpcefaccoifejaaGreatDoor
