/-
  Contracts of custoslaw13's big, own, sameActs and pair. Conditions: what is read lies in memory as SW says.
-/
import Derived.Test.YtpcefaccoifejaaGreatDoorK15
namespace Go.Proofs.YtpcefaccoifejaaGreatDoor
open Go.RowKit Go.Maps
set_option linter.unusedSimpArgs false
set_option linter.unusedVariables false
set_option maxRecDepth 100000

instance decPl : DecidableEq Pl := instDecidableEqProd
instance decPI : DecidableEq (Pl × Int) := instDecidableEqProd
instance decAc : DecidableEq Ac := instDecidableEqProd
theorem own_c (k a b c d e v : Int) (w : World) : Calls Tryz.prog 16 #[.agg #[.int .i64 k, .int .i64 a, .int .i64 b, .int .i64 c, .int .i64 d, .int .i64 e, .int .i64 v]] w fun r w' => r = .returned (.agg #[.int .i64 k, .int .i64 a, .int .i64 b, .int .i64 c, .int .i64 d, .int .i64 e, .int .i64 v]) ∧ Below w.heap.size w w' := by
  go_enter Tryz.func16, Tryz.ntmps16
  go_wp2
  (try simp only [Exit.inBlock, Exit.then]); refine bodyPost_ret (by simp [results, Tryz.results16, go_sem, *]; try rfl) rfl ?_
  exact ⟨rfl, by go_grown⟩
set_option maxHeartbeats 2000000 in
theorem sameActs_c (va vb : Value) (xs ys : List Ac) (lo hi lo2 hi2 : Nat) (w : World) (ha : ActsAt w lo hi va xs) (hb : ActsAt w lo2 hi2 vb ys) (hh : hi ≤ w.heap.size) (hh2 : hi2 ≤ w.heap.size) (hlx : xs.length ≤ 1000000) :
    Calls Tryz.prog 11 #[va, vb] w fun e w' => e = .returned (.bool (decide (xs = ys))) ∧ Below w.heap.size w w' := by
  obtain ⟨xa, xc, rfl, -, hrx⟩ := ha
  obtain ⟨ya, yc, rfl, -, hry⟩ := hb
  have HX := Lib.hid hrx
  have HY := Lib.hid hry
  by_cases hl : xs.length = ys.length
  · have HL := Lib.hid hl
    obtain ⟨n, hn⟩ : ∃ n, xs.length = n := ⟨_, rfl⟩
    have HN := Lib.hid hn
    have hn2 : ys.length = n := hl.symm.trans hn
    rw [hn] at hlx ⊢
    rw [hn2]
    obtain ⟨D, hD⟩ : ∃ D, decide (xs = ys) = D := ⟨_, rfl⟩
    have HD := Lib.hid hD
    rw [hD]
    clear hrx hry hl hn hn2 hD
    go_enter Tryz.func11, Tryz.ntmps11
    go_wp2
    go_loopw [5] (fun i wr => ∃ k : Nat, k ≤ n ∧ i = .int .i64 (k : Int) ∧ (∀ j, j < k → acAt xs j = acAt ys j) ∧ Below w.heap.size w wr)
      (fun i wr => n - (intOf i).toNat)
    case atStart => exact ⟨0, Nat.zero_le _, rfl, fun j hj => absurd hj (Nat.not_lt_zero _), Below.refl _ _⟩
    case round =>
      obtain ⟨k, hkn, rfl, hall, hB⟩ := hrel
      have HALL := Lib.hid hall
      have HB := Lib.hid hB
      clear hall
      by_cases hk : k < n
      · have hkx : k < xs.length := by rw [HN.out]; exact hk
        have hky : k < ys.length := by rw [← HL.out]; exact hkx
        obtain ⟨bx, ox, rfl, hb1, hb2, hcx⟩ := HX.out (by omega)
        obtain ⟨b2, oy, rfl, hb3, hb4, hcy⟩ := HY.out (by omega)
        have hcw : ∀ j u, (acV (acAt xs k))[j]? = some u → wr.cell? ⟨bx, ox + k * 7 + j, none⟩ = some u := fun j u hu => (hB.cell (p := ⟨bx, ox + k * 7 + j, none⟩) (show bx < w.heap.size by omega)).trans (hcx k hkx j u hu)
        have hcv : ∀ j u, (acV (acAt ys k))[j]? = some u → wr.cell? ⟨b2, oy + k * 7 + j, none⟩ = some u := fun j u hu => (hB.cell (p := ⟨b2, oy + k * 7 + j, none⟩) (show b2 < w.heap.size by omega)).trans (hcy k hky j u hu)
        have HST : Hid (acAt xs k = acAt ys k → ∀ j, j < k + 1 → acAt xs j = acAt ys j) := fun h j hj => by
          by_cases e : j = k
          · subst e; exact h
          · exact HALL.out j (by omega)
        have HNE : Hid (acAt xs k ≠ acAt ys k → D = false) := fun h => by
          rw [← HD.out]
          exact decide_eq_false (fun e => h (by rw [e]))
        generalize acAt xs k = X at *
        generalize acAt ys k = Y at *
        obtain ⟨x0, ⟨x1, x2, x3, x4, x5⟩, x6⟩ := X
        obtain ⟨y0, ⟨y1, y2, y3, y4, y5⟩, y6⟩ := Y
        have c0 := hcw 0 _ rfl
        have c1 := hcw 1 _ rfl
        have c2 := hcw 2 _ rfl
        have c3 := hcw 3 _ rfl
        have c4 := hcw 4 _ rfl
        have c5 := hcw 5 _ rfl
        have c6 := hcw 6 _ rfl
        have d0 := hcv 0 _ rfl
        have d1 := hcv 1 _ rfl
        have d2 := hcv 2 _ rfl
        have d3 := hcv 3 _ rfl
        have d4 := hcv 4 _ rfl
        have d5 := hcv 5 _ rfl
        have d6 := hcv 6 _ rfl
        simp only [Nat.add_zero] at c0 d0
        have hk0 : (0 : Int) ≤ k := by omega
        have hk1 : (k : Int) < n := by omega
        have hk2 : (k : Int) ≤ 1000000 := by omega
        have hs := hB.size
        have z1 : bx < wr.heap.size := by omega
        have z2 : b2 < wr.heap.size := by omega
        have HSC : Hid (∀ w', Bw wr w' → (w'.cell? ⟨bx, ox + k * 7, none⟩ = some (.int .i64 x0) ∧ w'.cell? ⟨bx, ox + k * 7 + 1, none⟩ = some (.int .i64 x1) ∧ w'.cell? ⟨bx, ox + k * 7 + 2, none⟩ = some (.int .i64 x2) ∧ w'.cell? ⟨bx, ox + k * 7 + 3, none⟩ = some (.int .i64 x3) ∧ w'.cell? ⟨bx, ox + k * 7 + 4, none⟩ = some (.int .i64 x4) ∧ w'.cell? ⟨bx, ox + k * 7 + 5, none⟩ = some (.int .i64 x5) ∧ w'.cell? ⟨bx, ox + k * 7 + 6, none⟩ = some (.int .i64 x6) ∧ w'.cell? ⟨b2, oy + k * 7, none⟩ = some (.int .i64 y0) ∧ w'.cell? ⟨b2, oy + k * 7 + 1, none⟩ = some (.int .i64 y1) ∧ w'.cell? ⟨b2, oy + k * 7 + 2, none⟩ = some (.int .i64 y2) ∧ w'.cell? ⟨b2, oy + k * 7 + 3, none⟩ = some (.int .i64 y3) ∧ w'.cell? ⟨b2, oy + k * 7 + 4, none⟩ = some (.int .i64 y4) ∧ w'.cell? ⟨b2, oy + k * 7 + 5, none⟩ = some (.int .i64 y5) ∧ w'.cell? ⟨b2, oy + k * 7 + 6, none⟩ = some (.int .i64 y6) ∧ Bw wr w')) := fun w' hb =>
          ⟨(hb.cell (p := ⟨bx, _, none⟩) z1).trans c0, (hb.cell (p := ⟨bx, _, none⟩) z1).trans c1, (hb.cell (p := ⟨bx, _, none⟩) z1).trans c2, (hb.cell (p := ⟨bx, _, none⟩) z1).trans c3, (hb.cell (p := ⟨bx, _, none⟩) z1).trans c4, (hb.cell (p := ⟨bx, _, none⟩) z1).trans c5, (hb.cell (p := ⟨bx, _, none⟩) z1).trans c6,
            (hb.cell (p := ⟨b2, _, none⟩) z2).trans d0, (hb.cell (p := ⟨b2, _, none⟩) z2).trans d1, (hb.cell (p := ⟨b2, _, none⟩) z2).trans d2, (hb.cell (p := ⟨b2, _, none⟩) z2).trans d3, (hb.cell (p := ⟨b2, _, none⟩) z2).trans d4, (hb.cell (p := ⟨b2, _, none⟩) z2).trans d5, (hb.cell (p := ⟨b2, _, none⟩) z2).trans d6, hb⟩
        have HOC := Lib.hid (own_c y0 y1 y2 y3 y4 y5 y6 wr.drew)
        have he := fun w => ein_act x0 x1 x2 x3 x4 x5 x6 y0 y1 y2 y3 y4 y5 y6 w
        clear hcx hcy hcw hcv hB
        by_cases hxy : (x0, (x1, x2, x3, x4, x5), x6) = (y0, (y1, y2, y3, y4, y5), y6)
        · rw [decide_eq_true hxy] at he
          have HS2 := Lib.hid (HST.out hxy)
          clear hxy
          go_wp2_with fail
          go_region_held3 (fun w' => w'.cell? ⟨bx, ox + k * 7, none⟩ = some (.int .i64 x0) ∧ w'.cell? ⟨bx, ox + k * 7 + 1, none⟩ = some (.int .i64 x1) ∧ w'.cell? ⟨bx, ox + k * 7 + 2, none⟩ = some (.int .i64 x2) ∧ w'.cell? ⟨bx, ox + k * 7 + 3, none⟩ = some (.int .i64 x3) ∧ w'.cell? ⟨bx, ox + k * 7 + 4, none⟩ = some (.int .i64 x4) ∧ w'.cell? ⟨bx, ox + k * 7 + 5, none⟩ = some (.int .i64 x5) ∧ w'.cell? ⟨bx, ox + k * 7 + 6, none⟩ = some (.int .i64 x6) ∧ w'.cell? ⟨b2, oy + k * 7, none⟩ = some (.int .i64 y0) ∧ w'.cell? ⟨b2, oy + k * 7 + 1, none⟩ = some (.int .i64 y1) ∧ w'.cell? ⟨b2, oy + k * 7 + 2, none⟩ = some (.int .i64 y2) ∧ w'.cell? ⟨b2, oy + k * 7 + 3, none⟩ = some (.int .i64 y3) ∧ w'.cell? ⟨b2, oy + k * 7 + 4, none⟩ = some (.int .i64 y4) ∧ w'.cell? ⟨b2, oy + k * 7 + 5, none⟩ = some (.int .i64 y5) ∧ w'.cell? ⟨b2, oy + k * 7 + 6, none⟩ = some (.int .i64 y6) ∧ Bw wr w')
            ((refine HSC.out _ ?_; with_reducible (first | exact Bw.drew _ | assumption)))
            ((go_at_call 16; refine HOC.out.mono ?_; rintro rr w3 ⟨rfl, hb3⟩; have hBw3 : Bw wr w3 := below_step (Bw.drew _) hb3; clear hb3))
          have HBK := Lib.hid (by assumption : Bw wr w3)
          go_wp2
          go_roundw
          case rel => exact ⟨k + 1, by omega, by go_num, HS2.out, HB.out.trans (HBK.out.mono HB.out.size)⟩
          case measure => simp [intOf]; omega
        · rw [decide_eq_false hxy] at he
          have hD := HNE.out hxy
          subst hD
          clear hxy
          go_wp2_with fail
          go_region_held3 (fun w' => w'.cell? ⟨bx, ox + k * 7, none⟩ = some (.int .i64 x0) ∧ w'.cell? ⟨bx, ox + k * 7 + 1, none⟩ = some (.int .i64 x1) ∧ w'.cell? ⟨bx, ox + k * 7 + 2, none⟩ = some (.int .i64 x2) ∧ w'.cell? ⟨bx, ox + k * 7 + 3, none⟩ = some (.int .i64 x3) ∧ w'.cell? ⟨bx, ox + k * 7 + 4, none⟩ = some (.int .i64 x4) ∧ w'.cell? ⟨bx, ox + k * 7 + 5, none⟩ = some (.int .i64 x5) ∧ w'.cell? ⟨bx, ox + k * 7 + 6, none⟩ = some (.int .i64 x6) ∧ w'.cell? ⟨b2, oy + k * 7, none⟩ = some (.int .i64 y0) ∧ w'.cell? ⟨b2, oy + k * 7 + 1, none⟩ = some (.int .i64 y1) ∧ w'.cell? ⟨b2, oy + k * 7 + 2, none⟩ = some (.int .i64 y2) ∧ w'.cell? ⟨b2, oy + k * 7 + 3, none⟩ = some (.int .i64 y3) ∧ w'.cell? ⟨b2, oy + k * 7 + 4, none⟩ = some (.int .i64 y4) ∧ w'.cell? ⟨b2, oy + k * 7 + 5, none⟩ = some (.int .i64 y5) ∧ w'.cell? ⟨b2, oy + k * 7 + 6, none⟩ = some (.int .i64 y6) ∧ Bw wr w')
            ((refine HSC.out _ ?_; with_reducible (first | exact Bw.drew _ | assumption)))
            ((go_at_call 16; refine HOC.out.mono ?_; rintro rr w3 ⟨rfl, hb3⟩; have hBw3 : Bw wr w3 := below_step (Bw.drew _) hb3; clear hb3))
          have HBK := Lib.hid (by assumption : Bw wr w3)
          go_wp2
          go_ret
          exact ⟨rfl, HB.out.trans (HBK.out.mono HB.out.size)⟩
      · obtain rfl : k = n := by omega
        have hD : D = true := by
          rw [← HD.out]
          refine decide_eq_true (list_ext_at HL.out (fun i hi => HALL.out i (by rw [← HN.out]; exact hi)))
        subst hD
        clear hB
        go_wp2
        go_ret
        exact ⟨rfl, HB.out⟩
  · have hd : decide (xs = ys) = false := decide_eq_false (fun e => hl (by rw [e]))
    rw [hd]
    have hl2 : ¬ (xs.length : Int) = ys.length := by omega
    clear hrx hry hd
    generalize xs.length = n1 at *
    generalize ys.length = n2 at *
    go_enter Tryz.func11, Tryz.ntmps11
    go_wp2
    go_ret
    exact ⟨rfl, Below.refl _ _⟩
theorem heap_alloc3o (w : World) (A B C : Obj) : (((w.alloc A).alloc B).alloc C).heap[w.heap.size]? = some A := by
  rw [Below.heap_alloc _ _ _ (by simp; omega)]; exact heap_alloc2_old _ _ _
theorem heap_alloc3m (w : World) (A B C : Obj) : (((w.alloc A).alloc B).alloc C).heap[w.heap.size + 1]? = some B := by
  rw [Below.heap_alloc _ _ _ (by simp)]; exact heap_alloc2_new _ _ _
theorem heap_alloc3n (w : World) (A B C : Obj) : (((w.alloc A).alloc B).alloc C).heap[w.heap.size + 2]? = some C := by
  have := heap_alloc_new ((w.alloc A).alloc B) C
  simpa using this
/-- the features of the chapter's examples -/
def pairL : List Ft := [((0, 0, 3, 7, 4), [(1, 0), (2, 3)]), ((0, 0, 3, 13, 0), [(0, 2), (1, 3)])]
theorem pair_c (w : World) : Calls Tryz.prog 12 #[] w fun e w' => (∃ a, e = .returned (.slice (some ⟨a, 0, none⟩) 2 2) ∧ FeatsAt w' w.heap.size w'.heap.size (.slice (some ⟨a, 0, none⟩) 2 2) pairL) ∧ Below w.heap.size w w' := by
  go_enter Tryz.func12, Tryz.ntmps12
  go_wp2
  go_ret
  refine ⟨⟨_, rfl, ?_⟩, by go_grown⟩
  have hz : ∀ (A B C : Obj), (((w.alloc A).alloc B).alloc C).heap.size = w.heap.size + 3 := fun A B C => by simp
  refine ⟨some ⟨w.heap.size + 2, 0, none⟩, 2, fun (i : Nat) => if i = 0 then .slice (some ⟨w.heap.size, 0, none⟩) 2 2 else .slice (some ⟨w.heap.size + 1, 0, none⟩) 2 2, rfl, (fun h => absurd h (by simp)), fun _ => ⟨w.heap.size + 2, 0, rfl, by omega, by rw [hz]; omega, fun i hi j u hu => ?_⟩, fun i hi => ?_⟩
  · rw [cell_of_row _ _ _ _ _ _ (heap_alloc3n _ _ _ _)]
    have hi2 : i = 0 ∨ i = 1 := by simp [pairL] at hi; omega
    rcases hi2 with rfl | rfl
    · have hj : j < 6 := by
        have := (List.getElem?_eq_some_iff.1 hu).1
        rwa [ftV_len] at this
      revert hu
      rcases show j = 0 ∨ j = 1 ∨ j = 2 ∨ j = 3 ∨ j = 4 ∨ j = 5 by omega with rfl | rfl | rfl | rfl | rfl | rfl <;> exact id
    · have hj : j < 6 := by
        have := (List.getElem?_eq_some_iff.1 hu).1
        rwa [ftV_len] at this
      revert hu
      rcases show j = 0 ∨ j = 1 ∨ j = 2 ∨ j = 3 ∨ j = 4 ∨ j = 5 by omega with rfl | rfl | rfl | rfl | rfl | rfl <;> exact id
  · have hi2 : i = 0 ∨ i = 1 := by simp [pairL] at hi; omega
    rcases hi2 with rfl | rfl
    · refine ⟨some ⟨w.heap.size, 0, none⟩, 2, rfl, (fun h => absurd h (by simp)), fun _ => ⟨w.heap.size, 0, rfl, Nat.le_refl _, by rw [hz]; omega, fun k hk j u hu => ?_⟩⟩
      rw [cell_of_row _ _ _ _ _ _ (heap_alloc3o _ _ _ _)]
      have hk2 : k = 0 ∨ k = 1 := by simp [pairL, ftAt] at hk; omega
      rcases hk2 with rfl | rfl
      · have hj : j < 2 := by
          have := (List.getElem?_eq_some_iff.1 hu).1
          rwa [optV_len] at this
        revert hu
        rcases show j = 0 ∨ j = 1 by omega with rfl | rfl <;> exact id
      · have hj : j < 2 := by
          have := (List.getElem?_eq_some_iff.1 hu).1
          rwa [optV_len] at this
        revert hu
        rcases show j = 0 ∨ j = 1 by omega with rfl | rfl <;> exact id
    · refine ⟨some ⟨w.heap.size + 1, 0, none⟩, 2, rfl, (fun h => absurd h (by simp)), fun _ => ⟨w.heap.size + 1, 0, rfl, Nat.le_succ _, by rw [hz]; omega, fun k hk j u hu => ?_⟩⟩
      rw [cell_of_row _ _ _ _ _ _ (heap_alloc3m _ _ _ _)]
      have hk2 : k = 0 ∨ k = 1 := by simp [pairL, ftAt] at hk; omega
      rcases hk2 with rfl | rfl
      · have hj : j < 2 := by
          have := (List.getElem?_eq_some_iff.1 hu).1
          rwa [optV_len] at this
        revert hu
        rcases show j = 0 ∨ j = 1 by omega with rfl | rfl <;> exact id
      · have hj : j < 2 := by
          have := (List.getElem?_eq_some_iff.1 hu).1
          rwa [optV_len] at this
        revert hu
        rcases show j = 0 ∨ j = 1 by omega with rfl | rfl <;> exact id
end Go.Proofs.YtpcefaccoifejaaGreatDoor
