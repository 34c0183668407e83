/-
  The contract of session.act. Conditions: the library's tables and variables lie in the world; the line is at most 200000 bytes long.
-/
import Derived.Test.YtpcefaccoifejaaGreatDoorTX2a
namespace Go.Proofs.YtpcefaccoifejaaGreatDoor
open Go.RowKit Go.Maps
set_option linter.unusedSimpArgs false
set_option linter.unusedVariables false
set_option maxRecDepth 100000

def acA (a : Ac) : Value := .agg #[.int .i64 a.1, .int .i64 a.2.1.1, .int .i64 a.2.1.2.1, .int .i64 a.2.1.2.2.1, .int .i64 a.2.1.2.2.2.1, .int .i64 a.2.1.2.2.2.2, .int .i64 a.2.2]
set_option maxHeartbeats 16000000 in
theorem act_c (s : List UInt8) (w : World) (hs : s.length ≤ 200000) (he : Env w) :
    Calls Tryz.prog 34 #[.string ⟨s.toArray⟩] w fun e w' => ∃ a : Ac, e = .returned (.tuple #[acA a, .bool (actO s).isSome]) ∧ (∀ b, actO s = some b → a = b) ∧ Below w.heap.size w w' := by
  have HSP := Lib.hid fun W (hb : Below w.heap.size w W) => Split_w s W (by omega) (he.below hb)
  have HNU := Lib.hid fun (l : List UInt8) (hl : l.length ≤ 200000) W (hb : Below w.heap.size w W) => number_c l W (by omega) (he.below hb)
  have HLN := Lib.hid fun (a : Ac) (h : FitN a) W (hb : Below w.heap.size w W) => lineG_c a.1 a.2.1.1 a.2.1.2.1 a.2.1.2.2.1 a.2.1.2.2.2.1 a.2.1.2.2.2.2 a.2.2 W h.toFit h.wf (he.below hb)
  have HSH := Lib.hid (words_short s)
  obtain ⟨ws, hws⟩ : ∃ ws, wordsOf s = ws := ⟨_, rfl⟩
  have HA : Hid (actO s = if ws.length = 6 ∨ ws.length = 7 then if numsOk ws ∧ 0 < nameIx (ws.getD 4 []) ∧ lineG (actW ws) = s ++ [10] then some (actW ws) else none else none) := by rw [← hws]; rfl
  rw [hws] at HSP HSH
  generalize actO s = AO at *
  clear he hws
  obtain ⟨n, hn⟩ : ∃ n, ws.length = n := ⟨_, rfl⟩
  rw [hn] at HSP HA
  by_cases h67 : n = 6 ∨ n = 7
  · rcases h67 with rfl | rfl
    · obtain ⟨w4, hw4⟩ : ∃ l, ws[4]? = some l := ⟨_, List.getElem?_eq_getElem (by omega)⟩
      have hd4 : ws.getD 4 [] = w4 := by rw [List.getD_eq_getElem?_getD, hw4]; rfl
      rw [if_pos (by omega), hd4] at HA
      go_enter Tryz.func34, Tryz.ntmps34
      go_wp2_with fail
      refine (HSP.out _ (by show Below _ _ _; go_grown)).mono ?_
      rintro e w1 ⟨rfl, rfl⟩
      go_wp2_with fail
      refine wp_named fun w1 hW => ?_
      have HX : Hid (w1.heap[w.heap.size]? = some (.cells #[.int .i64 2, .int .i64 0, .int .i64 0, .int .i64 0, .int .i64 0, .int .i64 0, .int .i64 0] 60 (0, 0))) := by
        rw [hW]; exact alloc2_first w _ _
      have HWS : Hid (w1.heap[w.heap.size + 1]? = some (.cells (strCells ws) 9 (0, 0))) := by
        rw [hW]
        exact alloc2_second w _ _
      have HB : Hid (Below w.heap.size w w1) := by rw [hW]; show Below _ _ _; go_grown
      clear hW
      have hw1 : w.heap.size + 1 < w1.heap.size := (Array.getElem?_eq_some_iff.1 HWS.out).1
      have k4 : w1.cell? ⟨w.heap.size + 1, 4, none⟩ = some (.string ⟨w4.toArray⟩) := by rw [cell_of_row _ _ _ _ _ _ HWS.out]; exact strCells_at hw4
      have HSC : Hid (∀ w', Kg w1 (some w.heap.size) w' → (w'.cell? ⟨w.heap.size + 1, 4, none⟩ = some (.string ⟨w4.toArray⟩) ∧ Kg w1 (some w.heap.size) w')) := fun w' hk => ⟨hk.cell k4 (by simp), hk⟩
      clear k4
      refine wp_region_noPanic ?_
      refine wp_region_held_drew (S := fun w' => w'.cell? ⟨w.heap.size + 1, 4, none⟩ = some (.string ⟨w4.toArray⟩) ∧ Kg w1 (some w.heap.size) w') (by kernel_rfl) (HSC.out _ (Kg.drew _ _)) (fun hHeld => ?_)
      refine wpAnyH_take (i := 1) (v := ?v48) (arr_at rfl) (by kernel_rfl) (by kernel_rfl) (by kernel_rfl) (fun _ _ _ h => h) (Or.inl ⟨by rfl, ?hy48⟩) (by assumption) ?_
      case hy48 => (intro w hSw; (try dsimp only at hSw); go_simp <;> with_reducible rfl)
      try simp only [Act.put, List.setIfInBounds_toArray, List.set_cons_zero, List.set_cons_succ]
      refine wpAnyH_take (i := 2) (v := ?v49) (arr_at rfl) (by kernel_rfl) (by kernel_rfl) (by kernel_rfl) (fun _ _ _ h => h) (Or.inl ⟨by rfl, ?hy49⟩) (by assumption) ?_
      case hy49 => (intro w hSw; (try dsimp only at hSw); go_simp <;> with_reducible rfl)
      try simp only [Act.put, List.setIfInBounds_toArray, List.set_cons_zero, List.set_cons_succ]
      refine wpAnyH_take (i := 3) (v := ?v50) (arr_at rfl) (by kernel_rfl) (by kernel_rfl) (by kernel_rfl) (fun _ _ _ h => h) (Or.inl ⟨by rfl, ?hy50⟩) (by assumption) ?_
      case hy50 => (intro w hSw; (try dsimp only at hSw); go_simp <;> with_reducible rfl)
      try simp only [Act.put, List.setIfInBounds_toArray, List.set_cons_zero, List.set_cons_succ]
      refine wpAnyH_ready (rs := [0]) (by kernel_rfl) (by simp) ?_
      refine AllReadyH.cons (arr_at rfl) (fun K hK => ?_) ?_
      · go_simp; refine (names_c _).mono ?_; rintro rr w3 ⟨rfl, rfl⟩
        refine hK.out _ _ ?_ (fun hHeld => ?_)
        · exact HSC.out _ (Kg.alloc (Kg.drew _ _) _)
        clear hK K
        try simp only [Act.put, List.setIfInBounds_toArray, List.set_cons_zero, List.set_cons_succ]
        refine wpAnyH_named fun WK hWK => ?_
        have HKW : Hid (Kg w1 (some w.heap.size) WK) := by rw [hWK]; exact Kg.alloc (Kg.drew _ _) _
        have HBK : Hid (Bw w1 WK) := by rw [hWK]; exact Bw.alloc (Bw.drew _) _
        have HNC : Hid (WK.heap[w1.heap.size]? = some (.cells nameCells 9 (0, 0))) := by rw [hWK]; exact heap_alloc_new _ _
        have hHeld2 : WK.cell? ⟨w.heap.size + 1, 4, none⟩ = some (.string ⟨w4.toArray⟩) ∧ Kg w1 (some w.heap.size) WK := HSC.out _ HKW.out
        have HXK : Hid (WK.heap[w.heap.size]? = some (.cells #[.int .i64 2, .int .i64 0, .int .i64 0, .int .i64 0, .int .i64 0, .int .i64 0, .int .i64 0] 60 (0, 0))) := (HBK.out.block _ (Array.getElem?_eq_some_iff.1 HX.out).1).trans HX.out
        obtain ⟨z4, zf4⟩ := cellAct4 HXK.out
        clear hWK hHeld
        refine wpAnyH_ready (rs := [4]) (by kernel_rfl) (by simp) ?_
        refine AllReadyH.cons (arr_at rfl) (fun K hK => ?_) ?_
        · go_simp; refine (Index_c _ 17 17 nameT _ _ rfl (by decide) (fun j l hj => by rw [cell_of_row _ _ _ _ _ _ HNC.out]; exact names_at hj)).mono ?_; rintro rr w3 ⟨rfl, rfl⟩
          refine hK.out _ _ ?_ (fun hHeld => ?_)
          · exact hHeld2
          clear hK K
          try simp only [Act.put, List.setIfInBounds_toArray, List.set_cons_zero, List.set_cons_succ]
          refine wpAnyH_ready (rs := [5]) (by kernel_rfl) (by simp) ?_
          refine AllReadyH.cons (arr_at rfl) (fun K hK => ?_) ?_
          · go_simp
            refine hK.out _ _ ?_ (fun hHeld => ?_)
            · exact hHeld2
            clear hK K
            try simp only [Act.put, List.setIfInBounds_toArray, List.set_cons_zero, List.set_cons_succ]
            refine wpAnyH_take (i := 6) (v := ?v51) (arr_at rfl) (by kernel_rfl) (by kernel_rfl) (by kernel_rfl) (fun _ _ _ h => h) (Or.inl ⟨by rfl, ?hy51⟩) (by assumption) ?_
            case hy51 => (intro w hSw; (try dsimp only at hSw); go_simp <;> with_reducible rfl)
            try simp only [Act.put, List.setIfInBounds_toArray, List.set_cons_zero, List.set_cons_succ]
            refine wpAnyH_take (i := 7) (v := ?v52) (arr_at rfl) (by kernel_rfl) (by kernel_rfl) (by kernel_rfl) (fun _ _ _ h => h) (Or.inl ⟨by rfl, ?hy52⟩) (by assumption) ?_
            case hy52 => (intro w hSw; (try dsimp only at hSw); go_simp <;> with_reducible rfl)
            try simp only [Act.put, List.setIfInBounds_toArray, List.set_cons_zero, List.set_cons_succ]
            refine wpAnyH_ready (rs := [8]) (by kernel_rfl) (by simp) ?_
            refine AllReadyH.cons (arr_at rfl) (fun K hK => ?_) ?_
            · go_simp
              refine hK.out _ _ ?_ (fun hHeld => ?_)
              · exact HSC.out _ (Kg.setg HKW.out 4 _)
              clear hK K
              try simp only [Act.put, List.setIfInBounds_toArray, List.set_cons_zero, List.set_cons_succ]
              refine wpAnyH_done (by kernel_rfl) ?_ _
              refine NoPanic.normal ?_
              refine exit_namedL (Q := Exit.then _ _) fun W8 hW8 => ?_
              have HX8 : Hid (W8.heap[w.heap.size]? = some (.cells #[.int .i64 2, .int .i64 0, .int .i64 0, .int .i64 0, .int .i64 (nameIx w4 : Int), .int .i64 0, .int .i64 0] 60 (0, 0))) := by rw [hW8, ← max_name]; exact heap_setCell_same _ _ 4 _ _ _ HXK.out
              have hk8 : Kg w1 (some w.heap.size) W8 := by rw [hW8]; exact Kg.setg HKW.out 4 _
              have HWS8 : Hid (W8.heap[w.heap.size + 1]? = some (.cells (strCells ws) 9 (0, 0))) := (hk8.block _ hw1 (by simp)).trans HWS.out
              have HB8 : Hid (Below w.heap.size w W8) := HB.out.grown hk8 HB.out.size (fun j hj => by cases hj; exact Nat.le_refl _)
              have hs8 : w.heap.size + 1 < W8.heap.size := (Array.getElem?_eq_some_iff.1 HWS8.out).1
              have hown0 : (W8.alloc (.map #[] 0)).ownsMap Tryz.prog 3 (ptrR w.heap.size) W8.heap.size 0 (.map []) := World.ownsMap_made _ _ _ _
              have hg0 : W8.grownBy (W8.alloc (.map #[] 0)) none := World.grownBy_alloc _ _ _
              have hmm := @run_makeMap Tryz.prog 131 W8
              generalize max (if w4 ∈ nameT then (nameT.idxOf w4 : Int) else -1) 0 = R2
              generalize (if w4 ∈ nameT then (nameT.idxOf w4 : Int) else -1) = R1
              clear hW8 hk8 HKW HBK HNC hHeld hHeld2 HXK z4 zf4 HSC HX HWS HB hw1
              go_wp2_with (first
                | (refine wpList_insert_own _ rfl _ _ _ 131 rfl 3 130 lawInt Tryz.underlying131 (ptrR w.heap.size) W8.heap.size 0 (DataW.map []) rfl hown0 (by decide) (.int .i64 1) (.pointer (some ⟨w.heap.size, 1, none⟩)) (.int .i64 1) rfl rfl (keyOf_int_mk Tryz.underlying3 (by decide)) (.lit (.int .i64 1)) [] (ptrR_mk _ 1) ?_; intro wm1 hown1 hgm1)
                | (refine wpList_insert_own _ rfl _ _ _ 131 rfl 3 130 lawInt Tryz.underlying131 (ptrR w.heap.size) W8.heap.size 1 D1 rfl hown1 (by decide) (.int .i64 2) (.pointer (some ⟨w.heap.size, 2, none⟩)) (.int .i64 2) rfl rfl (keyOf_int_mk Tryz.underlying3 (by decide)) (.lit (.int .i64 2)) [] (ptrR_mk _ 2) ?_; intro wm2 hown2 hgm2)
                | (refine wpList_insert_own _ rfl _ _ _ 131 rfl 3 130 lawInt Tryz.underlying131 (ptrR w.heap.size) W8.heap.size 2 D2 rfl hown2 (by decide) (.int .i64 3) (.pointer (some ⟨w.heap.size, 3, none⟩)) (.int .i64 3) rfl rfl (keyOf_int_mk Tryz.underlying3 (by decide)) (.lit (.int .i64 3)) [] (ptrR_mk _ 3) ?_; intro wm3 hown3 hgm3)
                | (refine wpList_insert_own _ rfl _ _ _ 131 rfl 3 130 lawInt Tryz.underlying131 (ptrR w.heap.size) W8.heap.size 3 D3 rfl hown3 (by decide) (.int .i64 5) (.pointer (some ⟨w.heap.size, 5, none⟩)) (.int .i64 5) rfl rfl (keyOf_int_mk Tryz.underlying3 (by decide)) (.lit (.int .i64 5)) [] (ptrR_mk _ 5) ?_; intro wm4 hown4 hgm4)
                | (refine wpList_insert_own _ rfl _ _ _ 131 rfl 3 130 lawInt Tryz.underlying131 (ptrR w.heap.size) W8.heap.size 4 D5 rfl hown4 (by decide) (.int .i64 6) (.pointer (some ⟨w.heap.size, 6, none⟩)) (.int .i64 6) rfl rfl (keyOf_int_mk Tryz.underlying3 (by decide)) (.lit (.int .i64 6)) [] (ptrR_mk _ 6) ?_; intro wm5 hown5 hgm5)
                | (at_range; refine wpList_range_own _ rfl _ 131 rfl 3 130 lawInt Tryz.underlying131 (ptrR w.heap.size) W8.heap.size 5 D6 rfl hown5 ?_; intro w0 hrg0 hgr0 hs0))
              go_frame
              have hgm : W8.grownBy wm5 none := ((((hg0.andThen hgm1 (fun j hj => by cases hj; exact .inl (Nat.le_refl _))).andThen hgm2 (fun j hj => by cases hj; exact .inl (Nat.le_refl _))).andThen hgm3 (fun j hj => by cases hj; exact .inl (Nat.le_refl _))).andThen hgm4 (fun j hj => by cases hj; exact .inl (Nat.le_refl _))).andThen hgm5 (fun j hj => by cases hj; exact .inl (Nat.le_refl _))
              have hg8 : W8.grownBy w0 none := hgm.andThen hgr0 (fun j hj => by cases hj)
              have hzm : W8.heap.size < wm5.heap.size := hown5.lt
              have HRL := Lib.hid hg8
              have HMZ := Lib.hid hzm
              have hX0 : w0.heap[w.heap.size]? = some (.cells #[.int .i64 2, .int .i64 0, .int .i64 0, .int .i64 0, .int .i64 (nameIx w4 : Int), .int .i64 0, .int .i64 0] 60 (0, 0)) := (hg8.block _ (by omega) (by simp)).trans HX8.out
              have hW0 : w0.heap[w.heap.size + 1]? = some (.cells (strCells ws) 9 (0, 0)) := (hg8.block _ hs8 (by simp)).trans HWS8.out
              have hB0 : Below w.heap.size w w0 := HB8.out.grown hg8 HB8.out.size (fun j hj => by cases hj)
              clear hmm hg0 hown0 hown1 hown2 hown3 hown4 hown5 hgm1 hgm2 hgm3 hgm4 hgm5 hgr0 hgm hg8 hzm
              go_loopw [3] (fun okv wr => ∃ (left : Lit → Bool) (cnt : Nat) (g1 g2 g3 g5 g6 : Int) (b : Bool), wr.ranges Tryz.prog 3 (ptrR w.heap.size) W8.heap.size wm5.heap.size 5 D6 left cnt ∧ okv = .bool b ∧ okOf left ws = b ∧
                  Cell left ws 1 g1 ∧ Cell left ws 2 g2 ∧ Cell left ws 3 g3 ∧ Cell left ws 5 g5 ∧ Cell left ws 6 g6 ∧ wr.heap[w.heap.size]? = some (.cells #[.int .i64 2, .int .i64 g1, .int .i64 g2, .int .i64 g3, .int .i64 (nameIx w4 : Int), .int .i64 g5, .int .i64 g6] 60 (0, 0)) ∧ wr.heap[w.heap.size + 1]? = some (.cells (strCells ws) 9 (0, 0)) ∧ Below w.heap.size w wr)
                (fun _ wr => wr.rangeLeft W8.heap.size wm5.heap.size)
              case atStart => exact ⟨_, _, 0, 0, 0, 0, 0, true, hrg0, rfl, okOf_start ws, Cell_start ws 1 (by decide), Cell_start ws 2 (by decide), Cell_start ws 3 (by decide), Cell_start ws 5 (by decide), Cell_start ws 6 (by decide), hX0, hW0, hB0⟩
              case round =>
                obtain ⟨left, cnt, g1, g2, g3, g5, g6, b, hrg, rfl, hok, hc1, hc2, hc3, hc5, hc6, hXr, hWr, hBr⟩ := hrel
                have HRG := Lib.hid hrg
                have HC1 := Lib.hid hc1
                have HC2 := Lib.hid hc2
                have HC3 := Lib.hid hc3
                have HC5 := Lib.hid hc5
                have HC6 := Lib.hid hc6
                have HOK := Lib.hid hok
                have HXR := Lib.hid hXr
                have HWR := Lib.hid hWr
                have HBR := Lib.hid hBr
                clear hX0 hW0 hB0 hc1 hc2 hc3 hc5 hc6 hok hXr hWr hBr hrg0
                have hz2 : w.heap.size + 1 < wm5.heap.size := Nat.lt_trans hs8 HMZ.out
                cases b
                · go_wp2_with (at_next; refine wpList_next_ranges _ rfl _ rfl 3 lawInt (ptrR w.heap.size) (Value.int .i64) (fun c : Nat => .pointer (some ⟨w.heap.size, c, none⟩)) (fun key kl hk => by obtain ⟨x, rfl, _⟩ := Maps.keyOf_int_inv Tryz.underlying3 hk; exact ⟨x, rfl⟩) (fun v y hv => by obtain ⟨o, rfl, _⟩ := ptrR_inv hv; exact ⟨o, rfl⟩) W8.heap.size wm5.heap.size 5 D6 left cnt rfl HRG.out ?_ ?_)
                  · intro hc0 hl0
                    have HS7 : Hid (∀ w', Kg wr (some w.heap.size) w' → w'.heap[w.heap.size]? = some (.cells #[.int .i64 2, .int .i64 g1, .int .i64 g2, .int .i64 g3, .int .i64 (nameIx w4 : Int), .int .i64 g5, .int .i64 g6] 60 (0, 0)) → (w'.cell? ⟨w.heap.size, 0, none⟩ = some (.int .i64 2) ∧ w'.cell? ⟨w.heap.size, 1, none⟩ = some (.int .i64 g1) ∧ w'.cell? ⟨w.heap.size, 2, none⟩ = some (.int .i64 g2) ∧ w'.cell? ⟨w.heap.size, 3, none⟩ = some (.int .i64 g3) ∧ w'.cell? ⟨w.heap.size, 4, none⟩ = some (.int .i64 (nameIx w4 : Int)) ∧ w'.cell? ⟨w.heap.size, 5, none⟩ = some (.int .i64 g5) ∧ w'.cell? ⟨w.heap.size, 6, none⟩ = some (.int .i64 g6) ∧ Kg wr (some w.heap.size) w')) := fun w' hk hx => (fun ⟨a0, a1, a2, a3, a4, a5, a6⟩ => ⟨a0, a1, a2, a3, a4, a5, a6, hk⟩) (cellAct hx)
                    have HNO : Hid (AO = none) := Lib.hid (by rw [HA.out, if_neg (fun h => by have := (okOf_end hl0).2 h.1; rw [HOK.out] at this; cases this)])
                    clear hl0 hc0
                    go_wp2_with fail
                    refine wp_region_noPanic ?_
                    refine wp_region_held_drew (S := fun w' => w'.cell? ⟨w.heap.size, 0, none⟩ = some (.int .i64 2) ∧ w'.cell? ⟨w.heap.size, 1, none⟩ = some (.int .i64 g1) ∧ w'.cell? ⟨w.heap.size, 2, none⟩ = some (.int .i64 g2) ∧ w'.cell? ⟨w.heap.size, 3, none⟩ = some (.int .i64 g3) ∧ w'.cell? ⟨w.heap.size, 4, none⟩ = some (.int .i64 (nameIx w4 : Int)) ∧ w'.cell? ⟨w.heap.size, 5, none⟩ = some (.int .i64 g5) ∧ w'.cell? ⟨w.heap.size, 6, none⟩ = some (.int .i64 g6) ∧ Kg wr (some w.heap.size) w') (by kernel_rfl) (HS7.out _ (Kg.drew _ _) HXR.out) (fun hHeld => ?_)
                    refine wpAnyH_named fun WK hWK => ?_
                    have HXK : Hid (WK.heap[w.heap.size]? = some (.cells #[.int .i64 2, .int .i64 g1, .int .i64 g2, .int .i64 g3, .int .i64 (nameIx w4 : Int), .int .i64 g5, .int .i64 g6] 60 (0, 0))) := by rw [hWK]; exact HXR.out
                    have HKW : Hid (Kg wr (some w.heap.size) WK) := by rw [hWK]; exact Kg.drew _ _
                    have HBK : Hid (Below w.heap.size w WK) := by rw [hWK]; exact HBR.out.drew
                    have hHeld2 := HS7.out _ HKW.out HXK.out
                    clear hWK hHeld
                    obtain ⟨z0, z1, z2, z3, z4, z5, z6⟩ := cellAct HXK.out
                    have zf0 : WK.frozen? ⟨w.heap.size, 0, none⟩ = false := frozen_of_row _ _ _ _ _ HXK.out
                    have zf1 : WK.frozen? ⟨w.heap.size, 1, none⟩ = false := frozen_of_row _ _ _ _ _ HXK.out
                    have zf2 : WK.frozen? ⟨w.heap.size, 2, none⟩ = false := frozen_of_row _ _ _ _ _ HXK.out
                    have zf3 : WK.frozen? ⟨w.heap.size, 3, none⟩ = false := frozen_of_row _ _ _ _ _ HXK.out
                    have zf4 : WK.frozen? ⟨w.heap.size, 4, none⟩ = false := frozen_of_row _ _ _ _ _ HXK.out
                    have zf5 : WK.frozen? ⟨w.heap.size, 5, none⟩ = false := frozen_of_row _ _ _ _ _ HXK.out
                    have zf6 : WK.frozen? ⟨w.heap.size, 6, none⟩ = false := frozen_of_row _ _ _ _ _ HXK.out
                    refine wpAnyH_take (i := 0) (v := ?v1) (arr_at rfl) (by kernel_rfl) (by kernel_rfl) (by kernel_rfl) (fun _ _ _ h => h) (Or.inl ⟨by rfl, ?hy1⟩) (by assumption) ?_
                    case hy1 => (intro w hSw; (try dsimp only at hSw); go_simp <;> with_reducible rfl)
                    try simp only [Act.put, List.setIfInBounds_toArray, List.set_cons_zero, List.set_cons_succ]
                    refine wpAnyH_take (i := 1) (v := ?v2) (arr_at rfl) (by kernel_rfl) (by kernel_rfl) (by kernel_rfl) (fun _ _ _ h => h) (Or.inl ⟨by rfl, ?hy2⟩) (by assumption) ?_
                    case hy2 => (intro w hSw; (try dsimp only at hSw); go_simp <;> with_reducible rfl)
                    try simp only [Act.put, List.setIfInBounds_toArray, List.set_cons_zero, List.set_cons_succ]
                    refine wpAnyH_take (i := 2) (v := ?v3) (arr_at rfl) (by kernel_rfl) (by kernel_rfl) (by kernel_rfl) (fun _ _ _ h => h) (Or.inl ⟨by rfl, ?hy3⟩) (by assumption) ?_
                    case hy3 => (intro w hSw; (try dsimp only at hSw); go_simp <;> with_reducible rfl)
                    try simp only [Act.put, List.setIfInBounds_toArray, List.set_cons_zero, List.set_cons_succ]
                    refine wpAnyH_take (i := 3) (v := undef) (arr_at rfl) (by kernel_rfl) (by kernel_rfl) (by kernel_rfl) (fun _ _ _ h => h) (Or.inr ⟨by rfl, rfl⟩) (by assumption) ?_
                    try simp only [Act.put, List.setIfInBounds_toArray, List.set_cons_zero, List.set_cons_succ]
                    refine wpAnyH_take (i := 4) (v := undef) (arr_at rfl) (by kernel_rfl) (by kernel_rfl) (by kernel_rfl) (fun _ _ _ h => h) (Or.inr ⟨by rfl, rfl⟩) (by assumption) ?_
                    try simp only [Act.put, List.setIfInBounds_toArray, List.set_cons_zero, List.set_cons_succ]
                    refine wpAnyH_take (i := 5) (v := undef) (arr_at rfl) (by kernel_rfl) (by kernel_rfl) (by kernel_rfl) (fun _ _ _ h => h) (Or.inr ⟨by rfl, rfl⟩) (by assumption) ?_
                    try simp only [Act.put, List.setIfInBounds_toArray, List.set_cons_zero, List.set_cons_succ]
                    refine wpAnyH_take (i := 6) (v := undef) (arr_at rfl) (by kernel_rfl) (by kernel_rfl) (by kernel_rfl) (fun _ _ _ h => h) (Or.inr ⟨by rfl, rfl⟩) (by assumption) ?_
                    try simp only [Act.put, List.setIfInBounds_toArray, List.set_cons_zero, List.set_cons_succ]
                    refine wpAnyH_take (i := 7) (v := ?v8) (arr_at rfl) (by kernel_rfl) (by kernel_rfl) (by kernel_rfl) (fun _ _ _ h => h) (Or.inl ⟨by rfl, ?hy8⟩) (by assumption) ?_
                    case hy8 => (intro w hSw; (try dsimp only at hSw); go_simp <;> with_reducible rfl)
                    try simp only [Act.put, List.setIfInBounds_toArray, List.set_cons_zero, List.set_cons_succ]
                    refine wpAnyH_take (i := 8) (v := ?v9) (arr_at rfl) (by kernel_rfl) (by kernel_rfl) (by kernel_rfl) (fun _ _ _ h => h) (Or.inl ⟨by rfl, ?hy9⟩) (by assumption) ?_
                    case hy9 => (intro w hSw; (try dsimp only at hSw); go_simp <;> with_reducible rfl)
                    try simp only [Act.put, List.setIfInBounds_toArray, List.set_cons_zero, List.set_cons_succ]
                    refine wpAnyH_take (i := 9) (v := undef) (arr_at rfl) (by kernel_rfl) (by kernel_rfl) (by kernel_rfl) (fun _ _ _ h => h) (Or.inr ⟨by rfl, rfl⟩) (by assumption) ?_
                    try simp only [Act.put, List.setIfInBounds_toArray, List.set_cons_zero, List.set_cons_succ]
                    refine wpAnyH_take (i := 10) (v := undef) (arr_at rfl) (by kernel_rfl) (by kernel_rfl) (by kernel_rfl) (fun _ _ _ h => h) (Or.inr ⟨by rfl, rfl⟩) (by assumption) ?_
                    try simp only [Act.put, List.setIfInBounds_toArray, List.set_cons_zero, List.set_cons_succ]
                    refine wpAnyH_take (i := 11) (v := undef) (arr_at rfl) (by kernel_rfl) (by kernel_rfl) (by kernel_rfl) (fun _ _ _ h => h) (Or.inr ⟨by rfl, rfl⟩) (by assumption) ?_
                    try simp only [Act.put, List.setIfInBounds_toArray, List.set_cons_zero, List.set_cons_succ]
                    refine wpAnyH_take (i := 12) (v := undef) (arr_at rfl) (by kernel_rfl) (by kernel_rfl) (by kernel_rfl) (fun _ _ _ h => h) (Or.inr ⟨by rfl, rfl⟩) (by assumption) ?_
                    try simp only [Act.put, List.setIfInBounds_toArray, List.set_cons_zero, List.set_cons_succ]
                    refine wpAnyH_take (i := 13) (v := undef) (arr_at rfl) (by kernel_rfl) (by kernel_rfl) (by kernel_rfl) (fun _ _ _ h => h) (Or.inr ⟨by rfl, rfl⟩) (by assumption) ?_
                    try simp only [Act.put, List.setIfInBounds_toArray, List.set_cons_zero, List.set_cons_succ]
                    refine wpAnyH_take (i := 14) (v := ?v15) (arr_at rfl) (by kernel_rfl) (by kernel_rfl) (by kernel_rfl) (fun _ _ _ h => h) (Or.inl ⟨by rfl, ?hy15⟩) (by assumption) ?_
                    case hy15 => (intro w hSw; (try dsimp only at hSw); go_simp <;> with_reducible rfl)
                    try simp only [Act.put, List.setIfInBounds_toArray, List.set_cons_zero, List.set_cons_succ]
                    refine wpAnyH_ready (rs := [15]) (by kernel_rfl) (by simp) ?_
                    refine AllReadyH.cons (arr_at rfl) (fun K hK => ?_) ?_
                    · go_simp
                      refine hK.out _ _ ?_ (fun hHeld => ?_)
                      · exact HS7.out _ (kg_seven HKW.out _ _ _ _ _ _ _) (set_seven HXK.out)
                      clear hK K
                      try simp only [Act.put, List.setIfInBounds_toArray, List.set_cons_zero, List.set_cons_succ]
                      refine wpAnyH_take (i := 16) (v := ?v16) (arr_at rfl) (by kernel_rfl) (by kernel_rfl) (by kernel_rfl) (fun _ _ _ h => h) (Or.inl ⟨by rfl, ?hy16⟩) (by assumption) ?_
                      case hy16 => (intro w hSw; (try dsimp only at hSw); go_simp <;> with_reducible rfl)
                      try simp only [Act.put, List.setIfInBounds_toArray, List.set_cons_zero, List.set_cons_succ]
                      refine wpAnyH_done (by kernel_rfl) ?_ _
                      refine NoPanic.normal ?_
                      refine exit_namedL (Q := Exit.then _ _) fun WF hWF => ?_
                      have hXF : WF.heap[w.heap.size]? = some (.cells #[.int .i64 2, .int .i64 g1, .int .i64 g2, .int .i64 g3, .int .i64 (nameIx w4 : Int), .int .i64 g5, .int .i64 g6] 60 (0, 0)) := by rw [hWF]; exact set_seven HXK.out
                      have hBF : Below w.heap.size w WF := by rw [hWF]; exact below_seven HBK.out (Nat.le_refl _) _ _ _ _ _ _ _
                      clear hWF
                      go_wp2
                      have hN := HNO.out
                      subst hN
                      exact bodyPost_ret (v := .tuple #[.agg #[.int .i64 2, .int .i64 g1, .int .i64 g2, .int .i64 g3, .int .i64 (nameIx w4 : Int), .int .i64 g5, .int .i64 g6], .bool false]) (results_row2 Tryz.results34 _ _ w.heap.size 60 _ (0, 0) _ _ rfl rfl hXF Tryz.underlying60 rfl rfl) rfl
                        ⟨(2, (g1, g2, g3, (nameIx w4 : Int), g5), g6), rfl, (fun _ h => nomatch h), hBF⟩
                    exact AllReadyH.nil
                  · intro x c kl y ys w2 cnt1 hkey hlk hv hat hrg1 hlt1 hg1 hs1 hen
                    have hy : y = .lit (.int .i64 (c : Int)) := congrArg Prod.fst (Option.some.inj (hv.symm.trans (ptrR_mk w.heap.size c)))
                    obtain ⟨x', ex, rfl, -⟩ := Maps.keyOf_int_inv Tryz.underlying3 hkey
                    injection ex with ex1 ex2
                    subst ex2
                    have hX2 : w2.heap[w.heap.size]? = some (.cells #[.int .i64 2, .int .i64 g1, .int .i64 g2, .int .i64 g3, .int .i64 (nameIx w4 : Int), .int .i64 g5, .int .i64 g6] 60 (0, 0)) := (hg1.block _ (by have := (Array.getElem?_eq_some_iff.1 HXR.out).1; exact this) (by simp; omega)).trans HXR.out
                    have hW2 : w2.heap[w.heap.size + 1]? = some (.cells (strCells ws) 9 (0, 0)) := (hg1.block _ (by have := (Array.getElem?_eq_some_iff.1 HWR.out).1; exact this) (by simp; omega)).trans HWR.out
                    have hB2 : Below w.heap.size w w2 := HBR.out.grown hg1 HBR.out.size (fun j hj => by cases hj; omega)
                    have HX2 := Lib.hid hX2
                    have HW2 := Lib.hid hW2
                    have HB2 := Lib.hid hB2
                    have HRG1 := Lib.hid hrg1
                    have HG1 := Lib.hid hg1
                    have hd := D6_inv (x := x) (c := c) (fun zd => by rw [hat zd, hy])
                    clear hv hat hy hkey hX2 hW2 hB2 hrg1 hg1
                    rcases hd with ⟨rfl, rfl⟩ | ⟨rfl, rfl⟩ | ⟨rfl, rfl⟩ | ⟨rfl, rfl⟩ | ⟨rfl, rfl⟩
                    · obtain ⟨wl, hwl⟩ : ∃ l, ws[1]? = some l := ⟨_, List.getElem?_eq_getElem (by omega)⟩
                      have hcell : w2.cell? ⟨w.heap.size + 1, 1, none⟩ = some (.string ⟨wl.toArray⟩) := by rw [cell_of_row _ _ _ _ _ _ HW2.out]; exact strCells_at hwl
                      go_wp2_with fail
                      refine (HNU.out wl (Nat.le_trans (HSH.out wl (List.mem_of_getElem? hwl)) hs) _ HB2.out).mono ?_
                      rintro e w3 ⟨nv, rfl, hnv, hb3⟩
                      have hX3 := (hb3.block _ (Array.getElem?_eq_some_iff.1 HX2.out).1).trans HX2.out
                      have hW3 := (hb3.block _ (Array.getElem?_eq_some_iff.1 HW2.out).1).trans HW2.out
                      have z1 : w3.cell? ⟨w.heap.size, 1, none⟩ = some (.int .i64 g1) := by rw [cell_of_row _ _ _ _ _ _ hX3]; rfl
                      have zf1 : w3.frozen? ⟨w.heap.size, 1, none⟩ = false := frozen_of_row _ _ _ _ _ hX3
                      have HX3 := Lib.hid hX3
                      have HW3 := Lib.hid hW3
                      have HB3 := Lib.hid hb3
                      clear hX3 hW3 hb3 hcell
                      go_wp2
                      go_roundw
                      case rel =>
                        have hk3 : w3.grownBy (w3.setCell ⟨w.heap.size, 1, none⟩ (.int .i64 nv)) (some w.heap.size) := Kg.setg (Kg.refl w3 _) 1 _
                        exact ⟨_, cnt1, nv, g2, g3, g5, g6, false, (HRG1.out.kept (grown_of_below HB3.out none) (by simp) (by simp)).kept hk3 (by simp; omega) (by simp; omega), rfl, (okOf_step (x := 1) (by decide) hlk).trans (by rw [HOK.out, numAt_word hwl]; rfl), Cell_same (fun v hv => by rw [numAt_word hwl] at hv; exact hnv v hv), Cell_other HC2.out (by decide), Cell_other HC3.out (by decide), Cell_other HC5.out (by decide), Cell_other HC6.out (by decide), heap_setCell_same w3 w.heap.size 1 _ _ _ HX3.out, (hk3.block _ (Array.getElem?_eq_some_iff.1 HW3.out).1 (by simp)).trans HW3.out, (HB2.out.trans (HB3.out.mono HB2.out.size)).setCell (p := ⟨w.heap.size, 1, none⟩) (Nat.le_refl _) _⟩
                      case measure =>
                        have hk3 : w3.grownBy (w3.setCell ⟨w.heap.size, 1, none⟩ (.int .i64 nv)) (some w.heap.size) := Kg.setg (Kg.refl w3 _) 1 _
                        rw [((HRG1.out.kept (grown_of_below HB3.out none) (by simp) (by simp)).kept hk3 (by simp; omega) (by simp; omega)).left_eq, HRG.out.left_eq]; exact hlt1
                    · obtain ⟨wl, hwl⟩ : ∃ l, ws[2]? = some l := ⟨_, List.getElem?_eq_getElem (by omega)⟩
                      have hcell : w2.cell? ⟨w.heap.size + 1, 2, none⟩ = some (.string ⟨wl.toArray⟩) := by rw [cell_of_row _ _ _ _ _ _ HW2.out]; exact strCells_at hwl
                      go_wp2_with fail
                      refine (HNU.out wl (Nat.le_trans (HSH.out wl (List.mem_of_getElem? hwl)) hs) _ HB2.out).mono ?_
                      rintro e w3 ⟨nv, rfl, hnv, hb3⟩
                      have hX3 := (hb3.block _ (Array.getElem?_eq_some_iff.1 HX2.out).1).trans HX2.out
                      have hW3 := (hb3.block _ (Array.getElem?_eq_some_iff.1 HW2.out).1).trans HW2.out
                      have z2 : w3.cell? ⟨w.heap.size, 2, none⟩ = some (.int .i64 g2) := by rw [cell_of_row _ _ _ _ _ _ hX3]; rfl
                      have zf2 : w3.frozen? ⟨w.heap.size, 2, none⟩ = false := frozen_of_row _ _ _ _ _ hX3
                      have HX3 := Lib.hid hX3
                      have HW3 := Lib.hid hW3
                      have HB3 := Lib.hid hb3
                      clear hX3 hW3 hb3 hcell
                      go_wp2
                      go_roundw
                      case rel =>
                        have hk3 : w3.grownBy (w3.setCell ⟨w.heap.size, 2, none⟩ (.int .i64 nv)) (some w.heap.size) := Kg.setg (Kg.refl w3 _) 2 _
                        exact ⟨_, cnt1, g1, nv, g3, g5, g6, false, (HRG1.out.kept (grown_of_below HB3.out none) (by simp) (by simp)).kept hk3 (by simp; omega) (by simp; omega), rfl, (okOf_step (x := 2) (by decide) hlk).trans (by rw [HOK.out, numAt_word hwl]; rfl), Cell_other HC1.out (by decide), Cell_same (fun v hv => by rw [numAt_word hwl] at hv; exact hnv v hv), Cell_other HC3.out (by decide), Cell_other HC5.out (by decide), Cell_other HC6.out (by decide), heap_setCell_same w3 w.heap.size 2 _ _ _ HX3.out, (hk3.block _ (Array.getElem?_eq_some_iff.1 HW3.out).1 (by simp)).trans HW3.out, (HB2.out.trans (HB3.out.mono HB2.out.size)).setCell (p := ⟨w.heap.size, 2, none⟩) (Nat.le_refl _) _⟩
                      case measure =>
                        have hk3 : w3.grownBy (w3.setCell ⟨w.heap.size, 2, none⟩ (.int .i64 nv)) (some w.heap.size) := Kg.setg (Kg.refl w3 _) 2 _
                        rw [((HRG1.out.kept (grown_of_below HB3.out none) (by simp) (by simp)).kept hk3 (by simp; omega) (by simp; omega)).left_eq, HRG.out.left_eq]; exact hlt1
                    · obtain ⟨wl, hwl⟩ : ∃ l, ws[3]? = some l := ⟨_, List.getElem?_eq_getElem (by omega)⟩
                      have hcell : w2.cell? ⟨w.heap.size + 1, 3, none⟩ = some (.string ⟨wl.toArray⟩) := by rw [cell_of_row _ _ _ _ _ _ HW2.out]; exact strCells_at hwl
                      go_wp2_with fail
                      refine (HNU.out wl (Nat.le_trans (HSH.out wl (List.mem_of_getElem? hwl)) hs) _ HB2.out).mono ?_
                      rintro e w3 ⟨nv, rfl, hnv, hb3⟩
                      have hX3 := (hb3.block _ (Array.getElem?_eq_some_iff.1 HX2.out).1).trans HX2.out
                      have hW3 := (hb3.block _ (Array.getElem?_eq_some_iff.1 HW2.out).1).trans HW2.out
                      have z3 : w3.cell? ⟨w.heap.size, 3, none⟩ = some (.int .i64 g3) := by rw [cell_of_row _ _ _ _ _ _ hX3]; rfl
                      have zf3 : w3.frozen? ⟨w.heap.size, 3, none⟩ = false := frozen_of_row _ _ _ _ _ hX3
                      have HX3 := Lib.hid hX3
                      have HW3 := Lib.hid hW3
                      have HB3 := Lib.hid hb3
                      clear hX3 hW3 hb3 hcell
                      go_wp2
                      go_roundw
                      case rel =>
                        have hk3 : w3.grownBy (w3.setCell ⟨w.heap.size, 3, none⟩ (.int .i64 nv)) (some w.heap.size) := Kg.setg (Kg.refl w3 _) 3 _
                        exact ⟨_, cnt1, g1, g2, nv, g5, g6, false, (HRG1.out.kept (grown_of_below HB3.out none) (by simp) (by simp)).kept hk3 (by simp; omega) (by simp; omega), rfl, (okOf_step (x := 3) (by decide) hlk).trans (by rw [HOK.out, numAt_word hwl]; rfl), Cell_other HC1.out (by decide), Cell_other HC2.out (by decide), Cell_same (fun v hv => by rw [numAt_word hwl] at hv; exact hnv v hv), Cell_other HC5.out (by decide), Cell_other HC6.out (by decide), heap_setCell_same w3 w.heap.size 3 _ _ _ HX3.out, (hk3.block _ (Array.getElem?_eq_some_iff.1 HW3.out).1 (by simp)).trans HW3.out, (HB2.out.trans (HB3.out.mono HB2.out.size)).setCell (p := ⟨w.heap.size, 3, none⟩) (Nat.le_refl _) _⟩
                      case measure =>
                        have hk3 : w3.grownBy (w3.setCell ⟨w.heap.size, 3, none⟩ (.int .i64 nv)) (some w.heap.size) := Kg.setg (Kg.refl w3 _) 3 _
                        rw [((HRG1.out.kept (grown_of_below HB3.out none) (by simp) (by simp)).kept hk3 (by simp; omega) (by simp; omega)).left_eq, HRG.out.left_eq]; exact hlt1
                    · obtain ⟨wl, hwl⟩ : ∃ l, ws[5]? = some l := ⟨_, List.getElem?_eq_getElem (by omega)⟩
                      have hcell : w2.cell? ⟨w.heap.size + 1, 5, none⟩ = some (.string ⟨wl.toArray⟩) := by rw [cell_of_row _ _ _ _ _ _ HW2.out]; exact strCells_at hwl
                      go_wp2_with fail
                      refine (HNU.out wl (Nat.le_trans (HSH.out wl (List.mem_of_getElem? hwl)) hs) _ HB2.out).mono ?_
                      rintro e w3 ⟨nv, rfl, hnv, hb3⟩
                      have hX3 := (hb3.block _ (Array.getElem?_eq_some_iff.1 HX2.out).1).trans HX2.out
                      have hW3 := (hb3.block _ (Array.getElem?_eq_some_iff.1 HW2.out).1).trans HW2.out
                      have z5 : w3.cell? ⟨w.heap.size, 5, none⟩ = some (.int .i64 g5) := by rw [cell_of_row _ _ _ _ _ _ hX3]; rfl
                      have zf5 : w3.frozen? ⟨w.heap.size, 5, none⟩ = false := frozen_of_row _ _ _ _ _ hX3
                      have HX3 := Lib.hid hX3
                      have HW3 := Lib.hid hW3
                      have HB3 := Lib.hid hb3
                      clear hX3 hW3 hb3 hcell
                      go_wp2
                      go_roundw
                      case rel =>
                        have hk3 : w3.grownBy (w3.setCell ⟨w.heap.size, 5, none⟩ (.int .i64 nv)) (some w.heap.size) := Kg.setg (Kg.refl w3 _) 5 _
                        exact ⟨_, cnt1, g1, g2, g3, nv, g6, false, (HRG1.out.kept (grown_of_below HB3.out none) (by simp) (by simp)).kept hk3 (by simp; omega) (by simp; omega), rfl, (okOf_step (x := 5) (by decide) hlk).trans (by rw [HOK.out, numAt_word hwl]; rfl), Cell_other HC1.out (by decide), Cell_other HC2.out (by decide), Cell_other HC3.out (by decide), Cell_same (fun v hv => by rw [numAt_word hwl] at hv; exact hnv v hv), Cell_other HC6.out (by decide), heap_setCell_same w3 w.heap.size 5 _ _ _ HX3.out, (hk3.block _ (Array.getElem?_eq_some_iff.1 HW3.out).1 (by simp)).trans HW3.out, (HB2.out.trans (HB3.out.mono HB2.out.size)).setCell (p := ⟨w.heap.size, 5, none⟩) (Nat.le_refl _) _⟩
                      case measure =>
                        have hk3 : w3.grownBy (w3.setCell ⟨w.heap.size, 5, none⟩ (.int .i64 nv)) (some w.heap.size) := Kg.setg (Kg.refl w3 _) 5 _
                        rw [((HRG1.out.kept (grown_of_below HB3.out none) (by simp) (by simp)).kept hk3 (by simp; omega) (by simp; omega)).left_eq, HRG.out.left_eq]; exact hlt1
                    · have h6n : numAt ws 6 = some 0 := by unfold numAt; rw [if_neg (by omega)]
                      go_wp2
                      go_roundw
                      case rel => exact ⟨_, cnt1, g1, g2, g3, g5, g6, false, HRG1.out, rfl, (okOf_step (x := 6) (by decide) hlk).trans (by rw [HOK.out, h6n]; rfl), Cell_other HC1.out (by decide), Cell_other HC2.out (by decide), Cell_other HC3.out (by decide), Cell_other HC5.out (by decide), Cell_same (fun v hv => by rw [h6n] at hv; rw [HC6.out.1 hlk]; exact Option.some.inj hv), HX2.out, HW2.out, HB2.out⟩
                      case measure => rw [HRG1.out.left_eq, HRG.out.left_eq]; exact hlt1
                · go_wp2_with (at_next; refine wpList_next_ranges _ rfl _ rfl 3 lawInt (ptrR w.heap.size) (Value.int .i64) (fun c : Nat => .pointer (some ⟨w.heap.size, c, none⟩)) (fun key kl hk => by obtain ⟨x, rfl, _⟩ := Maps.keyOf_int_inv Tryz.underlying3 hk; exact ⟨x, rfl⟩) (fun v y hv => by obtain ⟨o, rfl, _⟩ := ptrR_inv hv; exact ⟨o, rfl⟩) W8.heap.size wm5.heap.size 5 D6 left cnt rfl HRG.out ?_ ?_)
                  · intro hc0 hl0
                    have HS7 : Hid (∀ w', Kg wr (some w.heap.size) w' → w'.heap[w.heap.size]? = some (.cells #[.int .i64 2, .int .i64 g1, .int .i64 g2, .int .i64 g3, .int .i64 (nameIx w4 : Int), .int .i64 g5, .int .i64 g6] 60 (0, 0)) → (w'.cell? ⟨w.heap.size, 0, none⟩ = some (.int .i64 2) ∧ w'.cell? ⟨w.heap.size, 1, none⟩ = some (.int .i64 g1) ∧ w'.cell? ⟨w.heap.size, 2, none⟩ = some (.int .i64 g2) ∧ w'.cell? ⟨w.heap.size, 3, none⟩ = some (.int .i64 g3) ∧ w'.cell? ⟨w.heap.size, 4, none⟩ = some (.int .i64 (nameIx w4 : Int)) ∧ w'.cell? ⟨w.heap.size, 5, none⟩ = some (.int .i64 g5) ∧ w'.cell? ⟨w.heap.size, 6, none⟩ = some (.int .i64 g6) ∧ Kg wr (some w.heap.size) w')) := fun w' hk hx => (fun ⟨a0, a1, a2, a3, a4, a5, a6⟩ => ⟨a0, a1, a2, a3, a4, a5, a6, hk⟩) (cellAct hx)
                    have hNN : numsOk ws := (okOf_end hl0).1 HOK.out
                    by_cases hpos : 0 < nameIx w4
                    · have hact : actW ws = (2, (g1, g2, g3, (nameIx w4 : Int), g5), g6) := by
                        rw [Cell_end HC1.out hl0 hNN.1, Cell_end HC2.out hl0 hNN.2.1, Cell_end HC3.out hl0 hNN.2.2.1, Cell_end HC5.out hl0 hNN.2.2.2.1, Cell_end HC6.out hl0 hNN.2.2.2.2]
                        unfold actW
                        rw [hn, hd4]
                        rfl
                      have HFT : Hid (FitN (2, (g1, g2, g3, (nameIx w4 : Int), g5), g6)) := by rw [← hact]; exact actW_fit (by omega) hNN (by rw [hd4]; exact hpos)
                      have HAC : Hid (AO = if lineG (2, (g1, g2, g3, (nameIx w4 : Int), g5), g6) = s ++ [10] then some (2, (g1, g2, g3, (nameIx w4 : Int), g5), g6) else none) := by
                        refine Lib.hid ?_
                        rw [HA.out, hact]
                        by_cases hl : lineG (2, (g1, g2, g3, (nameIx w4 : Int), g5), g6) = s ++ [10]
                        · rw [if_pos ⟨hNN, hpos, hl⟩, if_pos hl]
                        · rw [if_neg (fun h => hl h.2.2), if_neg hl]
                      have hposI : (0 : Int) < (nameIx w4 : Int) := by omega
                      have hsl : ¬ (9223372036854775807 < s.length + 1) := by omega
                      clear hl0 hc0 hact hNN
                      go_wp2_with fail
                      refine wp_region_noPanic ?_
                      refine wp_region_held_drew (S := fun w' => w'.cell? ⟨w.heap.size, 0, none⟩ = some (.int .i64 2) ∧ w'.cell? ⟨w.heap.size, 1, none⟩ = some (.int .i64 g1) ∧ w'.cell? ⟨w.heap.size, 2, none⟩ = some (.int .i64 g2) ∧ w'.cell? ⟨w.heap.size, 3, none⟩ = some (.int .i64 g3) ∧ w'.cell? ⟨w.heap.size, 4, none⟩ = some (.int .i64 (nameIx w4 : Int)) ∧ w'.cell? ⟨w.heap.size, 5, none⟩ = some (.int .i64 g5) ∧ w'.cell? ⟨w.heap.size, 6, none⟩ = some (.int .i64 g6) ∧ Kg wr (some w.heap.size) w') (by kernel_rfl) (HS7.out _ (Kg.drew _ _) HXR.out) (fun hHeld => ?_)
                      refine wpAnyH_named fun WK hWK => ?_
                      have HXK : Hid (WK.heap[w.heap.size]? = some (.cells #[.int .i64 2, .int .i64 g1, .int .i64 g2, .int .i64 g3, .int .i64 (nameIx w4 : Int), .int .i64 g5, .int .i64 g6] 60 (0, 0))) := by rw [hWK]; exact HXR.out
                      have HKW : Hid (Kg wr (some w.heap.size) WK) := by rw [hWK]; exact Kg.drew _ _
                      have HBK : Hid (Below w.heap.size w WK) := by rw [hWK]; exact HBR.out.drew
                      have hHeld2 := HS7.out _ HKW.out HXK.out
                      clear hWK hHeld
                      refine wpAnyH_take (i := 0) (v := ?v17) (arr_at rfl) (by kernel_rfl) (by kernel_rfl) (by kernel_rfl) (fun _ _ _ h => h) (Or.inl ⟨by rfl, ?hy17⟩) (by assumption) ?_
                      case hy17 => (intro w hSw; (try dsimp only at hSw); go_simp <;> with_reducible rfl)
                      try simp only [Act.put, List.setIfInBounds_toArray, List.set_cons_zero, List.set_cons_succ]
                      refine wpAnyH_take (i := 1) (v := ?v18) (arr_at rfl) (by kernel_rfl) (by kernel_rfl) (by kernel_rfl) (fun _ _ _ h => h) (Or.inl ⟨by rfl, ?hy18⟩) (by assumption) ?_
                      case hy18 => (intro w hSw; (try dsimp only at hSw); go_simp <;> with_reducible rfl)
                      try simp only [Act.put, List.setIfInBounds_toArray, List.set_cons_zero, List.set_cons_succ]
                      refine wpAnyH_take (i := 2) (v := ?v19) (arr_at rfl) (by kernel_rfl) (by kernel_rfl) (by kernel_rfl) (fun _ _ _ h => h) (Or.inl ⟨by rfl, ?hy19⟩) (by assumption) ?_
                      case hy19 => (intro w hSw; (try dsimp only at hSw); go_simp <;> with_reducible rfl)
                      try simp only [Act.put, List.setIfInBounds_toArray, List.set_cons_zero, List.set_cons_succ]
                      refine wpAnyH_take (i := 3) (v := ?v20) (arr_at rfl) (by kernel_rfl) (by kernel_rfl) (by kernel_rfl) (fun _ _ _ h => h) (Or.inl ⟨by rfl, ?hy20⟩) (by assumption) ?_
                      case hy20 => (intro w hSw; (try dsimp only at hSw); go_simp <;> with_reducible rfl)
                      try simp only [Act.put, List.setIfInBounds_toArray, List.set_cons_zero, List.set_cons_succ]
                      refine wpAnyH_take (i := 4) (v := ?v21) (arr_at rfl) (by kernel_rfl) (by kernel_rfl) (by kernel_rfl) (fun _ _ _ h => h) (Or.inl ⟨by rfl, ?hy21⟩) (by assumption) ?_
                      case hy21 => (intro w hSw; (try dsimp only at hSw); go_simp <;> with_reducible rfl)
                      try simp only [Act.put, List.setIfInBounds_toArray, List.set_cons_zero, List.set_cons_succ]
                      refine wpAnyH_take (i := 5) (v := ?v22) (arr_at rfl) (by kernel_rfl) (by kernel_rfl) (by kernel_rfl) (fun _ _ _ h => h) (Or.inl ⟨by rfl, ?hy22⟩) (by assumption) ?_
                      case hy22 => (intro w hSw; (try dsimp only at hSw); go_simp <;> with_reducible rfl)
                      try simp only [Act.put, List.setIfInBounds_toArray, List.set_cons_zero, List.set_cons_succ]
                      refine wpAnyH_take (i := 6) (v := ?v23) (arr_at rfl) (by kernel_rfl) (by kernel_rfl) (by kernel_rfl) (fun _ _ _ h => h) (Or.inl ⟨by rfl, ?hy23⟩) (by assumption) ?_
                      case hy23 => (intro w hSw; (try dsimp only at hSw); go_simp <;> with_reducible rfl)
                      try simp only [Act.put, List.setIfInBounds_toArray, List.set_cons_zero, List.set_cons_succ]
                      refine wpAnyH_take (i := 7) (v := ?v24) (arr_at rfl) (by kernel_rfl) (by kernel_rfl) (by kernel_rfl) (fun _ _ _ h => h) (Or.inl ⟨by rfl, ?hy24⟩) (by assumption) ?_
                      case hy24 => (intro w hSw; (try dsimp only at hSw); go_simp <;> with_reducible rfl)
                      try simp only [Act.put, List.setIfInBounds_toArray, List.set_cons_zero, List.set_cons_succ]
                      refine wpAnyH_take (i := 8) (v := ?v25) (arr_at rfl) (by kernel_rfl) (by kernel_rfl) (by kernel_rfl) (fun _ _ _ h => h) (Or.inl ⟨by rfl, ?hy25⟩) (by assumption) ?_
                      case hy25 => (intro w hSw; (try dsimp only at hSw); go_simp <;> with_reducible rfl)
                      try simp only [Act.put, List.setIfInBounds_toArray, List.set_cons_zero, List.set_cons_succ]
                      refine wpAnyH_take (i := 9) (v := ?v26) (arr_at rfl) (by kernel_rfl) (by kernel_rfl) (by kernel_rfl) (fun _ _ _ h => h) (Or.inl ⟨by rfl, ?hy26⟩) (by assumption) ?_
                      case hy26 => (intro w hSw; (try dsimp only at hSw); go_simp <;> with_reducible rfl)
                      try simp only [Act.put, List.setIfInBounds_toArray, List.set_cons_zero, List.set_cons_succ]
                      refine wpAnyH_take (i := 11) (v := ?v27) (arr_at rfl) (by kernel_rfl) (by kernel_rfl) (by kernel_rfl) (fun _ _ _ h => h) (Or.inl ⟨by rfl, ?hy27⟩) (by assumption) ?_
                      case hy27 => (intro w hSw; (try dsimp only at hSw); go_simp <;> with_reducible rfl)
                      try simp only [Act.put, List.setIfInBounds_toArray, List.set_cons_zero, List.set_cons_succ]
                      refine wpAnyH_take (i := 12) (v := ?v28) (arr_at rfl) (by kernel_rfl) (by kernel_rfl) (by kernel_rfl) (fun _ _ _ h => h) (Or.inl ⟨by rfl, ?hy28⟩) (by assumption) ?_
                      case hy28 => (intro w hSw; (try dsimp only at hSw); go_simp <;> with_reducible rfl)
                      try simp only [Act.put, List.setIfInBounds_toArray, List.set_cons_zero, List.set_cons_succ]
                      refine wpAnyH_ready (rs := [10]) (by kernel_rfl) (by simp) ?_
                      refine AllReadyH.cons (arr_at rfl) (fun K hK => ?_) ?_
                      · go_simp; refine (HLN.out (2, (g1, g2, g3, (nameIx w4 : Int), g5), g6) HFT.out _ HBK.out).mono ?_; rintro rr w3 ⟨rfl, hb3⟩; have HX3 := Lib.hid ((hb3.block _ (Array.getElem?_eq_some_iff.1 HXK.out).1).trans HXK.out); have HK3 := Lib.hid (HKW.out.call hb3); have HB3 := Lib.hid (HBK.out.trans (hb3.mono HBK.out.size)); obtain ⟨z0, z1, z2, z3, z4, z5, z6⟩ := cellAct HX3.out; clear hb3; have zf0 : w3.frozen? ⟨w.heap.size, 0, none⟩ = false := frozen_of_row _ _ _ _ _ HX3.out; have zf1 : w3.frozen? ⟨w.heap.size, 1, none⟩ = false := frozen_of_row _ _ _ _ _ HX3.out; have zf2 : w3.frozen? ⟨w.heap.size, 2, none⟩ = false := frozen_of_row _ _ _ _ _ HX3.out; have zf3 : w3.frozen? ⟨w.heap.size, 3, none⟩ = false := frozen_of_row _ _ _ _ _ HX3.out; have zf4 : w3.frozen? ⟨w.heap.size, 4, none⟩ = false := frozen_of_row _ _ _ _ _ HX3.out; have zf5 : w3.frozen? ⟨w.heap.size, 5, none⟩ = false := frozen_of_row _ _ _ _ _ HX3.out; have zf6 : w3.frozen? ⟨w.heap.size, 6, none⟩ = false := frozen_of_row _ _ _ _ _ HX3.out
                        refine hK.out _ _ ?_ (fun hHeld => ?_)
                        · exact HS7.out _ HK3.out HX3.out
                        clear hK K
                        try simp only [Act.put, List.setIfInBounds_toArray, List.set_cons_zero, List.set_cons_succ]
                        refine wpAnyH_take (i := 13) (v := ?v29) (arr_at rfl) (by kernel_rfl) (by kernel_rfl) (by kernel_rfl) (fun _ _ _ h => h) (Or.inl ⟨by rfl, ?hy29⟩) (by assumption) ?_
                        case hy29 => (intro w hSw; (try dsimp only at hSw); go_simp <;> with_reducible rfl)
                        try simp only [Act.put, List.setIfInBounds_toArray, List.set_cons_zero, List.set_cons_succ]
                        refine wpAnyH_take (i := 14) (v := ?v30) (arr_at rfl) (by kernel_rfl) (by kernel_rfl) (by kernel_rfl) (fun _ _ _ h => h) (Or.inl ⟨by rfl, ?hy30⟩) (by assumption) ?_
                        case hy30 => (intro w hSw; (try dsimp only at hSw); go_simp <;> with_reducible rfl)
                        try simp only [Act.put, List.setIfInBounds_toArray, List.set_cons_zero, List.set_cons_succ]
                        refine wpAnyH_ready (rs := [15]) (by kernel_rfl) (by simp) ?_
                        refine AllReadyH.cons (arr_at rfl) (fun K hK => ?_) ?_
                        · go_simp
                          refine hK.out _ _ ?_ (fun hHeld => ?_)
                          · exact HS7.out _ (kg_seven HK3.out _ _ _ _ _ _ _) (set_seven HX3.out)
                          clear hK K
                          try simp only [Act.put, List.setIfInBounds_toArray, List.set_cons_zero, List.set_cons_succ]
                          refine wpAnyH_take (i := 16) (v := ?v31) (arr_at rfl) (by kernel_rfl) (by kernel_rfl) (by kernel_rfl) (fun _ _ _ h => h) (Or.inl ⟨by rfl, ?hy31⟩) (by assumption) ?_
                          case hy31 => (intro w hSw; (try dsimp only at hSw); go_simp <;> with_reducible rfl)
                          try simp only [Act.put, List.setIfInBounds_toArray, List.set_cons_zero, List.set_cons_succ]
                          refine wpAnyH_done (by kernel_rfl) ?_ _
                          refine NoPanic.normal ?_
                          refine exit_namedL (Q := Exit.then _ _) fun WF hWF => ?_
                          have hXF : WF.heap[w.heap.size]? = some (.cells #[.int .i64 2, .int .i64 g1, .int .i64 g2, .int .i64 g3, .int .i64 (nameIx w4 : Int), .int .i64 g5, .int .i64 g6] 60 (0, 0)) := by rw [hWF]; exact set_seven HX3.out
                          have hBF : Below w.heap.size w WF := by rw [hWF]; exact below_seven HB3.out (Nat.le_refl _) _ _ _ _ _ _ _
                          clear hWF
                          go_wp2
                          obtain ⟨hX1, hX2⟩ := line_eq HAC.out
                          exact bodyPost_ret (v := .tuple #[.agg #[.int .i64 2, .int .i64 g1, .int .i64 g2, .int .i64 g3, .int .i64 (nameIx w4 : Int), .int .i64 g5, .int .i64 g6], .bool AO.isSome]) (results_row2 Tryz.results34 _ _ w.heap.size 60 _ (0, 0) _ _ rfl (congrArg Value.bool hX1) hXF Tryz.underlying60 rfl rfl) rfl
                            ⟨(2, (g1, g2, g3, (nameIx w4 : Int), g5), g6), rfl, hX2, hBF⟩
                        exact AllReadyH.nil
                      exact AllReadyH.nil
                    · have HNO : Hid (AO = none) := Lib.hid (by rw [HA.out, if_neg (fun h => hpos h.2.1)])
                      have hposI : ¬ (0 : Int) < (nameIx w4 : Int) := by omega
                      clear hl0 hc0 hNN
                      go_wp2_with fail
                      refine wp_region_noPanic ?_
                      refine wp_region_held_drew (S := fun w' => w'.cell? ⟨w.heap.size, 0, none⟩ = some (.int .i64 2) ∧ w'.cell? ⟨w.heap.size, 1, none⟩ = some (.int .i64 g1) ∧ w'.cell? ⟨w.heap.size, 2, none⟩ = some (.int .i64 g2) ∧ w'.cell? ⟨w.heap.size, 3, none⟩ = some (.int .i64 g3) ∧ w'.cell? ⟨w.heap.size, 4, none⟩ = some (.int .i64 (nameIx w4 : Int)) ∧ w'.cell? ⟨w.heap.size, 5, none⟩ = some (.int .i64 g5) ∧ w'.cell? ⟨w.heap.size, 6, none⟩ = some (.int .i64 g6) ∧ Kg wr (some w.heap.size) w') (by kernel_rfl) (HS7.out _ (Kg.drew _ _) HXR.out) (fun hHeld => ?_)
                      refine wpAnyH_named fun WK hWK => ?_
                      have HXK : Hid (WK.heap[w.heap.size]? = some (.cells #[.int .i64 2, .int .i64 g1, .int .i64 g2, .int .i64 g3, .int .i64 (nameIx w4 : Int), .int .i64 g5, .int .i64 g6] 60 (0, 0))) := by rw [hWK]; exact HXR.out
                      have HKW : Hid (Kg wr (some w.heap.size) WK) := by rw [hWK]; exact Kg.drew _ _
                      have HBK : Hid (Below w.heap.size w WK) := by rw [hWK]; exact HBR.out.drew
                      have hHeld2 := HS7.out _ HKW.out HXK.out
                      clear hWK hHeld
                      obtain ⟨z0, z1, z2, z3, z4, z5, z6⟩ := cellAct HXK.out
                      have zf0 : WK.frozen? ⟨w.heap.size, 0, none⟩ = false := frozen_of_row _ _ _ _ _ HXK.out
                      have zf1 : WK.frozen? ⟨w.heap.size, 1, none⟩ = false := frozen_of_row _ _ _ _ _ HXK.out
                      have zf2 : WK.frozen? ⟨w.heap.size, 2, none⟩ = false := frozen_of_row _ _ _ _ _ HXK.out
                      have zf3 : WK.frozen? ⟨w.heap.size, 3, none⟩ = false := frozen_of_row _ _ _ _ _ HXK.out
                      have zf4 : WK.frozen? ⟨w.heap.size, 4, none⟩ = false := frozen_of_row _ _ _ _ _ HXK.out
                      have zf5 : WK.frozen? ⟨w.heap.size, 5, none⟩ = false := frozen_of_row _ _ _ _ _ HXK.out
                      have zf6 : WK.frozen? ⟨w.heap.size, 6, none⟩ = false := frozen_of_row _ _ _ _ _ HXK.out
                      refine wpAnyH_take (i := 0) (v := ?v32) (arr_at rfl) (by kernel_rfl) (by kernel_rfl) (by kernel_rfl) (fun _ _ _ h => h) (Or.inl ⟨by rfl, ?hy32⟩) (by assumption) ?_
                      case hy32 => (intro w hSw; (try dsimp only at hSw); go_simp <;> with_reducible rfl)
                      try simp only [Act.put, List.setIfInBounds_toArray, List.set_cons_zero, List.set_cons_succ]
                      refine wpAnyH_take (i := 1) (v := ?v33) (arr_at rfl) (by kernel_rfl) (by kernel_rfl) (by kernel_rfl) (fun _ _ _ h => h) (Or.inl ⟨by rfl, ?hy33⟩) (by assumption) ?_
                      case hy33 => (intro w hSw; (try dsimp only at hSw); go_simp <;> with_reducible rfl)
                      try simp only [Act.put, List.setIfInBounds_toArray, List.set_cons_zero, List.set_cons_succ]
                      refine wpAnyH_take (i := 2) (v := ?v34) (arr_at rfl) (by kernel_rfl) (by kernel_rfl) (by kernel_rfl) (fun _ _ _ h => h) (Or.inl ⟨by rfl, ?hy34⟩) (by assumption) ?_
                      case hy34 => (intro w hSw; (try dsimp only at hSw); go_simp <;> with_reducible rfl)
                      try simp only [Act.put, List.setIfInBounds_toArray, List.set_cons_zero, List.set_cons_succ]
                      refine wpAnyH_take (i := 3) (v := ?v35) (arr_at rfl) (by kernel_rfl) (by kernel_rfl) (by kernel_rfl) (fun _ _ _ h => h) (Or.inl ⟨by rfl, ?hy35⟩) (by assumption) ?_
                      case hy35 => (intro w hSw; (try dsimp only at hSw); go_simp <;> with_reducible rfl)
                      try simp only [Act.put, List.setIfInBounds_toArray, List.set_cons_zero, List.set_cons_succ]
                      refine wpAnyH_take (i := 4) (v := ?v36) (arr_at rfl) (by kernel_rfl) (by kernel_rfl) (by kernel_rfl) (fun _ _ _ h => h) (Or.inl ⟨by rfl, ?hy36⟩) (by assumption) ?_
                      case hy36 => (intro w hSw; (try dsimp only at hSw); go_simp <;> with_reducible rfl)
                      try simp only [Act.put, List.setIfInBounds_toArray, List.set_cons_zero, List.set_cons_succ]
                      refine wpAnyH_take (i := 5) (v := ?v37) (arr_at rfl) (by kernel_rfl) (by kernel_rfl) (by kernel_rfl) (fun _ _ _ h => h) (Or.inl ⟨by rfl, ?hy37⟩) (by assumption) ?_
                      case hy37 => (intro w hSw; (try dsimp only at hSw); go_simp <;> with_reducible rfl)
                      try simp only [Act.put, List.setIfInBounds_toArray, List.set_cons_zero, List.set_cons_succ]
                      refine wpAnyH_take (i := 6) (v := ?v38) (arr_at rfl) (by kernel_rfl) (by kernel_rfl) (by kernel_rfl) (fun _ _ _ h => h) (Or.inl ⟨by rfl, ?hy38⟩) (by assumption) ?_
                      case hy38 => (intro w hSw; (try dsimp only at hSw); go_simp <;> with_reducible rfl)
                      try simp only [Act.put, List.setIfInBounds_toArray, List.set_cons_zero, List.set_cons_succ]
                      refine wpAnyH_take (i := 7) (v := ?v39) (arr_at rfl) (by kernel_rfl) (by kernel_rfl) (by kernel_rfl) (fun _ _ _ h => h) (Or.inl ⟨by rfl, ?hy39⟩) (by assumption) ?_
                      case hy39 => (intro w hSw; (try dsimp only at hSw); go_simp <;> with_reducible rfl)
                      try simp only [Act.put, List.setIfInBounds_toArray, List.set_cons_zero, List.set_cons_succ]
                      refine wpAnyH_take (i := 8) (v := ?v40) (arr_at rfl) (by kernel_rfl) (by kernel_rfl) (by kernel_rfl) (fun _ _ _ h => h) (Or.inl ⟨by rfl, ?hy40⟩) (by assumption) ?_
                      case hy40 => (intro w hSw; (try dsimp only at hSw); go_simp <;> with_reducible rfl)
                      try simp only [Act.put, List.setIfInBounds_toArray, List.set_cons_zero, List.set_cons_succ]
                      refine wpAnyH_take (i := 9) (v := undef) (arr_at rfl) (by kernel_rfl) (by kernel_rfl) (by kernel_rfl) (fun _ _ _ h => h) (Or.inr ⟨by rfl, rfl⟩) (by assumption) ?_
                      try simp only [Act.put, List.setIfInBounds_toArray, List.set_cons_zero, List.set_cons_succ]
                      refine wpAnyH_take (i := 10) (v := undef) (arr_at rfl) (by kernel_rfl) (by kernel_rfl) (by kernel_rfl) (fun _ _ _ h => h) (Or.inr ⟨by rfl, rfl⟩) (by assumption) ?_
                      try simp only [Act.put, List.setIfInBounds_toArray, List.set_cons_zero, List.set_cons_succ]
                      refine wpAnyH_take (i := 11) (v := undef) (arr_at rfl) (by kernel_rfl) (by kernel_rfl) (by kernel_rfl) (fun _ _ _ h => h) (Or.inr ⟨by rfl, rfl⟩) (by assumption) ?_
                      try simp only [Act.put, List.setIfInBounds_toArray, List.set_cons_zero, List.set_cons_succ]
                      refine wpAnyH_take (i := 12) (v := undef) (arr_at rfl) (by kernel_rfl) (by kernel_rfl) (by kernel_rfl) (fun _ _ _ h => h) (Or.inr ⟨by rfl, rfl⟩) (by assumption) ?_
                      try simp only [Act.put, List.setIfInBounds_toArray, List.set_cons_zero, List.set_cons_succ]
                      refine wpAnyH_take (i := 13) (v := undef) (arr_at rfl) (by kernel_rfl) (by kernel_rfl) (by kernel_rfl) (fun _ _ _ h => h) (Or.inr ⟨by rfl, rfl⟩) (by assumption) ?_
                      try simp only [Act.put, List.setIfInBounds_toArray, List.set_cons_zero, List.set_cons_succ]
                      refine wpAnyH_take (i := 14) (v := ?v46) (arr_at rfl) (by kernel_rfl) (by kernel_rfl) (by kernel_rfl) (fun _ _ _ h => h) (Or.inl ⟨by rfl, ?hy46⟩) (by assumption) ?_
                      case hy46 => (intro w hSw; (try dsimp only at hSw); go_simp <;> with_reducible rfl)
                      try simp only [Act.put, List.setIfInBounds_toArray, List.set_cons_zero, List.set_cons_succ]
                      refine wpAnyH_ready (rs := [15]) (by kernel_rfl) (by simp) ?_
                      refine AllReadyH.cons (arr_at rfl) (fun K hK => ?_) ?_
                      · go_simp
                        refine hK.out _ _ ?_ (fun hHeld => ?_)
                        · exact HS7.out _ (kg_seven HKW.out _ _ _ _ _ _ _) (set_seven HXK.out)
                        clear hK K
                        try simp only [Act.put, List.setIfInBounds_toArray, List.set_cons_zero, List.set_cons_succ]
                        refine wpAnyH_take (i := 16) (v := ?v47) (arr_at rfl) (by kernel_rfl) (by kernel_rfl) (by kernel_rfl) (fun _ _ _ h => h) (Or.inl ⟨by rfl, ?hy47⟩) (by assumption) ?_
                        case hy47 => (intro w hSw; (try dsimp only at hSw); go_simp <;> with_reducible rfl)
                        try simp only [Act.put, List.setIfInBounds_toArray, List.set_cons_zero, List.set_cons_succ]
                        refine wpAnyH_done (by kernel_rfl) ?_ _
                        refine NoPanic.normal ?_
                        refine exit_namedL (Q := Exit.then _ _) fun WF hWF => ?_
                        have hXF : WF.heap[w.heap.size]? = some (.cells #[.int .i64 2, .int .i64 g1, .int .i64 g2, .int .i64 g3, .int .i64 (nameIx w4 : Int), .int .i64 g5, .int .i64 g6] 60 (0, 0)) := by rw [hWF]; exact set_seven HXK.out
                        have hBF : Below w.heap.size w WF := by rw [hWF]; exact below_seven HBK.out (Nat.le_refl _) _ _ _ _ _ _ _
                        clear hWF
                        go_wp2
                        have hN := HNO.out
                        subst hN
                        exact bodyPost_ret (v := .tuple #[.agg #[.int .i64 2, .int .i64 g1, .int .i64 g2, .int .i64 g3, .int .i64 (nameIx w4 : Int), .int .i64 g5, .int .i64 g6], .bool false]) (results_row2 Tryz.results34 _ _ w.heap.size 60 _ (0, 0) _ _ rfl rfl hXF Tryz.underlying60 rfl rfl) rfl
                          ⟨(2, (g1, g2, g3, (nameIx w4 : Int), g5), g6), rfl, (fun _ h => nomatch h), hBF⟩
                      exact AllReadyH.nil
                  · intro x c kl y ys w2 cnt1 hkey hlk hv hat hrg1 hlt1 hg1 hs1 hen
                    have hy : y = .lit (.int .i64 (c : Int)) := congrArg Prod.fst (Option.some.inj (hv.symm.trans (ptrR_mk w.heap.size c)))
                    obtain ⟨x', ex, rfl, -⟩ := Maps.keyOf_int_inv Tryz.underlying3 hkey
                    injection ex with ex1 ex2
                    subst ex2
                    have hX2 : w2.heap[w.heap.size]? = some (.cells #[.int .i64 2, .int .i64 g1, .int .i64 g2, .int .i64 g3, .int .i64 (nameIx w4 : Int), .int .i64 g5, .int .i64 g6] 60 (0, 0)) := (hg1.block _ (by have := (Array.getElem?_eq_some_iff.1 HXR.out).1; exact this) (by simp; omega)).trans HXR.out
                    have hW2 : w2.heap[w.heap.size + 1]? = some (.cells (strCells ws) 9 (0, 0)) := (hg1.block _ (by have := (Array.getElem?_eq_some_iff.1 HWR.out).1; exact this) (by simp; omega)).trans HWR.out
                    have hB2 : Below w.heap.size w w2 := HBR.out.grown hg1 HBR.out.size (fun j hj => by cases hj; omega)
                    have HX2 := Lib.hid hX2
                    have HW2 := Lib.hid hW2
                    have HB2 := Lib.hid hB2
                    have HRG1 := Lib.hid hrg1
                    have HG1 := Lib.hid hg1
                    have hd := D6_inv (x := x) (c := c) (fun zd => by rw [hat zd, hy])
                    clear hv hat hy hkey hX2 hW2 hB2 hrg1 hg1
                    rcases hd with ⟨rfl, rfl⟩ | ⟨rfl, rfl⟩ | ⟨rfl, rfl⟩ | ⟨rfl, rfl⟩ | ⟨rfl, rfl⟩
                    · obtain ⟨wl, hwl⟩ : ∃ l, ws[1]? = some l := ⟨_, List.getElem?_eq_getElem (by omega)⟩
                      have hcell : w2.cell? ⟨w.heap.size + 1, 1, none⟩ = some (.string ⟨wl.toArray⟩) := by rw [cell_of_row _ _ _ _ _ _ HW2.out]; exact strCells_at hwl
                      go_wp2_with fail
                      refine (HNU.out wl (Nat.le_trans (HSH.out wl (List.mem_of_getElem? hwl)) hs) _ HB2.out).mono ?_
                      rintro e w3 ⟨nv, rfl, hnv, hb3⟩
                      have hX3 := (hb3.block _ (Array.getElem?_eq_some_iff.1 HX2.out).1).trans HX2.out
                      have hW3 := (hb3.block _ (Array.getElem?_eq_some_iff.1 HW2.out).1).trans HW2.out
                      have z1 : w3.cell? ⟨w.heap.size, 1, none⟩ = some (.int .i64 g1) := by rw [cell_of_row _ _ _ _ _ _ hX3]; rfl
                      have zf1 : w3.frozen? ⟨w.heap.size, 1, none⟩ = false := frozen_of_row _ _ _ _ _ hX3
                      have HX3 := Lib.hid hX3
                      have HW3 := Lib.hid hW3
                      have HB3 := Lib.hid hb3
                      clear hX3 hW3 hb3 hcell
                      go_wp2
                      go_roundw
                      case rel =>
                        have hk3 : w3.grownBy (w3.setCell ⟨w.heap.size, 1, none⟩ (.int .i64 nv)) (some w.heap.size) := Kg.setg (Kg.refl w3 _) 1 _
                        exact ⟨_, cnt1, nv, g2, g3, g5, g6, (numOf wl).isSome, (HRG1.out.kept (grown_of_below HB3.out none) (by simp) (by simp)).kept hk3 (by simp; omega) (by simp; omega), rfl, (okOf_step (x := 1) (by decide) hlk).trans (by rw [HOK.out, numAt_word hwl]; rfl), Cell_same (fun v hv => by rw [numAt_word hwl] at hv; exact hnv v hv), Cell_other HC2.out (by decide), Cell_other HC3.out (by decide), Cell_other HC5.out (by decide), Cell_other HC6.out (by decide), heap_setCell_same w3 w.heap.size 1 _ _ _ HX3.out, (hk3.block _ (Array.getElem?_eq_some_iff.1 HW3.out).1 (by simp)).trans HW3.out, (HB2.out.trans (HB3.out.mono HB2.out.size)).setCell (p := ⟨w.heap.size, 1, none⟩) (Nat.le_refl _) _⟩
                      case measure =>
                        have hk3 : w3.grownBy (w3.setCell ⟨w.heap.size, 1, none⟩ (.int .i64 nv)) (some w.heap.size) := Kg.setg (Kg.refl w3 _) 1 _
                        rw [((HRG1.out.kept (grown_of_below HB3.out none) (by simp) (by simp)).kept hk3 (by simp; omega) (by simp; omega)).left_eq, HRG.out.left_eq]; exact hlt1
                    · obtain ⟨wl, hwl⟩ : ∃ l, ws[2]? = some l := ⟨_, List.getElem?_eq_getElem (by omega)⟩
                      have hcell : w2.cell? ⟨w.heap.size + 1, 2, none⟩ = some (.string ⟨wl.toArray⟩) := by rw [cell_of_row _ _ _ _ _ _ HW2.out]; exact strCells_at hwl
                      go_wp2_with fail
                      refine (HNU.out wl (Nat.le_trans (HSH.out wl (List.mem_of_getElem? hwl)) hs) _ HB2.out).mono ?_
                      rintro e w3 ⟨nv, rfl, hnv, hb3⟩
                      have hX3 := (hb3.block _ (Array.getElem?_eq_some_iff.1 HX2.out).1).trans HX2.out
                      have hW3 := (hb3.block _ (Array.getElem?_eq_some_iff.1 HW2.out).1).trans HW2.out
                      have z2 : w3.cell? ⟨w.heap.size, 2, none⟩ = some (.int .i64 g2) := by rw [cell_of_row _ _ _ _ _ _ hX3]; rfl
                      have zf2 : w3.frozen? ⟨w.heap.size, 2, none⟩ = false := frozen_of_row _ _ _ _ _ hX3
                      have HX3 := Lib.hid hX3
                      have HW3 := Lib.hid hW3
                      have HB3 := Lib.hid hb3
                      clear hX3 hW3 hb3 hcell
                      go_wp2
                      go_roundw
                      case rel =>
                        have hk3 : w3.grownBy (w3.setCell ⟨w.heap.size, 2, none⟩ (.int .i64 nv)) (some w.heap.size) := Kg.setg (Kg.refl w3 _) 2 _
                        exact ⟨_, cnt1, g1, nv, g3, g5, g6, (numOf wl).isSome, (HRG1.out.kept (grown_of_below HB3.out none) (by simp) (by simp)).kept hk3 (by simp; omega) (by simp; omega), rfl, (okOf_step (x := 2) (by decide) hlk).trans (by rw [HOK.out, numAt_word hwl]; rfl), Cell_other HC1.out (by decide), Cell_same (fun v hv => by rw [numAt_word hwl] at hv; exact hnv v hv), Cell_other HC3.out (by decide), Cell_other HC5.out (by decide), Cell_other HC6.out (by decide), heap_setCell_same w3 w.heap.size 2 _ _ _ HX3.out, (hk3.block _ (Array.getElem?_eq_some_iff.1 HW3.out).1 (by simp)).trans HW3.out, (HB2.out.trans (HB3.out.mono HB2.out.size)).setCell (p := ⟨w.heap.size, 2, none⟩) (Nat.le_refl _) _⟩
                      case measure =>
                        have hk3 : w3.grownBy (w3.setCell ⟨w.heap.size, 2, none⟩ (.int .i64 nv)) (some w.heap.size) := Kg.setg (Kg.refl w3 _) 2 _
                        rw [((HRG1.out.kept (grown_of_below HB3.out none) (by simp) (by simp)).kept hk3 (by simp; omega) (by simp; omega)).left_eq, HRG.out.left_eq]; exact hlt1
                    · obtain ⟨wl, hwl⟩ : ∃ l, ws[3]? = some l := ⟨_, List.getElem?_eq_getElem (by omega)⟩
                      have hcell : w2.cell? ⟨w.heap.size + 1, 3, none⟩ = some (.string ⟨wl.toArray⟩) := by rw [cell_of_row _ _ _ _ _ _ HW2.out]; exact strCells_at hwl
                      go_wp2_with fail
                      refine (HNU.out wl (Nat.le_trans (HSH.out wl (List.mem_of_getElem? hwl)) hs) _ HB2.out).mono ?_
                      rintro e w3 ⟨nv, rfl, hnv, hb3⟩
                      have hX3 := (hb3.block _ (Array.getElem?_eq_some_iff.1 HX2.out).1).trans HX2.out
                      have hW3 := (hb3.block _ (Array.getElem?_eq_some_iff.1 HW2.out).1).trans HW2.out
                      have z3 : w3.cell? ⟨w.heap.size, 3, none⟩ = some (.int .i64 g3) := by rw [cell_of_row _ _ _ _ _ _ hX3]; rfl
                      have zf3 : w3.frozen? ⟨w.heap.size, 3, none⟩ = false := frozen_of_row _ _ _ _ _ hX3
                      have HX3 := Lib.hid hX3
                      have HW3 := Lib.hid hW3
                      have HB3 := Lib.hid hb3
                      clear hX3 hW3 hb3 hcell
                      go_wp2
                      go_roundw
                      case rel =>
                        have hk3 : w3.grownBy (w3.setCell ⟨w.heap.size, 3, none⟩ (.int .i64 nv)) (some w.heap.size) := Kg.setg (Kg.refl w3 _) 3 _
                        exact ⟨_, cnt1, g1, g2, nv, g5, g6, (numOf wl).isSome, (HRG1.out.kept (grown_of_below HB3.out none) (by simp) (by simp)).kept hk3 (by simp; omega) (by simp; omega), rfl, (okOf_step (x := 3) (by decide) hlk).trans (by rw [HOK.out, numAt_word hwl]; rfl), Cell_other HC1.out (by decide), Cell_other HC2.out (by decide), Cell_same (fun v hv => by rw [numAt_word hwl] at hv; exact hnv v hv), Cell_other HC5.out (by decide), Cell_other HC6.out (by decide), heap_setCell_same w3 w.heap.size 3 _ _ _ HX3.out, (hk3.block _ (Array.getElem?_eq_some_iff.1 HW3.out).1 (by simp)).trans HW3.out, (HB2.out.trans (HB3.out.mono HB2.out.size)).setCell (p := ⟨w.heap.size, 3, none⟩) (Nat.le_refl _) _⟩
                      case measure =>
                        have hk3 : w3.grownBy (w3.setCell ⟨w.heap.size, 3, none⟩ (.int .i64 nv)) (some w.heap.size) := Kg.setg (Kg.refl w3 _) 3 _
                        rw [((HRG1.out.kept (grown_of_below HB3.out none) (by simp) (by simp)).kept hk3 (by simp; omega) (by simp; omega)).left_eq, HRG.out.left_eq]; exact hlt1
                    · obtain ⟨wl, hwl⟩ : ∃ l, ws[5]? = some l := ⟨_, List.getElem?_eq_getElem (by omega)⟩
                      have hcell : w2.cell? ⟨w.heap.size + 1, 5, none⟩ = some (.string ⟨wl.toArray⟩) := by rw [cell_of_row _ _ _ _ _ _ HW2.out]; exact strCells_at hwl
                      go_wp2_with fail
                      refine (HNU.out wl (Nat.le_trans (HSH.out wl (List.mem_of_getElem? hwl)) hs) _ HB2.out).mono ?_
                      rintro e w3 ⟨nv, rfl, hnv, hb3⟩
                      have hX3 := (hb3.block _ (Array.getElem?_eq_some_iff.1 HX2.out).1).trans HX2.out
                      have hW3 := (hb3.block _ (Array.getElem?_eq_some_iff.1 HW2.out).1).trans HW2.out
                      have z5 : w3.cell? ⟨w.heap.size, 5, none⟩ = some (.int .i64 g5) := by rw [cell_of_row _ _ _ _ _ _ hX3]; rfl
                      have zf5 : w3.frozen? ⟨w.heap.size, 5, none⟩ = false := frozen_of_row _ _ _ _ _ hX3
                      have HX3 := Lib.hid hX3
                      have HW3 := Lib.hid hW3
                      have HB3 := Lib.hid hb3
                      clear hX3 hW3 hb3 hcell
                      go_wp2
                      go_roundw
                      case rel =>
                        have hk3 : w3.grownBy (w3.setCell ⟨w.heap.size, 5, none⟩ (.int .i64 nv)) (some w.heap.size) := Kg.setg (Kg.refl w3 _) 5 _
                        exact ⟨_, cnt1, g1, g2, g3, nv, g6, (numOf wl).isSome, (HRG1.out.kept (grown_of_below HB3.out none) (by simp) (by simp)).kept hk3 (by simp; omega) (by simp; omega), rfl, (okOf_step (x := 5) (by decide) hlk).trans (by rw [HOK.out, numAt_word hwl]; rfl), Cell_other HC1.out (by decide), Cell_other HC2.out (by decide), Cell_other HC3.out (by decide), Cell_same (fun v hv => by rw [numAt_word hwl] at hv; exact hnv v hv), Cell_other HC6.out (by decide), heap_setCell_same w3 w.heap.size 5 _ _ _ HX3.out, (hk3.block _ (Array.getElem?_eq_some_iff.1 HW3.out).1 (by simp)).trans HW3.out, (HB2.out.trans (HB3.out.mono HB2.out.size)).setCell (p := ⟨w.heap.size, 5, none⟩) (Nat.le_refl _) _⟩
                      case measure =>
                        have hk3 : w3.grownBy (w3.setCell ⟨w.heap.size, 5, none⟩ (.int .i64 nv)) (some w.heap.size) := Kg.setg (Kg.refl w3 _) 5 _
                        rw [((HRG1.out.kept (grown_of_below HB3.out none) (by simp) (by simp)).kept hk3 (by simp; omega) (by simp; omega)).left_eq, HRG.out.left_eq]; exact hlt1
                    · have h6n : numAt ws 6 = some 0 := by unfold numAt; rw [if_neg (by omega)]
                      go_wp2
                      go_roundw
                      case rel => exact ⟨_, cnt1, g1, g2, g3, g5, g6, true, HRG1.out, rfl, (okOf_step (x := 6) (by decide) hlk).trans (by rw [HOK.out, h6n]; rfl), Cell_other HC1.out (by decide), Cell_other HC2.out (by decide), Cell_other HC3.out (by decide), Cell_other HC5.out (by decide), Cell_same (fun v hv => by rw [h6n] at hv; rw [HC6.out.1 hlk]; exact Option.some.inj hv), HX2.out, HW2.out, HB2.out⟩
                      case measure => rw [HRG1.out.left_eq, HRG.out.left_eq]; exact hlt1
            exact AllReadyH.nil
          exact AllReadyH.nil
        exact AllReadyH.nil
      exact AllReadyH.nil
    · obtain ⟨w4, hw4⟩ : ∃ l, ws[4]? = some l := ⟨_, List.getElem?_eq_getElem (by omega)⟩
      have hd4 : ws.getD 4 [] = w4 := by rw [List.getD_eq_getElem?_getD, hw4]; rfl
      rw [if_pos (by omega), hd4] at HA
      go_enter Tryz.func34, Tryz.ntmps34
      go_wp2_with fail
      refine (HSP.out _ (by show Below _ _ _; go_grown)).mono ?_
      rintro e w1 ⟨rfl, rfl⟩
      go_wp2_with fail
      refine wp_named fun w1 hW => ?_
      have HX : Hid (w1.heap[w.heap.size]? = some (.cells #[.int .i64 1, .int .i64 0, .int .i64 0, .int .i64 0, .int .i64 0, .int .i64 0, .int .i64 0] 60 (0, 0))) := by
        rw [hW]; exact alloc2_first w _ _
      have HWS : Hid (w1.heap[w.heap.size + 1]? = some (.cells (strCells ws) 9 (0, 0))) := by
        rw [hW]
        exact alloc2_second w _ _
      have HB : Hid (Below w.heap.size w w1) := by rw [hW]; show Below _ _ _; go_grown
      clear hW
      have hw1 : w.heap.size + 1 < w1.heap.size := (Array.getElem?_eq_some_iff.1 HWS.out).1
      have k4 : w1.cell? ⟨w.heap.size + 1, 4, none⟩ = some (.string ⟨w4.toArray⟩) := by rw [cell_of_row _ _ _ _ _ _ HWS.out]; exact strCells_at hw4
      have HSC : Hid (∀ w', Kg w1 (some w.heap.size) w' → (w'.cell? ⟨w.heap.size + 1, 4, none⟩ = some (.string ⟨w4.toArray⟩) ∧ Kg w1 (some w.heap.size) w')) := fun w' hk => ⟨hk.cell k4 (by simp), hk⟩
      clear k4
      refine wp_region_noPanic ?_
      refine wp_region_held_drew (S := fun w' => w'.cell? ⟨w.heap.size + 1, 4, none⟩ = some (.string ⟨w4.toArray⟩) ∧ Kg w1 (some w.heap.size) w') (by kernel_rfl) (HSC.out _ (Kg.drew _ _)) (fun hHeld => ?_)
      refine wpAnyH_take (i := 1) (v := ?v100) (arr_at rfl) (by kernel_rfl) (by kernel_rfl) (by kernel_rfl) (fun _ _ _ h => h) (Or.inl ⟨by rfl, ?hy100⟩) (by assumption) ?_
      case hy100 => (intro w hSw; (try dsimp only at hSw); go_simp <;> with_reducible rfl)
      try simp only [Act.put, List.setIfInBounds_toArray, List.set_cons_zero, List.set_cons_succ]
      refine wpAnyH_take (i := 2) (v := ?v101) (arr_at rfl) (by kernel_rfl) (by kernel_rfl) (by kernel_rfl) (fun _ _ _ h => h) (Or.inl ⟨by rfl, ?hy101⟩) (by assumption) ?_
      case hy101 => (intro w hSw; (try dsimp only at hSw); go_simp <;> with_reducible rfl)
      try simp only [Act.put, List.setIfInBounds_toArray, List.set_cons_zero, List.set_cons_succ]
      refine wpAnyH_take (i := 3) (v := ?v102) (arr_at rfl) (by kernel_rfl) (by kernel_rfl) (by kernel_rfl) (fun _ _ _ h => h) (Or.inl ⟨by rfl, ?hy102⟩) (by assumption) ?_
      case hy102 => (intro w hSw; (try dsimp only at hSw); go_simp <;> with_reducible rfl)
      try simp only [Act.put, List.setIfInBounds_toArray, List.set_cons_zero, List.set_cons_succ]
      refine wpAnyH_ready (rs := [0]) (by kernel_rfl) (by simp) ?_
      refine AllReadyH.cons (arr_at rfl) (fun K hK => ?_) ?_
      · go_simp; refine (names_c _).mono ?_; rintro rr w3 ⟨rfl, rfl⟩
        refine hK.out _ _ ?_ (fun hHeld => ?_)
        · exact HSC.out _ (Kg.alloc (Kg.drew _ _) _)
        clear hK K
        try simp only [Act.put, List.setIfInBounds_toArray, List.set_cons_zero, List.set_cons_succ]
        refine wpAnyH_named fun WK hWK => ?_
        have HKW : Hid (Kg w1 (some w.heap.size) WK) := by rw [hWK]; exact Kg.alloc (Kg.drew _ _) _
        have HBK : Hid (Bw w1 WK) := by rw [hWK]; exact Bw.alloc (Bw.drew _) _
        have HNC : Hid (WK.heap[w1.heap.size]? = some (.cells nameCells 9 (0, 0))) := by rw [hWK]; exact heap_alloc_new _ _
        have hHeld2 : WK.cell? ⟨w.heap.size + 1, 4, none⟩ = some (.string ⟨w4.toArray⟩) ∧ Kg w1 (some w.heap.size) WK := HSC.out _ HKW.out
        have HXK : Hid (WK.heap[w.heap.size]? = some (.cells #[.int .i64 1, .int .i64 0, .int .i64 0, .int .i64 0, .int .i64 0, .int .i64 0, .int .i64 0] 60 (0, 0))) := (HBK.out.block _ (Array.getElem?_eq_some_iff.1 HX.out).1).trans HX.out
        obtain ⟨z4, zf4⟩ := cellAct4 HXK.out
        clear hWK hHeld
        refine wpAnyH_ready (rs := [4]) (by kernel_rfl) (by simp) ?_
        refine AllReadyH.cons (arr_at rfl) (fun K hK => ?_) ?_
        · go_simp; refine (Index_c _ 17 17 nameT _ _ rfl (by decide) (fun j l hj => by rw [cell_of_row _ _ _ _ _ _ HNC.out]; exact names_at hj)).mono ?_; rintro rr w3 ⟨rfl, rfl⟩
          refine hK.out _ _ ?_ (fun hHeld => ?_)
          · exact hHeld2
          clear hK K
          try simp only [Act.put, List.setIfInBounds_toArray, List.set_cons_zero, List.set_cons_succ]
          refine wpAnyH_ready (rs := [5]) (by kernel_rfl) (by simp) ?_
          refine AllReadyH.cons (arr_at rfl) (fun K hK => ?_) ?_
          · go_simp
            refine hK.out _ _ ?_ (fun hHeld => ?_)
            · exact hHeld2
            clear hK K
            try simp only [Act.put, List.setIfInBounds_toArray, List.set_cons_zero, List.set_cons_succ]
            refine wpAnyH_take (i := 6) (v := ?v103) (arr_at rfl) (by kernel_rfl) (by kernel_rfl) (by kernel_rfl) (fun _ _ _ h => h) (Or.inl ⟨by rfl, ?hy103⟩) (by assumption) ?_
            case hy103 => (intro w hSw; (try dsimp only at hSw); go_simp <;> with_reducible rfl)
            try simp only [Act.put, List.setIfInBounds_toArray, List.set_cons_zero, List.set_cons_succ]
            refine wpAnyH_take (i := 7) (v := ?v104) (arr_at rfl) (by kernel_rfl) (by kernel_rfl) (by kernel_rfl) (fun _ _ _ h => h) (Or.inl ⟨by rfl, ?hy104⟩) (by assumption) ?_
            case hy104 => (intro w hSw; (try dsimp only at hSw); go_simp <;> with_reducible rfl)
            try simp only [Act.put, List.setIfInBounds_toArray, List.set_cons_zero, List.set_cons_succ]
            refine wpAnyH_ready (rs := [8]) (by kernel_rfl) (by simp) ?_
            refine AllReadyH.cons (arr_at rfl) (fun K hK => ?_) ?_
            · go_simp
              refine hK.out _ _ ?_ (fun hHeld => ?_)
              · exact HSC.out _ (Kg.setg HKW.out 4 _)
              clear hK K
              try simp only [Act.put, List.setIfInBounds_toArray, List.set_cons_zero, List.set_cons_succ]
              refine wpAnyH_done (by kernel_rfl) ?_ _
              refine NoPanic.normal ?_
              refine exit_namedL (Q := Exit.then _ _) fun W8 hW8 => ?_
              have HX8 : Hid (W8.heap[w.heap.size]? = some (.cells #[.int .i64 1, .int .i64 0, .int .i64 0, .int .i64 0, .int .i64 (nameIx w4 : Int), .int .i64 0, .int .i64 0] 60 (0, 0))) := by rw [hW8, ← max_name]; exact heap_setCell_same _ _ 4 _ _ _ HXK.out
              have hk8 : Kg w1 (some w.heap.size) W8 := by rw [hW8]; exact Kg.setg HKW.out 4 _
              have HWS8 : Hid (W8.heap[w.heap.size + 1]? = some (.cells (strCells ws) 9 (0, 0))) := (hk8.block _ hw1 (by simp)).trans HWS.out
              have HB8 : Hid (Below w.heap.size w W8) := HB.out.grown hk8 HB.out.size (fun j hj => by cases hj; exact Nat.le_refl _)
              have hs8 : w.heap.size + 1 < W8.heap.size := (Array.getElem?_eq_some_iff.1 HWS8.out).1
              have hown0 : (W8.alloc (.map #[] 0)).ownsMap Tryz.prog 3 (ptrR w.heap.size) W8.heap.size 0 (.map []) := World.ownsMap_made _ _ _ _
              have hg0 : W8.grownBy (W8.alloc (.map #[] 0)) none := World.grownBy_alloc _ _ _
              have hmm := @run_makeMap Tryz.prog 131 W8
              generalize max (if w4 ∈ nameT then (nameT.idxOf w4 : Int) else -1) 0 = R2
              generalize (if w4 ∈ nameT then (nameT.idxOf w4 : Int) else -1) = R1
              clear hW8 hk8 HKW HBK HNC hHeld hHeld2 HXK z4 zf4 HSC HX HWS HB hw1
              go_wp2_with (first
                | (refine wpList_insert_own _ rfl _ _ _ 131 rfl 3 130 lawInt Tryz.underlying131 (ptrR w.heap.size) W8.heap.size 0 (DataW.map []) rfl hown0 (by decide) (.int .i64 1) (.pointer (some ⟨w.heap.size, 1, none⟩)) (.int .i64 1) rfl rfl (keyOf_int_mk Tryz.underlying3 (by decide)) (.lit (.int .i64 1)) [] (ptrR_mk _ 1) ?_; intro wm1 hown1 hgm1)
                | (refine wpList_insert_own _ rfl _ _ _ 131 rfl 3 130 lawInt Tryz.underlying131 (ptrR w.heap.size) W8.heap.size 1 D1 rfl hown1 (by decide) (.int .i64 2) (.pointer (some ⟨w.heap.size, 2, none⟩)) (.int .i64 2) rfl rfl (keyOf_int_mk Tryz.underlying3 (by decide)) (.lit (.int .i64 2)) [] (ptrR_mk _ 2) ?_; intro wm2 hown2 hgm2)
                | (refine wpList_insert_own _ rfl _ _ _ 131 rfl 3 130 lawInt Tryz.underlying131 (ptrR w.heap.size) W8.heap.size 2 D2 rfl hown2 (by decide) (.int .i64 3) (.pointer (some ⟨w.heap.size, 3, none⟩)) (.int .i64 3) rfl rfl (keyOf_int_mk Tryz.underlying3 (by decide)) (.lit (.int .i64 3)) [] (ptrR_mk _ 3) ?_; intro wm3 hown3 hgm3)
                | (refine wpList_insert_own _ rfl _ _ _ 131 rfl 3 130 lawInt Tryz.underlying131 (ptrR w.heap.size) W8.heap.size 3 D3 rfl hown3 (by decide) (.int .i64 5) (.pointer (some ⟨w.heap.size, 5, none⟩)) (.int .i64 5) rfl rfl (keyOf_int_mk Tryz.underlying3 (by decide)) (.lit (.int .i64 5)) [] (ptrR_mk _ 5) ?_; intro wm4 hown4 hgm4)
                | (refine wpList_insert_own _ rfl _ _ _ 131 rfl 3 130 lawInt Tryz.underlying131 (ptrR w.heap.size) W8.heap.size 4 D5 rfl hown4 (by decide) (.int .i64 6) (.pointer (some ⟨w.heap.size, 6, none⟩)) (.int .i64 6) rfl rfl (keyOf_int_mk Tryz.underlying3 (by decide)) (.lit (.int .i64 6)) [] (ptrR_mk _ 6) ?_; intro wm5 hown5 hgm5)
                | (at_range; refine wpList_range_own _ rfl _ 131 rfl 3 130 lawInt Tryz.underlying131 (ptrR w.heap.size) W8.heap.size 5 D6 rfl hown5 ?_; intro w0 hrg0 hgr0 hs0))
              go_frame
              have hgm : W8.grownBy wm5 none := ((((hg0.andThen hgm1 (fun j hj => by cases hj; exact .inl (Nat.le_refl _))).andThen hgm2 (fun j hj => by cases hj; exact .inl (Nat.le_refl _))).andThen hgm3 (fun j hj => by cases hj; exact .inl (Nat.le_refl _))).andThen hgm4 (fun j hj => by cases hj; exact .inl (Nat.le_refl _))).andThen hgm5 (fun j hj => by cases hj; exact .inl (Nat.le_refl _))
              have hg8 : W8.grownBy w0 none := hgm.andThen hgr0 (fun j hj => by cases hj)
              have hzm : W8.heap.size < wm5.heap.size := hown5.lt
              have HRL := Lib.hid hg8
              have HMZ := Lib.hid hzm
              have hX0 : w0.heap[w.heap.size]? = some (.cells #[.int .i64 1, .int .i64 0, .int .i64 0, .int .i64 0, .int .i64 (nameIx w4 : Int), .int .i64 0, .int .i64 0] 60 (0, 0)) := (hg8.block _ (by omega) (by simp)).trans HX8.out
              have hW0 : w0.heap[w.heap.size + 1]? = some (.cells (strCells ws) 9 (0, 0)) := (hg8.block _ hs8 (by simp)).trans HWS8.out
              have hB0 : Below w.heap.size w w0 := HB8.out.grown hg8 HB8.out.size (fun j hj => by cases hj)
              clear hmm hg0 hown0 hown1 hown2 hown3 hown4 hown5 hgm1 hgm2 hgm3 hgm4 hgm5 hgr0 hgm hg8 hzm
              go_loopw [3] (fun okv wr => ∃ (left : Lit → Bool) (cnt : Nat) (g1 g2 g3 g5 g6 : Int) (b : Bool), wr.ranges Tryz.prog 3 (ptrR w.heap.size) W8.heap.size wm5.heap.size 5 D6 left cnt ∧ okv = .bool b ∧ okOf left ws = b ∧
                  Cell left ws 1 g1 ∧ Cell left ws 2 g2 ∧ Cell left ws 3 g3 ∧ Cell left ws 5 g5 ∧ Cell left ws 6 g6 ∧ wr.heap[w.heap.size]? = some (.cells #[.int .i64 1, .int .i64 g1, .int .i64 g2, .int .i64 g3, .int .i64 (nameIx w4 : Int), .int .i64 g5, .int .i64 g6] 60 (0, 0)) ∧ wr.heap[w.heap.size + 1]? = some (.cells (strCells ws) 9 (0, 0)) ∧ Below w.heap.size w wr)
                (fun _ wr => wr.rangeLeft W8.heap.size wm5.heap.size)
              case atStart => exact ⟨_, _, 0, 0, 0, 0, 0, true, hrg0, rfl, okOf_start ws, Cell_start ws 1 (by decide), Cell_start ws 2 (by decide), Cell_start ws 3 (by decide), Cell_start ws 5 (by decide), Cell_start ws 6 (by decide), hX0, hW0, hB0⟩
              case round =>
                obtain ⟨left, cnt, g1, g2, g3, g5, g6, b, hrg, rfl, hok, hc1, hc2, hc3, hc5, hc6, hXr, hWr, hBr⟩ := hrel
                have HRG := Lib.hid hrg
                have HC1 := Lib.hid hc1
                have HC2 := Lib.hid hc2
                have HC3 := Lib.hid hc3
                have HC5 := Lib.hid hc5
                have HC6 := Lib.hid hc6
                have HOK := Lib.hid hok
                have HXR := Lib.hid hXr
                have HWR := Lib.hid hWr
                have HBR := Lib.hid hBr
                clear hX0 hW0 hB0 hc1 hc2 hc3 hc5 hc6 hok hXr hWr hBr hrg0
                have hz2 : w.heap.size + 1 < wm5.heap.size := Nat.lt_trans hs8 HMZ.out
                cases b
                · go_wp2_with (at_next; refine wpList_next_ranges _ rfl _ rfl 3 lawInt (ptrR w.heap.size) (Value.int .i64) (fun c : Nat => .pointer (some ⟨w.heap.size, c, none⟩)) (fun key kl hk => by obtain ⟨x, rfl, _⟩ := Maps.keyOf_int_inv Tryz.underlying3 hk; exact ⟨x, rfl⟩) (fun v y hv => by obtain ⟨o, rfl, _⟩ := ptrR_inv hv; exact ⟨o, rfl⟩) W8.heap.size wm5.heap.size 5 D6 left cnt rfl HRG.out ?_ ?_)
                  · intro hc0 hl0
                    have HS7 : Hid (∀ w', Kg wr (some w.heap.size) w' → w'.heap[w.heap.size]? = some (.cells #[.int .i64 1, .int .i64 g1, .int .i64 g2, .int .i64 g3, .int .i64 (nameIx w4 : Int), .int .i64 g5, .int .i64 g6] 60 (0, 0)) → (w'.cell? ⟨w.heap.size, 0, none⟩ = some (.int .i64 1) ∧ w'.cell? ⟨w.heap.size, 1, none⟩ = some (.int .i64 g1) ∧ w'.cell? ⟨w.heap.size, 2, none⟩ = some (.int .i64 g2) ∧ w'.cell? ⟨w.heap.size, 3, none⟩ = some (.int .i64 g3) ∧ w'.cell? ⟨w.heap.size, 4, none⟩ = some (.int .i64 (nameIx w4 : Int)) ∧ w'.cell? ⟨w.heap.size, 5, none⟩ = some (.int .i64 g5) ∧ w'.cell? ⟨w.heap.size, 6, none⟩ = some (.int .i64 g6) ∧ Kg wr (some w.heap.size) w')) := fun w' hk hx => (fun ⟨a0, a1, a2, a3, a4, a5, a6⟩ => ⟨a0, a1, a2, a3, a4, a5, a6, hk⟩) (cellAct hx)
                    have HNO : Hid (AO = none) := Lib.hid (by rw [HA.out, if_neg (fun h => by have := (okOf_end hl0).2 h.1; rw [HOK.out] at this; cases this)])
                    clear hl0 hc0
                    go_wp2_with fail
                    refine wp_region_noPanic ?_
                    refine wp_region_held_drew (S := fun w' => w'.cell? ⟨w.heap.size, 0, none⟩ = some (.int .i64 1) ∧ w'.cell? ⟨w.heap.size, 1, none⟩ = some (.int .i64 g1) ∧ w'.cell? ⟨w.heap.size, 2, none⟩ = some (.int .i64 g2) ∧ w'.cell? ⟨w.heap.size, 3, none⟩ = some (.int .i64 g3) ∧ w'.cell? ⟨w.heap.size, 4, none⟩ = some (.int .i64 (nameIx w4 : Int)) ∧ w'.cell? ⟨w.heap.size, 5, none⟩ = some (.int .i64 g5) ∧ w'.cell? ⟨w.heap.size, 6, none⟩ = some (.int .i64 g6) ∧ Kg wr (some w.heap.size) w') (by kernel_rfl) (HS7.out _ (Kg.drew _ _) HXR.out) (fun hHeld => ?_)
                    refine wpAnyH_named fun WK hWK => ?_
                    have HXK : Hid (WK.heap[w.heap.size]? = some (.cells #[.int .i64 1, .int .i64 g1, .int .i64 g2, .int .i64 g3, .int .i64 (nameIx w4 : Int), .int .i64 g5, .int .i64 g6] 60 (0, 0))) := by rw [hWK]; exact HXR.out
                    have HKW : Hid (Kg wr (some w.heap.size) WK) := by rw [hWK]; exact Kg.drew _ _
                    have HBK : Hid (Below w.heap.size w WK) := by rw [hWK]; exact HBR.out.drew
                    have hHeld2 := HS7.out _ HKW.out HXK.out
                    clear hWK hHeld
                    obtain ⟨z0, z1, z2, z3, z4, z5, z6⟩ := cellAct HXK.out
                    have zf0 : WK.frozen? ⟨w.heap.size, 0, none⟩ = false := frozen_of_row _ _ _ _ _ HXK.out
                    have zf1 : WK.frozen? ⟨w.heap.size, 1, none⟩ = false := frozen_of_row _ _ _ _ _ HXK.out
                    have zf2 : WK.frozen? ⟨w.heap.size, 2, none⟩ = false := frozen_of_row _ _ _ _ _ HXK.out
                    have zf3 : WK.frozen? ⟨w.heap.size, 3, none⟩ = false := frozen_of_row _ _ _ _ _ HXK.out
                    have zf4 : WK.frozen? ⟨w.heap.size, 4, none⟩ = false := frozen_of_row _ _ _ _ _ HXK.out
                    have zf5 : WK.frozen? ⟨w.heap.size, 5, none⟩ = false := frozen_of_row _ _ _ _ _ HXK.out
                    have zf6 : WK.frozen? ⟨w.heap.size, 6, none⟩ = false := frozen_of_row _ _ _ _ _ HXK.out
                    refine wpAnyH_take (i := 0) (v := ?v53) (arr_at rfl) (by kernel_rfl) (by kernel_rfl) (by kernel_rfl) (fun _ _ _ h => h) (Or.inl ⟨by rfl, ?hy53⟩) (by assumption) ?_
                    case hy53 => (intro w hSw; (try dsimp only at hSw); go_simp <;> with_reducible rfl)
                    try simp only [Act.put, List.setIfInBounds_toArray, List.set_cons_zero, List.set_cons_succ]
                    refine wpAnyH_take (i := 1) (v := ?v54) (arr_at rfl) (by kernel_rfl) (by kernel_rfl) (by kernel_rfl) (fun _ _ _ h => h) (Or.inl ⟨by rfl, ?hy54⟩) (by assumption) ?_
                    case hy54 => (intro w hSw; (try dsimp only at hSw); go_simp <;> with_reducible rfl)
                    try simp only [Act.put, List.setIfInBounds_toArray, List.set_cons_zero, List.set_cons_succ]
                    refine wpAnyH_take (i := 2) (v := ?v55) (arr_at rfl) (by kernel_rfl) (by kernel_rfl) (by kernel_rfl) (fun _ _ _ h => h) (Or.inl ⟨by rfl, ?hy55⟩) (by assumption) ?_
                    case hy55 => (intro w hSw; (try dsimp only at hSw); go_simp <;> with_reducible rfl)
                    try simp only [Act.put, List.setIfInBounds_toArray, List.set_cons_zero, List.set_cons_succ]
                    refine wpAnyH_take (i := 3) (v := undef) (arr_at rfl) (by kernel_rfl) (by kernel_rfl) (by kernel_rfl) (fun _ _ _ h => h) (Or.inr ⟨by rfl, rfl⟩) (by assumption) ?_
                    try simp only [Act.put, List.setIfInBounds_toArray, List.set_cons_zero, List.set_cons_succ]
                    refine wpAnyH_take (i := 4) (v := undef) (arr_at rfl) (by kernel_rfl) (by kernel_rfl) (by kernel_rfl) (fun _ _ _ h => h) (Or.inr ⟨by rfl, rfl⟩) (by assumption) ?_
                    try simp only [Act.put, List.setIfInBounds_toArray, List.set_cons_zero, List.set_cons_succ]
                    refine wpAnyH_take (i := 5) (v := undef) (arr_at rfl) (by kernel_rfl) (by kernel_rfl) (by kernel_rfl) (fun _ _ _ h => h) (Or.inr ⟨by rfl, rfl⟩) (by assumption) ?_
                    try simp only [Act.put, List.setIfInBounds_toArray, List.set_cons_zero, List.set_cons_succ]
                    refine wpAnyH_take (i := 6) (v := undef) (arr_at rfl) (by kernel_rfl) (by kernel_rfl) (by kernel_rfl) (fun _ _ _ h => h) (Or.inr ⟨by rfl, rfl⟩) (by assumption) ?_
                    try simp only [Act.put, List.setIfInBounds_toArray, List.set_cons_zero, List.set_cons_succ]
                    refine wpAnyH_take (i := 7) (v := ?v60) (arr_at rfl) (by kernel_rfl) (by kernel_rfl) (by kernel_rfl) (fun _ _ _ h => h) (Or.inl ⟨by rfl, ?hy60⟩) (by assumption) ?_
                    case hy60 => (intro w hSw; (try dsimp only at hSw); go_simp <;> with_reducible rfl)
                    try simp only [Act.put, List.setIfInBounds_toArray, List.set_cons_zero, List.set_cons_succ]
                    refine wpAnyH_take (i := 8) (v := ?v61) (arr_at rfl) (by kernel_rfl) (by kernel_rfl) (by kernel_rfl) (fun _ _ _ h => h) (Or.inl ⟨by rfl, ?hy61⟩) (by assumption) ?_
                    case hy61 => (intro w hSw; (try dsimp only at hSw); go_simp <;> with_reducible rfl)
                    try simp only [Act.put, List.setIfInBounds_toArray, List.set_cons_zero, List.set_cons_succ]
                    refine wpAnyH_take (i := 9) (v := undef) (arr_at rfl) (by kernel_rfl) (by kernel_rfl) (by kernel_rfl) (fun _ _ _ h => h) (Or.inr ⟨by rfl, rfl⟩) (by assumption) ?_
                    try simp only [Act.put, List.setIfInBounds_toArray, List.set_cons_zero, List.set_cons_succ]
                    refine wpAnyH_take (i := 10) (v := undef) (arr_at rfl) (by kernel_rfl) (by kernel_rfl) (by kernel_rfl) (fun _ _ _ h => h) (Or.inr ⟨by rfl, rfl⟩) (by assumption) ?_
                    try simp only [Act.put, List.setIfInBounds_toArray, List.set_cons_zero, List.set_cons_succ]
                    refine wpAnyH_take (i := 11) (v := undef) (arr_at rfl) (by kernel_rfl) (by kernel_rfl) (by kernel_rfl) (fun _ _ _ h => h) (Or.inr ⟨by rfl, rfl⟩) (by assumption) ?_
                    try simp only [Act.put, List.setIfInBounds_toArray, List.set_cons_zero, List.set_cons_succ]
                    refine wpAnyH_take (i := 12) (v := undef) (arr_at rfl) (by kernel_rfl) (by kernel_rfl) (by kernel_rfl) (fun _ _ _ h => h) (Or.inr ⟨by rfl, rfl⟩) (by assumption) ?_
                    try simp only [Act.put, List.setIfInBounds_toArray, List.set_cons_zero, List.set_cons_succ]
                    refine wpAnyH_take (i := 13) (v := undef) (arr_at rfl) (by kernel_rfl) (by kernel_rfl) (by kernel_rfl) (fun _ _ _ h => h) (Or.inr ⟨by rfl, rfl⟩) (by assumption) ?_
                    try simp only [Act.put, List.setIfInBounds_toArray, List.set_cons_zero, List.set_cons_succ]
                    refine wpAnyH_take (i := 14) (v := ?v67) (arr_at rfl) (by kernel_rfl) (by kernel_rfl) (by kernel_rfl) (fun _ _ _ h => h) (Or.inl ⟨by rfl, ?hy67⟩) (by assumption) ?_
                    case hy67 => (intro w hSw; (try dsimp only at hSw); go_simp <;> with_reducible rfl)
                    try simp only [Act.put, List.setIfInBounds_toArray, List.set_cons_zero, List.set_cons_succ]
                    refine wpAnyH_ready (rs := [15]) (by kernel_rfl) (by simp) ?_
                    refine AllReadyH.cons (arr_at rfl) (fun K hK => ?_) ?_
                    · go_simp
                      refine hK.out _ _ ?_ (fun hHeld => ?_)
                      · exact HS7.out _ (kg_seven HKW.out _ _ _ _ _ _ _) (set_seven HXK.out)
                      clear hK K
                      try simp only [Act.put, List.setIfInBounds_toArray, List.set_cons_zero, List.set_cons_succ]
                      refine wpAnyH_take (i := 16) (v := ?v68) (arr_at rfl) (by kernel_rfl) (by kernel_rfl) (by kernel_rfl) (fun _ _ _ h => h) (Or.inl ⟨by rfl, ?hy68⟩) (by assumption) ?_
                      case hy68 => (intro w hSw; (try dsimp only at hSw); go_simp <;> with_reducible rfl)
                      try simp only [Act.put, List.setIfInBounds_toArray, List.set_cons_zero, List.set_cons_succ]
                      refine wpAnyH_done (by kernel_rfl) ?_ _
                      refine NoPanic.normal ?_
                      refine exit_namedL (Q := Exit.then _ _) fun WF hWF => ?_
                      have hXF : WF.heap[w.heap.size]? = some (.cells #[.int .i64 1, .int .i64 g1, .int .i64 g2, .int .i64 g3, .int .i64 (nameIx w4 : Int), .int .i64 g5, .int .i64 g6] 60 (0, 0)) := by rw [hWF]; exact set_seven HXK.out
                      have hBF : Below w.heap.size w WF := by rw [hWF]; exact below_seven HBK.out (Nat.le_refl _) _ _ _ _ _ _ _
                      clear hWF
                      go_wp2
                      have hN := HNO.out
                      subst hN
                      exact bodyPost_ret (v := .tuple #[.agg #[.int .i64 1, .int .i64 g1, .int .i64 g2, .int .i64 g3, .int .i64 (nameIx w4 : Int), .int .i64 g5, .int .i64 g6], .bool false]) (results_row2 Tryz.results34 _ _ w.heap.size 60 _ (0, 0) _ _ rfl rfl hXF Tryz.underlying60 rfl rfl) rfl
                        ⟨(1, (g1, g2, g3, (nameIx w4 : Int), g5), g6), rfl, (fun _ h => nomatch h), hBF⟩
                    exact AllReadyH.nil
                  · intro x c kl y ys w2 cnt1 hkey hlk hv hat hrg1 hlt1 hg1 hs1 hen
                    have hy : y = .lit (.int .i64 (c : Int)) := congrArg Prod.fst (Option.some.inj (hv.symm.trans (ptrR_mk w.heap.size c)))
                    obtain ⟨x', ex, rfl, -⟩ := Maps.keyOf_int_inv Tryz.underlying3 hkey
                    injection ex with ex1 ex2
                    subst ex2
                    have hX2 : w2.heap[w.heap.size]? = some (.cells #[.int .i64 1, .int .i64 g1, .int .i64 g2, .int .i64 g3, .int .i64 (nameIx w4 : Int), .int .i64 g5, .int .i64 g6] 60 (0, 0)) := (hg1.block _ (by have := (Array.getElem?_eq_some_iff.1 HXR.out).1; exact this) (by simp; omega)).trans HXR.out
                    have hW2 : w2.heap[w.heap.size + 1]? = some (.cells (strCells ws) 9 (0, 0)) := (hg1.block _ (by have := (Array.getElem?_eq_some_iff.1 HWR.out).1; exact this) (by simp; omega)).trans HWR.out
                    have hB2 : Below w.heap.size w w2 := HBR.out.grown hg1 HBR.out.size (fun j hj => by cases hj; omega)
                    have HX2 := Lib.hid hX2
                    have HW2 := Lib.hid hW2
                    have HB2 := Lib.hid hB2
                    have HRG1 := Lib.hid hrg1
                    have HG1 := Lib.hid hg1
                    have hd := D6_inv (x := x) (c := c) (fun zd => by rw [hat zd, hy])
                    clear hv hat hy hkey hX2 hW2 hB2 hrg1 hg1
                    rcases hd with ⟨rfl, rfl⟩ | ⟨rfl, rfl⟩ | ⟨rfl, rfl⟩ | ⟨rfl, rfl⟩ | ⟨rfl, rfl⟩
                    · obtain ⟨wl, hwl⟩ : ∃ l, ws[1]? = some l := ⟨_, List.getElem?_eq_getElem (by omega)⟩
                      have hcell : w2.cell? ⟨w.heap.size + 1, 1, none⟩ = some (.string ⟨wl.toArray⟩) := by rw [cell_of_row _ _ _ _ _ _ HW2.out]; exact strCells_at hwl
                      go_wp2_with fail
                      refine (HNU.out wl (Nat.le_trans (HSH.out wl (List.mem_of_getElem? hwl)) hs) _ HB2.out).mono ?_
                      rintro e w3 ⟨nv, rfl, hnv, hb3⟩
                      have hX3 := (hb3.block _ (Array.getElem?_eq_some_iff.1 HX2.out).1).trans HX2.out
                      have hW3 := (hb3.block _ (Array.getElem?_eq_some_iff.1 HW2.out).1).trans HW2.out
                      have z1 : w3.cell? ⟨w.heap.size, 1, none⟩ = some (.int .i64 g1) := by rw [cell_of_row _ _ _ _ _ _ hX3]; rfl
                      have zf1 : w3.frozen? ⟨w.heap.size, 1, none⟩ = false := frozen_of_row _ _ _ _ _ hX3
                      have HX3 := Lib.hid hX3
                      have HW3 := Lib.hid hW3
                      have HB3 := Lib.hid hb3
                      clear hX3 hW3 hb3 hcell
                      go_wp2
                      go_roundw
                      case rel =>
                        have hk3 : w3.grownBy (w3.setCell ⟨w.heap.size, 1, none⟩ (.int .i64 nv)) (some w.heap.size) := Kg.setg (Kg.refl w3 _) 1 _
                        exact ⟨_, cnt1, nv, g2, g3, g5, g6, false, (HRG1.out.kept (grown_of_below HB3.out none) (by simp) (by simp)).kept hk3 (by simp; omega) (by simp; omega), rfl, (okOf_step (x := 1) (by decide) hlk).trans (by rw [HOK.out, numAt_word hwl]; rfl), Cell_same (fun v hv => by rw [numAt_word hwl] at hv; exact hnv v hv), Cell_other HC2.out (by decide), Cell_other HC3.out (by decide), Cell_other HC5.out (by decide), Cell_other HC6.out (by decide), heap_setCell_same w3 w.heap.size 1 _ _ _ HX3.out, (hk3.block _ (Array.getElem?_eq_some_iff.1 HW3.out).1 (by simp)).trans HW3.out, (HB2.out.trans (HB3.out.mono HB2.out.size)).setCell (p := ⟨w.heap.size, 1, none⟩) (Nat.le_refl _) _⟩
                      case measure =>
                        have hk3 : w3.grownBy (w3.setCell ⟨w.heap.size, 1, none⟩ (.int .i64 nv)) (some w.heap.size) := Kg.setg (Kg.refl w3 _) 1 _
                        rw [((HRG1.out.kept (grown_of_below HB3.out none) (by simp) (by simp)).kept hk3 (by simp; omega) (by simp; omega)).left_eq, HRG.out.left_eq]; exact hlt1
                    · obtain ⟨wl, hwl⟩ : ∃ l, ws[2]? = some l := ⟨_, List.getElem?_eq_getElem (by omega)⟩
                      have hcell : w2.cell? ⟨w.heap.size + 1, 2, none⟩ = some (.string ⟨wl.toArray⟩) := by rw [cell_of_row _ _ _ _ _ _ HW2.out]; exact strCells_at hwl
                      go_wp2_with fail
                      refine (HNU.out wl (Nat.le_trans (HSH.out wl (List.mem_of_getElem? hwl)) hs) _ HB2.out).mono ?_
                      rintro e w3 ⟨nv, rfl, hnv, hb3⟩
                      have hX3 := (hb3.block _ (Array.getElem?_eq_some_iff.1 HX2.out).1).trans HX2.out
                      have hW3 := (hb3.block _ (Array.getElem?_eq_some_iff.1 HW2.out).1).trans HW2.out
                      have z2 : w3.cell? ⟨w.heap.size, 2, none⟩ = some (.int .i64 g2) := by rw [cell_of_row _ _ _ _ _ _ hX3]; rfl
                      have zf2 : w3.frozen? ⟨w.heap.size, 2, none⟩ = false := frozen_of_row _ _ _ _ _ hX3
                      have HX3 := Lib.hid hX3
                      have HW3 := Lib.hid hW3
                      have HB3 := Lib.hid hb3
                      clear hX3 hW3 hb3 hcell
                      go_wp2
                      go_roundw
                      case rel =>
                        have hk3 : w3.grownBy (w3.setCell ⟨w.heap.size, 2, none⟩ (.int .i64 nv)) (some w.heap.size) := Kg.setg (Kg.refl w3 _) 2 _
                        exact ⟨_, cnt1, g1, nv, g3, g5, g6, false, (HRG1.out.kept (grown_of_below HB3.out none) (by simp) (by simp)).kept hk3 (by simp; omega) (by simp; omega), rfl, (okOf_step (x := 2) (by decide) hlk).trans (by rw [HOK.out, numAt_word hwl]; rfl), Cell_other HC1.out (by decide), Cell_same (fun v hv => by rw [numAt_word hwl] at hv; exact hnv v hv), Cell_other HC3.out (by decide), Cell_other HC5.out (by decide), Cell_other HC6.out (by decide), heap_setCell_same w3 w.heap.size 2 _ _ _ HX3.out, (hk3.block _ (Array.getElem?_eq_some_iff.1 HW3.out).1 (by simp)).trans HW3.out, (HB2.out.trans (HB3.out.mono HB2.out.size)).setCell (p := ⟨w.heap.size, 2, none⟩) (Nat.le_refl _) _⟩
                      case measure =>
                        have hk3 : w3.grownBy (w3.setCell ⟨w.heap.size, 2, none⟩ (.int .i64 nv)) (some w.heap.size) := Kg.setg (Kg.refl w3 _) 2 _
                        rw [((HRG1.out.kept (grown_of_below HB3.out none) (by simp) (by simp)).kept hk3 (by simp; omega) (by simp; omega)).left_eq, HRG.out.left_eq]; exact hlt1
                    · obtain ⟨wl, hwl⟩ : ∃ l, ws[3]? = some l := ⟨_, List.getElem?_eq_getElem (by omega)⟩
                      have hcell : w2.cell? ⟨w.heap.size + 1, 3, none⟩ = some (.string ⟨wl.toArray⟩) := by rw [cell_of_row _ _ _ _ _ _ HW2.out]; exact strCells_at hwl
                      go_wp2_with fail
                      refine (HNU.out wl (Nat.le_trans (HSH.out wl (List.mem_of_getElem? hwl)) hs) _ HB2.out).mono ?_
                      rintro e w3 ⟨nv, rfl, hnv, hb3⟩
                      have hX3 := (hb3.block _ (Array.getElem?_eq_some_iff.1 HX2.out).1).trans HX2.out
                      have hW3 := (hb3.block _ (Array.getElem?_eq_some_iff.1 HW2.out).1).trans HW2.out
                      have z3 : w3.cell? ⟨w.heap.size, 3, none⟩ = some (.int .i64 g3) := by rw [cell_of_row _ _ _ _ _ _ hX3]; rfl
                      have zf3 : w3.frozen? ⟨w.heap.size, 3, none⟩ = false := frozen_of_row _ _ _ _ _ hX3
                      have HX3 := Lib.hid hX3
                      have HW3 := Lib.hid hW3
                      have HB3 := Lib.hid hb3
                      clear hX3 hW3 hb3 hcell
                      go_wp2
                      go_roundw
                      case rel =>
                        have hk3 : w3.grownBy (w3.setCell ⟨w.heap.size, 3, none⟩ (.int .i64 nv)) (some w.heap.size) := Kg.setg (Kg.refl w3 _) 3 _
                        exact ⟨_, cnt1, g1, g2, nv, g5, g6, false, (HRG1.out.kept (grown_of_below HB3.out none) (by simp) (by simp)).kept hk3 (by simp; omega) (by simp; omega), rfl, (okOf_step (x := 3) (by decide) hlk).trans (by rw [HOK.out, numAt_word hwl]; rfl), Cell_other HC1.out (by decide), Cell_other HC2.out (by decide), Cell_same (fun v hv => by rw [numAt_word hwl] at hv; exact hnv v hv), Cell_other HC5.out (by decide), Cell_other HC6.out (by decide), heap_setCell_same w3 w.heap.size 3 _ _ _ HX3.out, (hk3.block _ (Array.getElem?_eq_some_iff.1 HW3.out).1 (by simp)).trans HW3.out, (HB2.out.trans (HB3.out.mono HB2.out.size)).setCell (p := ⟨w.heap.size, 3, none⟩) (Nat.le_refl _) _⟩
                      case measure =>
                        have hk3 : w3.grownBy (w3.setCell ⟨w.heap.size, 3, none⟩ (.int .i64 nv)) (some w.heap.size) := Kg.setg (Kg.refl w3 _) 3 _
                        rw [((HRG1.out.kept (grown_of_below HB3.out none) (by simp) (by simp)).kept hk3 (by simp; omega) (by simp; omega)).left_eq, HRG.out.left_eq]; exact hlt1
                    · obtain ⟨wl, hwl⟩ : ∃ l, ws[5]? = some l := ⟨_, List.getElem?_eq_getElem (by omega)⟩
                      have hcell : w2.cell? ⟨w.heap.size + 1, 5, none⟩ = some (.string ⟨wl.toArray⟩) := by rw [cell_of_row _ _ _ _ _ _ HW2.out]; exact strCells_at hwl
                      go_wp2_with fail
                      refine (HNU.out wl (Nat.le_trans (HSH.out wl (List.mem_of_getElem? hwl)) hs) _ HB2.out).mono ?_
                      rintro e w3 ⟨nv, rfl, hnv, hb3⟩
                      have hX3 := (hb3.block _ (Array.getElem?_eq_some_iff.1 HX2.out).1).trans HX2.out
                      have hW3 := (hb3.block _ (Array.getElem?_eq_some_iff.1 HW2.out).1).trans HW2.out
                      have z5 : w3.cell? ⟨w.heap.size, 5, none⟩ = some (.int .i64 g5) := by rw [cell_of_row _ _ _ _ _ _ hX3]; rfl
                      have zf5 : w3.frozen? ⟨w.heap.size, 5, none⟩ = false := frozen_of_row _ _ _ _ _ hX3
                      have HX3 := Lib.hid hX3
                      have HW3 := Lib.hid hW3
                      have HB3 := Lib.hid hb3
                      clear hX3 hW3 hb3 hcell
                      go_wp2
                      go_roundw
                      case rel =>
                        have hk3 : w3.grownBy (w3.setCell ⟨w.heap.size, 5, none⟩ (.int .i64 nv)) (some w.heap.size) := Kg.setg (Kg.refl w3 _) 5 _
                        exact ⟨_, cnt1, g1, g2, g3, nv, g6, false, (HRG1.out.kept (grown_of_below HB3.out none) (by simp) (by simp)).kept hk3 (by simp; omega) (by simp; omega), rfl, (okOf_step (x := 5) (by decide) hlk).trans (by rw [HOK.out, numAt_word hwl]; rfl), Cell_other HC1.out (by decide), Cell_other HC2.out (by decide), Cell_other HC3.out (by decide), Cell_same (fun v hv => by rw [numAt_word hwl] at hv; exact hnv v hv), Cell_other HC6.out (by decide), heap_setCell_same w3 w.heap.size 5 _ _ _ HX3.out, (hk3.block _ (Array.getElem?_eq_some_iff.1 HW3.out).1 (by simp)).trans HW3.out, (HB2.out.trans (HB3.out.mono HB2.out.size)).setCell (p := ⟨w.heap.size, 5, none⟩) (Nat.le_refl _) _⟩
                      case measure =>
                        have hk3 : w3.grownBy (w3.setCell ⟨w.heap.size, 5, none⟩ (.int .i64 nv)) (some w.heap.size) := Kg.setg (Kg.refl w3 _) 5 _
                        rw [((HRG1.out.kept (grown_of_below HB3.out none) (by simp) (by simp)).kept hk3 (by simp; omega) (by simp; omega)).left_eq, HRG.out.left_eq]; exact hlt1
                    · obtain ⟨wl, hwl⟩ : ∃ l, ws[6]? = some l := ⟨_, List.getElem?_eq_getElem (by omega)⟩
                      have hcell : w2.cell? ⟨w.heap.size + 1, 6, none⟩ = some (.string ⟨wl.toArray⟩) := by rw [cell_of_row _ _ _ _ _ _ HW2.out]; exact strCells_at hwl
                      go_wp2_with fail
                      refine (HNU.out wl (Nat.le_trans (HSH.out wl (List.mem_of_getElem? hwl)) hs) _ HB2.out).mono ?_
                      rintro e w3 ⟨nv, rfl, hnv, hb3⟩
                      have hX3 := (hb3.block _ (Array.getElem?_eq_some_iff.1 HX2.out).1).trans HX2.out
                      have hW3 := (hb3.block _ (Array.getElem?_eq_some_iff.1 HW2.out).1).trans HW2.out
                      have z6 : w3.cell? ⟨w.heap.size, 6, none⟩ = some (.int .i64 g6) := by rw [cell_of_row _ _ _ _ _ _ hX3]; rfl
                      have zf6 : w3.frozen? ⟨w.heap.size, 6, none⟩ = false := frozen_of_row _ _ _ _ _ hX3
                      have HX3 := Lib.hid hX3
                      have HW3 := Lib.hid hW3
                      have HB3 := Lib.hid hb3
                      clear hX3 hW3 hb3 hcell
                      go_wp2
                      go_roundw
                      case rel =>
                        have hk3 : w3.grownBy (w3.setCell ⟨w.heap.size, 6, none⟩ (.int .i64 nv)) (some w.heap.size) := Kg.setg (Kg.refl w3 _) 6 _
                        exact ⟨_, cnt1, g1, g2, g3, g5, nv, false, (HRG1.out.kept (grown_of_below HB3.out none) (by simp) (by simp)).kept hk3 (by simp; omega) (by simp; omega), rfl, (okOf_step (x := 6) (by decide) hlk).trans (by rw [HOK.out, numAt_word hwl]; rfl), Cell_other HC1.out (by decide), Cell_other HC2.out (by decide), Cell_other HC3.out (by decide), Cell_other HC5.out (by decide), Cell_same (fun v hv => by rw [numAt_word hwl] at hv; exact hnv v hv), heap_setCell_same w3 w.heap.size 6 _ _ _ HX3.out, (hk3.block _ (Array.getElem?_eq_some_iff.1 HW3.out).1 (by simp)).trans HW3.out, (HB2.out.trans (HB3.out.mono HB2.out.size)).setCell (p := ⟨w.heap.size, 6, none⟩) (Nat.le_refl _) _⟩
                      case measure =>
                        have hk3 : w3.grownBy (w3.setCell ⟨w.heap.size, 6, none⟩ (.int .i64 nv)) (some w.heap.size) := Kg.setg (Kg.refl w3 _) 6 _
                        rw [((HRG1.out.kept (grown_of_below HB3.out none) (by simp) (by simp)).kept hk3 (by simp; omega) (by simp; omega)).left_eq, HRG.out.left_eq]; exact hlt1
                · go_wp2_with (at_next; refine wpList_next_ranges _ rfl _ rfl 3 lawInt (ptrR w.heap.size) (Value.int .i64) (fun c : Nat => .pointer (some ⟨w.heap.size, c, none⟩)) (fun key kl hk => by obtain ⟨x, rfl, _⟩ := Maps.keyOf_int_inv Tryz.underlying3 hk; exact ⟨x, rfl⟩) (fun v y hv => by obtain ⟨o, rfl, _⟩ := ptrR_inv hv; exact ⟨o, rfl⟩) W8.heap.size wm5.heap.size 5 D6 left cnt rfl HRG.out ?_ ?_)
                  · intro hc0 hl0
                    have HS7 : Hid (∀ w', Kg wr (some w.heap.size) w' → w'.heap[w.heap.size]? = some (.cells #[.int .i64 1, .int .i64 g1, .int .i64 g2, .int .i64 g3, .int .i64 (nameIx w4 : Int), .int .i64 g5, .int .i64 g6] 60 (0, 0)) → (w'.cell? ⟨w.heap.size, 0, none⟩ = some (.int .i64 1) ∧ w'.cell? ⟨w.heap.size, 1, none⟩ = some (.int .i64 g1) ∧ w'.cell? ⟨w.heap.size, 2, none⟩ = some (.int .i64 g2) ∧ w'.cell? ⟨w.heap.size, 3, none⟩ = some (.int .i64 g3) ∧ w'.cell? ⟨w.heap.size, 4, none⟩ = some (.int .i64 (nameIx w4 : Int)) ∧ w'.cell? ⟨w.heap.size, 5, none⟩ = some (.int .i64 g5) ∧ w'.cell? ⟨w.heap.size, 6, none⟩ = some (.int .i64 g6) ∧ Kg wr (some w.heap.size) w')) := fun w' hk hx => (fun ⟨a0, a1, a2, a3, a4, a5, a6⟩ => ⟨a0, a1, a2, a3, a4, a5, a6, hk⟩) (cellAct hx)
                    have hNN : numsOk ws := (okOf_end hl0).1 HOK.out
                    by_cases hpos : 0 < nameIx w4
                    · have hact : actW ws = (1, (g1, g2, g3, (nameIx w4 : Int), g5), g6) := by
                        rw [Cell_end HC1.out hl0 hNN.1, Cell_end HC2.out hl0 hNN.2.1, Cell_end HC3.out hl0 hNN.2.2.1, Cell_end HC5.out hl0 hNN.2.2.2.1, Cell_end HC6.out hl0 hNN.2.2.2.2]
                        unfold actW
                        rw [hn, hd4]
                        rfl
                      have HFT : Hid (FitN (1, (g1, g2, g3, (nameIx w4 : Int), g5), g6)) := by rw [← hact]; exact actW_fit (by omega) hNN (by rw [hd4]; exact hpos)
                      have HAC : Hid (AO = if lineG (1, (g1, g2, g3, (nameIx w4 : Int), g5), g6) = s ++ [10] then some (1, (g1, g2, g3, (nameIx w4 : Int), g5), g6) else none) := by
                        refine Lib.hid ?_
                        rw [HA.out, hact]
                        by_cases hl : lineG (1, (g1, g2, g3, (nameIx w4 : Int), g5), g6) = s ++ [10]
                        · rw [if_pos ⟨hNN, hpos, hl⟩, if_pos hl]
                        · rw [if_neg (fun h => hl h.2.2), if_neg hl]
                      have hposI : (0 : Int) < (nameIx w4 : Int) := by omega
                      have hsl : ¬ (9223372036854775807 < s.length + 1) := by omega
                      clear hl0 hc0 hact hNN
                      go_wp2_with fail
                      refine wp_region_noPanic ?_
                      refine wp_region_held_drew (S := fun w' => w'.cell? ⟨w.heap.size, 0, none⟩ = some (.int .i64 1) ∧ w'.cell? ⟨w.heap.size, 1, none⟩ = some (.int .i64 g1) ∧ w'.cell? ⟨w.heap.size, 2, none⟩ = some (.int .i64 g2) ∧ w'.cell? ⟨w.heap.size, 3, none⟩ = some (.int .i64 g3) ∧ w'.cell? ⟨w.heap.size, 4, none⟩ = some (.int .i64 (nameIx w4 : Int)) ∧ w'.cell? ⟨w.heap.size, 5, none⟩ = some (.int .i64 g5) ∧ w'.cell? ⟨w.heap.size, 6, none⟩ = some (.int .i64 g6) ∧ Kg wr (some w.heap.size) w') (by kernel_rfl) (HS7.out _ (Kg.drew _ _) HXR.out) (fun hHeld => ?_)
                      refine wpAnyH_named fun WK hWK => ?_
                      have HXK : Hid (WK.heap[w.heap.size]? = some (.cells #[.int .i64 1, .int .i64 g1, .int .i64 g2, .int .i64 g3, .int .i64 (nameIx w4 : Int), .int .i64 g5, .int .i64 g6] 60 (0, 0))) := by rw [hWK]; exact HXR.out
                      have HKW : Hid (Kg wr (some w.heap.size) WK) := by rw [hWK]; exact Kg.drew _ _
                      have HBK : Hid (Below w.heap.size w WK) := by rw [hWK]; exact HBR.out.drew
                      have hHeld2 := HS7.out _ HKW.out HXK.out
                      clear hWK hHeld
                      refine wpAnyH_take (i := 0) (v := ?v69) (arr_at rfl) (by kernel_rfl) (by kernel_rfl) (by kernel_rfl) (fun _ _ _ h => h) (Or.inl ⟨by rfl, ?hy69⟩) (by assumption) ?_
                      case hy69 => (intro w hSw; (try dsimp only at hSw); go_simp <;> with_reducible rfl)
                      try simp only [Act.put, List.setIfInBounds_toArray, List.set_cons_zero, List.set_cons_succ]
                      refine wpAnyH_take (i := 1) (v := ?v70) (arr_at rfl) (by kernel_rfl) (by kernel_rfl) (by kernel_rfl) (fun _ _ _ h => h) (Or.inl ⟨by rfl, ?hy70⟩) (by assumption) ?_
                      case hy70 => (intro w hSw; (try dsimp only at hSw); go_simp <;> with_reducible rfl)
                      try simp only [Act.put, List.setIfInBounds_toArray, List.set_cons_zero, List.set_cons_succ]
                      refine wpAnyH_take (i := 2) (v := ?v71) (arr_at rfl) (by kernel_rfl) (by kernel_rfl) (by kernel_rfl) (fun _ _ _ h => h) (Or.inl ⟨by rfl, ?hy71⟩) (by assumption) ?_
                      case hy71 => (intro w hSw; (try dsimp only at hSw); go_simp <;> with_reducible rfl)
                      try simp only [Act.put, List.setIfInBounds_toArray, List.set_cons_zero, List.set_cons_succ]
                      refine wpAnyH_take (i := 3) (v := ?v72) (arr_at rfl) (by kernel_rfl) (by kernel_rfl) (by kernel_rfl) (fun _ _ _ h => h) (Or.inl ⟨by rfl, ?hy72⟩) (by assumption) ?_
                      case hy72 => (intro w hSw; (try dsimp only at hSw); go_simp <;> with_reducible rfl)
                      try simp only [Act.put, List.setIfInBounds_toArray, List.set_cons_zero, List.set_cons_succ]
                      refine wpAnyH_take (i := 4) (v := ?v73) (arr_at rfl) (by kernel_rfl) (by kernel_rfl) (by kernel_rfl) (fun _ _ _ h => h) (Or.inl ⟨by rfl, ?hy73⟩) (by assumption) ?_
                      case hy73 => (intro w hSw; (try dsimp only at hSw); go_simp <;> with_reducible rfl)
                      try simp only [Act.put, List.setIfInBounds_toArray, List.set_cons_zero, List.set_cons_succ]
                      refine wpAnyH_take (i := 5) (v := ?v74) (arr_at rfl) (by kernel_rfl) (by kernel_rfl) (by kernel_rfl) (fun _ _ _ h => h) (Or.inl ⟨by rfl, ?hy74⟩) (by assumption) ?_
                      case hy74 => (intro w hSw; (try dsimp only at hSw); go_simp <;> with_reducible rfl)
                      try simp only [Act.put, List.setIfInBounds_toArray, List.set_cons_zero, List.set_cons_succ]
                      refine wpAnyH_take (i := 6) (v := ?v75) (arr_at rfl) (by kernel_rfl) (by kernel_rfl) (by kernel_rfl) (fun _ _ _ h => h) (Or.inl ⟨by rfl, ?hy75⟩) (by assumption) ?_
                      case hy75 => (intro w hSw; (try dsimp only at hSw); go_simp <;> with_reducible rfl)
                      try simp only [Act.put, List.setIfInBounds_toArray, List.set_cons_zero, List.set_cons_succ]
                      refine wpAnyH_take (i := 7) (v := ?v76) (arr_at rfl) (by kernel_rfl) (by kernel_rfl) (by kernel_rfl) (fun _ _ _ h => h) (Or.inl ⟨by rfl, ?hy76⟩) (by assumption) ?_
                      case hy76 => (intro w hSw; (try dsimp only at hSw); go_simp <;> with_reducible rfl)
                      try simp only [Act.put, List.setIfInBounds_toArray, List.set_cons_zero, List.set_cons_succ]
                      refine wpAnyH_take (i := 8) (v := ?v77) (arr_at rfl) (by kernel_rfl) (by kernel_rfl) (by kernel_rfl) (fun _ _ _ h => h) (Or.inl ⟨by rfl, ?hy77⟩) (by assumption) ?_
                      case hy77 => (intro w hSw; (try dsimp only at hSw); go_simp <;> with_reducible rfl)
                      try simp only [Act.put, List.setIfInBounds_toArray, List.set_cons_zero, List.set_cons_succ]
                      refine wpAnyH_take (i := 9) (v := ?v78) (arr_at rfl) (by kernel_rfl) (by kernel_rfl) (by kernel_rfl) (fun _ _ _ h => h) (Or.inl ⟨by rfl, ?hy78⟩) (by assumption) ?_
                      case hy78 => (intro w hSw; (try dsimp only at hSw); go_simp <;> with_reducible rfl)
                      try simp only [Act.put, List.setIfInBounds_toArray, List.set_cons_zero, List.set_cons_succ]
                      refine wpAnyH_take (i := 11) (v := ?v79) (arr_at rfl) (by kernel_rfl) (by kernel_rfl) (by kernel_rfl) (fun _ _ _ h => h) (Or.inl ⟨by rfl, ?hy79⟩) (by assumption) ?_
                      case hy79 => (intro w hSw; (try dsimp only at hSw); go_simp <;> with_reducible rfl)
                      try simp only [Act.put, List.setIfInBounds_toArray, List.set_cons_zero, List.set_cons_succ]
                      refine wpAnyH_take (i := 12) (v := ?v80) (arr_at rfl) (by kernel_rfl) (by kernel_rfl) (by kernel_rfl) (fun _ _ _ h => h) (Or.inl ⟨by rfl, ?hy80⟩) (by assumption) ?_
                      case hy80 => (intro w hSw; (try dsimp only at hSw); go_simp <;> with_reducible rfl)
                      try simp only [Act.put, List.setIfInBounds_toArray, List.set_cons_zero, List.set_cons_succ]
                      refine wpAnyH_ready (rs := [10]) (by kernel_rfl) (by simp) ?_
                      refine AllReadyH.cons (arr_at rfl) (fun K hK => ?_) ?_
                      · go_simp; refine (HLN.out (1, (g1, g2, g3, (nameIx w4 : Int), g5), g6) HFT.out _ HBK.out).mono ?_; rintro rr w3 ⟨rfl, hb3⟩; have HX3 := Lib.hid ((hb3.block _ (Array.getElem?_eq_some_iff.1 HXK.out).1).trans HXK.out); have HK3 := Lib.hid (HKW.out.call hb3); have HB3 := Lib.hid (HBK.out.trans (hb3.mono HBK.out.size)); obtain ⟨z0, z1, z2, z3, z4, z5, z6⟩ := cellAct HX3.out; clear hb3; have zf0 : w3.frozen? ⟨w.heap.size, 0, none⟩ = false := frozen_of_row _ _ _ _ _ HX3.out; have zf1 : w3.frozen? ⟨w.heap.size, 1, none⟩ = false := frozen_of_row _ _ _ _ _ HX3.out; have zf2 : w3.frozen? ⟨w.heap.size, 2, none⟩ = false := frozen_of_row _ _ _ _ _ HX3.out; have zf3 : w3.frozen? ⟨w.heap.size, 3, none⟩ = false := frozen_of_row _ _ _ _ _ HX3.out; have zf4 : w3.frozen? ⟨w.heap.size, 4, none⟩ = false := frozen_of_row _ _ _ _ _ HX3.out; have zf5 : w3.frozen? ⟨w.heap.size, 5, none⟩ = false := frozen_of_row _ _ _ _ _ HX3.out; have zf6 : w3.frozen? ⟨w.heap.size, 6, none⟩ = false := frozen_of_row _ _ _ _ _ HX3.out
                        refine hK.out _ _ ?_ (fun hHeld => ?_)
                        · exact HS7.out _ HK3.out HX3.out
                        clear hK K
                        try simp only [Act.put, List.setIfInBounds_toArray, List.set_cons_zero, List.set_cons_succ]
                        refine wpAnyH_take (i := 13) (v := ?v81) (arr_at rfl) (by kernel_rfl) (by kernel_rfl) (by kernel_rfl) (fun _ _ _ h => h) (Or.inl ⟨by rfl, ?hy81⟩) (by assumption) ?_
                        case hy81 => (intro w hSw; (try dsimp only at hSw); go_simp <;> with_reducible rfl)
                        try simp only [Act.put, List.setIfInBounds_toArray, List.set_cons_zero, List.set_cons_succ]
                        refine wpAnyH_take (i := 14) (v := ?v82) (arr_at rfl) (by kernel_rfl) (by kernel_rfl) (by kernel_rfl) (fun _ _ _ h => h) (Or.inl ⟨by rfl, ?hy82⟩) (by assumption) ?_
                        case hy82 => (intro w hSw; (try dsimp only at hSw); go_simp <;> with_reducible rfl)
                        try simp only [Act.put, List.setIfInBounds_toArray, List.set_cons_zero, List.set_cons_succ]
                        refine wpAnyH_ready (rs := [15]) (by kernel_rfl) (by simp) ?_
                        refine AllReadyH.cons (arr_at rfl) (fun K hK => ?_) ?_
                        · go_simp
                          refine hK.out _ _ ?_ (fun hHeld => ?_)
                          · exact HS7.out _ (kg_seven HK3.out _ _ _ _ _ _ _) (set_seven HX3.out)
                          clear hK K
                          try simp only [Act.put, List.setIfInBounds_toArray, List.set_cons_zero, List.set_cons_succ]
                          refine wpAnyH_take (i := 16) (v := ?v83) (arr_at rfl) (by kernel_rfl) (by kernel_rfl) (by kernel_rfl) (fun _ _ _ h => h) (Or.inl ⟨by rfl, ?hy83⟩) (by assumption) ?_
                          case hy83 => (intro w hSw; (try dsimp only at hSw); go_simp <;> with_reducible rfl)
                          try simp only [Act.put, List.setIfInBounds_toArray, List.set_cons_zero, List.set_cons_succ]
                          refine wpAnyH_done (by kernel_rfl) ?_ _
                          refine NoPanic.normal ?_
                          refine exit_namedL (Q := Exit.then _ _) fun WF hWF => ?_
                          have hXF : WF.heap[w.heap.size]? = some (.cells #[.int .i64 1, .int .i64 g1, .int .i64 g2, .int .i64 g3, .int .i64 (nameIx w4 : Int), .int .i64 g5, .int .i64 g6] 60 (0, 0)) := by rw [hWF]; exact set_seven HX3.out
                          have hBF : Below w.heap.size w WF := by rw [hWF]; exact below_seven HB3.out (Nat.le_refl _) _ _ _ _ _ _ _
                          clear hWF
                          go_wp2
                          obtain ⟨hX1, hX2⟩ := line_eq HAC.out
                          exact bodyPost_ret (v := .tuple #[.agg #[.int .i64 1, .int .i64 g1, .int .i64 g2, .int .i64 g3, .int .i64 (nameIx w4 : Int), .int .i64 g5, .int .i64 g6], .bool AO.isSome]) (results_row2 Tryz.results34 _ _ w.heap.size 60 _ (0, 0) _ _ rfl (congrArg Value.bool hX1) hXF Tryz.underlying60 rfl rfl) rfl
                            ⟨(1, (g1, g2, g3, (nameIx w4 : Int), g5), g6), rfl, hX2, hBF⟩
                        exact AllReadyH.nil
                      exact AllReadyH.nil
                    · have HNO : Hid (AO = none) := Lib.hid (by rw [HA.out, if_neg (fun h => hpos h.2.1)])
                      have hposI : ¬ (0 : Int) < (nameIx w4 : Int) := by omega
                      clear hl0 hc0 hNN
                      go_wp2_with fail
                      refine wp_region_noPanic ?_
                      refine wp_region_held_drew (S := fun w' => w'.cell? ⟨w.heap.size, 0, none⟩ = some (.int .i64 1) ∧ w'.cell? ⟨w.heap.size, 1, none⟩ = some (.int .i64 g1) ∧ w'.cell? ⟨w.heap.size, 2, none⟩ = some (.int .i64 g2) ∧ w'.cell? ⟨w.heap.size, 3, none⟩ = some (.int .i64 g3) ∧ w'.cell? ⟨w.heap.size, 4, none⟩ = some (.int .i64 (nameIx w4 : Int)) ∧ w'.cell? ⟨w.heap.size, 5, none⟩ = some (.int .i64 g5) ∧ w'.cell? ⟨w.heap.size, 6, none⟩ = some (.int .i64 g6) ∧ Kg wr (some w.heap.size) w') (by kernel_rfl) (HS7.out _ (Kg.drew _ _) HXR.out) (fun hHeld => ?_)
                      refine wpAnyH_named fun WK hWK => ?_
                      have HXK : Hid (WK.heap[w.heap.size]? = some (.cells #[.int .i64 1, .int .i64 g1, .int .i64 g2, .int .i64 g3, .int .i64 (nameIx w4 : Int), .int .i64 g5, .int .i64 g6] 60 (0, 0))) := by rw [hWK]; exact HXR.out
                      have HKW : Hid (Kg wr (some w.heap.size) WK) := by rw [hWK]; exact Kg.drew _ _
                      have HBK : Hid (Below w.heap.size w WK) := by rw [hWK]; exact HBR.out.drew
                      have hHeld2 := HS7.out _ HKW.out HXK.out
                      clear hWK hHeld
                      obtain ⟨z0, z1, z2, z3, z4, z5, z6⟩ := cellAct HXK.out
                      have zf0 : WK.frozen? ⟨w.heap.size, 0, none⟩ = false := frozen_of_row _ _ _ _ _ HXK.out
                      have zf1 : WK.frozen? ⟨w.heap.size, 1, none⟩ = false := frozen_of_row _ _ _ _ _ HXK.out
                      have zf2 : WK.frozen? ⟨w.heap.size, 2, none⟩ = false := frozen_of_row _ _ _ _ _ HXK.out
                      have zf3 : WK.frozen? ⟨w.heap.size, 3, none⟩ = false := frozen_of_row _ _ _ _ _ HXK.out
                      have zf4 : WK.frozen? ⟨w.heap.size, 4, none⟩ = false := frozen_of_row _ _ _ _ _ HXK.out
                      have zf5 : WK.frozen? ⟨w.heap.size, 5, none⟩ = false := frozen_of_row _ _ _ _ _ HXK.out
                      have zf6 : WK.frozen? ⟨w.heap.size, 6, none⟩ = false := frozen_of_row _ _ _ _ _ HXK.out
                      refine wpAnyH_take (i := 0) (v := ?v84) (arr_at rfl) (by kernel_rfl) (by kernel_rfl) (by kernel_rfl) (fun _ _ _ h => h) (Or.inl ⟨by rfl, ?hy84⟩) (by assumption) ?_
                      case hy84 => (intro w hSw; (try dsimp only at hSw); go_simp <;> with_reducible rfl)
                      try simp only [Act.put, List.setIfInBounds_toArray, List.set_cons_zero, List.set_cons_succ]
                      refine wpAnyH_take (i := 1) (v := ?v85) (arr_at rfl) (by kernel_rfl) (by kernel_rfl) (by kernel_rfl) (fun _ _ _ h => h) (Or.inl ⟨by rfl, ?hy85⟩) (by assumption) ?_
                      case hy85 => (intro w hSw; (try dsimp only at hSw); go_simp <;> with_reducible rfl)
                      try simp only [Act.put, List.setIfInBounds_toArray, List.set_cons_zero, List.set_cons_succ]
                      refine wpAnyH_take (i := 2) (v := ?v86) (arr_at rfl) (by kernel_rfl) (by kernel_rfl) (by kernel_rfl) (fun _ _ _ h => h) (Or.inl ⟨by rfl, ?hy86⟩) (by assumption) ?_
                      case hy86 => (intro w hSw; (try dsimp only at hSw); go_simp <;> with_reducible rfl)
                      try simp only [Act.put, List.setIfInBounds_toArray, List.set_cons_zero, List.set_cons_succ]
                      refine wpAnyH_take (i := 3) (v := ?v87) (arr_at rfl) (by kernel_rfl) (by kernel_rfl) (by kernel_rfl) (fun _ _ _ h => h) (Or.inl ⟨by rfl, ?hy87⟩) (by assumption) ?_
                      case hy87 => (intro w hSw; (try dsimp only at hSw); go_simp <;> with_reducible rfl)
                      try simp only [Act.put, List.setIfInBounds_toArray, List.set_cons_zero, List.set_cons_succ]
                      refine wpAnyH_take (i := 4) (v := ?v88) (arr_at rfl) (by kernel_rfl) (by kernel_rfl) (by kernel_rfl) (fun _ _ _ h => h) (Or.inl ⟨by rfl, ?hy88⟩) (by assumption) ?_
                      case hy88 => (intro w hSw; (try dsimp only at hSw); go_simp <;> with_reducible rfl)
                      try simp only [Act.put, List.setIfInBounds_toArray, List.set_cons_zero, List.set_cons_succ]
                      refine wpAnyH_take (i := 5) (v := ?v89) (arr_at rfl) (by kernel_rfl) (by kernel_rfl) (by kernel_rfl) (fun _ _ _ h => h) (Or.inl ⟨by rfl, ?hy89⟩) (by assumption) ?_
                      case hy89 => (intro w hSw; (try dsimp only at hSw); go_simp <;> with_reducible rfl)
                      try simp only [Act.put, List.setIfInBounds_toArray, List.set_cons_zero, List.set_cons_succ]
                      refine wpAnyH_take (i := 6) (v := ?v90) (arr_at rfl) (by kernel_rfl) (by kernel_rfl) (by kernel_rfl) (fun _ _ _ h => h) (Or.inl ⟨by rfl, ?hy90⟩) (by assumption) ?_
                      case hy90 => (intro w hSw; (try dsimp only at hSw); go_simp <;> with_reducible rfl)
                      try simp only [Act.put, List.setIfInBounds_toArray, List.set_cons_zero, List.set_cons_succ]
                      refine wpAnyH_take (i := 7) (v := ?v91) (arr_at rfl) (by kernel_rfl) (by kernel_rfl) (by kernel_rfl) (fun _ _ _ h => h) (Or.inl ⟨by rfl, ?hy91⟩) (by assumption) ?_
                      case hy91 => (intro w hSw; (try dsimp only at hSw); go_simp <;> with_reducible rfl)
                      try simp only [Act.put, List.setIfInBounds_toArray, List.set_cons_zero, List.set_cons_succ]
                      refine wpAnyH_take (i := 8) (v := ?v92) (arr_at rfl) (by kernel_rfl) (by kernel_rfl) (by kernel_rfl) (fun _ _ _ h => h) (Or.inl ⟨by rfl, ?hy92⟩) (by assumption) ?_
                      case hy92 => (intro w hSw; (try dsimp only at hSw); go_simp <;> with_reducible rfl)
                      try simp only [Act.put, List.setIfInBounds_toArray, List.set_cons_zero, List.set_cons_succ]
                      refine wpAnyH_take (i := 9) (v := undef) (arr_at rfl) (by kernel_rfl) (by kernel_rfl) (by kernel_rfl) (fun _ _ _ h => h) (Or.inr ⟨by rfl, rfl⟩) (by assumption) ?_
                      try simp only [Act.put, List.setIfInBounds_toArray, List.set_cons_zero, List.set_cons_succ]
                      refine wpAnyH_take (i := 10) (v := undef) (arr_at rfl) (by kernel_rfl) (by kernel_rfl) (by kernel_rfl) (fun _ _ _ h => h) (Or.inr ⟨by rfl, rfl⟩) (by assumption) ?_
                      try simp only [Act.put, List.setIfInBounds_toArray, List.set_cons_zero, List.set_cons_succ]
                      refine wpAnyH_take (i := 11) (v := undef) (arr_at rfl) (by kernel_rfl) (by kernel_rfl) (by kernel_rfl) (fun _ _ _ h => h) (Or.inr ⟨by rfl, rfl⟩) (by assumption) ?_
                      try simp only [Act.put, List.setIfInBounds_toArray, List.set_cons_zero, List.set_cons_succ]
                      refine wpAnyH_take (i := 12) (v := undef) (arr_at rfl) (by kernel_rfl) (by kernel_rfl) (by kernel_rfl) (fun _ _ _ h => h) (Or.inr ⟨by rfl, rfl⟩) (by assumption) ?_
                      try simp only [Act.put, List.setIfInBounds_toArray, List.set_cons_zero, List.set_cons_succ]
                      refine wpAnyH_take (i := 13) (v := undef) (arr_at rfl) (by kernel_rfl) (by kernel_rfl) (by kernel_rfl) (fun _ _ _ h => h) (Or.inr ⟨by rfl, rfl⟩) (by assumption) ?_
                      try simp only [Act.put, List.setIfInBounds_toArray, List.set_cons_zero, List.set_cons_succ]
                      refine wpAnyH_take (i := 14) (v := ?v98) (arr_at rfl) (by kernel_rfl) (by kernel_rfl) (by kernel_rfl) (fun _ _ _ h => h) (Or.inl ⟨by rfl, ?hy98⟩) (by assumption) ?_
                      case hy98 => (intro w hSw; (try dsimp only at hSw); go_simp <;> with_reducible rfl)
                      try simp only [Act.put, List.setIfInBounds_toArray, List.set_cons_zero, List.set_cons_succ]
                      refine wpAnyH_ready (rs := [15]) (by kernel_rfl) (by simp) ?_
                      refine AllReadyH.cons (arr_at rfl) (fun K hK => ?_) ?_
                      · go_simp
                        refine hK.out _ _ ?_ (fun hHeld => ?_)
                        · exact HS7.out _ (kg_seven HKW.out _ _ _ _ _ _ _) (set_seven HXK.out)
                        clear hK K
                        try simp only [Act.put, List.setIfInBounds_toArray, List.set_cons_zero, List.set_cons_succ]
                        refine wpAnyH_take (i := 16) (v := ?v99) (arr_at rfl) (by kernel_rfl) (by kernel_rfl) (by kernel_rfl) (fun _ _ _ h => h) (Or.inl ⟨by rfl, ?hy99⟩) (by assumption) ?_
                        case hy99 => (intro w hSw; (try dsimp only at hSw); go_simp <;> with_reducible rfl)
                        try simp only [Act.put, List.setIfInBounds_toArray, List.set_cons_zero, List.set_cons_succ]
                        refine wpAnyH_done (by kernel_rfl) ?_ _
                        refine NoPanic.normal ?_
                        refine exit_namedL (Q := Exit.then _ _) fun WF hWF => ?_
                        have hXF : WF.heap[w.heap.size]? = some (.cells #[.int .i64 1, .int .i64 g1, .int .i64 g2, .int .i64 g3, .int .i64 (nameIx w4 : Int), .int .i64 g5, .int .i64 g6] 60 (0, 0)) := by rw [hWF]; exact set_seven HXK.out
                        have hBF : Below w.heap.size w WF := by rw [hWF]; exact below_seven HBK.out (Nat.le_refl _) _ _ _ _ _ _ _
                        clear hWF
                        go_wp2
                        have hN := HNO.out
                        subst hN
                        exact bodyPost_ret (v := .tuple #[.agg #[.int .i64 1, .int .i64 g1, .int .i64 g2, .int .i64 g3, .int .i64 (nameIx w4 : Int), .int .i64 g5, .int .i64 g6], .bool false]) (results_row2 Tryz.results34 _ _ w.heap.size 60 _ (0, 0) _ _ rfl rfl hXF Tryz.underlying60 rfl rfl) rfl
                          ⟨(1, (g1, g2, g3, (nameIx w4 : Int), g5), g6), rfl, (fun _ h => nomatch h), hBF⟩
                      exact AllReadyH.nil
                  · intro x c kl y ys w2 cnt1 hkey hlk hv hat hrg1 hlt1 hg1 hs1 hen
                    have hy : y = .lit (.int .i64 (c : Int)) := congrArg Prod.fst (Option.some.inj (hv.symm.trans (ptrR_mk w.heap.size c)))
                    obtain ⟨x', ex, rfl, -⟩ := Maps.keyOf_int_inv Tryz.underlying3 hkey
                    injection ex with ex1 ex2
                    subst ex2
                    have hX2 : w2.heap[w.heap.size]? = some (.cells #[.int .i64 1, .int .i64 g1, .int .i64 g2, .int .i64 g3, .int .i64 (nameIx w4 : Int), .int .i64 g5, .int .i64 g6] 60 (0, 0)) := (hg1.block _ (by have := (Array.getElem?_eq_some_iff.1 HXR.out).1; exact this) (by simp; omega)).trans HXR.out
                    have hW2 : w2.heap[w.heap.size + 1]? = some (.cells (strCells ws) 9 (0, 0)) := (hg1.block _ (by have := (Array.getElem?_eq_some_iff.1 HWR.out).1; exact this) (by simp; omega)).trans HWR.out
                    have hB2 : Below w.heap.size w w2 := HBR.out.grown hg1 HBR.out.size (fun j hj => by cases hj; omega)
                    have HX2 := Lib.hid hX2
                    have HW2 := Lib.hid hW2
                    have HB2 := Lib.hid hB2
                    have HRG1 := Lib.hid hrg1
                    have HG1 := Lib.hid hg1
                    have hd := D6_inv (x := x) (c := c) (fun zd => by rw [hat zd, hy])
                    clear hv hat hy hkey hX2 hW2 hB2 hrg1 hg1
                    rcases hd with ⟨rfl, rfl⟩ | ⟨rfl, rfl⟩ | ⟨rfl, rfl⟩ | ⟨rfl, rfl⟩ | ⟨rfl, rfl⟩
                    · obtain ⟨wl, hwl⟩ : ∃ l, ws[1]? = some l := ⟨_, List.getElem?_eq_getElem (by omega)⟩
                      have hcell : w2.cell? ⟨w.heap.size + 1, 1, none⟩ = some (.string ⟨wl.toArray⟩) := by rw [cell_of_row _ _ _ _ _ _ HW2.out]; exact strCells_at hwl
                      go_wp2_with fail
                      refine (HNU.out wl (Nat.le_trans (HSH.out wl (List.mem_of_getElem? hwl)) hs) _ HB2.out).mono ?_
                      rintro e w3 ⟨nv, rfl, hnv, hb3⟩
                      have hX3 := (hb3.block _ (Array.getElem?_eq_some_iff.1 HX2.out).1).trans HX2.out
                      have hW3 := (hb3.block _ (Array.getElem?_eq_some_iff.1 HW2.out).1).trans HW2.out
                      have z1 : w3.cell? ⟨w.heap.size, 1, none⟩ = some (.int .i64 g1) := by rw [cell_of_row _ _ _ _ _ _ hX3]; rfl
                      have zf1 : w3.frozen? ⟨w.heap.size, 1, none⟩ = false := frozen_of_row _ _ _ _ _ hX3
                      have HX3 := Lib.hid hX3
                      have HW3 := Lib.hid hW3
                      have HB3 := Lib.hid hb3
                      clear hX3 hW3 hb3 hcell
                      go_wp2
                      go_roundw
                      case rel =>
                        have hk3 : w3.grownBy (w3.setCell ⟨w.heap.size, 1, none⟩ (.int .i64 nv)) (some w.heap.size) := Kg.setg (Kg.refl w3 _) 1 _
                        exact ⟨_, cnt1, nv, g2, g3, g5, g6, (numOf wl).isSome, (HRG1.out.kept (grown_of_below HB3.out none) (by simp) (by simp)).kept hk3 (by simp; omega) (by simp; omega), rfl, (okOf_step (x := 1) (by decide) hlk).trans (by rw [HOK.out, numAt_word hwl]; rfl), Cell_same (fun v hv => by rw [numAt_word hwl] at hv; exact hnv v hv), Cell_other HC2.out (by decide), Cell_other HC3.out (by decide), Cell_other HC5.out (by decide), Cell_other HC6.out (by decide), heap_setCell_same w3 w.heap.size 1 _ _ _ HX3.out, (hk3.block _ (Array.getElem?_eq_some_iff.1 HW3.out).1 (by simp)).trans HW3.out, (HB2.out.trans (HB3.out.mono HB2.out.size)).setCell (p := ⟨w.heap.size, 1, none⟩) (Nat.le_refl _) _⟩
                      case measure =>
                        have hk3 : w3.grownBy (w3.setCell ⟨w.heap.size, 1, none⟩ (.int .i64 nv)) (some w.heap.size) := Kg.setg (Kg.refl w3 _) 1 _
                        rw [((HRG1.out.kept (grown_of_below HB3.out none) (by simp) (by simp)).kept hk3 (by simp; omega) (by simp; omega)).left_eq, HRG.out.left_eq]; exact hlt1
                    · obtain ⟨wl, hwl⟩ : ∃ l, ws[2]? = some l := ⟨_, List.getElem?_eq_getElem (by omega)⟩
                      have hcell : w2.cell? ⟨w.heap.size + 1, 2, none⟩ = some (.string ⟨wl.toArray⟩) := by rw [cell_of_row _ _ _ _ _ _ HW2.out]; exact strCells_at hwl
                      go_wp2_with fail
                      refine (HNU.out wl (Nat.le_trans (HSH.out wl (List.mem_of_getElem? hwl)) hs) _ HB2.out).mono ?_
                      rintro e w3 ⟨nv, rfl, hnv, hb3⟩
                      have hX3 := (hb3.block _ (Array.getElem?_eq_some_iff.1 HX2.out).1).trans HX2.out
                      have hW3 := (hb3.block _ (Array.getElem?_eq_some_iff.1 HW2.out).1).trans HW2.out
                      have z2 : w3.cell? ⟨w.heap.size, 2, none⟩ = some (.int .i64 g2) := by rw [cell_of_row _ _ _ _ _ _ hX3]; rfl
                      have zf2 : w3.frozen? ⟨w.heap.size, 2, none⟩ = false := frozen_of_row _ _ _ _ _ hX3
                      have HX3 := Lib.hid hX3
                      have HW3 := Lib.hid hW3
                      have HB3 := Lib.hid hb3
                      clear hX3 hW3 hb3 hcell
                      go_wp2
                      go_roundw
                      case rel =>
                        have hk3 : w3.grownBy (w3.setCell ⟨w.heap.size, 2, none⟩ (.int .i64 nv)) (some w.heap.size) := Kg.setg (Kg.refl w3 _) 2 _
                        exact ⟨_, cnt1, g1, nv, g3, g5, g6, (numOf wl).isSome, (HRG1.out.kept (grown_of_below HB3.out none) (by simp) (by simp)).kept hk3 (by simp; omega) (by simp; omega), rfl, (okOf_step (x := 2) (by decide) hlk).trans (by rw [HOK.out, numAt_word hwl]; rfl), Cell_other HC1.out (by decide), Cell_same (fun v hv => by rw [numAt_word hwl] at hv; exact hnv v hv), Cell_other HC3.out (by decide), Cell_other HC5.out (by decide), Cell_other HC6.out (by decide), heap_setCell_same w3 w.heap.size 2 _ _ _ HX3.out, (hk3.block _ (Array.getElem?_eq_some_iff.1 HW3.out).1 (by simp)).trans HW3.out, (HB2.out.trans (HB3.out.mono HB2.out.size)).setCell (p := ⟨w.heap.size, 2, none⟩) (Nat.le_refl _) _⟩
                      case measure =>
                        have hk3 : w3.grownBy (w3.setCell ⟨w.heap.size, 2, none⟩ (.int .i64 nv)) (some w.heap.size) := Kg.setg (Kg.refl w3 _) 2 _
                        rw [((HRG1.out.kept (grown_of_below HB3.out none) (by simp) (by simp)).kept hk3 (by simp; omega) (by simp; omega)).left_eq, HRG.out.left_eq]; exact hlt1
                    · obtain ⟨wl, hwl⟩ : ∃ l, ws[3]? = some l := ⟨_, List.getElem?_eq_getElem (by omega)⟩
                      have hcell : w2.cell? ⟨w.heap.size + 1, 3, none⟩ = some (.string ⟨wl.toArray⟩) := by rw [cell_of_row _ _ _ _ _ _ HW2.out]; exact strCells_at hwl
                      go_wp2_with fail
                      refine (HNU.out wl (Nat.le_trans (HSH.out wl (List.mem_of_getElem? hwl)) hs) _ HB2.out).mono ?_
                      rintro e w3 ⟨nv, rfl, hnv, hb3⟩
                      have hX3 := (hb3.block _ (Array.getElem?_eq_some_iff.1 HX2.out).1).trans HX2.out
                      have hW3 := (hb3.block _ (Array.getElem?_eq_some_iff.1 HW2.out).1).trans HW2.out
                      have z3 : w3.cell? ⟨w.heap.size, 3, none⟩ = some (.int .i64 g3) := by rw [cell_of_row _ _ _ _ _ _ hX3]; rfl
                      have zf3 : w3.frozen? ⟨w.heap.size, 3, none⟩ = false := frozen_of_row _ _ _ _ _ hX3
                      have HX3 := Lib.hid hX3
                      have HW3 := Lib.hid hW3
                      have HB3 := Lib.hid hb3
                      clear hX3 hW3 hb3 hcell
                      go_wp2
                      go_roundw
                      case rel =>
                        have hk3 : w3.grownBy (w3.setCell ⟨w.heap.size, 3, none⟩ (.int .i64 nv)) (some w.heap.size) := Kg.setg (Kg.refl w3 _) 3 _
                        exact ⟨_, cnt1, g1, g2, nv, g5, g6, (numOf wl).isSome, (HRG1.out.kept (grown_of_below HB3.out none) (by simp) (by simp)).kept hk3 (by simp; omega) (by simp; omega), rfl, (okOf_step (x := 3) (by decide) hlk).trans (by rw [HOK.out, numAt_word hwl]; rfl), Cell_other HC1.out (by decide), Cell_other HC2.out (by decide), Cell_same (fun v hv => by rw [numAt_word hwl] at hv; exact hnv v hv), Cell_other HC5.out (by decide), Cell_other HC6.out (by decide), heap_setCell_same w3 w.heap.size 3 _ _ _ HX3.out, (hk3.block _ (Array.getElem?_eq_some_iff.1 HW3.out).1 (by simp)).trans HW3.out, (HB2.out.trans (HB3.out.mono HB2.out.size)).setCell (p := ⟨w.heap.size, 3, none⟩) (Nat.le_refl _) _⟩
                      case measure =>
                        have hk3 : w3.grownBy (w3.setCell ⟨w.heap.size, 3, none⟩ (.int .i64 nv)) (some w.heap.size) := Kg.setg (Kg.refl w3 _) 3 _
                        rw [((HRG1.out.kept (grown_of_below HB3.out none) (by simp) (by simp)).kept hk3 (by simp; omega) (by simp; omega)).left_eq, HRG.out.left_eq]; exact hlt1
                    · obtain ⟨wl, hwl⟩ : ∃ l, ws[5]? = some l := ⟨_, List.getElem?_eq_getElem (by omega)⟩
                      have hcell : w2.cell? ⟨w.heap.size + 1, 5, none⟩ = some (.string ⟨wl.toArray⟩) := by rw [cell_of_row _ _ _ _ _ _ HW2.out]; exact strCells_at hwl
                      go_wp2_with fail
                      refine (HNU.out wl (Nat.le_trans (HSH.out wl (List.mem_of_getElem? hwl)) hs) _ HB2.out).mono ?_
                      rintro e w3 ⟨nv, rfl, hnv, hb3⟩
                      have hX3 := (hb3.block _ (Array.getElem?_eq_some_iff.1 HX2.out).1).trans HX2.out
                      have hW3 := (hb3.block _ (Array.getElem?_eq_some_iff.1 HW2.out).1).trans HW2.out
                      have z5 : w3.cell? ⟨w.heap.size, 5, none⟩ = some (.int .i64 g5) := by rw [cell_of_row _ _ _ _ _ _ hX3]; rfl
                      have zf5 : w3.frozen? ⟨w.heap.size, 5, none⟩ = false := frozen_of_row _ _ _ _ _ hX3
                      have HX3 := Lib.hid hX3
                      have HW3 := Lib.hid hW3
                      have HB3 := Lib.hid hb3
                      clear hX3 hW3 hb3 hcell
                      go_wp2
                      go_roundw
                      case rel =>
                        have hk3 : w3.grownBy (w3.setCell ⟨w.heap.size, 5, none⟩ (.int .i64 nv)) (some w.heap.size) := Kg.setg (Kg.refl w3 _) 5 _
                        exact ⟨_, cnt1, g1, g2, g3, nv, g6, (numOf wl).isSome, (HRG1.out.kept (grown_of_below HB3.out none) (by simp) (by simp)).kept hk3 (by simp; omega) (by simp; omega), rfl, (okOf_step (x := 5) (by decide) hlk).trans (by rw [HOK.out, numAt_word hwl]; rfl), Cell_other HC1.out (by decide), Cell_other HC2.out (by decide), Cell_other HC3.out (by decide), Cell_same (fun v hv => by rw [numAt_word hwl] at hv; exact hnv v hv), Cell_other HC6.out (by decide), heap_setCell_same w3 w.heap.size 5 _ _ _ HX3.out, (hk3.block _ (Array.getElem?_eq_some_iff.1 HW3.out).1 (by simp)).trans HW3.out, (HB2.out.trans (HB3.out.mono HB2.out.size)).setCell (p := ⟨w.heap.size, 5, none⟩) (Nat.le_refl _) _⟩
                      case measure =>
                        have hk3 : w3.grownBy (w3.setCell ⟨w.heap.size, 5, none⟩ (.int .i64 nv)) (some w.heap.size) := Kg.setg (Kg.refl w3 _) 5 _
                        rw [((HRG1.out.kept (grown_of_below HB3.out none) (by simp) (by simp)).kept hk3 (by simp; omega) (by simp; omega)).left_eq, HRG.out.left_eq]; exact hlt1
                    · obtain ⟨wl, hwl⟩ : ∃ l, ws[6]? = some l := ⟨_, List.getElem?_eq_getElem (by omega)⟩
                      have hcell : w2.cell? ⟨w.heap.size + 1, 6, none⟩ = some (.string ⟨wl.toArray⟩) := by rw [cell_of_row _ _ _ _ _ _ HW2.out]; exact strCells_at hwl
                      go_wp2_with fail
                      refine (HNU.out wl (Nat.le_trans (HSH.out wl (List.mem_of_getElem? hwl)) hs) _ HB2.out).mono ?_
                      rintro e w3 ⟨nv, rfl, hnv, hb3⟩
                      have hX3 := (hb3.block _ (Array.getElem?_eq_some_iff.1 HX2.out).1).trans HX2.out
                      have hW3 := (hb3.block _ (Array.getElem?_eq_some_iff.1 HW2.out).1).trans HW2.out
                      have z6 : w3.cell? ⟨w.heap.size, 6, none⟩ = some (.int .i64 g6) := by rw [cell_of_row _ _ _ _ _ _ hX3]; rfl
                      have zf6 : w3.frozen? ⟨w.heap.size, 6, none⟩ = false := frozen_of_row _ _ _ _ _ hX3
                      have HX3 := Lib.hid hX3
                      have HW3 := Lib.hid hW3
                      have HB3 := Lib.hid hb3
                      clear hX3 hW3 hb3 hcell
                      go_wp2
                      go_roundw
                      case rel =>
                        have hk3 : w3.grownBy (w3.setCell ⟨w.heap.size, 6, none⟩ (.int .i64 nv)) (some w.heap.size) := Kg.setg (Kg.refl w3 _) 6 _
                        exact ⟨_, cnt1, g1, g2, g3, g5, nv, (numOf wl).isSome, (HRG1.out.kept (grown_of_below HB3.out none) (by simp) (by simp)).kept hk3 (by simp; omega) (by simp; omega), rfl, (okOf_step (x := 6) (by decide) hlk).trans (by rw [HOK.out, numAt_word hwl]; rfl), Cell_other HC1.out (by decide), Cell_other HC2.out (by decide), Cell_other HC3.out (by decide), Cell_other HC5.out (by decide), Cell_same (fun v hv => by rw [numAt_word hwl] at hv; exact hnv v hv), heap_setCell_same w3 w.heap.size 6 _ _ _ HX3.out, (hk3.block _ (Array.getElem?_eq_some_iff.1 HW3.out).1 (by simp)).trans HW3.out, (HB2.out.trans (HB3.out.mono HB2.out.size)).setCell (p := ⟨w.heap.size, 6, none⟩) (Nat.le_refl _) _⟩
                      case measure =>
                        have hk3 : w3.grownBy (w3.setCell ⟨w.heap.size, 6, none⟩ (.int .i64 nv)) (some w.heap.size) := Kg.setg (Kg.refl w3 _) 6 _
                        rw [((HRG1.out.kept (grown_of_below HB3.out none) (by simp) (by simp)).kept hk3 (by simp; omega) (by simp; omega)).left_eq, HRG.out.left_eq]; exact hlt1
            exact AllReadyH.nil
          exact AllReadyH.nil
        exact AllReadyH.nil
      exact AllReadyH.nil
  · have h6 : ¬ (n : Int) = 6 := by omega
    have h7 : ¬ (n : Int) = 7 := by omega
    have b6 : ((n : Int) != 6) = true := by simpa using h6
    have b7 : ((n : Int) != 7) = true := by simpa using h7
    have hAO : AO = none := by rw [HA.out, if_neg h67]
    subst hAO
    go_enter Tryz.func34, Tryz.ntmps34
    go_wp2_with fail
    refine (HSP.out _ (by show Below _ _ _; go_grown)).mono ?_
    rintro e w1 ⟨rfl, rfl⟩
    go_wp2
    exact bodyPost_ret (v := .tuple #[.agg #[.int .i64 0, .int .i64 0, .int .i64 0, .int .i64 0, .int .i64 0, .int .i64 0, .int .i64 0], .bool false]) (results_row2 Tryz.results34 _ _ w.heap.size 60 _ (0, 0) _ _ rfl rfl (alloc2_first w _ _) Tryz.underlying60 rfl rfl) rfl
      ⟨(0, (0, 0, 0, 0, 0), 0), rfl, (fun _ h => nomatch h), by show Below _ _ _; go_grown⟩
end Go.Proofs.YtpcefaccoifejaaGreatDoor
