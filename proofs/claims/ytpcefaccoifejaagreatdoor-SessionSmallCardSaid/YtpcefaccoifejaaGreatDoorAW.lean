/-
  The contract of custoslaw13.awake: the examples of the chapter hold. No conditions.
-/
import Derived.Test.YtpcefaccoifejaaGreatDoorAW0
namespace Go.Proofs.YtpcefaccoifejaaGreatDoor
open Go.RowKit
set_option linter.unusedSimpArgs false
set_option linter.unusedVariables false
set_option maxRecDepth 100000

set_option maxHeartbeats 8000000 in
theorem awake_c (w : World) : Calls Tryz.prog 5 #[] w fun e w' => e = .returned (.bool true) ∧ Below w.heap.size w w' := by
  go_enter Tryz.func5, Tryz.ntmps5
  go_wp2_with fail
  refine (pair_c _).mono ?_
  rintro rr w1 ⟨⟨b, rfl, hP⟩, hb1⟩
  have HP := Lib.hid hP
  have HB1 : Hid (Below w.heap.size w w1) := hb1
  obtain ⟨pa, pc, pvs, he, -, hr, -⟩ := hP
  simp only [Value.slice.injEq] at he
  obtain ⟨rfl, -, rfl⟩ := he
  obtain ⟨b2, off, e2, hb2, hb3, hc⟩ := hr (by decide)
  simp only [Option.some.injEq, Addr.mk.injEq, and_true] at e2
  obtain ⟨rfl, rfl⟩ := e2
  have HPC : Hid (∀ W, Below w1.heap.size w1 W → (W.cell? ⟨b, 6, none⟩ = some (.int .i64 0) ∧ W.cell? ⟨b, 7, none⟩ = some (.int .i64 0) ∧ W.cell? ⟨b, 8, none⟩ = some (.int .i64 3) ∧ W.cell? ⟨b, 9, none⟩ = some (.int .i64 13) ∧ W.cell? ⟨b, 10, none⟩ = some (.int .i64 0))) := fun W hb =>
    ⟨(hb.cell (p := ⟨b, _, none⟩) hb3).trans (hc 1 (by decide) 0 _ rfl), (hb.cell (p := ⟨b, _, none⟩) hb3).trans (hc 1 (by decide) 1 _ rfl), (hb.cell (p := ⟨b, _, none⟩) hb3).trans (hc 1 (by decide) 2 _ rfl), (hb.cell (p := ⟨b, _, none⟩) hb3).trans (hc 1 (by decide) 3 _ rfl), (hb.cell (p := ⟨b, _, none⟩) hb3).trans (hc 1 (by decide) 4 _ rfl)⟩
  have HPD : Hid (∀ W, Below w1.heap.size w1 W → (W.cell? ⟨b, 0, none⟩ = some (.int .i64 0) ∧ W.cell? ⟨b, 1, none⟩ = some (.int .i64 0) ∧ W.cell? ⟨b, 2, none⟩ = some (.int .i64 3) ∧ W.cell? ⟨b, 3, none⟩ = some (.int .i64 7) ∧ W.cell? ⟨b, 4, none⟩ = some (.int .i64 4))) := fun W hb =>
    ⟨(hb.cell (p := ⟨b, _, none⟩) hb3).trans (hc 0 (by decide) 0 _ rfl), (hb.cell (p := ⟨b, _, none⟩) hb3).trans (hc 0 (by decide) 1 _ rfl), (hb.cell (p := ⟨b, _, none⟩) hb3).trans (hc 0 (by decide) 2 _ rfl), (hb.cell (p := ⟨b, _, none⟩) hb3).trans (hc 0 (by decide) 3 _ rfl), (hb.cell (p := ⟨b, _, none⟩) hb3).trans (hc 0 (by decide) 4 _ rfl)⟩
  have HBL := Lib.hid hb3
  clear hb1 hr hb2 hb3 hc
  go_wp2_with fail
  refine (New_c (.slice (some ⟨b, 0, none⟩) 2 2) pairL w.heap.size w1.heap.size w1 HP.out (Nat.le_refl _) pair_wf (by decide)).mono ?_
  rintro rr w2 ⟨hb2, hres⟩
  obtain ⟨p, m, flo, fhi, vf, rfl, hses⟩ : ∃ p m flo fhi vf, rr = .returned (.tuple #[.pointer (some ⟨p, 0, none⟩), .int .i64 0]) ∧ SesAt w2 w1.heap.size p m flo fhi (.slice none 0 0) vf pairL [] := by
    rcases hres with h | ⟨_, h⟩
    · exact absurd aw_new h.1
    · exact h
  have HS2 := Lib.hid hses
  have HB2 : Hid (Below w1.heap.size w1 w2) := hb2
  have HP2 : Hid (p < w2.heap.size) := (Array.getElem?_eq_some_iff.1 hses.cells).1
  have HPL : Hid (w1.heap.size ≤ p) := hses.lp
  have HM2 : Hid (m < w2.heap.size) := hses.map.lt
  have HF2 : Hid (fhi ≤ w2.heap.size) := hses.hf
  clear hb2 hres hses
  obtain ⟨c0, c1, c2, c3, c4⟩ := HPC.out _ HB2.out
  go_wp2_with fail
  refine (Do_c w1.heap.size p m flo fhi _ vf pairL [] 1 0 0 3 13 0 1 w2 HS2.out HB2.out.size pair_wf wfA_A.2.1 (by decide) (by decide)).mono ?_
  rintro rr w3 ⟨hrr, va3, hs3, ht3⟩
  rw [show doE pairL [] (1, (0, 0, 3, 13, 0), 1) = 0 from aw_do1] at hrr
  rw [show doA pairL [] (1, (0, 0, 3, 13, 0), 1) = [actA] from aw_acts1] at hs3
  subst hrr
  have HS3 := Lib.hid hs3
  have HB3 : Hid (Below w1.heap.size w1 w3) := HB2.out.trans (ht3.below HB2.out.size HPL.out (fun g hg => by cases hg))
  have HZ3 : Hid (w2.heap.size ≤ w3.heap.size) := ht3.size
  clear hs3 ht3 HS2 HB2 c0 c1 c2 c3 c4
  obtain ⟨c0, c1, c2, c3, c4⟩ := HPC.out _ HB3.out
  go_wp2_with fail
  refine (Value_c w1.heap.size p m flo fhi va3 vf pairL [actA] 0 0 3 13 0 w3 HS3.out (good_of_newE aw_new) pair_wf wfA_A.2.1 (by decide)).mono ?_
  rintro rr w4 ⟨hrr, hb4⟩
  rw [show valE pairL [actA] (0, 0, 3, 13, 0) = (1, 0) from aw_val] at hrr
  subst hrr
  have HS4 := Lib.hid (HS3.out.below hb4)
  have HB4 : Hid (Below w1.heap.size w1 w4) := below_step HB3.out hb4
  have hz34 := hb4.size
  clear hb4 HS3 HB3 c0 c1 c2 c3 c4
  go_wp2_with fail
  refine (Features_c w1.heap.size p m flo fhi va3 vf pairL [actA] w4 HS4.out (good_of_newE aw_new) acted1 pair_wf wfAs1).mono ?_
  rintro rr w5 ⟨⟨fv, rfl, hof⟩, hb5⟩
  rw [aw_feats] at hof
  have HS5 := Lib.hid (HS4.out.below hb5)
  have HB5 : Hid (Below w1.heap.size w1 w5) := below_step HB4.out hb5
  have hz45 := hb5.size
  obtain ⟨g, fcap, o, n2, cap2, hv, ⟨c, hc⟩, hcell, hlo, hso, h0⟩ := own_one hof (i := 1) (by decide) (by decide)
  obtain ⟨fa, fc, vs, hfv, -, hrow, hopt⟩ := hof.feats
  subst hv
  simp only [Value.slice.injEq] at hfv
  obtain ⟨rfl, -, rfl⟩ := hfv
  obtain ⟨g2, off2, e2, -, hg2, hc2⟩ := hrow (by decide)
  simp only [Option.some.injEq, Addr.mk.injEq, and_true] at e2
  obtain ⟨rfl, rfl⟩ := e2
  have hvs : vs 1 = .slice (some ⟨o, 0, none⟩) n2 cap2 := Option.some.inj ((hc2 1 (by decide) 5 _ rfl).symm.trans hcell)
  have hop : OptsAt w5 w4.heap.size w5.heap.size (vs 1) [(1, 0)] := hopt 1 (by decide)
  rw [hvs] at hop
  have HOP := Lib.hid hop
  have HGC : Hid (w5.cell? ⟨g, 11, none⟩ = some (.slice (some ⟨o, 0, none⟩) n2 cap2)) := hcell
  have HGL := Lib.hid hg2
  clear hb5 HS4 HB4 hof hc hcell hlo hso h0 hrow hopt hc2 hvs hop hg2
  go_wp2_with fail
  refine (Weights_c w1.heap.size p m flo fhi va3 vf pairL [actA] w5 HS5.out (good_of_newE aw_new) acted1 pair_wf wfAs1).mono ?_
  rintro rr w6 ⟨rfl, hb6⟩
  have HS6 := Lib.hid (HS5.out.below hb6)
  have HB6 : Hid (Below w1.heap.size w1 w6) := below_step HB5.out hb6
  have HOP6 : Hid (OptsAt w6 w4.heap.size w6.heap.size (.slice (some ⟨o, 0, none⟩) n2 cap2) [(1, 0)]) := HOP.out.below hb6
  have HGC6 : Hid (w6.cell? ⟨g, 11, none⟩ = some (.slice (some ⟨o, 0, none⟩) n2 cap2)) := (hb6.cell (p := ⟨g, 11, none⟩) HGL.out).trans HGC.out
  have HGL6 : Hid (g < w6.heap.size) := Nat.lt_of_lt_of_le HGL.out hb6.size
  have HZ6 : Hid (w2.heap.size ≤ w6.heap.size) := Nat.le_trans HZ3.out (Nat.le_trans hz34 (Nat.le_trans hz45 hb6.size))
  clear hb6 HS5 HB5 HOP HGC HGL hz34 hz45
  have hone := rowW_one (weight pairL [actA])
  have hsz : (rowW (weight pairL [actA])).size = 17 := rowW_size _
  have hi : (Tryz.prog.info? 64).map (·.size) = some (rowW (weight pairL [actA])).size := by rw [hsz]; exact infoW
  have hold : 17 = (rowW (weight pairL [actA])).size := hsz.symm
  have h13 : (rowW (weight pairL [actA]))[13]? = some (.int .i64 3) := by rw [rowW_at _ (by decide), aw_w13]
  have h7 : (rowW (weight pairL [actA]))[7]? = some (.int .i64 4) := by rw [rowW_at _ (by decide), aw_w7]
  obtain ⟨row, hrow⟩ : ∃ r, rowW (weight pairL [actA]) = r := ⟨_, rfl⟩
  rw [hrow] at hone hsz hi hold h13 h7 ⊢
  have X3 := Lib.hid hi
  have X4 := Lib.hid hold
  have X5 := Lib.hid hone
  have H13 := Lib.hid h13
  have H7 := Lib.hid h7
  have HROW := Lib.hid hrow
  clear hone hsz hi hold h13 h7 hrow
  go_wp2_with (first | (refine wpList_named fun W7 hW7 => ?_; have hW7' : W7 = (w6.alloc _).setRow w6.heap.size row := (by with_reducible exact hW7); clear hW7'; refine wpList_veil ?_) | (refine wpList_store_row rfl 64 (.tmp 8) (.tmp 53) rfl w6.heap.size row rfl rfl 64 _ (heap_alloc_new w6 _) X3.out X4.out X5.out ?_))
  have hb67 : Below w6.heap.size w6 W7 := by rw [hW7]; exact below_setRowW ((Below.refl _ _).alloc (Nat.le_refl _) _) (Nat.le_refl _)
  have hR7 : W7.heap[w6.heap.size]? = some (.cells row 64 (0, 0)) := by rw [hW7, setRow_heap _ _ _ _ _ _ (heap_alloc_new _ _)]
  have kg : W7.cell? ⟨g, 11, none⟩ = some (.slice (some ⟨o, 0, none⟩) n2 cap2) := (hb67.cell (p := ⟨g, 11, none⟩) HGL6.out).trans HGC6.out
  have HS7 := Lib.hid (HS6.out.below hb67)
  have HB7 : Hid (Below w1.heap.size w1 W7) := below_step HB6.out hb67
  have HOP7 : Hid (OptsAt W7 w4.heap.size W7.heap.size (.slice (some ⟨o, 0, none⟩) n2 cap2) [(1, 0)]) := HOP6.out.below hb67
  have HR7 := Lib.hid hR7
  have HL7 : Hid (w6.heap.size < W7.heap.size) := (Array.getElem?_eq_some_iff.1 hR7).1
  clear hW7 hb67 hR7 HS6 HB6 HOP6 HGC6 HGL6
  refine wpList_unveil ?_
  go_wp2_with fail
  have hal : Below W7.heap.size W7 (W7.alloc (.cells #[.int .i64 1, .int .i64 0] 41)) := (Below.refl _ _).alloc (Nat.le_refl _) _
  refine (SameOptions_c (.slice (some ⟨o, 0, none⟩) n2 cap2) (.slice (some ⟨W7.heap.size, 0, none⟩) 1 1) [(1, 0)] [(1, 0)] w4.heap.size W7.heap.size W7.heap.size (W7.heap.size + 1) _ (HOP7.out.move (Same.of_below hal)) (opt_one 1 0) hal.size (by simp) (by decide)).mono ?_
  rintro rr w8 ⟨rfl, hb8⟩
  have hb78 : Below W7.heap.size W7 w8 := below_step hal hb8
  have HS8 := Lib.hid (HS7.out.below hb78)
  have HB8 : Hid (Below w1.heap.size w1 w8) := below_step HB7.out hb78
  have hR8 : w8.heap[w6.heap.size]? = some (.cells row 64 (0, 0)) := (hb78.block _ HL7.out).trans HR7.out
  have HR8 := Lib.hid hR8
  have k13 : w8.cell? ⟨w6.heap.size, 13, none⟩ = some (.int .i64 3) := by rw [cell_of_row _ _ _ _ _ _ hR8]; exact H13.out
  have k7 : w8.cell? ⟨w6.heap.size, 7, none⟩ = some (.int .i64 4) := by rw [cell_of_row _ _ _ _ _ _ hR8]; exact H7.out
  clear hal hb8 hb78 hR8 HS7 HB7 HOP7 HR7 HL7 kg
  obtain ⟨c0, c1, c2, c3, c4⟩ := HPD.out _ HB8.out
  go_wp2_with fail
  refine (Do_c w1.heap.size p m flo fhi va3 vf pairL [actA] 2 0 0 3 7 4 0 w8 HS8.out HB8.out.size pair_wf wfA_B.2.1 (by decide) (by decide)).mono ?_
  rintro rr w9 ⟨hrr, va9, hs9, ht9⟩
  rw [show doE pairL [actA] (2, (0, 0, 3, 7, 4), 0) = 0 from aw_do2] at hrr
  rw [show doA pairL [actA] (2, (0, 0, 3, 7, 4), 0) = [actA, actB] from aw_acts2] at hs9
  subst hrr
  have HS9 := Lib.hid hs9
  have HB9 : Hid (Below w1.heap.size w1 w9) := HB8.out.trans (ht9.below HB8.out.size HPL.out (fun g hg => (HS8.out.acts.lt g hg).1))
  have HNP : Hid (w6.heap.size ≠ p) := fun e => by have := HP2.out; have := HZ6.out; omega
  have HR9 : Hid (w9.heap[w6.heap.size]? = some (.cells row 64 (0, 0))) := (ht9.block _ (Array.getElem?_eq_some_iff.1 HR8.out).1 HNP.out (Ne.symm (own_ne HS8.out.acts HR8.out (by decide)))).trans HR8.out
  clear hs9 ht9 HS8 HB8 HR8 c0 c1 c2 c3 c4 k13 k7
  go_wp2_with fail
  refine (Weights_c w1.heap.size p m flo fhi va9 vf pairL [actA, actB] w9 HS9.out (good_of_newE aw_new) acted2 pair_wf wfAs2).mono ?_
  rintro rr w10 ⟨rfl, hb10⟩
  have HS10 := Lib.hid (HS9.out.below hb10)
  have HB10 : Hid (Below w1.heap.size w1 w10) := below_step HB9.out hb10
  have HR10 : Hid (w10.heap[w6.heap.size]? = some (.cells row 64 (0, 0))) := (hb10.block _ (Array.getElem?_eq_some_iff.1 HR9.out).1).trans HR9.out
  clear hb10 HS9 HB9 HR9
  have hone := rowW_one (weight pairL [actA, actB])
  have hsz : (rowW (weight pairL [actA, actB])).size = 17 := rowW_size _
  have hi : (Tryz.prog.info? 64).map (·.size) = some (rowW (weight pairL [actA, actB])).size := by rw [hsz]; exact infoW
  have hold : row.size = (rowW (weight pairL [actA, actB])).size := by rw [hsz, ← X4.out]
  have h7 : (rowW (weight pairL [actA, actB]))[7]? = some (.int .i64 5) := by rw [rowW_at _ (by decide), aw_v7]
  obtain ⟨row2, hrow⟩ : ∃ r, rowW (weight pairL [actA, actB]) = r := ⟨_, rfl⟩
  rw [hrow] at hone hsz hi hold h7 ⊢
  have Y3 := Lib.hid hi
  have Y4 := Lib.hid hold
  have Y5 := Lib.hid hone
  have G7 := Lib.hid h7
  clear hone hsz hi hold h7 hrow
  go_wp2_with (first | (refine wpList_named fun W11 hW11 => ?_; have hW11' : W11 = w10.setRow w6.heap.size row2 := (by with_reducible exact hW11); clear hW11'; refine wpList_veil ?_) | (refine wpList_store_row rfl 64 (.tmp 8) (.tmp 108) rfl w6.heap.size row2 rfl rfl 64 _ HR10.out Y3.out Y4.out Y5.out ?_))
  have hk11 : Kg w10 (some w6.heap.size) W11 := by rw [hW11]; exact ⟨rfl, rfl, rfl, by simp, fun i hi hn => setRow_other w10 _ i row2 (fun e => hn (by rw [e]))⟩
  have HR11 : Hid (W11.heap[w6.heap.size]? = some (.cells row2 64 (0, 0))) := by rw [hW11]; exact setRow_heap _ _ _ _ _ _ HR10.out
  have HS11 := Lib.hid (HS10.out.grown hk11 HNP.out (fun e => by have := HM2.out; have := HZ6.out; omega) (fun e => by have := HF2.out; have := HZ6.out; omega) (own_ne HS10.out.acts HR10.out (by decide)))
  have HB11 : Hid (Below w1.heap.size w1 W11) := HB10.out.grown hk11 HB10.out.size (fun k e => by injection e with e; have := HPL.out; have := HP2.out; have := HZ6.out; omega)
  clear hW11 hk11 HS10 HB10 HR10
  refine wpList_unveil ?_
  go_wp2_with fail
  refine (Log_c w1.heap.size p m flo fhi va9 vf pairL [actA, actB] W11 HS11.out (by decide)).mono ?_
  rintro rr w12 ⟨⟨lv, rfl, hlog⟩, hb12⟩
  have HS12 := Lib.hid (HS11.out.below hb12)
  have HB12 : Hid (Below w1.heap.size w1 w12) := below_step HB11.out hb12
  have HR12 : Hid (w12.heap[w6.heap.size]? = some (.cells row2 64 (0, 0))) := (hb12.block _ (Array.getElem?_eq_some_iff.1 HR11.out).1).trans HR11.out
  have HL12 := Lib.hid hlog
  clear hb12 hlog HS11 HB11 HR11
  go_wp2_with fail
  refine (Format_c lv [actA, actB] W11.heap.size w12.heap.size w12 (acts_of_own HL12.out) (Nat.le_refl _) (by decide) aw_small).mono ?_
  rintro rr w13 ⟨hrr, hb13⟩
  rw [aw_text] at hrr
  subst hrr
  have HS13 := Lib.hid (HS12.out.below hb13)
  have HB13 : Hid (Below w1.heap.size w1 w13) := below_step HB12.out hb13
  have HR13 : Hid (w13.heap[w6.heap.size]? = some (.cells row2 64 (0, 0))) := (hb13.block _ (Array.getElem?_eq_some_iff.1 HR12.out).1).trans HR12.out
  clear hb13 HS12 HB12 HR12 HL12
  go_wp2_with fail
  refine (Undo_c w1.heap.size p m flo fhi va9 vf pairL [actA, actB] w13 HS13.out (by decide)).mono ?_
  rintro rr w14 ⟨hrr, va14, hs14, ht14⟩
  rw [aw_undo] at hrr
  subst hrr
  have HS14 : Hid (SesAt w14 w1.heap.size p m flo fhi va14 vf pairL [actA]) := hs14
  have HB14 : Hid (Below w1.heap.size w1 w14) := HB13.out.trans (ht14.below HB13.out.size HPL.out (fun g hg => (HS13.out.acts.lt g hg).1))
  have HR14 : Hid (w14.heap[w6.heap.size]? = some (.cells row2 64 (0, 0))) := (ht14.block _ (Array.getElem?_eq_some_iff.1 HR13.out).1 HNP.out (Ne.symm (own_ne HS13.out.acts HR13.out (by decide)))).trans HR13.out
  clear hs14 ht14 HS13 HB13 HR13
  have HWE := Weights_c w1.heap.size p m flo fhi va14 vf pairL [actA] w14 HS14.out (good_of_newE aw_new) acted1 pair_wf wfAs1
  rw [HROW.out] at HWE
  go_wp2_with fail
  refine HWE.mono ?_
  rintro rr w15 ⟨rfl, hb15⟩
  have HS15 := Lib.hid (HS14.out.below hb15)
  have HB15 : Hid (Below w1.heap.size w1 w15) := below_step HB14.out hb15
  have HR15 : Hid (w15.heap[w6.heap.size]? = some (.cells row2 64 (0, 0))) := (hb15.block _ (Array.getElem?_eq_some_iff.1 HR14.out).1).trans HR14.out
  clear hb15 HS14 HB14 HR14 HWE
  go_wp2_with (first | (refine wpList_named fun W16 hW16 => ?_; have hW16' : W16 = (w15.alloc _).setRow w15.heap.size row := (by with_reducible exact hW16); clear hW16'; refine wpList_veil ?_) | (refine wpList_store_row rfl 64 (.tmp 13) (.tmp 125) rfl w15.heap.size row rfl rfl 64 _ (heap_alloc_new w15 _) X3.out X4.out X5.out ?_))
  have hb16 : Below w15.heap.size w15 W16 := by rw [hW16]; exact below_setRowW ((Below.refl _ _).alloc (Nat.le_refl _) _) (Nat.le_refl _)
  have HT16 : Hid (W16.heap[w15.heap.size]? = some (.cells row 64 (0, 0))) := by rw [hW16]; exact setRow_heap _ _ _ _ _ _ (heap_alloc_new _ _)
  have HS16 := Lib.hid (HS15.out.below hb16)
  have HB16 : Hid (Below w1.heap.size w1 W16) := below_step HB15.out hb16
  have HR16 : Hid (W16.heap[w6.heap.size]? = some (.cells row2 64 (0, 0))) := (hb16.block _ (Array.getElem?_eq_some_iff.1 HR15.out).1).trans HR15.out
  clear hW16 hb16 HS15 HB15 HR15
  refine wpList_unveil ?_
  go_wp2_with fail
  refine (Replay_c w1.heap.size p m flo fhi va14 vf pairL [actA] (.slice (some ⟨b, 0, none⟩) 1 2) (pairL.take 1) w.heap.size w1.heap.size W16 HS16.out (FeatsAt.take1 (fs := pairL) (HP.out.move (Same.of_below HB16.out)) (by decide)) HB16.out.size (fun f hf => pair_wf f (List.take_subset _ _ hf)) wfAs1 (by decide) (by decide)).mono ?_
  rintro rr w17 ⟨hb17, hres⟩
  obtain ⟨p2, lv2, rfl, hl2⟩ : ∃ p2 lv2, rr = .returned (.tuple #[.pointer (some ⟨p2, 0, none⟩), lv2, .int .i64 0]) ∧ ∃ ks, w17.ownsRow W16.heap.size 60 7 lv2 1 ks := by
    rcases hres with h | ⟨_, p2, m2, flo2, fhi2, va2, vf2, lv2, h1, h2, h3⟩
    · exact absurd aw_new1 h.1
    · rw [aw_left] at h3
      exact ⟨p2, lv2, h1, _, h3⟩
  obtain ⟨ks, hl2⟩ := hl2
  obtain ⟨l2, c2, rfl⟩ := own_shape hl2
  have HB17 : Hid (Below w.heap.size w w17) := below_step (below_step HB1.out HB16.out) hb17
  have hR17 : w17.heap[w6.heap.size]? = some (.cells row2 64 (0, 0)) := (hb17.block _ (Array.getElem?_eq_some_iff.1 HR16.out).1).trans HR16.out
  have hT17 : w17.heap[w15.heap.size]? = some (.cells row 64 (0, 0)) := (hb17.block _ (Array.getElem?_eq_some_iff.1 HT16.out).1).trans HT16.out
  have k5 : w17.cell? ⟨w6.heap.size, 7, none⟩ = some (.int .i64 5) := by rw [cell_of_row _ _ _ _ _ _ hR17]; exact G7.out
  have k4 : w17.cell? ⟨w15.heap.size, 7, none⟩ = some (.int .i64 4) := by rw [cell_of_row _ _ _ _ _ _ hT17]; exact H7.out
  clear hb17 hres hl2 hR17 hT17 HS16 HB16 HR16 HT16
  go_wp2
  go_ret
  exact ⟨rfl, HB17.out⟩
end Go.Proofs.YtpcefaccoifejaaGreatDoor
