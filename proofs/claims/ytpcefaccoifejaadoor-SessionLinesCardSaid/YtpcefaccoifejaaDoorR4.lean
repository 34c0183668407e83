/-
  The contract of custosref13.Features. Conditions: what is read lies in memory as SW says; the features are good; lists are not too long.
-/
import Derived.Test.YtpcefaccoifejaaDoorR2
import Derived.Test.YtpcefaccoifejaaDoorSetL
namespace Go.Proofs.YtpcefaccoifejaaDoor
open Go.RowKit Go.Maps
set_option linter.unusedSimpArgs false
set_option linter.unusedVariables false
set_option maxRecDepth 100000

/-- one feature in memory gets one option -/
theorem OwnFeats.put {W : World} {lo g cap i : Nat} {L : List Ft} (val : Int) (hif : i < L.length) {ws : List Value} (hwl : ws.length = L.length)
    (hrw : W.ownsRow lo 54 6 (.slice (some ⟨g, 0, none⟩) L.length cap) L.length (ftFlat L ws))
    (hop : ∀ j, j < L.length → W.ownsRow lo 51 2 (ws.getD j default) (ftAt L j).2.length ((ftAt L j).2.flatMap optV)) (hlo : lo ≤ W.heap.size) :
    OwnFeats ((W.setCell ⟨g, i * 6 + 5, none⟩ (.slice (some ⟨W.heap.size, 0, none⟩) 1 1)).alloc (.cells #[.int .i64 val, .int .i64 0] 51)) lo (.slice (some ⟨g, 0, none⟩) L.length cap) (L.set i ((ftAt L i).1, [(val, 0)])) := by
  obtain ⟨hst, hgs⟩ := hrw.stored (i * 6 + 5) (.slice (some ⟨W.heap.size, 0, none⟩) 1 1)
  have hl : (L.set i ((ftAt L i).1, [(val, 0)])).length = L.length := List.length_set
  refine ⟨ws.set i (.slice (some ⟨W.heap.size, 0, none⟩) 1 1), by rw [List.length_set, hwl, hl], ?_, fun j hj => ?_⟩
  · rw [hl, ftFlat_congr _ L _ (by
      rw [List.map_set, ftAt_get hif]
      apply List.ext_getElem
      · simp
      · intro k h1 h2
        by_cases e : i = k
        · subst e; simp
        · simp [List.getElem_set_ne e]), ftFlat_set _ _ _ _ hwl hif]
    exact hst.alloc _
  · rw [hl] at hj
    by_cases e : j = i
    · subst e
      have h1 : (ws.set j (.slice (some ⟨W.heap.size, 0, none⟩) 1 1)).getD j default = .slice (some ⟨W.heap.size, 0, none⟩) 1 1 := by
        rw [List.getD_eq_getElem?_getD, List.getElem?_set_self (by omega)]
        rfl
      have h2 : ftAt (L.set j ((ftAt L j).1, [(val, 0)])) j = ((ftAt L j).1, [(val, 0)]) := by
        rw [ftAt_get (by rw [hl]; exact hj)]
        simp
      rw [h1, h2]
      have := World.ownsRow_lit (base := lo) (e := 51) (size := 2) (W.setCell ⟨g, j * 6 + 5, none⟩ (.slice (some ⟨W.heap.size, 0, none⟩) 1 1)) #[.int .i64 val, .int .i64 0] 1 (by simpa [World.setCell] using hlo) (by simp only [maxLen]; omega) rfl
      have hz : (W.setCell ⟨g, j * 6 + 5, none⟩ (.slice (some ⟨W.heap.size, 0, none⟩) 1 1)).heap.size = W.heap.size := by simp [World.setCell]
      rw [hz] at this
      exact this
    · have h1 : (ws.set i (.slice (some ⟨W.heap.size, 0, none⟩) 1 1)).getD j default = ws.getD j default := by
        rw [List.getD_eq_getElem?_getD, List.getElem?_set_ne (fun h => e h.symm), ← List.getD_eq_getElem?_getD]
      have h2 : ftAt (L.set i ((ftAt L i).1, [(val, 0)])) j = ftAt L j := by
        rw [ftAt_get (by rw [hl]; exact hj), ftAt_get hj, List.getElem_set_ne (fun h => e h.symm)]
      rw [h1, h2]
      exact ((hop j hj).kept hgs (own_apart (hop j hj) hrw (by decide))).alloc _
def settleF (acts : List Ac) (f : Ft) : Ft := if touched acts f.1 = true then (f.1, [(pres acts f, 0)]) else f
/-- the first k features settled -/
def setK (fs : List Ft) (acts : List Ac) (k : Nat) : List Ft := (fs.take k).map (settleF acts) ++ fs.drop k
theorem setK_zero (fs : List Ft) (acts : List Ac) : setK fs acts 0 = fs := by simp [setK]
theorem setK_end (fs : List Ft) (acts : List Ac) : setK fs acts fs.length = feats fs acts := by
  unfold setK feats
  rw [List.take_length, List.drop_length, List.append_nil]
  rfl
theorem setK_len (fs : List Ft) (acts : List Ac) {k : Nat} (h : k ≤ fs.length) : (setK fs acts k).length = fs.length := by
  unfold setK
  rw [List.length_append, List.length_map, List.length_take, List.length_drop]
  omega
theorem setK_at {fs : List Ft} {acts : List Ac} {k : Nat} (h : k < fs.length) : ftAt (setK fs acts k) k = ftAt fs k := by
  unfold setK ftAt
  rw [List.getD_eq_getElem?_getD, List.getElem?_append_right (by simp; omega), List.length_map, List.length_take, Nat.min_eq_left (Nat.le_of_lt h), Nat.sub_self, List.getElem?_drop, Nat.add_zero, List.getD_eq_getElem?_getD]
theorem setK_yes {fs : List Ft} {acts : List Ac} {k : Nat} (h : k < fs.length) (ht : touched acts (ftAt fs k).1 = true) : setK fs acts (k + 1) = (setK fs acts k).set k ((ftAt (setK fs acts k) k).1, [(pres acts (ftAt fs k), 0)]) := by
  rw [setK_at h]
  unfold setK
  have hl : ((fs.take k).map (settleF acts)).length = k := by rw [List.length_map, List.length_take]; omega
  rw [drop_at h, List.set_append_right _ _ (by rw [hl]; exact Nat.le_refl _), hl, Nat.sub_self, take_snoc h, ← ftAt_get h, List.map_append, List.append_assoc]
  simp [settleF, ht]
theorem setK_no {fs : List Ft} {acts : List Ac} {k : Nat} (h : k < fs.length) (ht : touched acts (ftAt fs k).1 = false) : setK fs acts (k + 1) = setK fs acts k := by
  unfold setK
  rw [drop_at h, take_snoc h, ← ftAt_get h, List.map_append, List.append_assoc]
  simp [settleF, ht]
set_option maxHeartbeats 2000000 in
theorem rFeatures_c (vf va : Value) (fs : List Ft) (acts : List Ac) (lo hi alo ahi : Nat) (w : World) (h : FeatsAt w lo hi vf fs) (hh : hi ≤ w.heap.size) (hA : ActsAt w alo ahi va acts) (hah : ahi ≤ w.heap.size) (hg : Good fs) (hw : wfFs fs) (hn : acts.length ≤ 100000) :
    Calls Tryd.prog 38 #[.agg #[vf, va]] w fun r w' => ∃ v', r = .returned v' ∧ OwnFeats w' w.heap.size v' (feats fs acts) ∧ Below w.heap.size w w' := by
  have HA := Lib.hid hA
  obtain ⟨aa, ac, rfl, -, -⟩ := hA
  have HCP := Lib.hid fun W (hb : Below w.heap.size w W) => CopyFeatures_c vf fs lo hi W (h.move (Same.of_below (hb.mono hh))) (Nat.le_trans hh hb.size) hg.len hw
  obtain ⟨fa, fc, vs, rfl, -, hr, ho⟩ := h
  have HR := Lib.hid hr
  have HO := Lib.hid ho
  have HW := Lib.hid hw
  have HG := Lib.hid hg
  obtain ⟨na, hna⟩ : ∃ na, acts.length = na := ⟨_, rfl⟩
  have HNA := Lib.hid hna
  rw [hna] at HA hn ⊢
  obtain ⟨n, hnf⟩ : ∃ n, fs.length = n := ⟨_, rfl⟩
  have HN := Lib.hid hnf
  have hl : n ≤ 20000 := by rw [← hnf]; exact hg.len
  rw [hnf] at HCP ⊢
  clear hr ho hw hg hna hnf
  go_enter Tryd.func38, Tryd.ntmps38
  go_wp2_with fail
  refine (HCP.out _ (by go_grown)).mono ?_
  rintro rr w2 ⟨vo, rfl, hof, hb2⟩
  obtain ⟨oa, oc, rfl⟩ : ∃ oa oc, vo = .slice oa n oc := by
    obtain ⟨vs, h1, h2, h3⟩ := hof
    rw [HN.out] at h2
    exact own_shape h2
  have hB2 : Below w.heap.size w w2 := below_step (by go_grown) hb2
  have hS2 : w2.heap[w.heap.size]? = some (.cells #[.slice fa n fc, .slice aa na ac] 31 (0, 0)) := (hb2.block _ (by simp)).trans (heap_alloc_new _ _)
  have hF2 : OwnFeats w2 (w.heap.size + 1) (.slice oa n oc) fs := by
    have := hof
    rwa [World.size_alloc] at this
  have H2 := Lib.hid (And.intro hB2 (And.intro hS2 hF2))
  clear hof hb2 hB2 hS2 hF2 HCP
  go_wp2
  go_loopw [4] (fun i wr => ∃ (k : Nat), k ≤ n ∧ i = .int .i64 (k : Int) ∧ wr.heap[w.heap.size]? = some (.cells #[.slice fa n fc, .slice aa na ac] 31 (0, 0)) ∧ OwnFeats wr (w.heap.size + 1) (.slice oa n oc) (setK fs acts k) ∧ Below w.heap.size w wr)
    (fun i wr => n - (intOf i).toNat)
  case atStart => exact ⟨0, Nat.zero_le _, rfl, H2.out.2.1, by rw [setK_zero]; exact H2.out.2.2, H2.out.1⟩
  case round =>
    obtain ⟨k, hkn, rfl, hS, hof, hB⟩ := hrel
    have HB := Lib.hid hB
    have HSB := Lib.hid hS
    have HOF := Lib.hid hof
    by_cases hk : k < n
    · have hkf : k < fs.length := by rw [HN.out]; exact hk
      obtain ⟨bf, off, rfl, hb1, hb2, hc⟩ := HR.out (by rw [HN.out]; omega)
      have hcw : ∀ j u, (ftV (ftAt fs k).1 (vs k))[j]? = some u → wr.cell? ⟨bf, off + k * 6 + j, none⟩ = some u := fun j u hu => (hB.cell (p := ⟨bf, off + k * 6 + j, none⟩) (show bf < w.heap.size by omega)).trans (hc k hkf j u hu)
      have hop := (HO.out k hkf).move (Same.of_below (hB.mono hh))
      have hwo := (HW.out _ (ftAt_mem hkf)).2.2
      have hne := HG.out.some _ (ftAt_mem hkf)
      have HY := Lib.hid (setK_yes (acts := acts) hkf)
      have HNO := Lib.hid (setK_no (acts := acts) hkf)
      have hat := setK_at (acts := acts) hkf
      have HATK := Lib.hid hat
      generalize ftAt fs k = f at *
      obtain ⟨⟨q1, q2, q3, q4, q5⟩, os⟩ := f
      have HPR := Lib.hid fun W (hb : Below wr.heap.size wr W) => rPresent_c (some ⟨bf, off, none⟩) n fc (.slice aa na ac) acts alo ahi q1 q2 q3 q4 q5 (vs k) os lo hi W (hop.move (Same.of_below (hb.mono (Nat.le_trans hh hB.size)))) (Nat.le_trans hh (Nat.le_trans hB.size hb.size)) hwo hne ((HA.out.move (Same.of_below (hB.mono hah))).move (Same.of_below (hb.mono (Nat.le_trans hah hB.size)))) (Nat.le_trans hah (Nat.le_trans hB.size hb.size)) (by rw [HNA.out]; exact hn)
      obtain ⟨oo, oc2, hvo, -, -⟩ := hop
      rw [hvo] at hcw HPR
      have d0 := hcw 0 _ rfl
      have d1 := hcw 1 _ rfl
      have d2 := hcw 2 _ rfl
      have d3 := hcw 3 _ rfl
      have d4 := hcw 4 _ rfl
      have d5 := hcw 5 _ rfl
      simp only [Nat.add_zero] at d0
      have s0 : wr.cell? ⟨w.heap.size, 0, none⟩ = some (.slice (some ⟨bf, off, none⟩) n fc) := by rw [cell_of_row _ _ _ _ _ _ hS]; rfl
      have s1 : wr.cell? ⟨w.heap.size, 1, none⟩ = some (.slice aa na ac) := by rw [cell_of_row _ _ _ _ _ _ hS]; rfl
      have y1 : w.heap.size < wr.heap.size := (Array.getElem?_eq_some_iff.1 hS).1
      have y2 : bf < wr.heap.size := by omega
      have hk0 : (0 : Int) ≤ k := by omega
      have hk1 : (k : Int) < n := by omega
      have hk2 : (k : Int) ≤ 20000 := by omega
      simp only at HY HNO
      obtain ⟨X, hX⟩ : ∃ X, pres acts ((q1, q2, q3, q4, q5), os) = X := ⟨_, rfl⟩
      rw [hX] at HPR HY
      clear hc hcw hwo hne hvo hB hS hof hat hX
      have HSC : Hid (∀ w', Bw wr w' → (w'.cell? ⟨w.heap.size, 0, none⟩ = some (.slice (some ⟨bf, off, none⟩) n fc) ∧ w'.cell? ⟨w.heap.size, 1, none⟩ = some (.slice aa na ac) ∧ w'.cell? ⟨bf, off + k * 6, none⟩ = some (.int .i64 q1) ∧ w'.cell? ⟨bf, off + k * 6 + 1, none⟩ = some (.int .i64 q2) ∧ w'.cell? ⟨bf, off + k * 6 + 2, none⟩ = some (.int .i64 q3) ∧ w'.cell? ⟨bf, off + k * 6 + 3, none⟩ = some (.int .i64 q4) ∧ w'.cell? ⟨bf, off + k * 6 + 4, none⟩ = some (.int .i64 q5) ∧ w'.cell? ⟨bf, off + k * 6 + 5, none⟩ = some (.slice oo os.length oc2) ∧ Bw wr w')) := fun w' hb =>
        ⟨(hb.cell (p := ⟨w.heap.size, 0, none⟩) y1).trans s0, (hb.cell (p := ⟨w.heap.size, 1, none⟩) y1).trans s1, (hb.cell (p := ⟨bf, _, none⟩) y2).trans d0, (hb.cell (p := ⟨bf, _, none⟩) y2).trans d1, (hb.cell (p := ⟨bf, _, none⟩) y2).trans d2, (hb.cell (p := ⟨bf, _, none⟩) y2).trans d3, (hb.cell (p := ⟨bf, _, none⟩) y2).trans d4, (hb.cell (p := ⟨bf, _, none⟩) y2).trans d5, hb⟩
      cases ht : touched acts (q1, q2, q3, q4, q5) with
      | false =>
        rw [ht] at HPR
        have HK := Lib.hid (HNO.out ht)
        clear ht
        go_wp2_with fail
        go_region_held3 (fun w' => w'.cell? ⟨w.heap.size, 0, none⟩ = some (.slice (some ⟨bf, off, none⟩) n fc) ∧ w'.cell? ⟨w.heap.size, 1, none⟩ = some (.slice aa na ac) ∧ w'.cell? ⟨bf, off + k * 6, none⟩ = some (.int .i64 q1) ∧ w'.cell? ⟨bf, off + k * 6 + 1, none⟩ = some (.int .i64 q2) ∧ w'.cell? ⟨bf, off + k * 6 + 2, none⟩ = some (.int .i64 q3) ∧ w'.cell? ⟨bf, off + k * 6 + 3, none⟩ = some (.int .i64 q4) ∧ w'.cell? ⟨bf, off + k * 6 + 4, none⟩ = some (.int .i64 q5) ∧ w'.cell? ⟨bf, off + k * 6 + 5, none⟩ = some (.slice oo os.length oc2) ∧ Bw wr w')
          ((refine HSC.out _ ?_; with_reducible (first | exact Bw.drew _ | assumption)))
          ((go_at_call 54; refine (HPR.out _ (Bw.drew _)).mono ?_; rintro rr w3 ⟨rfl, hb3⟩; have hBw3 : Bw wr w3 := below_step (Bw.drew _) hb3; clear hb3))
        have HBK := Lib.hid (by assumption : Bw wr _)
        go_wp2
        go_roundw
        case rel => exact ⟨k + 1, by omega, by go_num, (HBK.out.block _ y1).trans HSB.out, by rw [HK.out]; exact HOF.out.below HBK.out, HB.out.trans (HBK.out.mono HB.out.size)⟩
        case measure => simp [intOf]; omega
      | true =>
        rw [ht] at HPR
        have HK := Lib.hid (HY.out ht)
        clear ht
        go_wp2_with fail
        go_region_held3 (fun w' => w'.cell? ⟨w.heap.size, 0, none⟩ = some (.slice (some ⟨bf, off, none⟩) n fc) ∧ w'.cell? ⟨w.heap.size, 1, none⟩ = some (.slice aa na ac) ∧ w'.cell? ⟨bf, off + k * 6, none⟩ = some (.int .i64 q1) ∧ w'.cell? ⟨bf, off + k * 6 + 1, none⟩ = some (.int .i64 q2) ∧ w'.cell? ⟨bf, off + k * 6 + 2, none⟩ = some (.int .i64 q3) ∧ w'.cell? ⟨bf, off + k * 6 + 3, none⟩ = some (.int .i64 q4) ∧ w'.cell? ⟨bf, off + k * 6 + 4, none⟩ = some (.int .i64 q5) ∧ w'.cell? ⟨bf, off + k * 6 + 5, none⟩ = some (.slice oo os.length oc2) ∧ Bw wr w')
          ((refine HSC.out _ ?_; with_reducible (first | exact Bw.drew _ | assumption)))
          ((go_at_call 54; refine (HPR.out _ (Bw.drew _)).mono ?_; rintro rr w3 ⟨rfl, hb3⟩; have hBw3 : Bw wr w3 := below_step (Bw.drew _) hb3; clear hb3))
        have HBK := Lib.hid (by assumption : Bw wr w3)
        have hof3 := HOF.out.below HBK.out
        have hsl : (setK fs acts k).length = n := by rw [setK_len _ _ (Nat.le_of_lt hkf), HN.out]
        have HSL := Lib.hid hsl
        obtain ⟨ws, hwl, hrw, hopt⟩ := hof3
        obtain ⟨g, cap2, hgc, hgb, hgl⟩ := hrw.form (by omega)
        rw [hsl] at hgc
        simp only [Value.slice.injEq] at hgc
        obtain ⟨rfl, -, rfl⟩ := hgc
        rw [hsl] at hrw
        have hfl : (ftFlat (setK fs acts k) ws).length = n * 6 := hrw.1
        obtain ⟨u, hu⟩ : ∃ u, w3.cell? ⟨g, k * 6 + 5, none⟩ = some u := ⟨_, by rw [hrw.cellAt (k * 6 + 5) (by omega)]; exact List.getElem?_eq_getElem (by rw [hfl]; omega)⟩
        have hfz := hrw.frozenAt (k * 6 + 5)
        have HRW := Lib.hid (And.intro hwl (And.intro hrw hopt))
        clear hrw hwl hopt hfl hsl s0 s1 d0 d1 d2 d3 d4 d5
        have hs3 := HBK.out.size
        go_wp2
        go_roundw
        case rel =>
          have hput := OwnFeats.put (i := k) X (by rw [HSL.out]; exact hk) HRW.out.1 (by rw [HSL.out]; exact HRW.out.2.1) HRW.out.2.2 (by omega)
          rw [HSL.out, ← HK.out] at hput
          have hb : ∀ b, b ≠ g → b < w3.heap.size → ((w3.setCell ⟨g, k * 6 + 5, none⟩ (.slice (some ⟨w3.heap.size, 0, none⟩) 1 1)).alloc (.cells #[.int .i64 X, .int .i64 0] 51)).heap[b]? = w3.heap[b]? := fun b h1 h2 => (Below.heap_alloc _ _ _ (by simpa [World.setCell] using h2)).trans (Below.heap_setCell w3 ⟨g, k * 6 + 5, none⟩ _ b h1)
          refine ⟨k + 1, by omega, by go_num, (hb _ (by omega) (by omega)).trans ((HBK.out.block _ y1).trans HSB.out), hput, ?_⟩
          exact ((HB.out.trans (HBK.out.mono HB.out.size)).setCell (p := ⟨g, k * 6 + 5, none⟩) (by dsimp only; omega) _).alloc (by simp [World.setCell]; omega) _
        case measure => simp [intOf]; omega
    · obtain rfl : k = n := by omega
      have hend : setK fs acts k = feats fs acts := by rw [← HN.out, setK_end]
      have HE := Lib.hid hend
      clear hS hof hB hend
      go_wp2
      go_ret
      exact ⟨_, rfl, by rw [← HE.out]; exact HOF.out.low (Nat.le_succ _), HB.out⟩
end Go.Proofs.YtpcefaccoifejaaDoor
