/-
  The contract of custosref13.Merge. Conditions: what is read lies in memory as SW says; the features are good; at most 4096 acts in all.
-/
import Derived.Test.YtpcefaccoifejaaDoorME2
import Derived.Test.YtpcefaccoifejaaDoorR2
import Derived.Test.YtpcefaccoifejaaDoorM1
namespace Go.Proofs.YtpcefaccoifejaaDoor
open Go.RowKit
set_option linter.unusedSimpArgs false
set_option linter.unusedVariables false
set_option maxRecDepth 100000

def RMrgRes (w : World) (vf : Value) (fs gs : List Ft) (a1 a2 : List Ac) (e : Ending) (w' : World) : Prop :=
  Below w.heap.size w w' ∧ ((fs ≠ gs ∧ e = .returned (.tuple #[.agg #[.slice none 0 0, .slice none 0 0], .slice none 0 0, .int .i64 81])) ∨
    (fs = gs ∧ ∃ va' cv, e = .returned (.tuple #[.agg #[vf, va'], cv, .int .i64 0]) ∧ ActsAt w' w.heap.size w'.heap.size va' (mergeA fs a1 a2) ∧ PlsAt w' w.heap.size w'.heap.size cv (clashL fs a1 a2)))
set_option maxHeartbeats 8000000 in
theorem rMerge_c (vf vg va vb : Value) (fs gs : List Ft) (a1 a2 : List Ac) (flo fhi glo ghi alo ahi blo bhi : Nat) (w : World) (hF : FeatsAt w flo fhi vf fs) (hG : FeatsAt w glo ghi vg gs) (hA : ActsAt w alo ahi va a1) (hB : ActsAt w blo bhi vb a2)
    (hfh : fhi ≤ w.heap.size) (hgh : ghi ≤ w.heap.size) (hah : ahi ≤ w.heap.size) (hbh : bhi ≤ w.heap.size) (hg : Good fs) (hwf : wfFs fs) (hn : a1.length + a2.length ≤ 4096) :
    Calls Tryd.prog 26 #[.agg #[vf, va], .agg #[vg, vb]] w (RMrgRes w vf fs gs a1 a2) := by
  have HSF := Lib.hid fun W (hb : Below w.heap.size w W) => SameFeatures_c vf vg fs gs flo fhi glo ghi W (hF.move (Same.of_below (hb.mono hfh))) (hG.move (Same.of_below (hb.mono hgh))) (Nat.le_trans hfh hb.size) (Nat.le_trans hgh hb.size) hg.len hwf
  have HAM := Lib.hid fun W (hb : Below w.heap.size w W) => hA.move (Same.of_below (hb.mono hah))
  have HBM := Lib.hid fun W (hb : Below w.heap.size w W) => hB.move (Same.of_below (hb.mono hbh))
  have HAH := Lib.hid (And.intro hah hbh)
  obtain ⟨aa, ac, rfl, -, -⟩ := hA
  obtain ⟨ba, bc, rfl, -, -⟩ := hB
  obtain ⟨ga, gc, -, rfl, -, -, -⟩ := hG
  obtain ⟨fa, fc, vs, rfl, -, hrow, hopt⟩ := hF
  have HROW := Lib.hid hrow
  have HOPT := Lib.hid hopt
  have HGD := Lib.hid hg
  have HWF := Lib.hid hwf
  have HFH := Lib.hid hfh
  have hl := hg.len
  obtain ⟨n, hnf⟩ : ∃ n, fs.length = n := ⟨_, rfl⟩
  have HN := Lib.hid hnf
  obtain ⟨n1, hn1⟩ : ∃ n1, a1.length = n1 := ⟨_, rfl⟩
  obtain ⟨n2, hn2⟩ : ∃ n2, a2.length = n2 := ⟨_, rfl⟩
  have HN1 := Lib.hid hn1
  have HN2 := Lib.hid hn2
  obtain ⟨ng, hng⟩ : ∃ ng, gs.length = ng := ⟨_, rfl⟩
  rw [hnf] at hl HSF HROW ⊢
  rw [hn1] at hn HAM ⊢
  rw [hn2] at hn HBM ⊢
  rw [hng] at HSF ⊢
  clear hrow hopt hg hwf hfh hgh hah hbh hnf hn1 hn2 hng
  go_enter Tryd.func26, Tryd.ntmps26
  go_wp2_with fail
  refine calls_named fun W1 hW1 => ?_
  have hB1 : Below w.heap.size w W1 := by rw [hW1]; go_grown
  have h2 : W1.heap[w.heap.size]? = some (.cells #[.slice fa n fc, .slice aa n1 ac] 31 (0, 0)) := by rw [hW1]; exact heap_alloc3o _ _ _ _
  have h3 : W1.heap[w.heap.size + 1]? = some (.cells #[.slice ga ng gc, .slice ba n2 bc] 31 (0, 0)) := by rw [hW1]; exact heap_alloc3m _ _ _ _
  have h4 : W1.heap[w.heap.size + 2]? = some (.cells #[.slice none 0 0, .slice none 0 0] 31 (0, 0)) := by rw [hW1]; exact heap_alloc3n _ _ _ _
  have HB1 := Lib.hid hB1
  have H2 := Lib.hid h2
  have H3 := Lib.hid h3
  have H4 := Lib.hid h4
  have y4 : w.heap.size + 2 < W1.heap.size := (Array.getElem?_eq_some_iff.1 h4).1
  clear hW1 hB1 h2 h3 h4
  refine (HSF.out _ HB1.out).mono ?_
  rintro rr w2 ⟨rfl, hb2⟩
  have HB2 : Hid (Below W1.heap.size W1 w2) := hb2
  clear hb2 HSF
  by_cases hfg : fs = gs
  · rw [decide_eq_true hfg]
    have HFG := Lib.hid hfg
    obtain ⟨s0, s1, -, -⟩ := sesBlock ((HB2.out.block _ (by omega)).trans H2.out)
    obtain ⟨r0, r1, -, -⟩ := sesBlock ((HB2.out.block _ (by omega)).trans H3.out)
    clear hfg
    go_wp2
    go_loopw [7, 8] (fun c i wr => ∃ (k : Nat) (ca : Option Addr) (cc : Nat), k ≤ n ∧ c = .slice ca (clashL (fs.take k) a1 a2).length cc ∧ i = .int .i64 (k : Int) ∧ wr.ownsRow W1.heap.size 26 5 (.slice ca (clashL (fs.take k) a1 a2).length cc) (clashL (fs.take k) a1 a2).length ((clashL (fs.take k) a1 a2).flatMap plV) ∧ Below W1.heap.size W1 wr)
      (fun c i wr => n - (intOf i).toNat)
    case atStart => exact ⟨0, none, 0, Nat.zero_le _, rfl, rfl, World.ownsRow_nil _ _ _ _, HB2.out⟩
    case round =>
      obtain ⟨k, ca, cc, hkn, rfl, rfl, hcl, hB⟩ := hrel
      have HB := Lib.hid hB
      have HCL := Lib.hid hcl
      have hcn : (clashL (fs.take k) a1 a2).length ≤ 20000 := Nat.le_trans (clash_len _ _ _) (by rw [List.length_take]; omega)
      have hzr : W1.heap.size ≤ wr.heap.size := hB.size
      obtain ⟨s0, s1, -, -⟩ := sesBlock ((hB.block _ (by omega)).trans H2.out)
      obtain ⟨r0, r1, -, -⟩ := sesBlock ((hB.block _ (by omega)).trans H3.out)
      have HBW : Hid (Below w.heap.size w wr) := below_step HB1.out hB
      clear hcl hB
      by_cases hk : k < n
      · have hkf : k < fs.length := by rw [HN.out]; exact hk
        have HST := Lib.hid (clash_step hkf a1 a2)
        generalize clashL (fs.take k) a1 a2 = cs at *
        obtain ⟨bf, off, rfl, hb1, hb2, hc⟩ := HROW.out (by omega)
        have hbw : bf < w.heap.size := Nat.lt_of_lt_of_le hb2 HFH.out
        have hcw : ∀ j u, (ftV (ftAt fs k).1 (vs k))[j]? = some u → wr.cell? ⟨bf, off + k * 6 + j, none⟩ = some u := fun j u hu => (HBW.out.cell (p := ⟨bf, off + k * 6 + j, none⟩) hbw).trans (hc k hk j u hu)
        have hop := (HOPT.out k hkf)
        have hwo := (HWF.out _ (ftAt_mem hkf)).2.2
        have hne := HGD.out.some _ (ftAt_mem hkf)
        have HCB : Hid (clashB a1 a2 (ftAt fs k) = (touched a1 (ftAt fs k).1 && touched a2 (ftAt fs k).1 && decide (pres a1 (ftAt fs k) ≠ pres a2 (ftAt fs k)))) := rfl
        generalize ftAt fs k = f at *
        obtain ⟨⟨q1, q2, q3, q4, q5⟩, os⟩ := f
        have hp1 := fun W (hb : Below w.heap.size w W) => rPresent_c (some ⟨bf, off, none⟩) n fc (.slice aa n1 ac) a1 alo ahi q1 q2 q3 q4 q5 (vs k) os flo fhi W (hop.move (Same.of_below (hb.mono HFH.out))) (Nat.le_trans HFH.out hb.size) hwo hne (HAM.out W hb) (Nat.le_trans HAH.out.1 hb.size) (by rw [HN1.out]; omega)
        have hp2 := fun W (hb : Below w.heap.size w W) => rPresent_c ga ng gc (.slice ba n2 bc) a2 blo bhi q1 q2 q3 q4 q5 (vs k) os flo fhi W (hop.move (Same.of_below (hb.mono HFH.out))) (Nat.le_trans HFH.out hb.size) hwo hne (HBM.out W hb) (Nat.le_trans HAH.out.2 hb.size) (by rw [HN2.out]; omega)
        obtain ⟨oo, oc, hvo, -, -⟩ := hop
        rw [hvo] at hcw hp1 hp2
        obtain ⟨X1, hX1⟩ : ∃ X, pres a1 ((q1, q2, q3, q4, q5), os) = X := ⟨_, rfl⟩
        obtain ⟨X2, hX2⟩ : ∃ X, pres a2 ((q1, q2, q3, q4, q5), os) = X := ⟨_, rfl⟩
        obtain ⟨T1, hT1⟩ : ∃ X, touched a1 (q1, q2, q3, q4, q5) = X := ⟨_, rfl⟩
        obtain ⟨T2, hT2⟩ : ∃ X, touched a2 (q1, q2, q3, q4, q5) = X := ⟨_, rfl⟩
        simp only [hX1, hX2, hT1, hT2] at HCB
        rw [HCB.out] at HST
        simp only at HST
        rw [hX1, hT1] at hp1
        rw [hX2, hT2] at hp2
        have HP1 := Lib.hid hp1
        have HP2 := Lib.hid hp2
        have d0 := hcw 0 _ rfl
        have d1 := hcw 1 _ rfl
        have d2 := hcw 2 _ rfl
        have d3 := hcw 3 _ rfl
        have d4 := hcw 4 _ rfl
        have d5 := hcw 5 _ rfl
        simp only [Nat.add_zero] at d0
        have y1 : w.heap.size < wr.heap.size := by omega
        have y3 : w.heap.size + 1 < wr.heap.size := by omega
        have y2 : bf < wr.heap.size := by omega
        have hk0 : (0 : Int) ≤ k := by omega
        have hk1 : (k : Int) < n := by omega
        have hk2 : (k : Int) ≤ 20000 := by omega
        clear hcw hc hwo hne hvo hX1 hX2 hT1 hT2 hp1 hp2 HCB hb1 hb2
        have HSC : Hid (∀ w', Bw wr w' → (w'.cell? ⟨w.heap.size, 0, none⟩ = some (.slice (some ⟨bf, off, none⟩) n fc) ∧ w'.cell? ⟨w.heap.size, 1, none⟩ = some (.slice aa n1 ac) ∧ w'.cell? ⟨bf, off + k * 6, none⟩ = some (.int .i64 q1) ∧ w'.cell? ⟨bf, off + k * 6 + 1, none⟩ = some (.int .i64 q2) ∧ w'.cell? ⟨bf, off + k * 6 + 2, none⟩ = some (.int .i64 q3) ∧ w'.cell? ⟨bf, off + k * 6 + 3, none⟩ = some (.int .i64 q4) ∧ w'.cell? ⟨bf, off + k * 6 + 4, none⟩ = some (.int .i64 q5) ∧ w'.cell? ⟨bf, off + k * 6 + 5, none⟩ = some (.slice oo os.length oc) ∧ Bw wr w')) := fun w' hb =>
          ⟨(hb.cell (p := ⟨w.heap.size, 0, none⟩) y1).trans s0, (hb.cell (p := ⟨w.heap.size, 1, none⟩) y1).trans s1, (hb.cell (p := ⟨bf, _, none⟩) y2).trans d0, (hb.cell (p := ⟨bf, _, none⟩) y2).trans d1, (hb.cell (p := ⟨bf, _, none⟩) y2).trans d2, (hb.cell (p := ⟨bf, _, none⟩) y2).trans d3, (hb.cell (p := ⟨bf, _, none⟩) y2).trans d4, (hb.cell (p := ⟨bf, _, none⟩) y2).trans d5, hb⟩
        go_wp2_with fail
        go_region_held3 (fun w' => w'.cell? ⟨w.heap.size, 0, none⟩ = some (.slice (some ⟨bf, off, none⟩) n fc) ∧ w'.cell? ⟨w.heap.size, 1, none⟩ = some (.slice aa n1 ac) ∧ w'.cell? ⟨bf, off + k * 6, none⟩ = some (.int .i64 q1) ∧ w'.cell? ⟨bf, off + k * 6 + 1, none⟩ = some (.int .i64 q2) ∧ w'.cell? ⟨bf, off + k * 6 + 2, none⟩ = some (.int .i64 q3) ∧ w'.cell? ⟨bf, off + k * 6 + 3, none⟩ = some (.int .i64 q4) ∧ w'.cell? ⟨bf, off + k * 6 + 4, none⟩ = some (.int .i64 q5) ∧ w'.cell? ⟨bf, off + k * 6 + 5, none⟩ = some (.slice oo os.length oc) ∧ Bw wr w')
          ((refine HSC.out _ ?_; with_reducible (first | exact Bw.drew _ | assumption)))
          ((go_at_call 54; refine (HP1.out _ (below_step HBW.out (Bw.drew _))).mono ?_; rintro rr w3 ⟨rfl, hb3⟩; have hBw3 : Bw wr w3 := below_step (Bw.drew _) hb3; clear hb3))
        obtain ⟨w4, rfl⟩ : ∃ wo : World, wo = w3 := ⟨_, rfl⟩
        have HB4 : Hid (Bw wr w4) := by assumption
        have g0 := ((HB4.out.cell (p := ⟨w.heap.size, 0, none⟩) y1).trans s0)
        have e0 := ((HB4.out.cell (p := ⟨w.heap.size + 1, 0, none⟩) y3).trans r0)
        have e1 := ((HB4.out.cell (p := ⟨w.heap.size + 1, 1, none⟩) y3).trans r1)
        have f0 := ((HB4.out.cell (p := ⟨bf, _, none⟩) y2).trans d0)
        have f1 := ((HB4.out.cell (p := ⟨bf, _, none⟩) y2).trans d1)
        have f2 := ((HB4.out.cell (p := ⟨bf, _, none⟩) y2).trans d2)
        have f3 := ((HB4.out.cell (p := ⟨bf, _, none⟩) y2).trans d3)
        have f4 := ((HB4.out.cell (p := ⟨bf, _, none⟩) y2).trans d4)
        have f5 := ((HB4.out.cell (p := ⟨bf, _, none⟩) y2).trans d5)
        have z1 : w.heap.size < w4.heap.size := Nat.lt_of_lt_of_le y1 HB4.out.size
        have z3 : w.heap.size + 1 < w4.heap.size := Nat.lt_of_lt_of_le y3 HB4.out.size
        have z2 : bf < w4.heap.size := Nat.lt_of_lt_of_le y2 HB4.out.size
        have HBW4 : Hid (Below w.heap.size w w4) := below_step HBW.out HB4.out
        clear s0 s1 r0 r1 d0 d1 d2 d3 d4 d5 y1 y2 y3 HSC
        have HSD : Hid (∀ w', Bw w4 w' → (w'.cell? ⟨w.heap.size, 0, none⟩ = some (.slice (some ⟨bf, off, none⟩) n fc) ∧ w'.cell? ⟨w.heap.size + 1, 0, none⟩ = some (.slice ga ng gc) ∧ w'.cell? ⟨w.heap.size + 1, 1, none⟩ = some (.slice ba n2 bc) ∧ w'.cell? ⟨bf, off + k * 6, none⟩ = some (.int .i64 q1) ∧ w'.cell? ⟨bf, off + k * 6 + 1, none⟩ = some (.int .i64 q2) ∧ w'.cell? ⟨bf, off + k * 6 + 2, none⟩ = some (.int .i64 q3) ∧ w'.cell? ⟨bf, off + k * 6 + 3, none⟩ = some (.int .i64 q4) ∧ w'.cell? ⟨bf, off + k * 6 + 4, none⟩ = some (.int .i64 q5) ∧ w'.cell? ⟨bf, off + k * 6 + 5, none⟩ = some (.slice oo os.length oc) ∧ Bw w4 w')) := fun w' hb =>
          ⟨(hb.cell (p := ⟨w.heap.size, 0, none⟩) z1).trans g0, (hb.cell (p := ⟨w.heap.size + 1, 0, none⟩) z3).trans e0, (hb.cell (p := ⟨w.heap.size + 1, 1, none⟩) z3).trans e1, (hb.cell (p := ⟨bf, _, none⟩) z2).trans f0, (hb.cell (p := ⟨bf, _, none⟩) z2).trans f1, (hb.cell (p := ⟨bf, _, none⟩) z2).trans f2, (hb.cell (p := ⟨bf, _, none⟩) z2).trans f3, (hb.cell (p := ⟨bf, _, none⟩) z2).trans f4, (hb.cell (p := ⟨bf, _, none⟩) z2).trans f5, hb⟩
        go_wp2_with fail
        go_region_held3 (fun w' => w'.cell? ⟨w.heap.size, 0, none⟩ = some (.slice (some ⟨bf, off, none⟩) n fc) ∧ w'.cell? ⟨w.heap.size + 1, 0, none⟩ = some (.slice ga ng gc) ∧ w'.cell? ⟨w.heap.size + 1, 1, none⟩ = some (.slice ba n2 bc) ∧ w'.cell? ⟨bf, off + k * 6, none⟩ = some (.int .i64 q1) ∧ w'.cell? ⟨bf, off + k * 6 + 1, none⟩ = some (.int .i64 q2) ∧ w'.cell? ⟨bf, off + k * 6 + 2, none⟩ = some (.int .i64 q3) ∧ w'.cell? ⟨bf, off + k * 6 + 3, none⟩ = some (.int .i64 q4) ∧ w'.cell? ⟨bf, off + k * 6 + 4, none⟩ = some (.int .i64 q5) ∧ w'.cell? ⟨bf, off + k * 6 + 5, none⟩ = some (.slice oo os.length oc) ∧ Bw w4 w')
          ((refine HSD.out _ ?_; with_reducible (first | exact Bw.drew _ | assumption)))
          ((go_at_call 54; refine (HP2.out _ (below_step HBW4.out (Bw.drew _))).mono ?_; rintro rr w5 ⟨rfl, hb5⟩; have hBw5 : Bw w4 w5 := below_step (Bw.drew _) hb5; clear hb5))
        have HB5 : Hid (Bw w4 w5) := by assumption
        obtain ⟨g0, -, -, f0, f1, f2, f3, f4, -, -⟩ := HSD.out _ HB5.out
        have HBR : Hid (Below W1.heap.size W1 w5) := below_step (below_step HB.out HB4.out) HB5.out
        have HC5 := Lib.hid (own_below (own_below HCL.out HB4.out) HB5.out)
        clear HSD e0 e1 z1 z2 z3
        by_cases hcb : (T1 && T2 && decide (X1 ≠ X2)) = true
        · have HST2 := HST
          rw [if_pos hcb] at HST2
          simp only [Bool.and_eq_true, decide_eq_true_eq] at hcb
          obtain ⟨⟨rfl, rfl⟩, hxx⟩ := hcb
          have hI := Lib.hid infoPl
          have hz5 := HBR.out.size
          go_wp2_with (at_builtin; go_loud (refine wpList_append_own _ rfl (.tmp 62) (.tmp 69) _ rfl W1.heap.size 26 Tryd.t26 _ 5 40 rfl hI.out rfl rfl rfl rfl (by omega) (.slice ca cs.length cc) cs.length _ rfl (HC5.out.alloc _) ⟨w5.heap.size, 0, none⟩ 1 1 (plV (q1, q2, q3, q4, q5)) rfl rfl (newCells _ _ _) (by simp [plV, Value.oneCell']) (by simp only [maxLen]; omega) (by omega) (by simp; omega) ?_); intro v' w' hao hag hn)
          obtain ⟨ga2, gc2, rfl⟩ := own_shape hao
          have HB6 : Hid (Below W1.heap.size W1 w') := (HBR.out.alloc hz5 _).grown hag (by simp; omega) (fun j hj => (HC5.out.lt j hj).1)
          have HC6 := Lib.hid hao
          have hlen : (clashL (fs.take (k + 1)) a1 a2).length = cs.length + 1 := by rw [HST2.out]; simp
          have hfl : (clashL (fs.take (k + 1)) a1 a2).flatMap plV = cs.flatMap plV ++ plV (q1, q2, q3, q4, q5) := by rw [HST2.out]; simp
          have HLN := Lib.hid (And.intro hlen hfl)
          clear hao hag hn hlen hfl
          go_wp2_with fail
          go_roundw
          case rel => exact ⟨k + 1, ga2, gc2, by omega, by rw [HLN.out.1], by go_num, by rw [HLN.out.1, HLN.out.2]; exact HC6.out, HB6.out⟩
          case measure => simp [intOf]; omega
        · have HST2 := HST
          rw [if_neg hcb, List.append_nil] at HST2
          cases T1 with
          | false =>
            clear hcb
            go_wp2
            go_roundw
            case rel => exact ⟨k + 1, ca, cc, by omega, by rw [HST2.out], by go_num, by rw [HST2.out]; exact HC5.out, HBR.out⟩
            case measure => simp [intOf]; omega
          | true =>
            cases T2 with
            | false =>
              clear hcb
              go_wp2
              go_roundw
              case rel => exact ⟨k + 1, ca, cc, by omega, by rw [HST2.out], by go_num, by rw [HST2.out]; exact HC5.out, HBR.out⟩
              case measure => simp [intOf]; omega
            | true =>
              have hxx : X1 = X2 := by simpa using hcb
              subst hxx
              clear hcb
              go_wp2
              go_roundw
              case rel => exact ⟨k + 1, ca, cc, by omega, by rw [HST2.out], by go_num, by rw [HST2.out]; exact HC5.out, HBR.out⟩
              case measure => simp [intOf]; omega
      · obtain rfl : n = k := by omega
        obtain ⟨wq, rfl⟩ : ∃ wo : World, wo = wr := ⟨_, rfl⟩
        have htk : fs.take n = fs := by rw [← HN.out, List.take_length]
        rw [htk] at HCL hcn ⊢
        obtain ⟨cl, hcl⟩ : ∃ cl, clashL fs a1 a2 = cl := ⟨_, rfl⟩
        have HCE := Lib.hid hcl
        rw [hcl] at HCL hcn ⊢
        obtain ⟨nc, hnc⟩ : ∃ nc, cl.length = nc := ⟨_, rfl⟩
        have HNC := Lib.hid hnc
        rw [hnc] at HCL hcn ⊢
        clear htk hcl hnc
        go_wp2_with (first | (refine wpList_named fun W3 hW3 => ?_; have hW3' : W3 = wq.alloc (.cells #[.slice fa n fc, .slice none 0 0] 31) := (by with_reducible exact hW3); clear hW3'; refine wpList_veil ?_))
        have hal : Below wq.heap.size wq W3 := by rw [hW3]; exact (Below.refl _ _).alloc (Nat.le_refl _) _
        have hX3 : W3.heap[wq.heap.size]? = some (.cells #[.slice fa n fc, .slice none 0 0] 31 (0, 0)) := by rw [hW3]; exact heap_alloc_new _ _
        have HB3 : Hid (Below W1.heap.size W1 W3) := below_step HB.out hal
        have HBW3 : Hid (Below w.heap.size w W3) := below_step HB1.out HB3.out
        have HX3 := Lib.hid hX3
        have HC3 := Lib.hid (own_below HCL.out hal)
        obtain ⟨s0, s1, -, -⟩ := sesBlock ((HB3.out.block _ (by omega)).trans H2.out)
        have hz3 := HB3.out.size
        clear hW3 hal hX3 HCL HB
        refine wpList_unveil ?_
        go_wp2_with (at_builtin; go_loud (refine wpList_append_acts rfl (.tmp 74) (.tmp 76) rfl W1.heap.size (.slice none 0 0) 0 [] rfl (World.ownsRow_nil _ _ _ _) alo ahi (.slice aa n1 ac) a1 rfl (HAM.out _ HBW3.out) (by rw [HN1.out]; omega) hz3 ?_); intro v6 w6 ho6 hg6; rw [Nat.zero_add, List.nil_append, HN1.out] at ho6; obtain ⟨l6, c6, rfl⟩ := own_shape ho6; have HO6 := Lib.hid ho6; have HX6 := Lib.hid ((hg6.block _ (Array.getElem?_eq_some_iff.1 HX3.out).1 (by simp [Value.ownBlock])).trans HX3.out); have HC6 := Lib.hid (HC3.out.kept hg6 (Classical.em _)); have HB6 : Hid (Below W1.heap.size W1 w6) := HB3.out.grown hg6 hz3 (fun j hj => by cases hj); clear ho6 hg6 s0 s1 r0 r1; obtain ⟨r0, r1, -, -⟩ := sesBlock ((HB6.out.block _ (by omega)).trans H3.out); refine wpList_veil ?_)
        have hz6 := HB6.out.size
        have HBW6 : Hid (Below w.heap.size w w6) := below_step HB1.out HB6.out
        clear HC3 HX3 HB3 HBW3 hz3
        refine wpList_unveil ?_
        go_wp2_with (at_builtin; go_loud (refine wpList_append_acts rfl (.tmp 78) (.tmp 80) rfl W1.heap.size (.slice l6 n1 c6) n1 _ rfl HO6.out blo bhi (.slice ba n2 bc) a2 rfl (HBM.out _ HBW6.out) (by rw [HN2.out]; omega) hz6 ?_); intro v7 w7 ho7 hg7; rw [HN2.out] at ho7; obtain ⟨l7, c7, rfl⟩ := own_shape ho7; have HO7 := Lib.hid ho7; have HX7 := Lib.hid ((hg7.block _ (Array.getElem?_eq_some_iff.1 HX6.out).1 (Ne.symm (own_ne HO6.out HX6.out (by decide)))).trans HX6.out); have HC7 := Lib.hid (HC6.out.kept hg7 (own_apartT HC6.out HO6.out (by decide))); have HB7 : Hid (Below W1.heap.size W1 w7) := HB6.out.grown hg7 hz6 (fun j hj => (HO6.out.lt j hj).1); clear ho7 hg7 r0 r1; refine wpList_veil ?_)
        obtain ⟨m, hm⟩ : ∃ m, n1 + n2 = m := ⟨_, rfl⟩
        obtain ⟨all, hall⟩ : ∃ l, a1 ++ a2 = l := ⟨_, rfl⟩
        have HALL : Hid (all.length = m ∧ w7.ownsRow W1.heap.size 57 7 (.slice l7 m c7) m (all.flatMap acV)) := by
          rw [← hall, ← hm]
          refine ⟨by rw [List.length_append, HN1.out, HN2.out], ?_⟩
          have := HO7.out
          rwa [← List.flatMap_append] at this
        have hm4 : m ≤ 4096 := by omega
        have HME : Hid (mergeA fs a1 a2 = keepA cl all) := by show mergeA fs a1 a2 = keepA cl all; rw [mergeA, HCE.out, hall]
        rw [hm]
        clear HO6 HX6 HC6 HB6 HBW6 hz6 hm hall HO7
        have hz7 := HB7.out.size
        have hX7 := HX7.out
        have hx0 : w7.cell? ⟨wq.heap.size, 1, none⟩ = some (.slice none 0 0) := (sesBlock hX7).2.1
        refine wpList_unveil ?_
        go_wp2
        go_loopw [15] (fun i wr => ∃ (j : Nat) (xa : Option Addr) (xc : Nat), j ≤ m ∧ i = .int .i64 (j : Int) ∧ wr.heap[wq.heap.size]? = some (.cells #[.slice fa n fc, .slice xa (keepA cl (all.take j)).length xc] 31 (0, 0)) ∧
            wr.ownsRow w7.heap.size 57 7 (.slice xa (keepA cl (all.take j)).length xc) (keepA cl (all.take j)).length ((keepA cl (all.take j)).flatMap acV) ∧ (∀ b, b < w7.heap.size → b ≠ wq.heap.size → wr.heap[b]? = w7.heap[b]?) ∧ Below W1.heap.size W1 wr ∧ w7.heap.size ≤ wr.heap.size) (fun i wr => m - (intOf i).toNat)
        case atStart => exact ⟨0, none, 0, Nat.zero_le _, rfl, HX7.out, World.ownsRow_nil _ _ _ _, fun _ _ _ => rfl, HB7.out, Nat.le_refl _⟩
        case round =>
          obtain ⟨j, xa, xc, hjm, rfl, hX, hO, hK, hB, hZ⟩ := hrel
          have HX := Lib.hid hX
          have HO := Lib.hid hO
          have HK := Lib.hid hK
          have HB := Lib.hid hB
          obtain ⟨t0, t1, tf0, tf1⟩ := sesBlock hX
          have hwz : wq.heap.size < w7.heap.size := (Array.getElem?_eq_some_iff.1 HX7.out).1
          clear hX hO hK hB
          by_cases hj : j < m
          · have hjl : j < all.length := by rw [HALL.out.1]; exact hj
            have HST := Lib.hid (keep_step hjl cl)
            have hkn : (keepA cl (all.take j)).length ≤ 4096 := Nat.le_trans (keep_len _ _) (by rw [List.length_take]; omega)
            generalize keepA cl (all.take j) = xs at *
            obtain ⟨g, cap, hgc, hgb, hgl⟩ := HALL.out.2.form (by omega)
            simp only [Value.slice.injEq, true_and] at hgc
            obtain ⟨rfl, rfl⟩ := hgc
            have hgx : g ≠ wq.heap.size := fun e => own_ne HALL.out.2 HX7.out (by decide) (congrArg some e)
            have hat : ActsAt w7 W1.heap.size w7.heap.size (.slice (some ⟨g, 0, none⟩) m c7) all := by
              have := HALL.out.2
              rw [← HALL.out.1] at this ⊢
              exact acts_of_own this
            obtain ⟨a', c', e', -, hr'⟩ := hat
            simp only [Value.slice.injEq] at e'
            obtain ⟨rfl, -, rfl⟩ := e'
            obtain ⟨bl, ol, e2, -, -, hcc⟩ := hr' (by omega)
            simp only [Option.some.injEq, Addr.mk.injEq, and_true] at e2
            obtain ⟨rfl, rfl⟩ := e2
            have hcw : ∀ q u, (acV (acAt all j))[q]? = some u → wr.cell? ⟨g, j * 7 + q, none⟩ = some u := fun q u hu => by
              have := hcc j hjl q u hu
              rw [Nat.zero_add] at this
              exact (World.cell?_of_block (HK.out g hgl hgx)).trans this
            generalize acAt all j = A at *
            obtain ⟨kd, ⟨p1, p2, p3, p4, p5⟩, av⟩ := A
            have d0 := hcw 0 _ rfl
            have d1 := hcw 1 _ rfl
            have d2 := hcw 2 _ rfl
            have d3 := hcw 3 _ rfl
            have d4 := hcw 4 _ rfl
            have d5 := hcw 5 _ rfl
            have d6 := hcw 6 _ rfl
            simp only [Nat.add_zero] at d0
            have hgw : g < wr.heap.size := Nat.lt_of_lt_of_le hgl hZ
            have hj0 : (0 : Int) ≤ j := by omega
            have hj1 : (j : Int) < m := by omega
            have hj2 : (j : Int) ≤ 4096 := by omega
            clear hcw hcc hr' hgb
            obtain ⟨wo, rfl⟩ : ∃ wo : World, wo = wr := ⟨_, rfl⟩
            go_wp2
            go_loopw [16, 17] (fun kp kk wr => ∃ (c : Nat), c ≤ nc ∧ kp = .bool (decide ((p1, p2, p3, p4, p5) ∉ cl.take c)) ∧ kk = .int .i64 (c : Int) ∧ Bw wo wr) (fun kp kk wr => nc - (intOf kk).toNat)
            case atStart => exact ⟨0, Nat.zero_le _, by simp, rfl, Bw.refl _⟩
            case round =>
              obtain ⟨c, hcn2, rfl, rfl, hBi⟩ := hrel
              have HBI := Lib.hid hBi
              clear hBi
              by_cases hc : c < nc
              · have hcl : c < cl.length := by rw [HNC.out]; exact hc
                obtain ⟨g2, cap2, hg2c, -, hg2l⟩ := HC7.out.form (by omega)
                simp only [Value.slice.injEq, true_and] at hg2c
                obtain ⟨rfl, rfl⟩ := hg2c
                have hg2x : g2 ≠ wq.heap.size := fun e => own_ne HC7.out HX7.out (by decide) (congrArg some e)
                have hpl : PlsAt w7 W1.heap.size w7.heap.size (.slice (some ⟨g2, 0, none⟩) nc cc) cl := by
                  have := HC7.out
                  rw [← HNC.out] at this ⊢
                  exact pls_of_own this
                obtain ⟨a', c', e', -, hr'⟩ := hpl
                simp only [Value.slice.injEq] at e'
                obtain ⟨rfl, -, rfl⟩ := e'
                obtain ⟨bl, ol, e2, -, -, hcc⟩ := hr' (by omega)
                simp only [Option.some.injEq, Addr.mk.injEq, and_true] at e2
                obtain ⟨rfl, rfl⟩ := e2
                have hcw2 : ∀ q u, (plV (plAt cl c))[q]? = some u → wr.cell? ⟨g2, c * 5 + q, none⟩ = some u := fun q u hu => by
                  have := hcc c hcl q u hu
                  rw [Nat.zero_add] at this
                  exact (HBI.out.cell (p := ⟨g2, c * 5 + q, none⟩) (Nat.lt_of_lt_of_le hg2l hZ)).trans ((World.cell?_of_block (HK.out g2 hg2l hg2x)).trans this)
                have HNI := Lib.hid (notin_step hcl (p1, p2, p3, p4, p5))
                generalize plAt cl c = Q at *
                obtain ⟨x1, x2, x3, x4, x5⟩ := Q
                have e0 := hcw2 0 _ rfl
                have e1 := hcw2 1 _ rfl
                have e2 := hcw2 2 _ rfl
                have e3 := hcw2 3 _ rfl
                have e4 := hcw2 4 _ rfl
                simp only [Nat.add_zero] at e0
                have f1 := (HBI.out.cell (p := ⟨g, _, none⟩) hgw).trans d1
                have f2 := (HBI.out.cell (p := ⟨g, _, none⟩) hgw).trans d2
                have f3 := (HBI.out.cell (p := ⟨g, _, none⟩) hgw).trans d3
                have f4 := (HBI.out.cell (p := ⟨g, _, none⟩) hgw).trans d4
                have f5 := (HBI.out.cell (p := ⟨g, _, none⟩) hgw).trans d5
                have hc0 : (0 : Int) ≤ c := by omega
                have hc1 : (c : Int) < nc := by omega
                have hc2 : (c : Int) ≤ 20000 := by omega
                clear hcw2 hcc hr' d0 d1 d2 d3 d4 d5 d6 t0 t1 tf0 tf1
                obtain ⟨r, hr⟩ : ∃ r, decide ((p1, p2, p3, p4, p5) ∉ cl.take c) = r := ⟨_, rfl⟩
                have HR := Lib.hid hr
                rw [hr]
                clear hr
                cases r with
                | false =>
                  go_wp2_with fail
                  go_quiet (fail)
                  go_wp2
                  go_roundw
                  case rel => exact ⟨c + 1, by omega, by rw [decide_eq_false (fun h => of_decide_eq_false HR.out (HNI.out.1 h).1)], by go_num, below_drewN HBI.out _⟩
                  case measure => simp [intOf]; omega
                | true =>
                  by_cases hxy : (x1, x2, x3, x4, x5) = (p1, p2, p3, p4, p5)
                  · have he : ∀ w, (Op.equalIn 10000 26 (.agg #[.int .i64 x1, .int .i64 x2, .int .i64 x3, .int .i64 x4, .int .i64 x5]) (.agg #[.int .i64 p1, .int .i64 p2, .int .i64 p3, .int .i64 p4, .int .i64 p5])).run Tryd.prog w = .ok true w := fun w => by rw [ein_pl, decide_eq_true hxy]
                    have HXY := Lib.hid hxy
                    clear hxy
                    go_wp2_with fail
                    go_quiet (fail)
                    go_wp2
                    go_roundw
                    case rel => exact ⟨c + 1, by omega, by rw [decide_eq_false (fun h => (HNI.out.1 h).2 HXY.out)], by go_num, below_drewN HBI.out _⟩
                    case measure => simp [intOf]; omega
                  · have he : ∀ w, (Op.equalIn 10000 26 (.agg #[.int .i64 x1, .int .i64 x2, .int .i64 x3, .int .i64 x4, .int .i64 x5]) (.agg #[.int .i64 p1, .int .i64 p2, .int .i64 p3, .int .i64 p4, .int .i64 p5])).run Tryd.prog w = .ok false w := fun w => by rw [ein_pl, decide_eq_false hxy]
                    have HXY := Lib.hid hxy
                    clear hxy
                    go_wp2_with fail
                    go_quiet (fail)
                    go_wp2
                    go_roundw
                    case rel => exact ⟨c + 1, by omega, by rw [decide_eq_true (HNI.out.2 ⟨of_decide_eq_true HR.out, HXY.out⟩)], by go_num, below_drewN HBI.out _⟩
                    case measure => simp [intOf]; omega
              · obtain rfl : nc = c := by omega
                have htc : cl.take nc = cl := by rw [← HNC.out, List.take_length]
                rw [htc]
                clear htc
                have hzi := HBI.out.size
                by_cases hp : (p1, p2, p3, p4, p5) ∉ cl
                · rw [decide_eq_true hp]
                  have hst := HST.out
                  rw [if_pos hp] at hst
                  have hln : (keepA cl (all.take (j + 1))).length = xs.length + 1 := by rw [hst]; simp
                  have hfl : (keepA cl (all.take (j + 1))).flatMap acV = xs.flatMap acV ++ acV (kd, (p1, p2, p3, p4, p5), av) := by rw [hst]; simp
                  have HLN := Lib.hid (And.intro hln hfl)
                  have hXw := (HBI.out.block _ (Array.getElem?_eq_some_iff.1 HX.out).1).trans HX.out
                  have HXW := Lib.hid hXw
                  have HOW := Lib.hid (own_below HO.out HBI.out)
                  obtain ⟨t0, t1, tf0, tf1⟩ := sesBlock hXw
                  have f0 := (HBI.out.cell (p := ⟨g, _, none⟩) hgw).trans d0
                  have f1 := (HBI.out.cell (p := ⟨g, _, none⟩) hgw).trans d1
                  have f2 := (HBI.out.cell (p := ⟨g, _, none⟩) hgw).trans d2
                  have f3 := (HBI.out.cell (p := ⟨g, _, none⟩) hgw).trans d3
                  have f4 := (HBI.out.cell (p := ⟨g, _, none⟩) hgw).trans d4
                  have f5 := (HBI.out.cell (p := ⟨g, _, none⟩) hgw).trans d5
                  have f6 := (HBI.out.cell (p := ⟨g, _, none⟩) hgw).trans d6
                  have hI := Lib.hid infoRAct
                  have hwr : wq.heap.size < wr.heap.size := (Array.getElem?_eq_some_iff.1 hXw).1
                  clear hst hln hfl hXw d0 d1 d2 d3 d4 d5 d6
                  go_wp2_with (at_builtin; go_loud (refine wpList_append_own _ rfl (.tmp 110) (.tmp 115) _ rfl w7.heap.size 57 Tryd.t57 _ 7 56 rfl hI.out rfl rfl rfl rfl (by omega) (.slice xa xs.length xc) xs.length _ rfl (HOW.out.alloc _) ⟨wr.heap.size, 0, none⟩ 1 1 (acV (kd, (p1, p2, p3, p4, p5), av)) rfl rfl (newCells _ _ _) (by simp [acV, Value.oneCell']) (by simp only [maxLen]; omega) (by omega) (by simp; omega) ?_); intro v8 w8 ho8 hg8 hn8; obtain ⟨l8, c8, rfl⟩ := own_shape ho8; have HO8 := Lib.hid ho8; have HG8 := Lib.hid hg8; have HX8 := Lib.hid ((hg8.block _ (by simp; omega) (fun e => by have := (HOW.out.lt _ e.symm).1; omega)).trans ((Below.heap_alloc _ _ _ hwr).trans HXW.out)); clear ho8 hg8 hn8 t0 t1 tf0 tf1; obtain ⟨t0, t1, tf0, tf1⟩ := sesBlock HX8.out)
                  go_roundw
                  case rel =>
                    have hz8 : wr.heap.size ≤ w8.heap.size := by have := HG8.out.size; simp at this; omega
                    refine ⟨j + 1, l8, c8, by omega, by go_num, ?_, ?_, fun b b1 b2 => ?_, ?_, by simp [World.setCell]; omega⟩
                    · rw [HLN.out.1]
                      exact heap_setCell_same w8 wq.heap.size 1 _ _ _ HX8.out
                    · rw [HLN.out.1, HLN.out.2]
                      exact own_off HO8.out hwz _ _
                    · exact (Below.heap_setCell w8 ⟨wq.heap.size, 1, none⟩ _ b b2).trans ((HG8.out.block b (by simp; omega) (fun e => by have := (HOW.out.lt _ e.symm).1; omega)).trans ((Below.heap_alloc _ _ _ (by omega)).trans ((HBI.out.block b (by omega)).trans (HK.out b b1 b2))))
                    · have hbb : Below W1.heap.size W1 wr := below_step HB.out HBI.out
                      exact ((hbb.alloc hbb.size _).grown HG8.out (by simp; have := hbb.size; omega) (fun k e => by have := (HOW.out.lt _ e).1; omega)).setCell (p := ⟨wq.heap.size, 1, none⟩) hzr _
                  case measure => simp [intOf]; omega
                · rw [decide_eq_false hp]
                  have hst := HST.out
                  rw [if_neg hp, List.append_nil] at hst
                  have HST2 := Lib.hid hst
                  clear hst hp d0 d1 d2 d3 d4 d5 d6 t0 t1 tf0 tf1
                  go_wp2
                  go_roundw
                  case rel =>
                    refine ⟨j + 1, xa, xc, by omega, by go_num, ?_, ?_, fun b b1 b2 => (HBI.out.block b (by omega)).trans (HK.out b b1 b2), below_step HB.out HBI.out, by omega⟩
                    · rw [HST2.out]
                      exact (HBI.out.block _ (Array.getElem?_eq_some_iff.1 HX.out).1).trans HX.out
                    · rw [HST2.out]
                      exact own_below HO.out HBI.out
                  case measure => simp [intOf]; omega
          · obtain rfl : m = j := by omega
            have htm : all.take m = all := by rw [← HALL.out.1, List.take_length]
            rw [htm] at HX HO t1
            have hkl : ¬ (4096 < ((keepA cl all).length : Int)) := by
              have := keep_len cl all
              rw [HALL.out.1] at this
              omega
            have hR := (HB.out.block _ y4).trans H4.out
            have HR := Lib.hid hR
            obtain ⟨r0, r1, rf0, rf1⟩ := sesBlock hR
            have HBW : Hid (Below w.heap.size w wr) := below_step HB1.out HB.out
            have HCW : Hid (PlsAt wr W1.heap.size wr.heap.size (.slice ca nc cc) cl) := by
              have h7 := HC7.out
              have hof : wr.ownsRow W1.heap.size 26 5 (.slice ca nc cc) nc (cl.flatMap plV) :=
                ⟨h7.1, h7.2.imp id fun ⟨g, cap, cur, e1, e2, e3, r⟩ => ⟨g, cap, cur, e1, e2, (HK.out g (Array.getElem?_eq_some_iff.1 e3).1 (fun e => own_ne h7 HX7.out (by decide) (by rw [e1]; exact congrArg some e))).trans e3, r⟩⟩
              rw [← HNC.out] at hof ⊢
              exact pls_of_own hof
            clear hR htm
            go_wp2
            (try simp only [Exit.inBlock, Exit.then]); refine bodyPost_ret (by simp [results, Tryd.results26, go_sem, *]; try rfl) rfl ?_
            have hk2 : Kg wr (some (w.heap.size + 2)) ((wr.setCell ⟨w.heap.size + 2, 0, none⟩ (.slice fa n fc)).setCell ⟨w.heap.size + 2, 1, none⟩ (.slice xa (keepA cl all).length xc)) := ((Kg.refl wr (some (w.heap.size + 2))).setCell _ _).setCell _ _
            have hz1 := HB1.out.size
            refine ⟨below_two HBW.out (by omega) _ _, .inr ⟨HFG.out, _, _, rfl, ?_, ?_⟩⟩
            · rw [HME.out]
              have := acts_of_own HO.out
              refine (this.move (fun b b1 b2 => hk2.block b b2 (fun e => ?_))).wider (by omega) hk2.size
              injection e with e
              omega
            · rw [HCE.out]
              refine (HCW.out.move (fun b b1 b2 => hk2.block b b2 (fun e => ?_))).wider (by omega) hk2.size
              injection e with e
              omega
  · rw [decide_eq_false hfg]
    have HFG := Lib.hid hfg
    have hR2 := (HB2.out.block _ y4).trans H4.out
    have HR2 := Lib.hid hR2
    obtain ⟨r0, r1, rf0, rf1⟩ := sesBlock hR2
    have HBW2 : Hid (Below w.heap.size w w2) := below_step HB1.out HB2.out
    clear hfg hR2
    go_wp2
    (try simp only [Exit.inBlock, Exit.then]); refine bodyPost_ret (by simp [results, Tryd.results26, go_sem, *]; try rfl) rfl ?_
    exact ⟨below_two HBW2.out (by omega) _ _, .inl ⟨HFG.out, rfl⟩⟩
end Go.Proofs.YtpcefaccoifejaaDoor
