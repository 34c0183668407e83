/-
  The contract of Session.Merge where there may be too many acts. Conditions: both sessions lie in memory as the words say; the features are ones that a session may have; at most 10000 acts in all.
-/
import Derived.Test.YtpcefaccoifejaaGreatDoorME4
namespace Go.Proofs.YtpcefaccoifejaaGreatDoor
open Go.RowKit Go.Maps
set_option linter.unusedSimpArgs false
set_option linter.unusedVariables false
set_option maxRecDepth 100000

def MrgResA (w : World) (fs gs : List Ft) (a1 a2 : List Ac) (e : Ending) (w' : World) : Prop :=
  MrgRes w fs gs a1 a2 e w' ∧ (fs = gs → (mergeA fs a1 a2).length ≤ 4096) ∨ (Below w.heap.size w w' ∧ fs = gs ∧ 4096 < (mergeA fs a1 a2).length ∧ e = .returned (.tuple #[.pointer none, .slice none 0 0, .int .i64 4]))
set_option maxHeartbeats 8000000 in
theorem MergeA_c (lo p m flo fhi : Nat) (va vf : Value) (lo' p' m' flo' fhi' : Nat) (va' vf' : Value) (fs gs : List Ft) (a1 a2 : List Ac) (w : World) (h : SesAt w lo p m flo fhi va vf fs a1) (h' : SesAt w lo' p' m' flo' fhi' va' vf' gs a2)
    (he : newE fs = 0) (hw : wfFs fs) (hwa1 : wfAs a1) (hwa2 : wfAs a2) (hn : a1.length + a2.length ≤ 10000) :
    Calls Tryz.prog 21 #[.pointer (some ⟨p, 0, none⟩), .pointer (some ⟨p', 0, none⟩)] w (MrgResA w fs gs a1 a2) := by
  have hg := good_of_newE he
  have hl := hg.len
  have HN1 := Lib.hid fun W (hb : Below w.heap.size w W) => none_c lo p m flo fhi va vf fs a1 W (h.below hb)
  have HN2 := Lib.hid fun W (hb : Below w.heap.size w W) => none_c lo' p' m' flo' fhi' va' vf' gs a2 W (h'.below hb)
  have HSM := Lib.hid fun W (hb : Below w.heap.size w W) => same_c vf vf' fs gs flo fhi flo' fhi' W (h.below hb).feats (h'.below hb).feats (h.below hb).hf (h'.below hb).hf hl hw
  have HNW := Lib.hid fun W (hb : Below w.heap.size w W) => New_c vf fs flo fhi W (h.below hb).feats (h.below hb).hf hw (by omega)
  have HS := Lib.hid h
  have HS' := Lib.hid h'
  have HG := Lib.hid hg
  have HW := Lib.hid hw
  have HA1 := Lib.hid hwa1
  have HA2 := Lib.hid hwa2
  have HE := Lib.hid he
  have hp : p < w.heap.size := (Array.getElem?_eq_some_iff.1 h.cells).1
  have hp' : p' < w.heap.size := (Array.getElem?_eq_some_iff.1 h'.cells).1
  obtain ⟨fa, fc, vs, hvf, -, hrow, hopt⟩ := h.feats
  obtain ⟨ga, gc, -, hvf', -, -, -⟩ := h'.feats
  have HROW := Lib.hid hrow
  have HOPT := Lib.hid hopt
  have HFH := Lib.hid h.hf
  obtain ⟨n, hnf⟩ : ∃ n, fs.length = n := ⟨_, rfl⟩
  obtain ⟨ng, hng⟩ : ∃ n, gs.length = n := ⟨_, rfl⟩
  have HN := Lib.hid hnf
  rw [hnf] at hvf hl HROW
  rw [hng] at hvf'
  have hcp : ∀ W, Below w.heap.size w W → W.cell? ⟨p, 1, none⟩ = some (.slice fa n fc) := fun W hb => by rw [cell_of_row _ _ _ _ _ _ (h.below hb).cells, hvf]; rfl
  have hcp' : ∀ W, Below w.heap.size w W → W.cell? ⟨p', 1, none⟩ = some (.slice ga ng gc) := fun W hb => by rw [cell_of_row _ _ _ _ _ _ (h'.below hb).cells, hvf']; rfl
  rw [hvf, hvf'] at HSM
  rw [hvf] at HNW
  have HCP := Lib.hid (And.intro hcp hcp')
  obtain ⟨n1, hn1⟩ : ∃ n, a1.length = n := ⟨_, rfl⟩
  obtain ⟨n2, hn2⟩ : ∃ n, a2.length = n := ⟨_, rfl⟩
  have HNA1 := Lib.hid hn1
  have HNA2 := Lib.hid hn2
  rw [hn1, hn2] at hn
  have s0 := hcp w (Below.refl _ _)
  have s1 := hcp' w (Below.refl _ _)
  have HSC : Hid (∀ w', Bw w w' → (w'.cell? ⟨p, 1, none⟩ = some (.slice fa n fc) ∧ w'.cell? ⟨p', 1, none⟩ = some (.slice ga ng gc) ∧ Bw w w')) := fun w' hb => ⟨hcp w' hb, hcp' w' hb, hb⟩
  clear h h' he hg hw hwa1 hwa2 hvf hvf' hrow hopt hnf hng hcp hcp' hn1 hn2
  go_enter Tryz.func21, Tryz.ntmps21
  go_wp2_with fail
  refine (HN1.out _ (Below.refl _ _)).mono ?_
  rintro rr w1 ⟨rfl, rfl⟩
  go_wp2_with fail
  refine (HN2.out _ (Below.refl _ _)).mono ?_
  rintro rr w1 ⟨rfl, rfl⟩
  go_wp2_with fail
  go_region_held3 (fun w' => w'.cell? ⟨p, 1, none⟩ = some (.slice fa n fc) ∧ w'.cell? ⟨p', 1, none⟩ = some (.slice ga ng gc) ∧ Bw w w')
    ((refine HSC.out _ ?_; with_reducible (first | exact Bw.drew _ | assumption)))
    ((go_at_call 51; refine (HSM.out _ (Bw.drew _)).mono ?_; rintro rr w2 ⟨rfl, hb2⟩; have hBw2 : Bw w w2 := below_step (Bw.drew _) hb2; clear hb2))
  have HB2 : Hid (Below w.heap.size w w2) := by assumption
  clear s0 s1 HSC HN1 HN2 HSM
  by_cases hfg : fs = gs
  · rw [decide_eq_true hfg, Bool.not_true]
    have HFG := Lib.hid hfg
    clear hfg
    have hmm := @run_makeMap Tryz.prog
    go_wp2_with (first | (refine wpList_named fun W3 hW3 => ?_; have hW3' : W3 = w2.alloc (.map #[] 0) := (by with_reducible exact hW3); clear hW3'; refine wpList_veil ?_))
    have hb23 : Below w2.heap.size w2 W3 := by rw [hW3]; exact (Below.refl _ _).alloc (Nat.le_refl _) _
    have HM3 : Hid (SetMap W3 w2.heap.size 0 (fun _ => false)) := by rw [hW3]; exact SetMap.made _
    have HB3 : Hid (Below w.heap.size w W3) := below_step HB2.out hb23
    obtain ⟨s0, -⟩ := And.intro (HCP.out.1 W3 HB3.out) trivial
    have hwz : w.heap.size ≤ w2.heap.size := HB2.out.size
    clear hW3 hb23 hmm
    refine wpList_unveil ?_
    go_wp2
    go_loopw [8, 43] (fun c i wr => ∃ (k : Nat) (ca : Option Addr) (cc : Nat), k ≤ n ∧ c = .slice ca (clashL (fs.take k) a1 a2).length cc ∧ i = .int .i64 (k : Int) ∧ wr.ownsRow w.heap.size 44 5 (.slice ca (clashL (fs.take k) a1 a2).length cc) (clashL (fs.take k) a1 a2).length ((clashL (fs.take k) a1 a2).flatMap plV) ∧
        SetMap wr w2.heap.size k (fun q => decide (q ∈ clashL (fs.take k) a1 a2)) ∧ Below w.heap.size w wr) (fun c i wr => n - (intOf i).toNat)
    case atStart => exact ⟨0, none, 0, Nat.zero_le _, rfl, rfl, World.ownsRow_nil _ _ _ _, HM3.out.congr (by funext q; simp [clashL]), HB3.out⟩
    case round =>
      obtain ⟨k, ca, cc, hkn, rfl, rfl, hcl, hmp, hB⟩ := hrel
      have HB := Lib.hid hB
      have HCL := Lib.hid hcl
      have HMP := Lib.hid hmp
      have hcn : (clashL (fs.take k) a1 a2).length ≤ 20000 := Nat.le_trans (clash_len _ _ _) (by rw [List.length_take]; omega)
      have hzr : w.heap.size ≤ wr.heap.size := hB.size
      clear hcl hB hmp
      by_cases hk : k < n
      · have hkf : k < fs.length := by rw [HN.out]; exact hk
        have HST := Lib.hid (clash_step hkf a1 a2)
        generalize clashL (fs.take k) a1 a2 = cs at *
        obtain ⟨bf, off, rfl, hb1, hb2, hc⟩ := HROW.out (by omega)
        have hbw : bf < w.heap.size := Nat.lt_of_lt_of_le hb2 HFH.out
        have hcw : ∀ j u, (ftV (ftAt fs k).1 (vs k))[j]? = some u → wr.cell? ⟨bf, off + k * 6 + j, none⟩ = some u := fun j u hu => (HB.out.cell (p := ⟨bf, off + k * 6 + j, none⟩) hbw).trans (hc k hk j u hu)
        have hop := (HOPT.out k hkf)
        have hwo := HW.out _ (ftAt_mem hkf)
        have hne := HG.out.some _ (ftAt_mem hkf)
        have hms := HG.out.miss _ (ftAt_mem hkf)
        have HCB : Hid (clashB a1 a2 (ftAt fs k) = (touched a1 (ftAt fs k).1 && touched a2 (ftAt fs k).1 && decide (pres a1 (ftAt fs k) ≠ pres a2 (ftAt fs k)))) := rfl
        generalize ftAt fs k = f at *
        obtain ⟨⟨q1, q2, q3, q4, q5⟩, os⟩ := f
        have hp1 := fun W (hb : Below w.heap.size w W) => present_c lo p m flo fhi va vf fs a1 q1 q2 q3 q4 q5 (vs k) os flo fhi W (HS.out.below hb) (hop.move (Same.of_below (hb.mono HFH.out))) (Nat.le_trans HFH.out hb.size) hwo.2.2 hne hms (by rw [HNA1.out]; omega)
        have hp2 := fun W (hb : Below w.heap.size w W) => present_c lo' p' m' flo' fhi' va' vf' gs a2 q1 q2 q3 q4 q5 (vs k) os flo fhi W (HS'.out.below hb) (hop.move (Same.of_below (hb.mono HFH.out))) (Nat.le_trans HFH.out hb.size) hwo.2.2 hne hms (by rw [HNA2.out]; omega)
        obtain ⟨oo, oc, hvo, -, -⟩ := hop
        rw [hvo] at hcw hp1 hp2
        obtain ⟨X1, hX1⟩ : ∃ X, pres a1 ((q1, q2, q3, q4, q5), os) = X := ⟨_, rfl⟩
        obtain ⟨X2, hX2⟩ : ∃ X, pres a2 ((q1, q2, q3, q4, q5), os) = X := ⟨_, rfl⟩
        obtain ⟨T1, hT1⟩ : ∃ X, touched a1 (q1, q2, q3, q4, q5) = X := ⟨_, rfl⟩
        obtain ⟨T2, hT2⟩ : ∃ X, touched a2 (q1, q2, q3, q4, q5) = X := ⟨_, rfl⟩
        simp only [hX1, hX2, hT1, hT2] at HCB
        rw [HCB.out] at HST
        simp only at HST
        rw [hX1, hT1] at hp1
        rw [hX2, hT2] at hp2
        have HP1 := Lib.hid hp1
        have HP2 := Lib.hid hp2
        have HWP : Hid (wfP (q1, q2, q3, q4, q5)) := hwo.1
        have d0 := hcw 0 _ rfl
        have d1 := hcw 1 _ rfl
        have d2 := hcw 2 _ rfl
        have d3 := hcw 3 _ rfl
        have d4 := hcw 4 _ rfl
        have d5 := hcw 5 _ rfl
        simp only [Nat.add_zero] at d0
        have hk0 : (0 : Int) ≤ k := by omega
        have hk1 : (k : Int) < n := by omega
        have hk2 : (k : Int) ≤ 20000 := by omega
        clear hcw hc hwo hne hms hvo hX1 hX2 hT1 hT2 hp1 hp2 HCB hb1 hb2
        go_wp2_with fail
        refine (HP1.out _ (below_step HB.out (by go_grown))).mono ?_
        rintro rr w4 ⟨rfl, hb4⟩
        have HB4 : Hid (Below wr.heap.size wr w4) := below_step (by go_grown) hb4
        have h10 : w4.heap[wr.heap.size]? = some (.cells #[.int .i64 q1, .int .i64 q2, .int .i64 q3, .int .i64 q4, .int .i64 q5, .slice oo os.length oc] 47 (0, 0)) := (hb4.block _ (by simp)).trans (heap_alloc_new _ _)
        have H10 := Lib.hid h10
        have k0 : w4.cell? ⟨wr.heap.size, 0, none⟩ = some (.int .i64 q1) := by rw [cell_of_row _ _ _ _ _ _ h10]; rfl
        have k1 : w4.cell? ⟨wr.heap.size, 1, none⟩ = some (.int .i64 q2) := by rw [cell_of_row _ _ _ _ _ _ h10]; rfl
        have k2 : w4.cell? ⟨wr.heap.size, 2, none⟩ = some (.int .i64 q3) := by rw [cell_of_row _ _ _ _ _ _ h10]; rfl
        have k3 : w4.cell? ⟨wr.heap.size, 3, none⟩ = some (.int .i64 q4) := by rw [cell_of_row _ _ _ _ _ _ h10]; rfl
        have k4 : w4.cell? ⟨wr.heap.size, 4, none⟩ = some (.int .i64 q5) := by rw [cell_of_row _ _ _ _ _ _ h10]; rfl
        have k5 : w4.cell? ⟨wr.heap.size, 5, none⟩ = some (.slice oo os.length oc) := by rw [cell_of_row _ _ _ _ _ _ h10]; rfl
        clear hb4 h10 d0 d1 d2 d3 d4 d5
        go_wp2_with fail
        refine (HP2.out _ (below_step HB.out HB4.out)).mono ?_
        rintro rr w5 ⟨rfl, hb5⟩
        have HB5 : Hid (Below wr.heap.size wr w5) := below_step HB4.out hb5
        have h10 : w5.heap[wr.heap.size]? = some (.cells #[.int .i64 q1, .int .i64 q2, .int .i64 q3, .int .i64 q4, .int .i64 q5, .slice oo os.length oc] 47 (0, 0)) := (hb5.block _ (Array.getElem?_eq_some_iff.1 H10.out).1).trans H10.out
        have HT10 := Lib.hid h10
        have HBR : Hid (Below w.heap.size w w5) := below_step HB.out HB5.out
        have HC5 := Lib.hid (own_below HCL.out HB5.out)
        have HM5 := Lib.hid (HMP.out.below HB5.out)
        clear hb5 k0 k1 k2 k3 k4 k5 H10 HB4
        by_cases hcb : (T1 && T2 && decide (X1 ≠ X2)) = true
        · have HST2 := HST
          rw [if_pos hcb] at HST2
          simp only [Bool.and_eq_true, decide_eq_true_eq] at hcb
          obtain ⟨⟨rfl, rfl⟩, hxx⟩ := hcb
          have hI := Lib.hid infoPl
          have k0 : w5.cell? ⟨wr.heap.size, 0, none⟩ = some (.int .i64 q1) := by rw [cell_of_row _ _ _ _ _ _ h10]; rfl
          have k1 : w5.cell? ⟨wr.heap.size, 1, none⟩ = some (.int .i64 q2) := by rw [cell_of_row _ _ _ _ _ _ h10]; rfl
          have k2 : w5.cell? ⟨wr.heap.size, 2, none⟩ = some (.int .i64 q3) := by rw [cell_of_row _ _ _ _ _ _ h10]; rfl
          have k3 : w5.cell? ⟨wr.heap.size, 3, none⟩ = some (.int .i64 q4) := by rw [cell_of_row _ _ _ _ _ _ h10]; rfl
          have k4 : w5.cell? ⟨wr.heap.size, 4, none⟩ = some (.int .i64 q5) := by rw [cell_of_row _ _ _ _ _ _ h10]; rfl
          obtain ⟨w6, hst6, hM6, hg6⟩ := SetMap.store (w := w5) (p := (q1, q2, q3, q4, q5)) HM5.out HWP.out (by simp only [maxLen]; omega)
          have hst6' : (Instr.mapUpdate 122 (.map (some w2.heap.size)) (.agg #[.int .i64 q1, .int .i64 q2, .int .i64 q3, .int .i64 q4, .int .i64 q5]) (.bool true)).run Tryz.prog w5 = .ok () w6 := hst6
          have hM5l := HM5.out.lt
          obtain ⟨om, hom, homw⟩ := HM5.out.obj
          have hbm : wr.heap.size ≠ w2.heap.size := fun e => by rw [e, hom] at h10; injection h10 with h10; subst h10; cases homw
          have h11 : w6.heap[wr.heap.size]? = some (.cells #[.int .i64 q1, .int .i64 q2, .int .i64 q3, .int .i64 q4, .int .i64 q5, .slice oo os.length oc] 47 (0, 0)) := (hg6.block _ (Array.getElem?_eq_some_iff.1 h10).1 (fun e => hbm (by injection e))).trans h10
          have j0 : w6.cell? ⟨wr.heap.size, 0, none⟩ = some (.int .i64 q1) := by rw [cell_of_row _ _ _ _ _ _ h11]; rfl
          have j1 : w6.cell? ⟨wr.heap.size, 1, none⟩ = some (.int .i64 q2) := by rw [cell_of_row _ _ _ _ _ _ h11]; rfl
          have j2 : w6.cell? ⟨wr.heap.size, 2, none⟩ = some (.int .i64 q3) := by rw [cell_of_row _ _ _ _ _ _ h11]; rfl
          have j3 : w6.cell? ⟨wr.heap.size, 3, none⟩ = some (.int .i64 q4) := by rw [cell_of_row _ _ _ _ _ _ h11]; rfl
          have j4 : w6.cell? ⟨wr.heap.size, 4, none⟩ = some (.int .i64 q5) := by rw [cell_of_row _ _ _ _ _ _ h11]; rfl
          have HM6 := Lib.hid hM6
          have HC6 := Lib.hid (HC5.out.kept hg6 (.inr (own_map HC5.out hom homw)))
          have HB6 : Hid (Below w.heap.size w w6) := HBR.out.grown hg6 HBR.out.size (fun j hj => by injection hj with hj; omega)
          have hz6 := HB6.out.size
          clear h10 h11 hom homw hbm hM5l hst6 hM6 hg6
          go_wp2_with (at_builtin; go_loud (refine wpList_append_own _ rfl (.tmp 71) (.tmp 74) _ rfl w.heap.size 44 Tryz.t44 _ 5 40 rfl hI.out rfl rfl rfl rfl (by omega) (.slice ca cs.length cc) cs.length _ rfl (HC6.out.alloc _) ⟨w6.heap.size, 0, none⟩ 1 1 (plV (q1, q2, q3, q4, q5)) rfl rfl (newCells _ _ _) (by simp [plV, Value.oneCell']) (by simp only [maxLen]; omega) (by omega) (by simp; omega) ?_); intro v8 w8 hao hag hn8)
          obtain ⟨ga2, gc2, rfl⟩ := own_shape hao
          have HB8 : Hid (Below w.heap.size w w8) := (HB6.out.alloc hz6 _).grown hag (by simp; omega) (fun j hj => (HC6.out.lt j hj).1)
          have HC8 := Lib.hid hao
          have HM8 : Hid (SetMap w8 w2.heap.size (k + 1) (fun q => decide (q ∈ clashL (fs.take (k + 1)) a1 a2))) := by
            obtain ⟨om, hom, homw⟩ := HM6.out.obj
            have hml := HM6.out.lt
            refine (HM6.out.move ((hag.block _ (by simp; omega) (Ne.symm (own_map HC6.out hom homw))).trans (Below.heap_alloc _ _ _ hml))).congr ?_
            funext q
            unfold updP
            rw [HST2.out]
            by_cases e : q = (q1, q2, q3, q4, q5)
            · rw [if_pos e]; simp [e]
            · rw [if_neg e]; simp [e]
          have hlen : (clashL (fs.take (k + 1)) a1 a2).length = cs.length + 1 := by rw [HST2.out]; simp
          have hfl : (clashL (fs.take (k + 1)) a1 a2).flatMap plV = cs.flatMap plV ++ plV (q1, q2, q3, q4, q5) := by rw [HST2.out]; simp
          have HLN := Lib.hid (And.intro hlen hfl)
          clear hao hag hn8 hlen hfl k0 k1 k2 k3 k4 j0 j1 j2 j3 j4 hst6'
          go_wp2_with fail
          go_roundw
          case rel => exact ⟨k + 1, ga2, gc2, by omega, by rw [HLN.out.1], by go_num, by rw [HLN.out.1, HLN.out.2]; exact HC8.out, HM8.out, HB8.out⟩
          case measure => simp [intOf]; omega
        · have HST2 := HST
          rw [if_neg hcb, List.append_nil] at HST2
          have HM5' : Hid (SetMap w5 w2.heap.size (k + 1) (fun q => decide (q ∈ clashL (fs.take (k + 1)) a1 a2))) := by rw [HST2.out]; exact HM5.out.mono (Nat.le_succ _)
          clear h10
          cases T1 with
          | false =>
            clear hcb
            go_wp2
            go_roundw
            case rel => exact ⟨k + 1, ca, cc, by omega, by rw [HST2.out], by go_num, by rw [HST2.out]; exact HC5.out, HM5'.out, HBR.out⟩
            case measure => simp [intOf]; omega
          | true =>
            cases T2 with
            | false =>
              clear hcb
              go_wp2
              go_roundw
              case rel => exact ⟨k + 1, ca, cc, by omega, by rw [HST2.out], by go_num, by rw [HST2.out]; exact HC5.out, HM5'.out, HBR.out⟩
              case measure => simp [intOf]; omega
            | true =>
              have hxx : X1 = X2 := by simpa using hcb
              subst hxx
              clear hcb
              go_wp2
              go_roundw
              case rel => exact ⟨k + 1, ca, cc, by omega, by rw [HST2.out], by go_num, by rw [HST2.out]; exact HC5.out, HM5'.out, HBR.out⟩
              case measure => simp [intOf]; omega
      · obtain rfl : n = k := by omega
        obtain ⟨wq, rfl⟩ : ∃ wo : World, wo = wr := ⟨_, rfl⟩
        have htk : fs.take n = fs := by rw [← HN.out, List.take_length]
        rw [htk] at HCL HMP hcn ⊢
        obtain ⟨cl, hcl⟩ : ∃ cl, clashL fs a1 a2 = cl := ⟨_, rfl⟩
        have HCE := Lib.hid hcl
        rw [hcl] at HCL HMP hcn ⊢
        obtain ⟨nc, hnc⟩ : ∃ nc, cl.length = nc := ⟨_, rfl⟩
        have HNC := Lib.hid hnc
        rw [hnc] at HCL hcn ⊢
        have s2 := HCP.out.1 wq HB.out
        clear htk hcl hnc s0
        go_wp2_with fail
        refine (HNW.out _ HB.out).mono ?_
        rintro rr w7 ⟨hb7, hres⟩
        obtain ⟨p2, m2, flo2, fhi2, vf2, rfl, hs7⟩ : ∃ p2 m2 flo2 fhi2 vf2, rr = .returned (.tuple #[.pointer (some ⟨p2, 0, none⟩), .int .i64 0]) ∧ SesAt w7 wq.heap.size p2 m2 flo2 fhi2 (.slice none 0 0) vf2 fs [] := by
          rcases hres with h | ⟨_, h⟩
          · exact absurd HE.out h.1
          · exact h
        have HS7 := Lib.hid hs7
        have HB7 : Hid (Below wq.heap.size wq w7) := hb7
        clear hb7 hres hs7 s2
        go_wp2
        go_loopw [88] (fun d wr => ∃ (e : Int) (va2 : Value) (dn : List Ac), d = .int .i64 e ∧ SesAt wr wq.heap.size p2 m2 flo2 fhi2 va2 vf2 fs dn ∧ ((e = 0 ∧ dn = []) ∨ (e = 1 ∧ dn = keepA cl a1) ∨ (e = 2 ∧ dn = keepA cl (a1 ++ a2))) ∧ Below wq.heap.size wq wr) (fun d wr => 2 - (intOf d).toNat)
        case atStart => exact ⟨0, _, [], rfl, HS7.out, .inl ⟨rfl, rfl⟩, HB7.out⟩
        case round =>
          obtain ⟨e, va2, dn, rfl, hs, hdn, hB⟩ := hrel
          have HSO := Lib.hid hs
          have HBO := Lib.hid hB
          have HBW : Hid (Below w.heap.size w wr) := below_step HB.out hB
          clear hs hB
          rcases hdn with ⟨rfl, rfl⟩ | ⟨rfl, hdn⟩ | ⟨rfl, hdn⟩
          · obtain ⟨pa, pc, hva⟩ := own_shape HS.out.acts
            have c0 : wr.cell? ⟨p, 0, none⟩ = some (.slice pa n1 pc) := by rw [cell_of_row _ _ _ _ _ _ (HS.out.below HBW.out).cells, hva, HNA1.out]; rfl
            obtain ⟨aa, ac, haa, -, hrw⟩ := HS.out.actsAt
            have haa2 := hva.symm.trans haa
            simp only [Value.slice.injEq, true_and] at haa2
            obtain ⟨rfl, rfl⟩ := haa2
            rw [HNA1.out] at hrw
            have HRW := Lib.hid hrw
            have hix := pair_at0 ⟨p, 0, none⟩ ⟨p', 0, none⟩
            clear haa hrw hva
            go_wp2
            go_loopw [97] (fun i wr => ∃ (k : Nat) (va2 : Value) (dn : List Ac), k ≤ n1 ∧ i = .int .i64 (k : Int) ∧ SesAt wr wq.heap.size p2 m2 flo2 fhi2 va2 vf2 fs dn ∧ dn = keepA cl (a1.take k) ∧ Below wq.heap.size wq wr) (fun i wr => n1 - (intOf i).toNat)
            case atStart => exact ⟨0, _, _, Nat.zero_le _, rfl, HSO.out, by simp [keepA], HBO.out⟩
            case round =>
              obtain ⟨k, va4, dn4, hkn, rfl, hs, hdn4, hB⟩ := hrel
              have HSI := Lib.hid hs
              have HBI := Lib.hid hB
              have HDN := Lib.hid hdn4
              have HBX : Hid (Below w.heap.size w wr) := below_step HB.out hB
              obtain ⟨wi, rfl⟩ : ∃ wo : World, wo = wr := ⟨_, rfl⟩
              clear hs hB
              by_cases hk : k < n1
              · have hkf : k < a1.length := by rw [HNA1.out]; exact hk
                obtain ⟨bf, off, rfl, hb1, hb2, hc⟩ := HRW.out (by omega)
                have hcw : ∀ j u, (acV (acAt a1 k))[j]? = some u → wi.cell? ⟨bf, off + k * 7 + j, none⟩ = some u := fun j u hu => (HBX.out.cell (p := ⟨bf, off + k * 7 + j, none⟩) hb2).trans (hc k hk j u hu)
                have hwk := HA1.out _ (acAt_mem hkf)
                have hst : keepA cl (a1.take (k + 1)) = dn4 ++ (if (acAt a1 k).2.1 ∉ cl then [acAt a1 k] else []) := by
                  have h1 := keep_step hkf cl
                  unfold keepA at h1 hdn4 ⊢
                  rw [hdn4]
                  simp only [List.filter_append, h1, List.append_assoc, List.nil_append]
                have HST := Lib.hid hst
                have hdl : dn4.length ≤ 10000 := by
                  rw [hdn4]
                  refine Nat.le_trans (keep_len _ _) ?_
                  simp only [List.length_append, List.length_take, List.length_nil, HNA1.out, HNA2.out]
                  omega
                generalize acAt a1 k = A at *
                obtain ⟨kd, ⟨q1, q2, q3, q4, q5⟩, av⟩ := A
                have d0 := hcw 0 _ rfl
                have d1 := hcw 1 _ rfl
                have d2 := hcw 2 _ rfl
                have d3 := hcw 3 _ rfl
                have d4 := hcw 4 _ rfl
                have d5 := hcw 5 _ rfl
                have d6 := hcw 6 _ rfl
                simp only [Nat.add_zero] at d0
                have HWP : Hid (wfP (q1, q2, q3, q4, q5)) := hwk.2.1
                have hk0 : (0 : Int) ≤ k := by omega
                have hk1 : (k : Int) < n1 := by omega
                have hk2 : (k : Int) ≤ 10000 := by omega
                have hlk : (Instr.lookup 122 (.map (some w2.heap.size)) (.agg #[.int .i64 q1, .int .i64 q2, .int .i64 q3, .int .i64 q4, .int .i64 q5]) false).run Tryz.prog (wi.alloc (.cells #[.int .i64 kd, .int .i64 q1, .int .i64 q2, .int .i64 q3, .int .i64 q4, .int .i64 q5, .int .i64 av] 60)) = .ok (.bool (decide ((q1, q2, q3, q4, q5) ∈ cl))) (wi.alloc (.cells #[.int .i64 kd, .int .i64 q1, .int .i64 q2, .int .i64 q3, .int .i64 q4, .int .i64 q5, .int .i64 av] 60)) :=
                  SetMap.look (w := wi.alloc _) (p := (q1, q2, q3, q4, q5)) ((HMP.out.below HBI.out).below ((Below.refl _ _).alloc (Nat.le_refl _) _)) HWP.out
                clear hcw hc hwk hst hb1 hb2 hdn4
                by_cases hin : (q1, q2, q3, q4, q5) ∈ cl
                · rw [decide_eq_true hin] at hlk
                  have hst := HST.out
                  rw [if_neg (fun h => h hin), List.append_nil] at hst
                  have HST2 := Lib.hid hst
                  clear hst hin
                  go_wp2
                  go_roundw
                  case rel => exact ⟨k + 1, _, _, by omega, by go_num, HSI.out.below ((Below.refl _ _).alloc (Nat.le_refl _) _), HST2.out.symm, below_step HBI.out ((Below.refl _ _).alloc (Nat.le_refl _) _)⟩
                  case measure => simp [intOf]; omega
                · rw [decide_eq_false hin] at hlk
                  have hst := HST.out
                  rw [if_pos hin] at hst
                  have HST2 := Lib.hid hst
                  clear hst hin
                  go_wp2_with fail
                  refine wp_named fun W4 hW4 => ?_
                  have hb4 : Below wi.heap.size wi W4 := by rw [hW4]; exact (Below.refl _ _).alloc (Nat.le_refl _) _
                  have hX4 : W4.heap[wi.heap.size]? = some (.cells #[.int .i64 kd, .int .i64 q1, .int .i64 q2, .int .i64 q3, .int .i64 q4, .int .i64 q5, .int .i64 av] 60 (0, 0)) := by rw [hW4]; exact heap_alloc_new _ _
                  have hs4 := HSI.out.below hb4
                  have hpi : p2 < wi.heap.size := (Array.getElem?_eq_some_iff.1 HSI.out.cells).1
                  have hne : wi.heap.size ≠ p2 := by omega
                  have hno : some wi.heap.size ≠ va4.ownBlock := fun e => by have := (HSI.out.acts.lt _ e.symm).2; omega
                  have hl4 : wi.heap.size < W4.heap.size := (Array.getElem?_eq_some_iff.1 hX4).1
                  have HS4 := Lib.hid hs4
                  have HB4 : Hid (Below wq.heap.size wq W4) := below_step HBI.out hb4
                  have k0 : W4.cell? ⟨wi.heap.size, 0, none⟩ = some (.int .i64 kd) := by rw [cell_of_row _ _ _ _ _ _ hX4]; rfl
                  have k1 : W4.cell? ⟨wi.heap.size, 1, none⟩ = some (.int .i64 q1) := by rw [cell_of_row _ _ _ _ _ _ hX4]; rfl
                  have k2 : W4.cell? ⟨wi.heap.size, 2, none⟩ = some (.int .i64 q2) := by rw [cell_of_row _ _ _ _ _ _ hX4]; rfl
                  have k3 : W4.cell? ⟨wi.heap.size, 3, none⟩ = some (.int .i64 q3) := by rw [cell_of_row _ _ _ _ _ _ hX4]; rfl
                  have k4 : W4.cell? ⟨wi.heap.size, 4, none⟩ = some (.int .i64 q4) := by rw [cell_of_row _ _ _ _ _ _ hX4]; rfl
                  have k5 : W4.cell? ⟨wi.heap.size, 5, none⟩ = some (.int .i64 q5) := by rw [cell_of_row _ _ _ _ _ _ hX4]; rfl
                  have k6 : W4.cell? ⟨wi.heap.size, 6, none⟩ = some (.int .i64 av) := by rw [cell_of_row _ _ _ _ _ _ hX4]; rfl
                  have HSC : Hid (∀ w', Tx p2 va4 W4 w' → (w'.cell? ⟨wi.heap.size, 0, none⟩ = some (.int .i64 kd) ∧ w'.cell? ⟨wi.heap.size, 1, none⟩ = some (.int .i64 q1) ∧ w'.cell? ⟨wi.heap.size, 2, none⟩ = some (.int .i64 q2) ∧ w'.cell? ⟨wi.heap.size, 3, none⟩ = some (.int .i64 q3) ∧ w'.cell? ⟨wi.heap.size, 4, none⟩ = some (.int .i64 q4) ∧ w'.cell? ⟨wi.heap.size, 5, none⟩ = some (.int .i64 q5) ∧ w'.cell? ⟨wi.heap.size, 6, none⟩ = some (.int .i64 av) ∧ Tx p2 va4 W4 w')) := fun w' hb => ⟨hb.cell k0 hl4 hne hno, hb.cell k1 hl4 hne hno, hb.cell k2 hl4 hne hno, hb.cell k3 hl4 hne hno, hb.cell k4 hl4 hne hno, hb.cell k5 hl4 hne hno, hb.cell k6 hl4 hne hno, hb⟩
                  have HADD := Lib.hid (add_c wq.heap.size p2 dn4.length va4 vf2 (.map (some m2)) (dn4.flatMap acV) kd q1 q2 q3 q4 q5 av W4.drew hs4.cells hs4.acts (by omega) HB4.out.size)
                  clear hW4 hb4 hX4 hs4 hlk d0 d1 d2 d3 d4 d5 d6
                  go_region_held3 (fun w' => w'.cell? ⟨wi.heap.size, 0, none⟩ = some (.int .i64 kd) ∧ w'.cell? ⟨wi.heap.size, 1, none⟩ = some (.int .i64 q1) ∧ w'.cell? ⟨wi.heap.size, 2, none⟩ = some (.int .i64 q2) ∧ w'.cell? ⟨wi.heap.size, 3, none⟩ = some (.int .i64 q3) ∧ w'.cell? ⟨wi.heap.size, 4, none⟩ = some (.int .i64 q4) ∧ w'.cell? ⟨wi.heap.size, 5, none⟩ = some (.int .i64 q5) ∧ w'.cell? ⟨wi.heap.size, 6, none⟩ = some (.int .i64 av) ∧ Tx p2 va4 W4 w')
                    ((refine HSC.out _ ?_; with_reducible (first | exact Tx.drew _ _ _ | assumption)))
                    ((go_at_call 43; refine HADD.out.mono ?_; rintro rr w9 ⟨rfl, va9, h9, ho9, ht9⟩; have hTu : Turn W4 w9 p2 va4 va9 := ⟨ht9.os, ht9.tape, ht9.output, ht9.size, ht9.block, ht9.new⟩; have hTx : Tx p2 va4 W4 w9 := ⟨va9, hTu⟩; have HRS := Lib.hid (And.intro h9 (And.intro ho9 hTu)); clear h9 ho9 ht9 hTu))
                  have hsn : SesAt w9 wq.heap.size p2 m2 flo2 fhi2 va9 vf2 fs (dn4 ++ [(kd, (q1, q2, q3, q4, q5), av)]) := HS4.out.turned HRS.out.2.2 HRS.out.1 (by
                    rw [List.length_append, List.flatMap_append]
                    exact HRS.out.2.1)
                  have HSN := Lib.hid hsn
                  have HBN : Hid (Below wq.heap.size wq w9) := HB4.out.trans (HRS.out.2.2.below HB4.out.size HS4.out.lp (fun g hg => (HS4.out.acts.lt g hg).1))
                  clear hsn
                  go_wp2
                  go_roundw
                  case rel => exact ⟨k + 1, _, _, by omega, by go_num, HSN.out, HST2.out.symm, HBN.out⟩
                  case measure => simp [intOf]; omega
              · obtain rfl : n1 = k := by omega
                have hte : a1.take n1 = a1 := by rw [← HNA1.out, List.take_length]
                have HDE := HDN.out
                rw [hte] at HDE
                have HDE2 := Lib.hid HDE
                clear hte HDE hdn4
                go_wp2
                go_roundw
                case rel => exact ⟨_, _, _, rfl, HSI.out, .inr (.inl ⟨by simp, HDE2.out⟩), HBI.out⟩
                case measure => simp [intOf]

          · obtain ⟨pa, pc, hva⟩ := own_shape HS'.out.acts
            have c0 : wr.cell? ⟨p', 0, none⟩ = some (.slice pa n2 pc) := by rw [cell_of_row _ _ _ _ _ _ (HS'.out.below HBW.out).cells, hva, HNA2.out]; rfl
            obtain ⟨aa, ac, haa, -, hrw⟩ := HS'.out.actsAt
            have haa2 := hva.symm.trans haa
            simp only [Value.slice.injEq, true_and] at haa2
            obtain ⟨rfl, rfl⟩ := haa2
            rw [HNA2.out] at hrw
            have HRW := Lib.hid hrw
            have hix := pair_at1 ⟨p, 0, none⟩ ⟨p', 0, none⟩
            clear haa hrw hva
            go_wp2
            go_loopw [97] (fun i wr => ∃ (k : Nat) (va2 : Value) (dn : List Ac), k ≤ n2 ∧ i = .int .i64 (k : Int) ∧ SesAt wr wq.heap.size p2 m2 flo2 fhi2 va2 vf2 fs dn ∧ dn = keepA cl (a1 ++ a2.take k) ∧ Below wq.heap.size wq wr) (fun i wr => n2 - (intOf i).toNat)
            case atStart => exact ⟨0, _, _, Nat.zero_le _, rfl, HSO.out, by simpa using hdn, HBO.out⟩
            case round =>
              obtain ⟨k, va4, dn4, hkn, rfl, hs, hdn4, hB⟩ := hrel
              have HSI := Lib.hid hs
              have HBI := Lib.hid hB
              have HDN := Lib.hid hdn4
              have HBX : Hid (Below w.heap.size w wr) := below_step HB.out hB
              obtain ⟨wi, rfl⟩ : ∃ wo : World, wo = wr := ⟨_, rfl⟩
              clear hs hB
              by_cases hk : k < n2
              · have hkf : k < a2.length := by rw [HNA2.out]; exact hk
                obtain ⟨bf, off, rfl, hb1, hb2, hc⟩ := HRW.out (by omega)
                have hcw : ∀ j u, (acV (acAt a2 k))[j]? = some u → wi.cell? ⟨bf, off + k * 7 + j, none⟩ = some u := fun j u hu => (HBX.out.cell (p := ⟨bf, off + k * 7 + j, none⟩) hb2).trans (hc k hk j u hu)
                have hwk := HA2.out _ (acAt_mem hkf)
                have hst : keepA cl (a1 ++ a2.take (k + 1)) = dn4 ++ (if (acAt a2 k).2.1 ∉ cl then [acAt a2 k] else []) := by
                  have h1 := keep_step hkf cl
                  unfold keepA at h1 hdn4 ⊢
                  rw [hdn4]
                  simp only [List.filter_append, h1, List.append_assoc, List.nil_append]
                have HST := Lib.hid hst
                have hdl : dn4.length ≤ 10000 := by
                  rw [hdn4]
                  refine Nat.le_trans (keep_len _ _) ?_
                  simp only [List.length_append, List.length_take, List.length_nil, HNA1.out, HNA2.out]
                  omega
                generalize acAt a2 k = A at *
                obtain ⟨kd, ⟨q1, q2, q3, q4, q5⟩, av⟩ := A
                have d0 := hcw 0 _ rfl
                have d1 := hcw 1 _ rfl
                have d2 := hcw 2 _ rfl
                have d3 := hcw 3 _ rfl
                have d4 := hcw 4 _ rfl
                have d5 := hcw 5 _ rfl
                have d6 := hcw 6 _ rfl
                simp only [Nat.add_zero] at d0
                have HWP : Hid (wfP (q1, q2, q3, q4, q5)) := hwk.2.1
                have hk0 : (0 : Int) ≤ k := by omega
                have hk1 : (k : Int) < n2 := by omega
                have hk2 : (k : Int) ≤ 10000 := by omega
                have hlk : (Instr.lookup 122 (.map (some w2.heap.size)) (.agg #[.int .i64 q1, .int .i64 q2, .int .i64 q3, .int .i64 q4, .int .i64 q5]) false).run Tryz.prog (wi.alloc (.cells #[.int .i64 kd, .int .i64 q1, .int .i64 q2, .int .i64 q3, .int .i64 q4, .int .i64 q5, .int .i64 av] 60)) = .ok (.bool (decide ((q1, q2, q3, q4, q5) ∈ cl))) (wi.alloc (.cells #[.int .i64 kd, .int .i64 q1, .int .i64 q2, .int .i64 q3, .int .i64 q4, .int .i64 q5, .int .i64 av] 60)) :=
                  SetMap.look (w := wi.alloc _) (p := (q1, q2, q3, q4, q5)) ((HMP.out.below HBI.out).below ((Below.refl _ _).alloc (Nat.le_refl _) _)) HWP.out
                clear hcw hc hwk hst hb1 hb2 hdn4
                by_cases hin : (q1, q2, q3, q4, q5) ∈ cl
                · rw [decide_eq_true hin] at hlk
                  have hst := HST.out
                  rw [if_neg (fun h => h hin), List.append_nil] at hst
                  have HST2 := Lib.hid hst
                  clear hst hin
                  go_wp2
                  go_roundw
                  case rel => exact ⟨k + 1, _, _, by omega, by go_num, HSI.out.below ((Below.refl _ _).alloc (Nat.le_refl _) _), HST2.out.symm, below_step HBI.out ((Below.refl _ _).alloc (Nat.le_refl _) _)⟩
                  case measure => simp [intOf]; omega
                · rw [decide_eq_false hin] at hlk
                  have hst := HST.out
                  rw [if_pos hin] at hst
                  have HST2 := Lib.hid hst
                  clear hst hin
                  go_wp2_with fail
                  refine wp_named fun W4 hW4 => ?_
                  have hb4 : Below wi.heap.size wi W4 := by rw [hW4]; exact (Below.refl _ _).alloc (Nat.le_refl _) _
                  have hX4 : W4.heap[wi.heap.size]? = some (.cells #[.int .i64 kd, .int .i64 q1, .int .i64 q2, .int .i64 q3, .int .i64 q4, .int .i64 q5, .int .i64 av] 60 (0, 0)) := by rw [hW4]; exact heap_alloc_new _ _
                  have hs4 := HSI.out.below hb4
                  have hpi : p2 < wi.heap.size := (Array.getElem?_eq_some_iff.1 HSI.out.cells).1
                  have hne : wi.heap.size ≠ p2 := by omega
                  have hno : some wi.heap.size ≠ va4.ownBlock := fun e => by have := (HSI.out.acts.lt _ e.symm).2; omega
                  have hl4 : wi.heap.size < W4.heap.size := (Array.getElem?_eq_some_iff.1 hX4).1
                  have HS4 := Lib.hid hs4
                  have HB4 : Hid (Below wq.heap.size wq W4) := below_step HBI.out hb4
                  have k0 : W4.cell? ⟨wi.heap.size, 0, none⟩ = some (.int .i64 kd) := by rw [cell_of_row _ _ _ _ _ _ hX4]; rfl
                  have k1 : W4.cell? ⟨wi.heap.size, 1, none⟩ = some (.int .i64 q1) := by rw [cell_of_row _ _ _ _ _ _ hX4]; rfl
                  have k2 : W4.cell? ⟨wi.heap.size, 2, none⟩ = some (.int .i64 q2) := by rw [cell_of_row _ _ _ _ _ _ hX4]; rfl
                  have k3 : W4.cell? ⟨wi.heap.size, 3, none⟩ = some (.int .i64 q3) := by rw [cell_of_row _ _ _ _ _ _ hX4]; rfl
                  have k4 : W4.cell? ⟨wi.heap.size, 4, none⟩ = some (.int .i64 q4) := by rw [cell_of_row _ _ _ _ _ _ hX4]; rfl
                  have k5 : W4.cell? ⟨wi.heap.size, 5, none⟩ = some (.int .i64 q5) := by rw [cell_of_row _ _ _ _ _ _ hX4]; rfl
                  have k6 : W4.cell? ⟨wi.heap.size, 6, none⟩ = some (.int .i64 av) := by rw [cell_of_row _ _ _ _ _ _ hX4]; rfl
                  have HSC : Hid (∀ w', Tx p2 va4 W4 w' → (w'.cell? ⟨wi.heap.size, 0, none⟩ = some (.int .i64 kd) ∧ w'.cell? ⟨wi.heap.size, 1, none⟩ = some (.int .i64 q1) ∧ w'.cell? ⟨wi.heap.size, 2, none⟩ = some (.int .i64 q2) ∧ w'.cell? ⟨wi.heap.size, 3, none⟩ = some (.int .i64 q3) ∧ w'.cell? ⟨wi.heap.size, 4, none⟩ = some (.int .i64 q4) ∧ w'.cell? ⟨wi.heap.size, 5, none⟩ = some (.int .i64 q5) ∧ w'.cell? ⟨wi.heap.size, 6, none⟩ = some (.int .i64 av) ∧ Tx p2 va4 W4 w')) := fun w' hb => ⟨hb.cell k0 hl4 hne hno, hb.cell k1 hl4 hne hno, hb.cell k2 hl4 hne hno, hb.cell k3 hl4 hne hno, hb.cell k4 hl4 hne hno, hb.cell k5 hl4 hne hno, hb.cell k6 hl4 hne hno, hb⟩
                  have HADD := Lib.hid (add_c wq.heap.size p2 dn4.length va4 vf2 (.map (some m2)) (dn4.flatMap acV) kd q1 q2 q3 q4 q5 av W4.drew hs4.cells hs4.acts (by omega) HB4.out.size)
                  clear hW4 hb4 hX4 hs4 hlk d0 d1 d2 d3 d4 d5 d6
                  go_region_held3 (fun w' => w'.cell? ⟨wi.heap.size, 0, none⟩ = some (.int .i64 kd) ∧ w'.cell? ⟨wi.heap.size, 1, none⟩ = some (.int .i64 q1) ∧ w'.cell? ⟨wi.heap.size, 2, none⟩ = some (.int .i64 q2) ∧ w'.cell? ⟨wi.heap.size, 3, none⟩ = some (.int .i64 q3) ∧ w'.cell? ⟨wi.heap.size, 4, none⟩ = some (.int .i64 q4) ∧ w'.cell? ⟨wi.heap.size, 5, none⟩ = some (.int .i64 q5) ∧ w'.cell? ⟨wi.heap.size, 6, none⟩ = some (.int .i64 av) ∧ Tx p2 va4 W4 w')
                    ((refine HSC.out _ ?_; with_reducible (first | exact Tx.drew _ _ _ | assumption)))
                    ((go_at_call 43; refine HADD.out.mono ?_; rintro rr w9 ⟨rfl, va9, h9, ho9, ht9⟩; have hTu : Turn W4 w9 p2 va4 va9 := ⟨ht9.os, ht9.tape, ht9.output, ht9.size, ht9.block, ht9.new⟩; have hTx : Tx p2 va4 W4 w9 := ⟨va9, hTu⟩; have HRS := Lib.hid (And.intro h9 (And.intro ho9 hTu)); clear h9 ho9 ht9 hTu))
                  have hsn : SesAt w9 wq.heap.size p2 m2 flo2 fhi2 va9 vf2 fs (dn4 ++ [(kd, (q1, q2, q3, q4, q5), av)]) := HS4.out.turned HRS.out.2.2 HRS.out.1 (by
                    rw [List.length_append, List.flatMap_append]
                    exact HRS.out.2.1)
                  have HSN := Lib.hid hsn
                  have HBN : Hid (Below wq.heap.size wq w9) := HB4.out.trans (HRS.out.2.2.below HB4.out.size HS4.out.lp (fun g hg => (HS4.out.acts.lt g hg).1))
                  clear hsn
                  go_wp2
                  go_roundw
                  case rel => exact ⟨k + 1, _, _, by omega, by go_num, HSN.out, HST2.out.symm, HBN.out⟩
                  case measure => simp [intOf]; omega
              · obtain rfl : n2 = k := by omega
                have hte : a2.take n2 = a2 := by rw [← HNA2.out, List.take_length]
                have HDE := HDN.out
                rw [hte] at HDE
                have HDE2 := Lib.hid HDE
                clear hte HDE hdn4
                go_wp2
                go_roundw
                case rel => exact ⟨_, _, _, rfl, HSI.out, .inr (.inr ⟨by simp, HDE2.out⟩), HBI.out⟩
                case measure => simp [intOf]

          · obtain ⟨pa, pc, hva⟩ := own_shape HSO.out.acts
            subst hva
            have c0 : wr.cell? ⟨p2, 0, none⟩ = some (.slice pa dn.length pc) := by rw [cell_of_row _ _ _ _ _ _ HSO.out.cells]; rfl
            by_cases hmn : 4096 < dn.length
            · have hdl : (4096 : Int) < (dn.length : Int) := by omega
              have HDN := Lib.hid hdn
              clear hdn
              go_wp2
              (try simp only [Exit.inBlock, Exit.then]); refine bodyPost_ret (by simp [results, Tryz.results21, go_sem, *]; try rfl) rfl ?_
              exact .inr ⟨HBW.out, HFG.out, by rw [mergeA, HCE.out, ← HDN.out]; omega, rfl⟩
            · have hdl : ¬ ((4096 : Int) < (dn.length : Int)) := by omega
              have HDN := Lib.hid hdn
              clear hdn
              go_wp2
              (try simp only [Exit.inBlock, Exit.then]); refine bodyPost_ret (by simp [results, Tryz.results21, go_sem, *]; try rfl) rfl ?_
              refine .inl ⟨⟨HBW.out, .inr ⟨HFG.out, p2, m2, flo2, fhi2, .slice pa dn.length pc, vf2, .slice ca nc cc, rfl, ?_, ?_⟩⟩, fun _ => by rw [mergeA, HCE.out, ← HDN.out]; omega⟩
              · have := HSO.out.low HB.out.size
                rw [HDN.out] at this
                rw [mergeA, HCE.out]
                rwa [← HDN.out] at this ⊢
              · rw [HCE.out]
                have := own_below HCL.out HBO.out
                rw [← HNC.out] at this ⊢
                exact pls_of_own this
  · rw [decide_eq_false hfg, Bool.not_false]
    have HFG := Lib.hid hfg
    clear hfg
    go_wp2
    (try simp only [Exit.inBlock, Exit.then]); refine bodyPost_ret (by simp [results, Tryz.results21, go_sem, *]; try rfl) rfl ?_
    exact .inl ⟨⟨HB2.out, .inl ⟨HFG.out, rfl⟩⟩, fun h => absurd h HFG.out⟩
end Go.Proofs.YtpcefaccoifejaaGreatDoor
