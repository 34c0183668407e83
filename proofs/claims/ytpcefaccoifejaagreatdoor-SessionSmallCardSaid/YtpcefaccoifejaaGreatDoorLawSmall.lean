/-
  The walk of custoslaw13.SessionSmall. Conditions: the library's tables and variables lie in the world.
-/
import Derived.Test.YtpcefaccoifejaaGreatDoorLawSmallEnd
import Derived.Deep.Cut
namespace Go.Proofs.YtpcefaccoifejaaGreatDoor
open Go.RowKit
set_option linter.unusedSimpArgs false
set_option linter.unusedVariables false
set_option maxRecDepth 100000

set_option maxHeartbeats 40000000 in
theorem Small_walk (w : World) (he : Env w) : Calls Tryz.prog 4 #[] w fun e w' => e = .returned (.bool true) ∧ Below w.heap.size w w' := by
  have HE := Lib.hid fun W' (hb : Below w.heap.size w W') => he.below hb
  have hI := Lib.hid infoFt
  clear he
  go_enter Tryz.func4, Tryz.ntmps4
  go_wp2_with fail
  go_loopw [69] (fun iv wr => ∃ (j : Nat), j ≤ 4 ∧ iv = .int .i64 (j : Int) ∧ wr.heap[w.heap.size]? = some (.cells #[.int .i64 (-1), .int .i64 0, .int .i64 10000, .int .i64 10001] 3 (0, 0)) ∧ Below w.heap.size w wr) (fun iv _ => 4 - (intOf iv).toNat)
  case atStart => exact ⟨0, by omega, rfl, heap_alloc_new _ _, (Below.refl _ _).alloc (Nat.le_refl _) _⟩
  case round =>
    obtain ⟨j, hj, rfl, hC, hB⟩ := hrel
    have HB := Lib.hid hB
    have HC := Lib.hid hC
    have hj0 : (0 : Int) ≤ j := by omega
    by_cases hjl : j < 4
    · obtain ⟨n, hn, hcell⟩ : ∃ n : Int, i64B n ∧ wr.cell? ⟨w.heap.size, j, none⟩ = some (.int .i64 n) := by
        rw [cell_of_row _ _ _ _ _ _ hC]
        rcases (by omega : j = 0 ∨ j = 1 ∨ j = 2 ∨ j = 3) with rfl | rfl | rfl | rfl
        · exact ⟨-1, i64_dec (by decide), rfl⟩
        · exact ⟨0, i64_dec (by decide), rfl⟩
        · exact ⟨10000, i64_dec (by decide), rfl⟩
        · exact ⟨10001, i64_dec (by decide), rfl⟩
      have HN := Lib.hid hn
      have hjI : (j : Int) < 4 := by omega
      clear hB hC hn
      go_wp2_with fail
      refine (pairX_c _).mono ?_
      rintro rr w4 ⟨rfl, hw4⟩
      have b1 : w4.heap[wr.heap.size]? = some (.cells pairO1 41 (0, 0)) := by rw [hw4]; exact heap_alloc3o _ _ _ _
      have b2 : w4.heap[wr.heap.size + 1]? = some (.cells (pairO2 3) 41 (0, 0)) := by rw [hw4]; exact heap_alloc3m _ _ _ _
      have b3 : w4.heap[wr.heap.size + 2]? = some (.cells (pairF wr.heap.size) 47 (0, 0)) := by rw [hw4]; exact heap_alloc3n _ _ _ _
      have HB4 : Hid (Below wr.heap.size wr w4) := by rw [hw4]; exact ((((Below.refl _ _).alloc (Nat.le_refl _) _).alloc (by simp) _).alloc (by simp; omega) _)
      have HZ4 : Hid (w4.heap.size = wr.heap.size + 3) := Lib.hid (by rw [hw4]; simp)
      have c11 : w4.cell? ⟨wr.heap.size + 2, 11, none⟩ = some (.slice (some ⟨wr.heap.size + 1, 0, none⟩) 2 2) := by rw [cell_of_row _ _ _ _ _ _ b3]; rfl
      have c3 : w4.cell? ⟨wr.heap.size + 1, 3, none⟩ = some (.int .i64 3) := by rw [cell_of_row _ _ _ _ _ _ b2]; rfl
      have f3 : w4.frozen? ⟨wr.heap.size + 1, 3, none⟩ = false := frozen_of_row _ _ _ _ _ b2
      have X1 := Lib.hid b1
      have X2 := Lib.hid b2
      have X3 := Lib.hid b3
      have hlt := (Array.getElem?_eq_some_iff.1 HC.out).1
      clear b1 b2 b3 hw4
      go_wp2_with fail
      refine calls_named fun W5 hW5 => ?_
      have HW5 : Hid (Below wr.heap.size wr W5 ∧ FeatsAt W5 wr.heap.size (wr.heap.size + 3) (.slice (some ⟨wr.heap.size + 2, 0, none⟩) 2 2) (pairN n) ∧ wr.heap.size + 3 ≤ W5.heap.size) := by
        rw [hW5]
        refine Lib.hid ⟨HB4.out.setCell (p := ⟨wr.heap.size + 1, 3, none⟩) (Nat.le_succ _) _, pair_at ?_ ?_ ?_, ?_⟩
        · rw [Below.heap_setCell _ _ _ _ (by simp)]; exact X1.out
        · exact heap_setCell_same _ _ _ _ _ _ X2.out
        · rw [Below.heap_setCell _ _ _ _ (by simp)]; exact X3.out
        · simp [World.setCell, HZ4.out]
      clear hW5 c11 c3 f3 X1 X2 X3 HB4 HZ4
      refine (New_c (.slice (some ⟨wr.heap.size + 2, 0, none⟩) 2 2) (pairN n) wr.heap.size (wr.heap.size + 3) W5 HW5.out.2.1 HW5.out.2.2 (pairN_wf HN.out) (by simp [pairN])).mono ?_
      intro rr w6 hres
      obtain ⟨q, rfl, hb6⟩ := new_shape hres
      have HB6 : Hid (Below wr.heap.size wr w6) := HW5.out.1.trans (hb6.mono HW5.out.1.size)
      have HF6 : Hid (FeatsAt w6 wr.heap.size (wr.heap.size + 3) (.slice (some ⟨wr.heap.size + 2, 0, none⟩) 2 2) (pairN n) ∧ wr.heap.size + 3 ≤ w6.heap.size) := Lib.hid ⟨HW5.out.2.1.move (Same.of_below (hb6.mono HW5.out.2.2)), Nat.le_trans HW5.out.2.2 hb6.size⟩
      have HRN := Lib.hid (RNew_c (.slice (some ⟨wr.heap.size + 2, 0, none⟩) 2 2) (pairN n) wr.heap.size (wr.heap.size + 3) w6 HF6.out.1 HF6.out.2 (pairN_wf HN.out) (by simp [pairN]))
      have HSH := Lib.hid fun e w' => rnew_shape (w := w6) (fs := pairN n) (e := e) (w' := w')
      generalize newE (pairN n) = E at *
      clear hres hb6 HW5 HF6
      go_wp2_with fail
      refine HRN.out.mono ?_
      intro rr w7 hres
      obtain ⟨ra, rn, rc, rfl, hb7⟩ := HSH.out _ _ hres
      have HB7 : Hid (Below wr.heap.size wr w7) := HB6.out.trans (hb7.mono HB6.out.size)
      clear hres hb7 HB6 HRN HSH
      go_wp2_with fail
      go_roundw
      case rel => exact ⟨j + 1, by omega, by go_num, ((HB7.out.alloc HB7.out.size _).block _ hlt).trans HC.out, below_step HB.out (HB7.out.alloc HB7.out.size _)⟩
      case measure => simp [intOf]; omega
    · obtain rfl : j = 4 := by omega
      obtain ⟨wA, rfl⟩ : ∃ wo : World, wo = wr := ⟨_, rfl⟩
      have HBA := HB
      clear hB hC HC HB
      go_wp2_with fail
      go_loopw [8, 9] (fun lv iv wr => ∃ (k : Nat) (pa : Option Addr) (pc : Nat), k ≤ 40 ∧ iv = .int .i64 (k : Int) ∧ lv = .slice pa k pc ∧ OwnFeats wr w.heap.size (.slice pa k pc) (dots k) ∧ Below w.heap.size w wr) (fun _ iv _ => 40 - (intOf iv).toNat)
      case atStart => exact ⟨0, none, 0, by omega, rfl, rfl, OwnFeats.nil _ _, HBA.out⟩
      case round =>
        obtain ⟨k, pa, pc, hk, rfl, rfl, hof, hB⟩ := hrel
        have HB := Lib.hid hB
        have hk0 : (0 : Int) ≤ k := by omega
        by_cases hkl : k < 40
        · have hk1 : (k : Int) < 40 := by omega
          obtain ⟨ws, hwl, hrow, hopt⟩ := hof
          have hwl' : ws.length = k := hwl.trans (dots_len k)
          rw [dots_len] at hrow
          have HR3 := Lib.hid hrow
          have HP3 := Lib.hid hopt
          have HWL := Lib.hid hwl
          have hsz := hB.size
          clear hwl hrow hopt hB
          go_wp2_with (at_builtin; go_loud (refine wpList_append_own _ rfl (.tmp 99) (.tmp 106) _ rfl w.heap.size 47 Tryz.t47 _ 6 64 rfl hI.out rfl rfl rfl rfl (by omega) (.slice pa k pc) k _ rfl ((HR3.out.alloc _).alloc _) ⟨wr.heap.size + 1, 0, none⟩ 1 1 (ftV (0, 0, (k : Int), 9, 0) (.slice (some ⟨wr.heap.size, 0, none⟩) 2 2)) rfl rfl (newCells2 _ _ _ _) (by simp [ftV, Value.oneCell']) (by simp only [maxLen]; omega) (by omega) (by simp; omega) ?_); intro v' w' hao hag hn)
          obtain ⟨ga, gc, rfl⟩ := own_shape hao
          have HF' := Lib.hid (OwnFeats.snoc (f := dotF k) HWL.out (fun i hi => ((HP3.out i hi).alloc _).alloc _) ((dot_opts wr HB.out.size).alloc _) ((HR3.out.alloc _).alloc _) hag (by rw [dots_len]; exact hao))
          have HB' := Lib.hid ((((HB.out.alloc hsz _).alloc (by simp; omega) _).grown hag (by simp; omega) (fun j hj => (HR3.out.lt j hj).1)))
          clear hao hag hn
          go_wp2_with fail
          go_roundw
          case rel => first | exact ⟨k + 1, ga, gc, by omega, by go_num, rfl, by rw [dots_succ]; exact HF'.out, HB'.out⟩ | ((repeat apply Exists.intro); exact ⟨⟨k + 1, ga, gc, by omega, rfl, rfl, by rw [dots_succ]; exact HF'.out, HB'.out⟩, rfl⟩)
          case measure => simp [intOf]; omega
        · obtain rfl : k = 40 := by omega
          obtain ⟨wB, rfl⟩ : ∃ wo : World, wo = wr := ⟨_, rfl⟩
          have HOF := Lib.hid hof
          have HBB := HB
          clear hof hB HB HBA
          go_wp2_with fail
          go_loopw [10] (fun vv wr => ∃ (v : Nat), v ≤ 2 ∧ vv = .int .i64 (v : Int) ∧ OwnFeats wr w.heap.size (.slice pa 40 pc) (dots 40) ∧ Below w.heap.size w wr) (fun vv _ => 2 - (intOf vv).toNat)
          case atStart => exact ⟨0, by omega, rfl, HOF.out, HBB.out⟩
          case round =>
            obtain ⟨v, hv, rfl, hof, hB⟩ := hrel
            obtain ⟨wo, rfl⟩ : ∃ wo : World, wo = wr := ⟨_, rfl⟩
            have HOF := Lib.hid hof
            have HBO := Lib.hid hB
            have hv0 : (0 : Int) ≤ v := by omega
            clear hof hB HBB
            by_cases hvl : v < 2
            · have hv1 : (v : Int) < 2 := by omega
              obtain ⟨fa, fc, vs, hfe, -, hfr, -⟩ := HOF.out.feats
              rw [dots_len] at hfe hfr
              simp only [Value.slice.injEq, true_and] at hfe
              obtain ⟨rfl, rfl⟩ := hfe
              obtain ⟨fb, off, rfl, -, hfb, hfcell⟩ := hfr (by omega)
              have HFB := Lib.hid hfb
              have HFC := Lib.hid hfcell
              clear hfr hfb hfcell
              go_wp2_with fail
              refine (New_c (.slice (some ⟨fb, off, none⟩) 40 pc) (dots 40) w.heap.size wo.heap.size wo HOF.out.feats (Nat.le_refl _) (dots_wf (by omega)) (by rw [dots_len]; omega)).mono ?_
              rintro rr w1 ⟨hb1, hres⟩
              obtain ⟨p, m, flo, fhi, vf, rfl, hses⟩ : ∃ p m flo fhi vf, rr = .returned (.tuple #[.pointer (some ⟨p, 0, none⟩), .int .i64 0]) ∧ SesAt w1 wo.heap.size p m flo fhi (.slice none 0 0) vf (dots 40) [] := by
                rcases hres with h | ⟨_, h⟩
                · exact absurd dots_new h.1
                · exact h
              have HB1 : Hid (Below wo.heap.size wo w1) := hb1
              have HS1 := Lib.hid hses
              clear hb1 hres hses
              go_wp2_with fail
              refine (RNew_c (.slice (some ⟨fb, off, none⟩) 40 pc) (dots 40) w.heap.size wo.heap.size w1 (HOF.out.feats.move (Same.of_below HB1.out)) HB1.out.size (dots_wf (by omega)) (by rw [dots_len]; omega)).mono ?_
              rintro rr w2 ⟨hb2, hr2⟩
              obtain ⟨tf, rfl, hoft⟩ : ∃ vf, rr = .returned (.tuple #[.agg #[vf, .slice none 0 0], .int .i64 0]) ∧ OwnFeats w2 w1.heap.size vf (dots 40) := by
                rcases hr2 with h | ⟨_, vf, e, h⟩
                · exact absurd dots_new h.1
                · exact ⟨vf, e, h⟩
              obtain ⟨oa, oc, rfl⟩ : ∃ oa oc, tf = .slice oa 40 oc := by
                obtain ⟨vs, h1, h2, h3⟩ := hoft
                rw [dots_len] at h2
                exact own_shape h2
              have HM2 : Hid (MkR wo.heap.size wo (w2.alloc (.cells #[.slice oa 40 oc, .slice none 0 0] 52)) p m flo fhi w1.heap.size w2.heap.size w2.heap.size (.slice none 0 0) vf (.slice oa 40 oc) (.slice none 0 0) (dots 40) (dotAs (v : Int) 0)) := by
                have hba : Below w2.heap.size w2 (w2.alloc (.cells #[.slice oa 40 oc, .slice none 0 0] 52)) := (Below.refl _ _).alloc (Nat.le_refl _) _
                have hs4 := HS1.out.below hb2
                have g1 : p < w1.heap.size := (Array.getElem?_eq_some_iff.1 HS1.out.cells).1
                have g2 : m < w1.heap.size := HS1.out.map.lt
                have g3 := HS1.out.hf
                have g4 := hb2.size
                have g5 := HB1.out.size
                have g6 := hba.size
                exact ⟨hs4.below hba, heap_alloc_new _ _, .inl ⟨rfl, rfl⟩, hoft.feats.move (Same.of_below hba), fun g hg => (by cases hg), by omega, by omega, by omega, by omega, by omega, hba.size, by omega, by omega, below_step (below_step HB1.out hb2) hba, by omega⟩
              clear hr2 hb2 hoft HS1 HB1
              go_wp2_with fail
              go_loopw [15] (fun iv wr => ∃ (k : Nat) (va ta : Value), k ≤ 40 ∧ iv = .int .i64 (k : Int) ∧ MkR wo.heap.size wo wr p m flo fhi w1.heap.size w2.heap.size w2.heap.size va vf (.slice oa 40 oc) ta (dots 40) (dotAs (v : Int) k) ∧ CapIn ta) (fun iv _ => 40 - (intOf iv).toNat)
              case atStart => exact ⟨0, _, _, by omega, rfl, HM2.out, ⟨none, 0, 0, rfl, Nat.le_refl _⟩⟩
              case round =>
                obtain ⟨k, va, ta, hk, rfl, hM, hcap⟩ := hrel
                have HM := Lib.hid hM
                obtain ⟨ya, yc, rfl⟩ := hM.ref.shape
                have HCAP : Hid (k ≤ yc) := by
                  obtain ⟨a, n', c, e, hl⟩ := hcap
                  rw [dotAs_len] at e
                  simp only [Value.slice.injEq] at e
                  obtain ⟨-, e1, e2⟩ := e
                  show k ≤ yc
                  omega
                rw [dotAs_len] at HM
                have hk0 : (0 : Int) ≤ k := by omega
                clear hM hcap HM2
                by_cases hkl : k < 40
                · have hk1 : (k : Int) < 40 := by omega
                  have hcw : ∀ j u, (ftV (0, 0, (k : Int), 9, 0) (vs k))[j]? = some u → wr.cell? ⟨fb, off + k * 6 + j, none⟩ = some u := fun j u hu => (HM.out.bel.cell (p := ⟨fb, off + k * 6 + j, none⟩) HFB.out).trans (HFC.out k hkl j u (by rw [dots_at hkl]; exact hu))
                  have c0 := hcw 0 _ rfl
                  have c1 := hcw 1 _ rfl
                  have c2 := hcw 2 _ rfl
                  have c3 := hcw 3 _ rfl
                  have c4 := hcw 4 _ rfl
                  simp only [Nat.add_zero] at c0
                  have HDO := Lib.hid (dot_do hvl hkl)
                  have HDA := Lib.hid (dot_doA hvl hkl)
                  have HDT := Lib.hid (dot_acted hvl (k + 1) (by omega))
                  have HDW := Lib.hid (dot_wf hvl (k := k + 1) (by omega))
                  have HWP : Hid (wfP (0, 0, (k : Int), 9, 0)) := (dotA_wf hvl hk).2.1
                  clear hcw
                  go_wp2_with fail
                  refine calls_named fun W3 hW3 => ?_
                  have hB3 : Below wr.heap.size wr W3 := by rw [hW3]; go_grown
                  have hA3 : W3.heap[wr.heap.size]? = some (.cells #[.int .i64 1, .int .i64 0, .int .i64 0, .int .i64 (k : Int), .int .i64 9, .int .i64 0, .int .i64 (v : Int)] 56 (0, 0)) := by rw [hW3]; exact heap_alloc_new _ _
                  have HB3 := Lib.hid hB3
                  have HA3 := Lib.hid hA3
                  clear hW3 hB3 hA3 c0 c1 c2 c3 c4
                  refine (own_c _ _ _ _ _ _ _ _).mono ?_
                  rintro rr w4 ⟨rfl, hb4⟩
                  have HB4 : Hid (Below wr.heap.size wr w4) := below_step HB3.out hb4
                  have HA4 := Lib.hid ((hb4.block _ (Array.getElem?_eq_some_iff.1 HA3.out).1).trans HA3.out)
                  have HM4 := Lib.hid (HM.out.below HB4.out)
                  clear hb4 HA3 HB3
                  go_wp2_with fail
                  refine (Do_c wo.heap.size p m flo fhi va vf (dots 40) (dotAs (v : Int) k) 1 0 0 (k : Int) 9 0 (v : Int) w4 HM4.out.ses HM4.out.le (dots_wf (by omega)) HWP.out (by rw [dotAs_len]; omega) (by rw [dots_len]; omega)).mono ?_
                  rintro rr w5 ⟨rfl, va', hs5, ht5⟩
                  rw [show doE (dots 40) (dotAs (v : Int) k) (1, (0, 0, (k : Int), 9, 0), (v : Int)) = 0 from HDO.out]
                  have HJ := Lib.hid (HM4.out.turn hs5 ht5)
                  have HA5 : Hid (w5.heap[wr.heap.size]? = some (.cells #[.int .i64 1, .int .i64 0, .int .i64 0, .int .i64 (k : Int), .int .i64 9, .int .i64 0, .int .i64 (v : Int)] 56 (0, 0))) := (ht5.block _ (Array.getElem?_eq_some_iff.1 HA4.out).1 (fun e => by have := HM.out.ltp; omega) (fun e => by have := (HM.out.ownlo _ e.symm).2; omega)).trans HA4.out
                  clear hs5 ht5 HA4 HB4
                  obtain ⟨t0, t1, tf0, tf1⟩ := sesBlock HJ.out.box
                  have d0 : w5.cell? ⟨wr.heap.size, 0, none⟩ = some (.int .i64 1) := by rw [cell_of_row _ _ _ _ _ _ HA5.out]; rfl
                  have d1 : w5.cell? ⟨wr.heap.size, 1, none⟩ = some (.int .i64 0) := by rw [cell_of_row _ _ _ _ _ _ HA5.out]; rfl
                  have d2 : w5.cell? ⟨wr.heap.size, 2, none⟩ = some (.int .i64 0) := by rw [cell_of_row _ _ _ _ _ _ HA5.out]; rfl
                  have d3 : w5.cell? ⟨wr.heap.size, 3, none⟩ = some (.int .i64 (k : Int)) := by rw [cell_of_row _ _ _ _ _ _ HA5.out]; rfl
                  have d4 : w5.cell? ⟨wr.heap.size, 4, none⟩ = some (.int .i64 9) := by rw [cell_of_row _ _ _ _ _ _ HA5.out]; rfl
                  have d5 : w5.cell? ⟨wr.heap.size, 5, none⟩ = some (.int .i64 0) := by rw [cell_of_row _ _ _ _ _ _ HA5.out]; rfl
                  have d6 : w5.cell? ⟨wr.heap.size, 6, none⟩ = some (.int .i64 (v : Int)) := by rw [cell_of_row _ _ _ _ _ _ HA5.out]; rfl
                  have HRA := HJ.out.ref.at
                  have HRD := Lib.hid (rDoS_c (.slice oa 40 oc) (.slice ya k yc) (dots 40) (dotAs (v : Int) k) 0 w1.heap.size w2.heap.size 1 0 0 (k : Int) 9 0 (v : Int) w5 HJ.out.tfs HJ.out.th HRA (Nat.zero_le _) (dots_wf (by omega)) (by rw [dotAs_len]; omega) (by rw [dots_len]; omega))
                  clear HRA
                  go_wp2_with fail
                  refine HRD.out.mono ?_
                  rintro rr w6 ⟨ta', rfl, hok, -, hb6⟩
                  obtain ⟨hta, hca⟩ := hok HDO.out
                  rw [show doA (dots 40) (dotAs (v : Int) k) (1, (0, 0, (k : Int), 9, 0), (v : Int)) = dotAs (v : Int) (k + 1) from HDA.out] at hta
                  rw [show doE (dots 40) (dotAs (v : Int) k) (1, (0, 0, (k : Int), 9, 0), (v : Int)) = 0 from HDO.out]
                  obtain ⟨za, zc, rfl⟩ : ∃ za zc, ta' = .slice za (k + 1) zc := by
                    obtain ⟨a, c, e, -⟩ := hta
                    rw [dotAs_len] at e
                    exact ⟨a, c, e⟩
                  have HTA := Lib.hid hta
                  have HCA := Lib.hid hca
                  have HB6 : Hid (Below w5.heap.size w5 w6) := hb6
                  have HX6 := Lib.hid ((hb6.block _ (Array.getElem?_eq_some_iff.1 HJ.out.box).1).trans HJ.out.box)
                  obtain ⟨z0, z1, zf0, zf1⟩ := sesBlock HX6.out
                  clear hok hta hca hb6 t0 t1 tf0 tf1 d0 d1 d2 d3 d4 d5 d6 HRD
                  go_wp2_with fail
                  refine calls_named fun W7 hW7 => ?_
                  have hk7 : Kg w5 (some w2.heap.size) W7 := by rw [hW7]; exact (((Kg.refl w5 _).call HB6.out).setCell _ _).setCell _ _
                  have hx7 : W7.heap[w2.heap.size]? = some (.cells #[.slice oa 40 oc, .slice za (k + 1) zc] 52 (0, 0)) := by rw [hW7]; exact set_two HX6.out
                  have hl9 : w2.heap.size < w5.heap.size := (Array.getElem?_eq_some_iff.1 HJ.out.box).1
                  have hp5 : p < w5.heap.size := (Array.getElem?_eq_some_iff.1 HJ.out.ses.cells).1
                  have hs7 : Same w5.heap.size w6.heap.size w6 W7 := fun b b1 b2 => by rw [hW7]; exact (Below.heap_setCell _ ⟨w2.heap.size, 1, none⟩ _ b (by dsimp only; omega)).trans (Below.heap_setCell _ ⟨w2.heap.size, 0, none⟩ _ b (by dsimp only; omega))
                  have hz7 : w6.heap.size ≤ W7.heap.size := by rw [hW7]; simp [World.setCell]
                  have hr7 : ActsIn W7 (.slice za (k + 1) zc) (dotAs (v : Int) (k + 1)) (fun b => b < wo.heap.size ∨ b = p ∨ b = w2.heap.size ∨ va'.ownBlock = some b) := by
                    refine ActsIn.of_at (HTA.out.move hs7) hz7 (by rw [dotAs_succ]; simp) (fun b b1 b2 hP => ?_)
                    have h1 := HJ.out.le
                    rcases hP with e | e | e | e
                    · omega
                    · omega
                    · omega
                    · have := (HJ.out.ses.acts.lt b e).2; omega
                  have HJ' : Hid (MkT wo.heap.size wo w5 p m flo fhi w1.heap.size w2.heap.size w2.heap.size va' vf (.slice oa 40 oc) (.slice ya k yc) (dots 40) (dotAs (v : Int) k) (dotAs (v : Int) (k + 1))) := by
                    have := HJ.out
                    rwa [show doA (dots 40) (dotAs (v : Int) k) (1, (0, 0, (k : Int), 9, 0), (v : Int)) = dotAs (v : Int) (k + 1) from HDA.out] at this
                  have HM7 := Lib.hid (HM4.out.next HJ'.out hk7 hx7 hr7)
                  clear hW7 hk7 hx7 hl9 hp5 hs7 hz7 hr7 z0 z1 zf0 zf1 HJ HJ' HM4 HTA HB6 HX6 HA5
                  have hwt := Weights_c wo.heap.size p m flo fhi va' vf (dots 40) (dotAs (v : Int) (k + 1)) W7 HM7.out.ses (good_of_newE dots_new) HDT.out (dots_wf (by omega)) HDW.out
                  have hrw := fun W (hb : Below W7.heap.size W7 W) => rWeights_c (.slice oa 40 oc) (.slice za (k + 1) zc) (dots 40) (dotAs (v : Int) (k + 1)) w1.heap.size w2.heap.size 0 W7.heap.size W (HM7.out.tfs.move (Same.of_below (hb.mono HM7.out.th))) (Nat.le_trans HM7.out.th hb.size) (HM7.out.ref.at.move (Same.of_below hb)) hb.size (good_of_newE dots_new) (dots_wf (by omega)) (by rw [dotAs_len]; omega)
                  have hrw1 : (rowW (weight (dots 40) (dotAs (v : Int) (k + 1)))).size = 17 := rowW_size _
                  have hone := rowW_one (weight (dots 40) (dotAs (v : Int) (k + 1)))
                  have hi : (Tryz.prog.info? 64).map (·.size) = some (rowW (weight (dots 40) (dotAs (v : Int) (k + 1)))).size := by rw [hrw1]; exact infoW
                  have hold : 17 = (rowW (weight (dots 40) (dotAs (v : Int) (k + 1)))).size := hrw1.symm
                  have heq : ∀ w, (Op.equalIn 10000 63 (.agg (rowW (weight (dots 40) (dotAs (v : Int) (k + 1))))) (.agg (rowW (weight (dots 40) (dotAs (v : Int) (k + 1)))))).run Tryz.prog w = .ok true w := fun w => ein_row _ w
                  obtain ⟨row, hrow⟩ : ∃ r, rowW (weight (dots 40) (dotAs (v : Int) (k + 1))) = r := ⟨_, rfl⟩
                  rw [hrow] at hwt hrw hone hi hold heq
                  have HWT := Lib.hid hwt
                  have HRW := Lib.hid hrw
                  have X3 := Lib.hid hi
                  have X4 := Lib.hid hold
                  have X5 := Lib.hid hone
                  have X6 := Lib.hid heq
                  clear hone hi hold heq hrow hrw1 hwt hrw
                  refine HWT.out.mono ?_
                  rintro rr w8 ⟨rfl, hb8⟩
                  have HB8 : Hid (Below W7.heap.size W7 w8) := hb8
                  clear hb8 HWT
                  go_wp2_with (refine wpList_store_row rfl 64 (.tmp 17) (.tmp 152) rfl w8.heap.size row rfl rfl 64 _ (heap_alloc_new w8 _) X3.out X4.out X5.out ?_)
                  refine wp_named fun W9 hW9 => ?_
                  have hB89 : Below w8.heap.size w8 W9 := by rw [hW9]; exact below_setRowW ((Below.refl _ _).alloc (Nat.le_refl _) _) (Nat.le_refl _)
                  have HR9 : Hid (W9.heap[w8.heap.size]? = some (.cells row 64 (0, 0))) := by rw [hW9]; exact Lib.hid (setRow_heap _ _ _ _ _ _ (heap_alloc_new _ _))
                  have HB9 : Hid (Below W7.heap.size W7 W9) := below_step HB8.out hB89
                  have y9 : w8.heap.size < W9.heap.size := (Array.getElem?_eq_some_iff.1 HR9.out).1
                  have hbx := HM7.out.box
                  have hbl := (Array.getElem?_eq_some_iff.1 hbx).1
                  have hbl9 := Nat.lt_of_lt_of_le hbl HB9.out.size
                  obtain ⟨s0, s1, -, -⟩ := sesBlock ((HB9.out.block _ hbl).trans hbx)
                  have HSC : Hid (∀ w', Bw W9 w' → (w'.cell? ⟨w2.heap.size, 0, none⟩ = some (.slice oa 40 oc) ∧ w'.cell? ⟨w2.heap.size, 1, none⟩ = some (.slice za (k + 1) zc) ∧ Bw W9 w')) := fun w' hb => ⟨(hb.cell (p := ⟨w2.heap.size, 0, none⟩) hbl9).trans s0, (hb.cell (p := ⟨w2.heap.size, 1, none⟩) hbl9).trans s1, hb⟩
                  have heq := X6.out
                  clear hW9 hB89 s0 s1 hbx hbl hbl9
                  refine wp_region_noPanic ?_
                  refine wp_region_held_drew (S := fun w' => w'.cell? ⟨w2.heap.size, 0, none⟩ = some (.slice oa 40 oc) ∧ w'.cell? ⟨w2.heap.size, 1, none⟩ = some (.slice za (k + 1) zc) ∧ Bw W9 w') (by kernel_rfl) (HSC.out _ (Bw.drew _)) (fun hHeld => ?_)
                  refine wpAnyH_take (i := 0) (v := ?v1) (arr_at rfl) (by kernel_rfl) (by kernel_rfl) (by kernel_rfl) (fun _ _ _ h => h) (Or.inl ⟨by rfl, ?hy1⟩) (by assumption) ?_
                  case hy1 => (intro w hSw; (try dsimp only at hSw); go_simp <;> with_reducible rfl)
                  try simp only [Act.put, List.setIfInBounds_toArray, List.set_cons_zero, List.set_cons_succ]
                  refine wpAnyH_take (i := 1) (v := ?v2) (arr_at rfl) (by kernel_rfl) (by kernel_rfl) (by kernel_rfl) (fun _ _ _ h => h) (Or.inl ⟨by rfl, ?hy2⟩) (by assumption) ?_
                  case hy2 => (intro w hSw; (try dsimp only at hSw); go_simp <;> with_reducible rfl)
                  try simp only [Act.put, List.setIfInBounds_toArray, List.set_cons_zero, List.set_cons_succ]
                  refine wpAnyH_take (i := 2) (v := ?v3) (arr_at rfl) (by kernel_rfl) (by kernel_rfl) (by kernel_rfl) (fun _ _ _ h => h) (Or.inl ⟨by rfl, ?hy3⟩) (by assumption) ?_
                  case hy3 => (intro w hSw; (try dsimp only at hSw); go_simp <;> with_reducible rfl)
                  try simp only [Act.put, List.setIfInBounds_toArray, List.set_cons_zero, List.set_cons_succ]
                  refine wpAnyH_take (i := 3) (v := ?v4) (arr_at rfl) (by kernel_rfl) (by kernel_rfl) (by kernel_rfl) (fun _ _ _ h => h) (Or.inl ⟨by rfl, ?hy4⟩) (by assumption) ?_
                  case hy4 => (intro w hSw; (try dsimp only at hSw); go_simp <;> with_reducible rfl)
                  try simp only [Act.put, List.setIfInBounds_toArray, List.set_cons_zero, List.set_cons_succ]
                  refine wpAnyH_take (i := 4) (v := ?v5) (arr_at rfl) (by kernel_rfl) (by kernel_rfl) (by kernel_rfl) (fun _ _ _ h => h) (Or.inl ⟨by rfl, ?hy5⟩) (by assumption) ?_
                  case hy5 => (intro w hSw; (try dsimp only at hSw); go_simp <;> with_reducible rfl)
                  try simp only [Act.put, List.setIfInBounds_toArray, List.set_cons_zero, List.set_cons_succ]
                  refine wpAnyH_take (i := 5) (v := ?v6) (arr_at rfl) (by kernel_rfl) (by kernel_rfl) (by kernel_rfl) (fun _ _ _ h => h) (Or.inl ⟨by rfl, ?hy6⟩) (by assumption) ?_
                  case hy6 => (intro w hSw; (try dsimp only at hSw); go_simp <;> with_reducible rfl)
                  try simp only [Act.put, List.setIfInBounds_toArray, List.set_cons_zero, List.set_cons_succ]
                  refine wpAnyH_take (i := 6) (v := ?v7) (arr_at rfl) (by kernel_rfl) (by kernel_rfl) (by kernel_rfl) (fun _ _ _ h => h) (Or.inl ⟨by rfl, ?hy7⟩) (by assumption) ?_
                  case hy7 => (intro w hSw; (try dsimp only at hSw); go_simp <;> with_reducible rfl)
                  try simp only [Act.put, List.setIfInBounds_toArray, List.set_cons_zero, List.set_cons_succ]
                  refine wpAnyH_take (i := 7) (v := (.agg row)) (arr_at rfl) (by kernel_rfl) (by kernel_rfl) (by kernel_rfl) (fun _ _ _ h => h) (Or.inl ⟨by rfl, ?hy8⟩) (by assumption) ?_
                  case hy8 => (intro w hSw; exact exec_load_row 64 (.tmp 17) (by rfl) w8.heap.size (by rfl) 64 row (0, 0) _ ((hSw.2.2.block _ y9).trans HR9.out) Tryz.underlying64 rfl X3.out)
                  try simp only [Act.put, List.setIfInBounds_toArray, List.set_cons_zero, List.set_cons_succ]
                  refine wpAnyH_take (i := 8) (v := ?v9) (arr_at rfl) (by kernel_rfl) (by kernel_rfl) (by kernel_rfl) (fun _ _ _ h => h) (Or.inl ⟨by rfl, ?hy9⟩) (by assumption) ?_
                  case hy9 => (intro w hSw; (try dsimp only at hSw); go_simp <;> with_reducible rfl)
                  try simp only [Act.put, List.setIfInBounds_toArray, List.set_cons_zero, List.set_cons_succ]
                  refine wpAnyH_ready (rs := [9]) (by kernel_rfl) (by simp) ?_
                  refine AllReadyH.cons (arr_at rfl) (fun K hK => ?_) ?_
                  · go_simp; refine (HRW.out _ (below_step HB9.out (Bw.drew _))).mono ?_; rintro rr w10 ⟨rfl, hb10⟩; have HB10 : Hid (Bw W9 w10) := below_step (Bw.drew _) hb10; clear hb10
                    refine hK.out _ _ ?_ (fun hHeld => ?_)
                    · exact HSC.out _ HB10.out
                    clear hK K
                    try simp only [Act.put, List.setIfInBounds_toArray, List.set_cons_zero, List.set_cons_succ]
                    refine wpAnyH_take (i := 10) (v := ?v10) (arr_at rfl) (by kernel_rfl) (by kernel_rfl) (by kernel_rfl) (fun _ _ _ h => h) (Or.inl ⟨by rfl, ?hy10⟩) (by assumption) ?_
                    case hy10 => (intro w hSw; (try dsimp only at hSw); go_simp <;> with_reducible rfl)
                    try simp only [Act.put, List.setIfInBounds_toArray, List.set_cons_zero, List.set_cons_succ]
                    refine wpAnyH_take (i := 11) (v := ?v11) (arr_at rfl) (by kernel_rfl) (by kernel_rfl) (by kernel_rfl) (fun _ _ _ h => h) (Or.inl ⟨by rfl, ?hy11⟩) (by assumption) ?_
                    case hy11 => (intro w hSw; (try dsimp only at hSw); go_simp <;> with_reducible rfl)
                    try simp only [Act.put, List.setIfInBounds_toArray, List.set_cons_zero, List.set_cons_succ]
                    refine wpAnyH_done (by kernel_rfl) ?_ _
                    refine NoPanic.normal ?_
                    have HMK := Lib.hid (HM7.out.below (below_step HB9.out HB10.out))
                    go_wp2
                    go_roundw
                    case rel => exact ⟨k + 1, _, _, by omega, by go_num, HMK.out, HCA.out⟩
                    case measure => simp [intOf]; omega
                  exact AllReadyH.nil
                · obtain rfl : k = 40 := by omega
                  have HM' := HM
                  clear HM
                  go_wp2_with fail
                  go_roundw
                  case rel => first | exact ⟨v + 1, by omega, by go_num, HOF.out.below HM'.out.bel, below_step HBO.out HM'.out.bel⟩ | ((repeat apply Exists.intro); exact ⟨⟨v + 1, by omega, rfl, HOF.out.below HM'.out.bel, below_step HBO.out HM'.out.bel⟩, rfl⟩)
                  case measure => simp [intOf]; omega
            · obtain rfl : v = 2 := by omega
              clear HOF
              go_wp2_with fail
              refine (pair_c _).mono ?_
              rintro rr w1 ⟨⟨b, rfl, hP⟩, hb1⟩
              have HB1 : Hid (Below w.heap.size w w1) := below_step HBO.out hb1
              have HP1 := Lib.hid hP
              clear hb1 hP
              go_wp2_with fail
              refine (New_c (.slice (some ⟨b, 0, none⟩) 2 2) pairL wo.heap.size w1.heap.size w1 HP1.out (Nat.le_refl _) pair_wf (by decide)).mono ?_
              rintro rr w2 ⟨hb2, hres⟩
              obtain ⟨p, m, flo, fhi, vf, rfl, hses⟩ : ∃ p m flo fhi vf, rr = .returned (.tuple #[.pointer (some ⟨p, 0, none⟩), .int .i64 0]) ∧ SesAt w2 w1.heap.size p m flo fhi (.slice none 0 0) vf pairL [] := by
                rcases hres with h | ⟨_, h⟩
                · exact absurd aw_new h.1
                · exact h
              have HS2 := Lib.hid hses
              have HB2 : Hid (Below w1.heap.size w1 w2) := hb2
              have HPL : Hid (w1.heap.size ≤ p) := hses.lp
              have HPH : Hid (p < w2.heap.size) := (Array.getElem?_eq_some_iff.1 hses.cells).1
              clear hb2 hres hses HP1 HBO
              go_wp2_with fail
              refine (pair_c _).mono ?_
              rintro rr w3 ⟨⟨b', rfl, hP⟩, hb3⟩
              have HB3 : Hid (Below w1.heap.size w1 w3) := below_step HB2.out hb3
              have HS3 := Lib.hid (HS2.out.below hb3)
              have HZ3 : Hid (w2.heap.size ≤ w3.heap.size) := Lib.hid hb3.size
              obtain ⟨pa, pc, pvs, he, -, hr, -⟩ := hP
              simp only [Value.slice.injEq] at he
              obtain ⟨rfl, -, rfl⟩ := he
              obtain ⟨b2, off, e2, -, -, hc⟩ := hr (by decide)
              simp only [Option.some.injEq, Addr.mk.injEq, and_true] at e2
              obtain ⟨rfl, rfl⟩ := e2
              have c0 : w3.cell? ⟨b', 0, none⟩ = some (.int .i64 0) := hc 0 (by decide) 0 _ rfl
              have c1 : w3.cell? ⟨b', 1, none⟩ = some (.int .i64 0) := hc 0 (by decide) 1 _ rfl
              have c2 : w3.cell? ⟨b', 2, none⟩ = some (.int .i64 3) := hc 0 (by decide) 2 _ rfl
              have c3 : w3.cell? ⟨b', 3, none⟩ = some (.int .i64 7) := hc 0 (by decide) 3 _ rfl
              have c4 : w3.cell? ⟨b', 4, none⟩ = some (.int .i64 4) := hc 0 (by decide) 4 _ rfl
              clear hb3 hr hc HS2 HB2
              go_wp2_with fail
              go_loopw [22] (fun iv wr => ∃ (j : Nat) (va : Value), j ≤ 4096 ∧ iv = .int .i64 (j : Int) ∧ SesAt wr w1.heap.size p m flo fhi va vf pairL (List.replicate j actB) ∧ wr.heap[w3.heap.size]? = some (.cells actCells 60 (0, 0)) ∧ (∀ g, va.ownBlock = some g → g ≠ w3.heap.size) ∧ Below w1.heap.size w1 wr) (fun iv _ => 4096 - (intOf iv).toNat)
              case atStart => exact ⟨0, _, by omega, rfl, HS3.out.below ((Below.refl _ _).alloc (Nat.le_refl _) _), heap_alloc_new _ _, fun g hg => (by cases hg), HB3.out.alloc HB3.out.size _⟩
              case round =>
                obtain ⟨j, va, hj, rfl, hses, hA, hown, hB⟩ := hrel
                obtain ⟨wL, rfl⟩ : ∃ wo : World, wo = wr := ⟨_, rfl⟩
                have HS := Lib.hid hses
                have HA := Lib.hid hA
                have HOWN := Lib.hid hown
                have HB := Lib.hid hB
                have hj0 : (0 : Int) ≤ j := by omega
                have d0 : wL.cell? ⟨w3.heap.size, 0, none⟩ = some (.int .i64 2) := by rw [cell_of_row _ _ _ _ _ _ hA]; rfl
                have d1 : wL.cell? ⟨w3.heap.size, 1, none⟩ = some (.int .i64 0) := by rw [cell_of_row _ _ _ _ _ _ hA]; rfl
                have d2 : wL.cell? ⟨w3.heap.size, 2, none⟩ = some (.int .i64 0) := by rw [cell_of_row _ _ _ _ _ _ hA]; rfl
                have d3 : wL.cell? ⟨w3.heap.size, 3, none⟩ = some (.int .i64 3) := by rw [cell_of_row _ _ _ _ _ _ hA]; rfl
                have d4 : wL.cell? ⟨w3.heap.size, 4, none⟩ = some (.int .i64 7) := by rw [cell_of_row _ _ _ _ _ _ hA]; rfl
                have d5 : wL.cell? ⟨w3.heap.size, 5, none⟩ = some (.int .i64 4) := by rw [cell_of_row _ _ _ _ _ _ hA]; rfl
                have d6 : wL.cell? ⟨w3.heap.size, 6, none⟩ = some (.int .i64 9) := by rw [cell_of_row _ _ _ _ _ _ hA]; rfl
                clear hses hA hown hB HS3 HB3
                by_cases hjl : j < 4096
                · have hj1 : (j : Int) < 4096 := by omega
                  go_wp2_with fail
                  refine (Do_c w1.heap.size p m flo fhi va vf pairL (List.replicate j actB) 2 0 0 3 7 4 9 wL HS.out HB.out.size pair_wf (wfA_C 9 (i64_dec (by decide))).2.1 (by simp; omega) (by decide)).mono ?_
                  rintro rr w4 ⟨rfl, va', hs4, ht4⟩
                  rw [show doE pairL (List.replicate j actB) (2, (0, 0, 3, 7, 4), 9) = 0 from (doE_C 9 _).trans (if_neg (by simp; omega))]
                  rw [show doA pairL (List.replicate j actB) (2, (0, 0, 3, 7, 4), 9) = List.replicate (j + 1) actB from doA_C 9 hjl] at hs4
                  have HS4 := Lib.hid hs4
                  have HA4 := Lib.hid ((ht4.block _ (Array.getElem?_eq_some_iff.1 HA.out).1 (fun e => by have := HPH.out; have := HZ3.out; omega) (fun e => HOWN.out _ e.symm rfl)).trans HA.out)
                  have HO4 : Hid (∀ g, va'.ownBlock = some g → g ≠ w3.heap.size) := fun g hg => by
                    rcases ht4.new g hg with e | e
                    · exact HOWN.out g e
                    · have := (Array.getElem?_eq_some_iff.1 HA.out).1
                      omega
                  have HB4 : Hid (Below w1.heap.size w1 w4) := HB.out.trans (ht4.below HB.out.size HPL.out (fun g hg => (HS.out.acts.lt g hg).1))
                  clear hs4 ht4 d0 d1 d2 d3 d4 d5 d6
                  go_wp2_with fail
                  go_roundw
                  case rel => exact ⟨j + 1, va', by omega, by go_num, HS4.out, HA4.out, HO4.out, HB4.out⟩
                  case measure => simp [intOf]; omega
                · obtain rfl : j = 4096 := by omega
                  clear d0 d1 d2 d3 d4 d5 d6
                  have HHI : Hid (w3.heap.size < wL.heap.size) := (Array.getElem?_eq_some_iff.1 HA.out).1
                  have HPW : Hid (p < wL.heap.size) := (Array.getElem?_eq_some_iff.1 HS.out.cells).1
                  go_wp2_with fail
                  refine (Log_c w1.heap.size p m flo fhi va vf pairL (List.replicate 4096 actB) wL HS.out (by simp)).mono ?_
                  rintro rr w4 ⟨⟨lv, rfl, hlog⟩, hb4⟩
                  rw [List.length_replicate] at hlog
                  obtain ⟨g, lc, rfl, hg1, hg2⟩ := hlog.form (by omega)
                  have HL4 := Lib.hid hlog
                  have HG1 : Hid (wL.heap.size ≤ g) := Lib.hid hg1
                  have HB4 : Hid (Below wL.heap.size wL w4) := hb4
                  clear hlog hg1 hg2 hb4
                  obtain ⟨TX, hTX⟩ : ∃ t, formatG (List.replicate 4096 actB) = t := ⟨_, rfl⟩
                  have HFT : Hid (formO (List.replicate 4096 actB) = (TX, 0)) := by rw [← hTX]; exact Lib.hid formO_rep
                  have HLT : Hid (TX.length = 86016) := by rw [← hTX]; exact Lib.hid (format_rep 4096)
                  have HP0 : Hid (parseO TX = (List.replicate 4096 actB, 0, 0)) := by rw [← hTX]; exact Lib.hid parse_rep
                  have HP1 : Hid (parseO (TX ++ lineG actB) = ([], 4096, 4)) := by rw [← hTX]; exact Lib.hid parse_rep_more
                  have HP2 : Hid (parseO (TX ++ (wordC ++ [10])) = ([], 4096, 5)) := by rw [← hTX]; exact Lib.hid parse_rep_bad
                  clear hTX
                  have HBW : Hid (∀ W, Below wL.heap.size wL W → Below w.heap.size w W) := fun W hb => (HB1.out.trans (HB.out.mono HB1.out.size)).trans (hb.mono (Nat.le_trans HB1.out.size HB.out.size))
                  go_wp2_with fail
                  refine (FormatA_c (.slice (some ⟨g, 0, none⟩) 4096 lc) (List.replicate 4096 actB) wL.heap.size w4.heap.size w4 (rep_acts HL4.out) (Nat.le_refl _) (wfAs_rep _) (by simp) (HE.out _ (HBW.out _ HB4.out))).mono ?_
                  rw [HFT.out]
                  rintro rr w5 ⟨rfl, hb5⟩
                  have HB5 : Hid (Below wL.heap.size wL w5) := below_step HB4.out hb5
                  have HL5 := Lib.hid (own_below HL4.out hb5)
                  have hA5 := (HB5.out.block _ HHI.out).trans HA.out
                  have d0 : w5.cell? ⟨w3.heap.size, 0, none⟩ = some (.int .i64 2) := by rw [cell_of_row _ _ _ _ _ _ hA5]; rfl
                  have d1 : w5.cell? ⟨w3.heap.size, 1, none⟩ = some (.int .i64 0) := by rw [cell_of_row _ _ _ _ _ _ hA5]; rfl
                  have d2 : w5.cell? ⟨w3.heap.size, 2, none⟩ = some (.int .i64 0) := by rw [cell_of_row _ _ _ _ _ _ hA5]; rfl
                  have d3 : w5.cell? ⟨w3.heap.size, 3, none⟩ = some (.int .i64 3) := by rw [cell_of_row _ _ _ _ _ _ hA5]; rfl
                  have d4 : w5.cell? ⟨w3.heap.size, 4, none⟩ = some (.int .i64 7) := by rw [cell_of_row _ _ _ _ _ _ hA5]; rfl
                  have d5 : w5.cell? ⟨w3.heap.size, 5, none⟩ = some (.int .i64 4) := by rw [cell_of_row _ _ _ _ _ _ hA5]; rfl
                  have d6 : w5.cell? ⟨w3.heap.size, 6, none⟩ = some (.int .i64 9) := by rw [cell_of_row _ _ _ _ _ _ hA5]; rfl
                  have hIA := Lib.hid infoSAct
                  clear hb5 hA5 HL4 HB4
                  go_wp2_with (at_builtin; go_loud (refine wpList_append_keeps rfl (.tmp 201) (.tmp 203) 27 rfl wL.heap.size 60 Tryz.t60 _ _ rfl hIA.out rfl rfl rfl (by decide) g lc 4096 _ rfl (HL5.out.alloc _) ⟨w5.heap.size, 0, none⟩ 1 1 (acV (actC 9)) rfl (by rfl) (newCells _ _ _) (by simp [acV, Value.oneCell']) (by decide) (by simp only [maxLen]; omega) (by decide) (by simp; have := HB5.out.size; omega) ?_); intro v' w' hao hak hag)
                  have HAO := Lib.hid hao
                  have HAK : Hid (w'.ownsRow wL.heap.size 60 7 (.slice (some ⟨g, 0, none⟩) 4096 lc) 4096 ((List.replicate 4096 actB).flatMap acV)) := hak
                  have HB6 : Hid (Below wL.heap.size wL w') := Lib.hid ((HB5.out.alloc HB5.out.size _).grown hag (by simp; have := HB5.out.size; omega) (fun k e => by injection e with e; have := HG1.out; omega))
                  clear hao hak hag d0 d1 d2 d3 d4 d5 d6 HL5 HB5
                  go_wp2_with fail
                  refine (FormatA_c v' (List.replicate 4096 actB ++ [actC 9]) wL.heap.size w'.heap.size w' (rep_acts1 HAO.out) (Nat.le_refl _) (wfAs_rep1 9 (i64_dec (by decide))) (by simp) (HE.out _ (HBW.out _ HB6.out))).mono ?_
                  rw [formO_rep1]
                  rintro rr w7 ⟨rfl, hb7⟩
                  have HB7 : Hid (Below wL.heap.size wL w7) := below_step HB6.out hb7
                  have HL7 := Lib.hid (own_below HAK.out hb7)
                  clear hb7 HAO HAK HB6
                  go_wp2_with fail
                  refine (Parse_c TX w7 (by rw [HLT.out]; omega) (HE.out _ (HBW.out _ HB7.out))).mono ?_
                  rw [HP0.out]
                  rintro rr w8 ⟨pv, rfl, hpa, hb8⟩
                  obtain ⟨pa1, pc1, rfl⟩ : ∃ a c, pv = .slice a 4096 c := by
                    obtain ⟨a, c, e, -⟩ := hpa
                    rw [List.length_replicate] at e
                    exact ⟨a, c, e⟩
                  have HB8 : Hid (Below wL.heap.size wL w8) := below_step HB7.out hb8
                  have HL8 := Lib.hid (own_below HL7.out hb8)
                  have hadd : ∀ w, (Op.stringOp .add ⟨TX.toArray⟩ ⟨#[99, 111, 110, 102, 105, 114, 109, 32, 48, 32, 48, 32, 51, 32, 104, 101, 97, 100, 32, 52, 10]⟩).run Tryz.prog w = .ok (.string ⟨(TX ++ lineG actB).toArray⟩) w := fun w => by rw [line_B]; exact run_string_add_lists w TX [99, 111, 110, 102, 105, 114, 109, 32, 48, 32, 48, 32, 51, 32, 104, 101, 97, 100, 32, 52, 10] (by have := HLT.out; omega) (by simp)
                  have hadd2 : ∀ w, (Op.stringOp .add ⟨TX.toArray⟩ ⟨#[99, 111, 110, 102, 105, 114, 109, 10]⟩).run Tryz.prog w = .ok (.string ⟨(TX ++ (wordC ++ [10])).toArray⟩) w := fun w => run_string_add_lists w TX [99, 111, 110, 102, 105, 114, 109, 10] (by have := HLT.out; omega) (by simp)
                  have HLL : Hid ((lineG actB).length = 21) := by rw [line_B]; exact Lib.hid rfl
                  clear hb8 hpa HL7 HB7
                  go_wp2_with fail
                  refine (Parse_c (TX ++ lineG actB) w8 (by rw [List.length_append, HLT.out, HLL.out]; omega) (HE.out _ (HBW.out _ HB8.out))).mono ?_
                  rw [HP1.out]
                  rintro rr w9 ⟨qv, rfl, -, hb9⟩
                  have HB9 : Hid (Below wL.heap.size wL w9) := below_step HB8.out hb9
                  have HL9 := Lib.hid (own_below HL8.out hb9)
                  clear hb9 HL8 HB8
                  go_wp2_with fail
                  refine (Parse_c (TX ++ (wordC ++ [10])) w9 (by rw [List.length_append, HLT.out]; decide) (HE.out _ (HBW.out _ HB9.out))).mono ?_
                  rw [HP2.out]
                  rintro rr w10 ⟨qw, rfl, -, hb10⟩
                  have HB10 : Hid (Below wL.heap.size wL w10) := below_step HB9.out hb10
                  have HL10 := Lib.hid (own_below HL9.out hb10)
                  have HS10 := Lib.hid (HS.out.below HB10.out)
                  clear hb10 HL9 HB9 hadd hadd2 HP0 HP1 HP2 HFT
                  go_wp2_with fail
                  refine (MergeA_c w1.heap.size p m flo fhi va vf w1.heap.size p m flo fhi va vf pairL pairL (List.replicate 4096 actB) (List.replicate 4096 actB) w10 HS10.out HS10.out aw_new pair_wf (wfAs_rep _) (wfAs_rep _) (by simp)).mono ?_
                  intro rr w11 hres
                  obtain ⟨rfl, hb11⟩ := merge_many hres
                  have HB11 : Hid (Below wL.heap.size wL w11) := below_step HB10.out hb11
                  have HL11 := Lib.hid (own_below HL10.out hb11)
                  have HS11 := Lib.hid (HS10.out.below hb11)
                  have hA11 := (HB11.out.block _ HHI.out).trans HA.out
                  have d0 : w11.cell? ⟨w3.heap.size, 0, none⟩ = some (.int .i64 2) := by rw [cell_of_row _ _ _ _ _ _ hA11]; rfl
                  have d1 : w11.cell? ⟨w3.heap.size, 1, none⟩ = some (.int .i64 0) := by rw [cell_of_row _ _ _ _ _ _ hA11]; rfl
                  have d2 : w11.cell? ⟨w3.heap.size, 2, none⟩ = some (.int .i64 0) := by rw [cell_of_row _ _ _ _ _ _ hA11]; rfl
                  have d3 : w11.cell? ⟨w3.heap.size, 3, none⟩ = some (.int .i64 3) := by rw [cell_of_row _ _ _ _ _ _ hA11]; rfl
                  have d4 : w11.cell? ⟨w3.heap.size, 4, none⟩ = some (.int .i64 7) := by rw [cell_of_row _ _ _ _ _ _ hA11]; rfl
                  have d5 : w11.cell? ⟨w3.heap.size, 5, none⟩ = some (.int .i64 4) := by rw [cell_of_row _ _ _ _ _ _ hA11]; rfl
                  have d6 : w11.cell? ⟨w3.heap.size, 6, none⟩ = some (.int .i64 9) := by rw [cell_of_row _ _ _ _ _ _ hA11]; rfl
                  clear hb11 hres HL10 HB10 HS10 hA11
                  go_wp2_with fail
                  refine (Do_c w1.heap.size p m flo fhi va vf pairL (List.replicate 4096 actB) 2 0 0 3 7 4 9 w11 HS11.out (Nat.le_trans HB.out.size HB11.out.size) pair_wf (wfA_C 9 (i64_dec (by decide))).2.1 (by simp) (by decide)).mono ?_
                  rintro rr w12 ⟨rfl, va', hs12, ht12⟩
                  rw [show doE pairL (List.replicate 4096 actB) (2, (0, 0, 3, 7, 4), 9) = 4 from (doE_C 9 _).trans (if_pos (by simp))]
                  have HS12 := Lib.hid hs12
                  have HB12 : Hid (Below w.heap.size w w12) := (HBW.out _ HB11.out).trans (ht12.below (HBW.out _ HB11.out).size (Nat.le_trans HB1.out.size HPL.out) (fun g hg => Nat.le_trans HB1.out.size (HS.out.acts.lt g hg).1))
                  have cl : w12.cell? ⟨g, 4095 * 7 + 6, none⟩ = some (.int .i64 0) := by
                    have h11 : w11.cell? ⟨g, 4095 * 7 + 6, none⟩ = some (.int .i64 0) := (HL11.out.cellAt (4095 * 7 + 6) (by omega)).trans (repC_at (by omega))
                    have hgl : g < w11.heap.size := (HL11.out.lt g rfl).2
                    exact (World.cell?_of_block (ht12.block g hgl (fun e => by have := HPW.out; have := HG1.out; omega) (fun e => by have := (HS.out.acts.lt g e.symm).2; have := HG1.out; omega))).trans h11
                  simp only [Nat.reduceMul, Nat.reduceAdd] at cl
                  clear hs12 ht12 d0 d1 d2 d3 d4 d5 d6 HL11 HS11 HB11 HLT HLL HG1 HHI HA HOWN HS HPW
                  go_upto_region 50 with fail
                  rename_i K1 ha1 K0 ha0
                  have HK1 := Lib.hid ha1
                  clear ha1 cl
                  go_wp2_with fail
                  go_loopw [294] (fun iv wr => ∃ (j : Nat), j ≤ 13 ∧ iv = .int .i64 (j : Int) ∧ wr.heap[w12.heap.size]? = some (.cells smallCells 9 (0, 0)) ∧ Below w.heap.size w wr ∧ SesAt wr w1.heap.size p m flo fhi va' vf pairL (doA pairL (List.replicate 4096 actB) (2, (0, 0, 3, 7, 4), 9))) (fun iv _ => 13 - (intOf iv).toNat)
                  case atStart => exact ⟨0, by omega, rfl, heap_alloc_new _ _, HB12.out.alloc HB12.out.size _, HS12.out.below ((Below.refl _ _).alloc (Nat.le_refl _) _)⟩
                  case round =>
                    obtain ⟨j, hj, rfl, hC, hB, hs⟩ := hrel
                    obtain ⟨wM, rfl⟩ : ∃ wo : World, wo = wr := ⟨_, rfl⟩
                    have HB := Lib.hid hB
                    have HC := Lib.hid hC
                    have HS := Lib.hid hs
                    have hj0 : (0 : Int) ≤ j := by omega
                    clear HS12 HB12 hs
                    by_cases hjl : j < 13
                    · obtain ⟨x, hx, hcell⟩ := small_at hC hjl
                      have hjI : (j : Int) < 13 := by omega
                      have HP1 := Lib.hid fun W (hb : Below w.heap.size w W) => Parse_c x W (by omega) (HE.out _ hb)
                      have HP2 := Lib.hid fun W => rParse_c x W (by omega)
                      have hPL := parse_few x
                      generalize parseO x = P at *
                      obtain ⟨AC, LN, ER⟩ := P
                      simp only at HP1 HP2 hPL
                      clear hB hC
                      go_wp2_with fail
                      refine (HP1.out _ HB.out).mono ?_
                      rintro rr w5 ⟨va, rfl, ha, hb5⟩
                      have HB5 : Hid (Below wM.heap.size wM w5) := hb5
                      have HA5 := Lib.hid ha
                      clear ha hb5 hcell
                      go_wp2_with fail
                      refine (HP2.out _).mono ?_
                      rintro rr w6 ⟨vb, rfl, hb, hb6⟩
                      have HB6 : Hid (Below wM.heap.size wM w6) := below_step HB5.out hb6
                      have HA6 : Hid (ActsAt w6 wM.heap.size w5.heap.size va AC) := Lib.hid (HA5.out.move (Same.of_below hb6))
                      have HZ6 : Hid (w5.heap.size ≤ w6.heap.size) := Lib.hid hb6.size
                      have HR6 := Lib.hid hb
                      clear hb hb6
                      go_wp2_with fail
                      have hsa := sameActs_c va vb AC AC wM.heap.size w5.heap.size w5.heap.size w6.heap.size w6 HA6.out HR6.out HZ6.out (Nat.le_refl _) (by omega)
                      rw [decide_eq_true rfl] at hsa
                      refine hsa.mono ?_
                      rintro rr w7 ⟨rfl, hb7⟩
                      have HB7 : Hid (Below wM.heap.size wM w7) := below_step HB6.out hb7
                      have hlt := (Array.getElem?_eq_some_iff.1 HC.out).1
                      clear hb7 hsa
                      go_wp2_with fail
                      go_roundw
                      case rel => first | exact ⟨j + 1, by omega, by go_num, (HB7.out.block _ hlt).trans HC.out, below_step HB.out HB7.out, HS.out.below HB7.out⟩ | ((repeat apply Exists.intro); exact ⟨⟨j + 1, by omega, rfl, (HB7.out.block _ hlt).trans HC.out, below_step HB.out HB7.out, HS.out.below HB7.out⟩, rfl⟩)
                      case measure => simp [intOf]; omega
                    · obtain rfl : j = 13 := by omega
                      clear hB hC HC
                      go_wp2_with fail
                      refine HK1.out _ _ ?_
                      exact Small_end w wM p m w1.heap.size flo fhi va' vf _ HB.out HS.out _ _ _ _ _ _ _ _ _ _ _ _ _ _ _ _ _ _ _ _ _ _ _ _ _ _ _ _ _ _ _ _ _ _ _ _ _ _ _ _ _ _ _ _ _ _ _ _ _ _ _ _ _ _ _ _ _ _ _ _ _ _ _ _ _ _ _ _ _ _ _ _ _ _ _ _ _ _ _ _ _ _ _ _ _ _ _ _ _ _ _ _ _ _ _ _ _ _ _ _ _ _ _ _ _ _ _ _ _ _ _ _ _ _ _ _ _ _ _ _ _ _ _ _ _ _ _ _ _ _ _ _ _ _ _ _ _ _ _ _ _ _ _ _ _ _ _ _ _ _ _ _ _ _ _ _ _ _ _ _ _ _ _ _ _ _ _ _ _ _ _ _ _ _ _ _ _ _ _ _ _ _ _ _ _ _ _ _ _ _ _ _ _ _ _ _ _ _ _ _ _ _ _ _ _ _ _ _ _ _ _ _ _ _ _ _ _ _ _ _ _ _ _ _ _ _ _ _ _ _ _ _ _ _ _ _ _ _ _ _ _ _ _ _ _ _ _ _ _ _ _ _ _ _ _ _ _ _ _ _ _ _ _ _ _ _ _ _ _ _ _ _ _ _ _ _ _ _ _ _ _ _ _ _ _ _ _ _ _ _ _ _ _ _ _ _ _ _ _ _ _ _ _ _ _ _ _ _ _ _ _ _ _ _ _ _ _ _ _ _ _ _ _ _ _ _ _ _ _ _ _ _ _ _ _ _ _ _ _ _ _ _ _ _ _ _ _ _ _ _ _ _ _ _ _ _ _ _ _ _ _ _ _ _ _ _ _ _ _ _ _ _ _ _ _ _ _ _ _ _ _ _ _ _ _ _ _ _ _ _ _ _ _ _ _ _ _ _ _ _ _ _ _ _ _ _ _ _ _ _ _ _ _ _ _ _ _ _ _ _ _ _ _ _ _ _ _ _ _ _ _ _ _ _ _ _ _ _ _ _ _ _ _ _ _ _ _ _ _ _
end Go.Proofs.YtpcefaccoifejaaGreatDoor
