/-
  The walk of custoslaw05.ToneHeard. Conditions: the key is an int8, the notes lie in memory.
-/
import Derived.Test.YtkhikdiaaiddaaaDoorAwake
import Derived.Deep.DeepCutAuto
namespace Go.Proofs.YtkhikdiaaiddaaaDoor
open Go.RowKit Go.Maps
set_option linter.unusedSimpArgs false
set_option linter.unusedVariables false

theorem tmod5 (k : Int) : -4 ≤ k.tmod 5 ∧ k.tmod 5 ≤ 4 := by
  rw [Int.tmod_eq_emod]
  split <;> omega
/-- two states alike -/
def Two (w : World) (sa ma sb mb n : Nat) (key : Int) (g : Int → Option Int) : Prop := St w sa ma n key g ∧ St w sb mb n key g ∧ ma ≠ mb
theorem Two.below {w w' : World} {sa ma sb mb n : Nat} {key : Int} {g : Int → Option Int} (h : Two w sa ma sb mb n key g) (hb : Below w.heap.size w w') : Two w' sa ma sb mb n key g := ⟨h.1.below hb, h.2.1.below hb, h.2.2⟩
theorem Two.sa_mb {w : World} {sa ma sb mb n : Nat} {key : Int} {g : Int → Option Int} (h : Two w sa ma sb mb n key g) : sa ≠ mb := h.1.sb_ne_map h.2.1.map
theorem Two.sb_ma {w : World} {sa ma sb mb n : Nat} {key : Int} {g : Int → Option Int} (h : Two w sa ma sb mb n key g) : sb ≠ ma := h.2.1.sb_ne_map h.1.map

set_option maxRecDepth 100000 in
set_option maxHeartbeats 8000000 in
theorem Heard_walk (kk : Int) (b off L cap : Nat) (zs : List Int) (w : World) (h1 : -128 ≤ kk) (h2 : kk ≤ 127) (hL : 0 < L) (hLc : L ≤ cap) (hcap : cap ≤ 140737488351232) (hb : b < w.heap.size)
    (hc : ∀ j, j < L → w.cell? ⟨b, off + j, none⟩ = some (.int .u16 (zs.getD j 0))) (hz : ∀ j, j < L → 0 ≤ zs.getD j 0 ∧ zs.getD j 0 ≤ 65535) :
    Calls Tryd.prog 3 #[.int .i8 kk, .slice (some ⟨b, off, none⟩) L cap] w fun e w' => e = .returned (.bool true) ∧ Below w.heap.size w w' := by
  obtain ⟨hk1, hk2⟩ := tmod5 kk
  obtain ⟨key, hkey⟩ : ∃ key, kk.tmod 5 = key := ⟨_, rfl⟩
  rw [hkey] at hk1 hk2
  have HN := Lib.hid fun w => New_yes key w hk1 hk2
  have HC := Lib.hid hc
  have HZ := Lib.hid hz
  clear hc hz
  rcases (by omega : (L : Int) ≤ 100 ∨ ¬ (L : Int) ≤ 100) with hM | hM
  all_goals
    go_enter Tryd.func3, Tryd.ntmps3
    go_wp2_with fail
    refine (HN.out _).mono ?_
    rintro e wa ⟨rfl, hsa, hba⟩
    go_wp2_with fail
    refine (HN.out _).mono ?_
    rintro e wb ⟨rfl, hsb, hbb⟩
    have hT0 : Two wb (w.heap.size + 1) w.heap.size (wa.heap.size + 1) wa.heap.size 0 key (fun _ => none) := ⟨hsa.below hbb, hsb, by have := hsa.size; omega⟩
    have hB0 : Below w.heap.size w wb := hba.trans (hbb.mono hba.size)
    clear hsa hsb
    go_wp2_with fail
    go_loopw [52] (fun i wr => ∃ (k n : Nat) (g : Int → Option Int), k ≤ L ∧ k ≤ 100 ∧ i = .int .i64 k ∧ n ≤ k ∧ Two wr (w.heap.size + 1) w.heap.size (wa.heap.size + 1) wa.heap.size n key g ∧ Below w.heap.size w wr) (fun i _ => 100 - (intOf i).toNat)
    case atStart => exact ⟨0, 0, _, by omega, by omega, rfl, Nat.le_refl _, hT0, hB0⟩
    case round =>
      obtain ⟨k, n, g, hkL, hk100, rfl, hnk, hT, hBr⟩ := hrel
      obtain ⟨wR, hwR⟩ : ∃ x, x = wr := ⟨_, rfl⟩
      subst hwR
      clear hT0 hB0
      by_cases hlt : k < L ∧ k < 100
      · obtain ⟨hl1, hl2⟩ := hlt
        have hzz := HZ.out k hl1
        have hcell := (hBr.cell (p := ⟨b, off + k, none⟩) hb).trans (HC.out k hl1)
        obtain ⟨z, hze⟩ : ∃ z, zs.getD k 0 = z := ⟨_, rfl⟩
        rw [hze] at hzz hcell
        obtain ⟨hz1, hz2⟩ := hzz
        clear hze
        have e70 : IntKind.u16.wrap (z.tdiv 70) = z / 70 := by rw [Int.tdiv_eq_ediv_of_nonneg hz1]; exact IntWalk.u16_in _ ⟨by omega, by omega⟩
        have e256 : IntKind.u16.wrap (z.tdiv 256) = z / 256 := by rw [Int.tdiv_eq_ediv_of_nonneg hz1]; exact IntWalk.u16_in _ ⟨by omega, by omega⟩
        have hs1 : 0 ≤ z % 70 := by omega
        have hs2 : z % 70 < 70 := by omega
        have ha1 : -1 ≤ z / 70 % 3 - 1 := by omega
        have ha2 : z / 70 % 3 - 1 ≤ 1 := by omega
        have q1 : 0 ≤ z / 70 := by omega
        have q2 : 0 ≤ z / 256 := by omega
        by_cases hre : z / 256 % 13 = 0
        · have hreb : (z / 256 % 13 == 0) = true := by rw [hre]; rfl
          clear hre
          go_wp2_with fail
          refine (Reset_c (w.heap.size + 1) w.heap.size n key g _ hT.1).mono ?_
          rintro e w1 ⟨rfl, hs1a, hg1⟩
          have hT1b := hT.2.1.kept hg1 (by have := hT.sb_ma; simpa using this) (by have := hT.2.2; simp; omega)
          have hB1 := below_grownBy hBr hg1 (Nat.le_refl _)
          go_wp2_with fail
          refine (Reset_c (wa.heap.size + 1) wa.heap.size n key g _ hT1b).mono ?_
          rintro e w2 ⟨rfl, hs2a, hg2⟩
          have hT2 : Two w2 (w.heap.size + 1) w.heap.size (wa.heap.size + 1) wa.heap.size 0 key (fun _ => none) := ⟨hs1a.kept hg2 (by have := hT.sa_mb; simpa using this) (by have := hT.2.2; simp; omega), hs2a, hT.2.2⟩
          have hB2 := below_grownBy hB1 hg2 hba.size
          clear hT hT1b hB1 hs1a hs2a hg1 hg2
          generalize hG0 : (fun _ => none : Int → Option Int) = g0 at *
          clear hG0
          by_cases hcu : cur key g0 (z % 70) = (z / 70 % 3 - 1)
          · have A1 := Lib.hid fun W h => At_c (w.heap.size + 1) w.heap.size 0 key (z % 70) g0 W h hk1 hk2 hs1 hs2
            have A2 := Lib.hid fun W h => Print_same (w.heap.size + 1) w.heap.size 0 key (z % 70) (z / 70 % 3 - 1) g0 W h hk1 hk2 hs1 hs2 ha1 ha2 hcu
            have A3 := Lib.hid fun W h => Hear_zero (wa.heap.size + 1) wa.heap.size 0 key (z % 70) g0 W h hk1 hk2 hs1 hs2
            rw [hcu] at A1 A3
            clear hcu
            go_wp2_with fail
            refine (A1.out _ hT2.1).mono ?_
            rintro e w32 ⟨rfl, hb32⟩
            have hT32 := hT2.below hb32
            have hB32 := hB2.trans (hb32.mono hB2.size)
            go_wp2_with fail
            refine (A2.out _ hT32.1).mono ?_
            rintro e w42 ⟨rfl, hb42⟩
            have hT42 := hT32.below hb42
            have hB42 := hB32.trans (hb42.mono hB32.size)
            go_wp2_with fail
            refine (A3.out _ hT42.2.1).mono ?_
            rintro e w52 ⟨rfl, hb52⟩
            have hT52 := hT42.below hb52
            have hB52 := hB42.trans (hb52.mono hB42.size)
            go_wp2_with fail
            go_loopw [126] (fun j wr2 => ∃ m : Nat, m ≤ 70 ∧ j = .int .i64 m ∧ Below w52.heap.size w52 wr2) (fun j _ => 70 - (intOf j).toNat)
            case atStart => exact ⟨0, by omega, rfl, Below.refl _ _⟩
            case round =>
              obtain ⟨m, hm, rfl, hbi⟩ := hrel
              by_cases hm70 : m < 70
              · have hTi := hT52.below hbi
                go_wp2_with fail
                refine (At_c (w.heap.size + 1) w.heap.size _ key m _ _ hTi.1 hk1 hk2 (by omega) (by omega)).mono ?_
                rintro e wi ⟨rfl, hbj⟩
                go_wp2_with fail
                refine (At_c (wa.heap.size + 1) wa.heap.size _ key m _ _ (hTi.below hbj).2.1 hk1 hk2 (by omega) (by omega)).mono ?_
                rintro e wj ⟨rfl, hbk⟩
                have hbz := (hbi.trans (hbj.mono hbi.size)).trans (hbk.mono (Nat.le_trans hbi.size hbj.size))
                go_wp2_with fail
                go_roundw
                case rel => exact ⟨m + 1, by omega, by go_num, hbz⟩
                case measure => simp [intOf]; omega
              · obtain rfl : m = 70 := by omega
                go_wp2_with fail
                go_roundw
                case rel => exact ⟨k + 1, 0, g0, by omega, by omega, by go_num, by omega, hT52.below hbi, hB52.trans (hbi.mono hB52.size)⟩
                case measure => simp [intOf]; omega
          · have hmac := means_accOf (z / 70 % 3 - 1) ha1 ha2
            have hac : 0 < accOf (z / 70 % 3 - 1) ∧ accOf (z / 70 % 3 - 1) ≤ 3 := by rcases accOf_cases (z / 70 % 3 - 1) ha1 ha2 with ⟨_, e⟩ | ⟨_, e⟩ | ⟨_, e⟩ <;> rw [e] <;> omega
            have A1 := Lib.hid fun W h => At_c (w.heap.size + 1) w.heap.size 0 key (z % 70) g0 W h hk1 hk2 hs1 hs2
            have A2 := Lib.hid fun W h => Print_new (w.heap.size + 1) w.heap.size 0 key (z % 70) (z / 70 % 3 - 1) g0 W h hk1 hk2 hs1 hs2 ha1 ha2 (by unfold maxLen; omega) hcu
            have A3 := Lib.hid fun W h => Hear_new (wa.heap.size + 1) wa.heap.size 0 key (z % 70) (accOf (z / 70 % 3 - 1)) g0 W h hk1 hk2 hs1 hs2 hac.1 hac.2 (by unfold maxLen; omega) (by rw [hmac]; exact hcu)
            have hup : cur key (upd g0 (z % 70) (z / 70 % 3 - 1)) (z % 70) = (z / 70 % 3 - 1) := by unfold cur upd; rw [if_pos rfl]; rfl
            have A4 := Lib.hid fun W h => Hear_same (wa.heap.size + 1) wa.heap.size (0 + 1) key (z % 70) (accOf (z / 70 % 3 - 1)) (upd g0 (z % 70) (z / 70 % 3 - 1)) W h hk1 hk2 hs1 hs2 hac.1 hac.2 (hup.trans hmac.symm)
            rw [hmac] at A3
            have hacp := hac.1
            have hacb : (accOf (z / 70 % 3 - 1) == 0) = false := beq_eq_false_iff_ne.2 (by omega)
            have hcb : (cur key g0 (z % 70) == (z / 70 % 3 - 1)) = false := beq_eq_false_iff_ne.2 hcu
            generalize accOf (z / 70 % 3 - 1) = ac at *
            generalize cur key g0 (z % 70) = cu at *
            clear hcu hmac hac hup
            go_wp2_with fail
            refine (A1.out _ hT2.1).mono ?_
            rintro e w3x2 ⟨rfl, hb3x2⟩
            have hT3x2 := hT2.below hb3x2
            have hB3x2 := hB2.trans (hb3x2.mono hB2.size)
            go_wp2_with fail
            refine (A2.out _ hT3x2.1).mono ?_
            rintro e w4x2 ⟨rfl, hsa4x2, hg4x2⟩
            have hsb4x2 := hT3x2.2.1.kept hg4x2 (by have := hT3x2.sb_ma; simpa using this) (by have := hT3x2.2.2; simp; omega)
            have hB4x2 := below_grownBy hB3x2 hg4x2 (Nat.le_refl _)
            go_wp2_with fail
            refine (A3.out _ hsb4x2).mono ?_
            rintro e w5x2 ⟨rfl, hsb5x2, hg5x2⟩
            have hT5x2 : Two w5x2 (w.heap.size + 1) w.heap.size (wa.heap.size + 1) wa.heap.size (0 + 1) key (upd g0 (z % 70) (z / 70 % 3 - 1)) := ⟨hsa4x2.kept hg5x2 (by have := hT3x2.sa_mb; simpa using this) (by have := hT3x2.2.2; simp; omega), hsb5x2, hT3x2.2.2⟩
            have hB5x2 := below_grownBy hB4x2 hg5x2 hba.size
            generalize hG : upd g0 (z % 70) (z / 70 % 3 - 1) = g2 at *
            clear hG
            go_wp2_with fail
            refine (A4.out _ hT5x2.2.1).mono ?_
            rintro e w6x2 ⟨rfl, hb6x2⟩
            have hT6x2 := hT5x2.below hb6x2
            have hB6x2 := hB5x2.trans (hb6x2.mono hB5x2.size)
            go_wp2_with fail
            go_loopw [126] (fun j wr2 => ∃ m : Nat, m ≤ 70 ∧ j = .int .i64 m ∧ Below w6x2.heap.size w6x2 wr2) (fun j _ => 70 - (intOf j).toNat)
            case atStart => exact ⟨0, by omega, rfl, Below.refl _ _⟩
            case round =>
              obtain ⟨m, hm, rfl, hbi⟩ := hrel
              by_cases hm70 : m < 70
              · have hTi := hT6x2.below hbi
                go_wp2_with fail
                refine (At_c (w.heap.size + 1) w.heap.size _ key m _ _ hTi.1 hk1 hk2 (by omega) (by omega)).mono ?_
                rintro e wi ⟨rfl, hbj⟩
                go_wp2_with fail
                refine (At_c (wa.heap.size + 1) wa.heap.size _ key m _ _ (hTi.below hbj).2.1 hk1 hk2 (by omega) (by omega)).mono ?_
                rintro e wj ⟨rfl, hbk⟩
                have hbz := (hbi.trans (hbj.mono hbi.size)).trans (hbk.mono (Nat.le_trans hbi.size hbj.size))
                go_wp2_with fail
                go_roundw
                case rel => exact ⟨m + 1, by omega, by go_num, hbz⟩
                case measure => simp [intOf]; omega
              · obtain rfl : m = 70 := by omega
                go_wp2_with fail
                go_roundw
                case rel => exact ⟨k + 1, 0 + 1, g2, by omega, by omega, by go_num, by omega, hT6x2.below hbi, hB6x2.trans (hbi.mono hB6x2.size)⟩
                case measure => simp [intOf]; omega
        · have hreb : (z / 256 % 13 == 0) = false := beq_eq_false_iff_ne.2 hre
          clear hre
          have hT7 := hT
          have hB7 := hBr
          clear hT hBr
          by_cases hcu : cur key g (z % 70) = (z / 70 % 3 - 1)
          · have A1 := Lib.hid fun W h => At_c (w.heap.size + 1) w.heap.size n key (z % 70) g W h hk1 hk2 hs1 hs2
            have A2 := Lib.hid fun W h => Print_same (w.heap.size + 1) w.heap.size n key (z % 70) (z / 70 % 3 - 1) g W h hk1 hk2 hs1 hs2 ha1 ha2 hcu
            have A3 := Lib.hid fun W h => Hear_zero (wa.heap.size + 1) wa.heap.size n key (z % 70) g W h hk1 hk2 hs1 hs2
            rw [hcu] at A1 A3
            clear hcu
            go_wp2_with fail
            refine (A1.out _ hT7.1).mono ?_
            rintro e w37 ⟨rfl, hb37⟩
            have hT37 := hT7.below hb37
            have hB37 := hB7.trans (hb37.mono hB7.size)
            go_wp2_with fail
            refine (A2.out _ hT37.1).mono ?_
            rintro e w47 ⟨rfl, hb47⟩
            have hT47 := hT37.below hb47
            have hB47 := hB37.trans (hb47.mono hB37.size)
            go_wp2_with fail
            refine (A3.out _ hT47.2.1).mono ?_
            rintro e w57 ⟨rfl, hb57⟩
            have hT57 := hT47.below hb57
            have hB57 := hB47.trans (hb57.mono hB47.size)
            go_wp2_with fail
            go_loopw [126] (fun j wr2 => ∃ m : Nat, m ≤ 70 ∧ j = .int .i64 m ∧ Below w57.heap.size w57 wr2) (fun j _ => 70 - (intOf j).toNat)
            case atStart => exact ⟨0, by omega, rfl, Below.refl _ _⟩
            case round =>
              obtain ⟨m, hm, rfl, hbi⟩ := hrel
              by_cases hm70 : m < 70
              · have hTi := hT57.below hbi
                go_wp2_with fail
                refine (At_c (w.heap.size + 1) w.heap.size _ key m _ _ hTi.1 hk1 hk2 (by omega) (by omega)).mono ?_
                rintro e wi ⟨rfl, hbj⟩
                go_wp2_with fail
                refine (At_c (wa.heap.size + 1) wa.heap.size _ key m _ _ (hTi.below hbj).2.1 hk1 hk2 (by omega) (by omega)).mono ?_
                rintro e wj ⟨rfl, hbk⟩
                have hbz := (hbi.trans (hbj.mono hbi.size)).trans (hbk.mono (Nat.le_trans hbi.size hbj.size))
                go_wp2_with fail
                go_roundw
                case rel => exact ⟨m + 1, by omega, by go_num, hbz⟩
                case measure => simp [intOf]; omega
              · obtain rfl : m = 70 := by omega
                go_wp2_with fail
                go_roundw
                case rel => exact ⟨k + 1, n, g, by omega, by omega, by go_num, by omega, hT57.below hbi, hB57.trans (hbi.mono hB57.size)⟩
                case measure => simp [intOf]; omega
          · have hmac := means_accOf (z / 70 % 3 - 1) ha1 ha2
            have hac : 0 < accOf (z / 70 % 3 - 1) ∧ accOf (z / 70 % 3 - 1) ≤ 3 := by rcases accOf_cases (z / 70 % 3 - 1) ha1 ha2 with ⟨_, e⟩ | ⟨_, e⟩ | ⟨_, e⟩ <;> rw [e] <;> omega
            have A1 := Lib.hid fun W h => At_c (w.heap.size + 1) w.heap.size n key (z % 70) g W h hk1 hk2 hs1 hs2
            have A2 := Lib.hid fun W h => Print_new (w.heap.size + 1) w.heap.size n key (z % 70) (z / 70 % 3 - 1) g W h hk1 hk2 hs1 hs2 ha1 ha2 (by unfold maxLen; omega) hcu
            have A3 := Lib.hid fun W h => Hear_new (wa.heap.size + 1) wa.heap.size n key (z % 70) (accOf (z / 70 % 3 - 1)) g W h hk1 hk2 hs1 hs2 hac.1 hac.2 (by unfold maxLen; omega) (by rw [hmac]; exact hcu)
            have hup : cur key (upd g (z % 70) (z / 70 % 3 - 1)) (z % 70) = (z / 70 % 3 - 1) := by unfold cur upd; rw [if_pos rfl]; rfl
            have A4 := Lib.hid fun W h => Hear_same (wa.heap.size + 1) wa.heap.size (n + 1) key (z % 70) (accOf (z / 70 % 3 - 1)) (upd g (z % 70) (z / 70 % 3 - 1)) W h hk1 hk2 hs1 hs2 hac.1 hac.2 (hup.trans hmac.symm)
            rw [hmac] at A3
            have hacp := hac.1
            have hacb : (accOf (z / 70 % 3 - 1) == 0) = false := beq_eq_false_iff_ne.2 (by omega)
            have hcb : (cur key g (z % 70) == (z / 70 % 3 - 1)) = false := beq_eq_false_iff_ne.2 hcu
            generalize accOf (z / 70 % 3 - 1) = ac at *
            generalize cur key g (z % 70) = cu at *
            clear hcu hmac hac hup
            go_wp2_with fail
            refine (A1.out _ hT7.1).mono ?_
            rintro e w3x7 ⟨rfl, hb3x7⟩
            have hT3x7 := hT7.below hb3x7
            have hB3x7 := hB7.trans (hb3x7.mono hB7.size)
            go_wp2_with fail
            refine (A2.out _ hT3x7.1).mono ?_
            rintro e w4x7 ⟨rfl, hsa4x7, hg4x7⟩
            have hsb4x7 := hT3x7.2.1.kept hg4x7 (by have := hT3x7.sb_ma; simpa using this) (by have := hT3x7.2.2; simp; omega)
            have hB4x7 := below_grownBy hB3x7 hg4x7 (Nat.le_refl _)
            go_wp2_with fail
            refine (A3.out _ hsb4x7).mono ?_
            rintro e w5x7 ⟨rfl, hsb5x7, hg5x7⟩
            have hT5x7 : Two w5x7 (w.heap.size + 1) w.heap.size (wa.heap.size + 1) wa.heap.size (n + 1) key (upd g (z % 70) (z / 70 % 3 - 1)) := ⟨hsa4x7.kept hg5x7 (by have := hT3x7.sa_mb; simpa using this) (by have := hT3x7.2.2; simp; omega), hsb5x7, hT3x7.2.2⟩
            have hB5x7 := below_grownBy hB4x7 hg5x7 hba.size
            generalize hG : upd g (z % 70) (z / 70 % 3 - 1) = g2 at *
            clear hG
            go_wp2_with fail
            refine (A4.out _ hT5x7.2.1).mono ?_
            rintro e w6x7 ⟨rfl, hb6x7⟩
            have hT6x7 := hT5x7.below hb6x7
            have hB6x7 := hB5x7.trans (hb6x7.mono hB5x7.size)
            go_wp2_with fail
            go_loopw [126] (fun j wr2 => ∃ m : Nat, m ≤ 70 ∧ j = .int .i64 m ∧ Below w6x7.heap.size w6x7 wr2) (fun j _ => 70 - (intOf j).toNat)
            case atStart => exact ⟨0, by omega, rfl, Below.refl _ _⟩
            case round =>
              obtain ⟨m, hm, rfl, hbi⟩ := hrel
              by_cases hm70 : m < 70
              · have hTi := hT6x7.below hbi
                go_wp2_with fail
                refine (At_c (w.heap.size + 1) w.heap.size _ key m _ _ hTi.1 hk1 hk2 (by omega) (by omega)).mono ?_
                rintro e wi ⟨rfl, hbj⟩
                go_wp2_with fail
                refine (At_c (wa.heap.size + 1) wa.heap.size _ key m _ _ (hTi.below hbj).2.1 hk1 hk2 (by omega) (by omega)).mono ?_
                rintro e wj ⟨rfl, hbk⟩
                have hbz := (hbi.trans (hbj.mono hbi.size)).trans (hbk.mono (Nat.le_trans hbi.size hbj.size))
                go_wp2_with fail
                go_roundw
                case rel => exact ⟨m + 1, by omega, by go_num, hbz⟩
                case measure => simp [intOf]; omega
              · obtain rfl : m = 70 := by omega
                go_wp2_with fail
                go_roundw
                case rel => exact ⟨k + 1, n + 1, g2, by omega, by omega, by go_num, by omega, hT6x7.below hbi, hB6x7.trans (hbi.mono hB6x7.size)⟩
                case measure => simp [intOf]; omega
      · go_wp2_with fail
        refine (awake_c _).mono ?_
        rintro e w8 ⟨rfl, hb8⟩
        go_wp2_with fail
        go_ret
        exact ⟨rfl, hBr.trans (hb8.mono hBr.size)⟩
end Go.Proofs.YtkhikdiaaiddaaaDoor
