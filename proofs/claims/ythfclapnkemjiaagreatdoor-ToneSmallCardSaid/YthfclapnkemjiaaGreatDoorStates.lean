/-
  custoslaw05.states returns true: a state of package tone and one of the reference do the same under any calls. Conditions: at most sixty calls; integers are of their type.
-/
import Derived.Test.YthfclapnkemjiaaGreatDoorSync
namespace Go.Proofs.YthfclapnkemjiaaGreatDoor
open Go.RowKit
set_option linter.unusedSimpArgs false
set_option linter.unusedVariables false

theorem cellsState : Tryz.zeroCells63.size = 71 := by rw [zero_row0, rowOf_size]
set_option maxRecDepth 100000 in
set_option maxHeartbeats 4000000 in
theorem states_bad (key : Int) (v : Value) (w : World) (h : key < -4 ∨ 4 < key) :
    Calls Tryz.prog 9 #[.int .i64 key, v] w fun e w' => e = .returned (.bool true) ∧ Below w.heap.size w w' := by
  have HN := Lib.hid fun w => New_no key w h
  have HR := Lib.hid fun w => rNew_no key w h
  clear h
  have hsz : (rowOf 0 (fun _ => 0)).size = 71 := rowOf_size _ _
  have hone := Lib.hid (row_one 0 (fun _ => 0))
  have hi : Hid ((Tryz.prog.info? 63).map (·.size) = some (rowOf 0 (fun _ => 0)).size) := by rw [hsz]; exact info_row
  have hold : Hid (Tryz.zeroCells63.size = (rowOf 0 (fun _ => 0)).size) := by rw [hsz]; exact cellsState
  generalize rowOf 0 (fun _ => 0) = row at *
  clear hsz
  go_enter Tryz.func9, Tryz.ntmps9
  go_wp2_with fail
  refine (HN.out _).mono ?_
  rintro e w' ⟨rfl, rfl⟩
  go_wp2_with fail
  refine (HR.out _).mono ?_
  rintro e w1 ⟨rfl, hb1⟩
  go_wp2_with (refine wpList_store_row rfl 63 (.tmp 7) (.tmp 37) rfl w1.heap.size row rfl rfl 63 _ (heap_alloc_new w1 _) hi.out hold.out hone.out ?_)
  refine calls_named fun W hW => ?_
  have HB : Below w.heap.size w W := by rw [hW]; exact below_setRow (hb1.alloc hb1.size _) hb1.size
  clear hW
  refine (nothing_c W).mono ?_
  rintro e w2 ⟨rfl, hb2⟩
  go_wp2_with fail
  go_ret
  exact ⟨rfl, below_step HB hb2⟩

set_option maxRecDepth 100000 in
set_option maxHeartbeats 16000000 in
theorem states_some (key : Int) (lb off len cap : Nat) (wy st sy : Nat → Int) (w : World) (h1 : -4 ≤ key) (h2 : key ≤ 4) (hlen : len ≤ 60) (hlb : lb < w.heap.size)
    (hcells : Hid (∀ i : Nat, i < len → w.cell? ⟨lb, off + i * 3, none⟩ = some (.int .i64 (wy i)) ∧ w.cell? ⟨lb, off + i * 3 + 1, none⟩ = some (.int .i64 (st i)) ∧ w.cell? ⟨lb, off + i * 3 + 2, none⟩ = some (.int .i64 (sy i)))) :
    Calls Tryz.prog 9 #[.int .i64 key, .slice (some ⟨lb, off, none⟩) len cap] w fun e w' => e = .returned (.bool true) ∧ Below w.heap.size w w' := by
  have HN := Lib.hid fun w => New_yes key w h1 h2
  have HR := Lib.hid fun w => rNew_yes key w h1 h2
  have hsz : (rowOf key (fun j => keyAlt key (j : Int))).size = 71 := rowOf_size _ _
  have hone := Lib.hid (row_one key (fun j => keyAlt key (j : Int)))
  have hi : Hid ((Tryz.prog.info? 63).map (·.size) = some (rowOf key (fun j => keyAlt key (j : Int))).size) := by rw [hsz]; exact info_row
  have hold : Hid (Tryz.zeroCells63.size = (rowOf key (fun j => keyAlt key (j : Int))).size) := by rw [hsz]; exact cellsState
  clear hsz
  go_enter Tryz.func9, Tryz.ntmps9
  go_wp2_with fail
  refine (HN.out _).mono ?_
  rintro e w1 ⟨rfl, S1, hb1⟩
  go_wp2_with fail
  refine (HR.out _).mono ?_
  rintro e w2 ⟨rfl, hb2⟩
  go_wp2_with (refine wpList_store_row rfl 63 (.tmp 7) (.tmp 37) rfl w2.heap.size (rowOf key (fun j => keyAlt key (j : Int))) rfl rfl 63 _ (heap_alloc_new w2 _) hi.out hold.out hone.out ?_)
  refine wp_named fun W hW => ?_
  have HX : Both w w2.heap.size key 0 (w.heap.size + 1) w.heap.size (fun _ => none) (fun j => keyAlt key (j : Int)) W := by
    have hz1 := hb1.size
    have hz2 := hb2.size
    have hg : w2.grownBy ((w2.alloc (.cells Tryz.zeroCells63 63)).setRow w2.heap.size (rowOf key (fun j => keyAlt key (j : Int)))) none := ⟨rfl, rfl, rfl, by simp, fun i hi _ => (setRow_other _ _ _ _ (by omega)).trans (Below.heap_alloc w2 _ i hi)⟩
    refine ⟨by rw [hW]; exact (S1.below hb2).kept hg (by simp) (by simp), by rw [hW]; exact setRow_heap _ _ _ _ _ _ (heap_alloc_new w2 _), Agr.start key, Nat.le_refl _, by omega, by rw [hW]; exact (below_step hb1 hb2).grown hg (by omega) (fun k hk => by cases hk)⟩
  clear hW S1 hb1 hb2 hi hold hone HN HR
  go_loopw [54, 5] (fun i p wr => ∃ (k sb bm : Nat) (g : Int → Option Int) (f : Nat → Int), k ≤ len ∧ i = .int .i64 k ∧ p = .pointer (some ⟨sb, 0, none⟩) ∧ Both w w2.heap.size key k sb bm g f wr) (fun i _ _ => len - (intOf i).toNat)
  case atStart => exact ⟨0, _, _, _, _, by omega, rfl, rfl, HX⟩
  case round =>
    clear HX
    obtain ⟨k, sb, bm, g, f, hk, rfl, rfl, HX⟩ := hrel
    by_cases hlt : k < len
    · obtain ⟨q0, q1, q2⟩ := hcells.out k hlt
      have hBB := HX.hB
      have k0 := (hBB.cell (p := ⟨lb, off + k * 3, none⟩) hlb).trans q0
      have k1 := (hBB.cell (p := ⟨lb, off + k * 3 + 1, none⟩) hlb).trans q1
      have k2 := (hBB.cell (p := ⟨lb, off + k * 3 + 2, none⟩) hlb).trans q2
      clear q0 q1 q2 hBB
      have hlt2 : (k : Int) < (len : Int) := by omega
      have hlen2 : (len : Int) ≤ 60 := by omega
      generalize wy k = y0 at *
      generalize st k = y1 at *
      generalize sy k = y2 at *
      have hbm : bm < wr.heap.size := HX.s.map.lt
      have hrb : w2.heap.size < wr.heap.size := HX.r.lt
      have hsb : sb < wr.heap.size := HX.s.lt
      have hne := HX.s.ne_R HX.r
      rcases (by omega : y0 = 0 ∨ y0 = 1 ∨ y0 = 2 ∨ y0 = 3 ∨ (y0 ≠ 0 ∧ y0 ≠ 1 ∧ y0 ≠ 2 ∧ y0 ≠ 3)) with rfl | rfl | rfl | rfl | hy
      · obtain ⟨x, y, g', f', hA', P, Q⟩ := Print_sync y1 y2 h1 h2 HX.a
        have HP := Lib.hid P
        have HQ := Lib.hid Q
        clear P Q
        go_wp2_with fail
        refine calls_named fun W hW => ?_
        have T0 : Tri W wr.heap.size 0 y1 y2 := by rw [hW]; exact ⟨by go_simp, by go_simp, by go_simp, by simp⟩
        have HX1 := HX.below (below_named hW)
        have hWz : wr.heap.size ≤ W.heap.size := (below_named hW).size
        clear hW k0 k1 k2 HX
        refine (HP.out _ _ _ _ (by omega) HX1.s).mono ?_
        rintro e u1 ⟨rfl, S1, hg1⟩
        have R1 := HX1.r.kept hg1 (fun h => hne.2 (by injection h with h; exact h.symm))
        have T1 := T0.kept hg1 (fun h => by injection h with h; omega)
        obtain ⟨t0, t1, t2, tl⟩ := id T1
        go_wp2_with fail
        refine (HQ.out _ _ R1).mono ?_
        rintro e u2 ⟨rfl, R2, hg2⟩
        clear t0 t1 t2 tl
        have S2 := S1.kept hg2 (fun h => hne.1 (by injection h)) (fun h => hne.2 (by injection h))
        have T2 := T1.kept hg2 (fun h => by injection h with h; omega)
        have HB2 : Below w.heap.size w u2 := below_gr (below_gr HX1.hB hg1 HX1.lb) hg2 HX1.lr
        have lb1 := HX1.lb
        have lr1 := HX1.lr
        clear hg1 hg2 T0 T1 S1 R1 HX1
        obtain ⟨x', y', A1, A2⟩ := At_sync y1 h1 h2 hA'
        have HA1 := Lib.hid A1
        have HA2 := Lib.hid A2
        clear A1 A2
        obtain ⟨t0, t1, t2, tl⟩ := id T2
        go_wp2_with fail
        refine (HA1.out _ _ _ _ S2).mono ?_
        rintro e v1 ⟨rfl, hc1⟩
        clear t0 t1 t2 tl
        have SZ := (S2).below hc1
        have RZ := (R2).below hc1
        obtain ⟨t0, t1, t2, tl⟩ := (T2).kept (grown_of_below hc1 none) (by simp)
        have HBZ := below_step HB2 hc1
        clear hc1
        go_wp2_with fail
        refine (HA2.out _ _ RZ).mono ?_
        rintro e v2 ⟨rfl, rfl⟩
        go_wp2_with fail
        go_roundw
        case rel => exact ⟨k + 1, sb, bm, g', f', by omega, by go_num, rfl, ⟨SZ, RZ, hA', lb1, lr1, HBZ⟩⟩
        case measure => simp [intOf]; omega
      · obtain ⟨x, y, g', f', hA', P, Q⟩ := Hear_sync y1 y2 h1 h2 HX.a
        have HP := Lib.hid P
        have HQ := Lib.hid Q
        clear P Q
        go_wp2_with fail
        refine calls_named fun W hW => ?_
        have T0 : Tri W wr.heap.size 1 y1 y2 := by rw [hW]; exact ⟨by go_simp, by go_simp, by go_simp, by simp⟩
        have HX1 := HX.below (below_named hW)
        have hWz : wr.heap.size ≤ W.heap.size := (below_named hW).size
        clear hW k0 k1 k2 HX
        refine (HP.out _ _ _ _ (by omega) HX1.s).mono ?_
        rintro e u1 ⟨rfl, S1, hg1⟩
        have R1 := HX1.r.kept hg1 (fun h => hne.2 (by injection h with h; exact h.symm))
        have T1 := T0.kept hg1 (fun h => by injection h with h; omega)
        obtain ⟨t0, t1, t2, tl⟩ := id T1
        go_wp2_with fail
        refine (HQ.out _ _ R1).mono ?_
        rintro e u2 ⟨rfl, R2, hg2⟩
        clear t0 t1 t2 tl
        have S2 := S1.kept hg2 (fun h => hne.1 (by injection h)) (fun h => hne.2 (by injection h))
        have T2 := T1.kept hg2 (fun h => by injection h with h; omega)
        have HB2 : Below w.heap.size w u2 := below_gr (below_gr HX1.hB hg1 HX1.lb) hg2 HX1.lr
        have lb1 := HX1.lb
        have lr1 := HX1.lr
        clear hg1 hg2 T0 T1 S1 R1 HX1
        obtain ⟨x', y', A1, A2⟩ := At_sync y1 h1 h2 hA'
        have HA1 := Lib.hid A1
        have HA2 := Lib.hid A2
        clear A1 A2
        obtain ⟨t0, t1, t2, tl⟩ := id T2
        go_wp2_with fail
        refine (HA1.out _ _ _ _ S2).mono ?_
        rintro e v1 ⟨rfl, hc1⟩
        clear t0 t1 t2 tl
        have SZ := (S2).below hc1
        have RZ := (R2).below hc1
        obtain ⟨t0, t1, t2, tl⟩ := (T2).kept (grown_of_below hc1 none) (by simp)
        have HBZ := below_step HB2 hc1
        clear hc1
        go_wp2_with fail
        refine (HA2.out _ _ RZ).mono ?_
        rintro e v2 ⟨rfl, rfl⟩
        go_wp2_with fail
        go_roundw
        case rel => exact ⟨k + 1, sb, bm, g', f', by omega, by go_num, rfl, ⟨SZ, RZ, hA', lb1, lr1, HBZ⟩⟩
        case measure => simp [intOf]; omega
      · skip
        go_wp2_with fail
        refine calls_named fun W hW => ?_
        have T0 : Tri W wr.heap.size 2 y1 y2 := by rw [hW]; exact ⟨by go_simp, by go_simp, by go_simp, by simp⟩
        have HX1 := HX.below (below_named hW)
        have hWz : wr.heap.size ≤ W.heap.size := (below_named hW).size
        clear hW k0 k1 k2 HX
        refine (Reset_c _ _ _ _ _ _ HX1.s).mono ?_
        rintro e u1 ⟨rfl, S1, hg1⟩
        have R1 := HX1.r.kept hg1 (fun h => hne.2 (by injection h with h; exact h.symm))
        have T1 := T0.kept hg1 (fun h => by injection h with h; omega)
        obtain ⟨t0, t1, t2, tl⟩ := id T1
        go_wp2_with fail
        refine (rReset_c _ _ _ _ R1 h1 h2).mono ?_
        rintro e u2 ⟨rfl, R2, hg2⟩
        clear t0 t1 t2 tl
        have S2 := (S1.kept hg2 (fun h => hne.1 (by injection h)) (fun h => hne.2 (by injection h))).mono (Nat.zero_le (k + 1))
        have T2 := T1.kept hg2 (fun h => by injection h with h; omega)
        have HB2 : Below w.heap.size w u2 := below_gr (below_gr HX1.hB hg1 HX1.lb) hg2 HX1.lr
        have lb1 := HX1.lb
        have lr1 := HX1.lr
        clear hg1 hg2 T0 T1 S1 R1 HX1
        obtain ⟨x', y', A1, A2⟩ := At_sync y1 h1 h2 (Agr.start key)
        have HA1 := Lib.hid A1
        have HA2 := Lib.hid A2
        clear A1 A2
        obtain ⟨t0, t1, t2, tl⟩ := id T2
        go_wp2_with fail
        refine (HA1.out _ _ _ _ S2).mono ?_
        rintro e v1 ⟨rfl, hc1⟩
        clear t0 t1 t2 tl
        have SZ := (S2).below hc1
        have RZ := (R2).below hc1
        obtain ⟨t0, t1, t2, tl⟩ := (T2).kept (grown_of_below hc1 none) (by simp)
        have HBZ := below_step HB2 hc1
        clear hc1
        go_wp2_with fail
        refine (HA2.out _ _ RZ).mono ?_
        rintro e v2 ⟨rfl, rfl⟩
        go_wp2_with fail
        go_roundw
        case rel => exact ⟨k + 1, sb, bm, _, _, by omega, by go_num, rfl, ⟨SZ, RZ, Agr.start key, lb1, lr1, HBZ⟩⟩
        case measure => simp [intOf]; omega
      · obtain ⟨x, y, g', f', hA', P, Q⟩ := Print_sync y1 y2 h1 h2 HX.a
        have HP := Lib.hid P
        clear P Q
        go_wp2_with fail
        refine calls_named fun W hW => ?_
        have T0 : Tri W wr.heap.size 3 y1 y2 := by rw [hW]; exact ⟨by go_simp, by go_simp, by go_simp, by simp⟩
        have HX1 := HX.below (below_named hW)
        have hWz : wr.heap.size ≤ W.heap.size := (below_named hW).size
        clear hW k0 k1 k2 HX
        refine (Copy_c _ _ _ _ _ _ HX1.s h1 h2 (by omega)).mono ?_
        rintro e u1 ⟨sb', bm', rfl, hl1, hl2, S1, hb1⟩
        have R1 := HX1.r.below hb1
        have O1 := HX1.s.below hb1
        have T1 := T0.kept (grown_of_below hb1 none) (by simp)
        obtain ⟨t0, t1, t2, tl⟩ := id T1
        go_wp2_with fail
        refine (HP.out _ _ _ _ (by omega) O1).mono ?_
        rintro e u2 ⟨rfl, _, hg2⟩
        clear t0 t1 t2 tl
        have S2 := (S1.kept hg2 (fun h => by injection h with h; omega) (fun h => by injection h with h; omega)).mono (Nat.le_succ k)
        have R2 := R1.kept hg2 (fun h => hne.2 (by injection h with h; exact h.symm))
        have T2 := T1.kept hg2 (fun h => by injection h with h; omega)
        have HB2 : Below w.heap.size w u2 := below_gr (below_step HX1.hB hb1) hg2 HX1.lb
        have lb1 : w.heap.size ≤ bm' := by have := HX1.hB.size; omega
        have lr1 := HX1.lr
        have hAA := HX1.a
        clear hg2 hb1 O1 T0 T1 S1 R1 HX1
        obtain ⟨x', y', A1, A2⟩ := At_sync y1 h1 h2 hAA
        have HA1 := Lib.hid A1
        have HA2 := Lib.hid A2
        clear A1 A2
        obtain ⟨t0, t1, t2, tl⟩ := id T2
        go_wp2_with fail
        refine (HA1.out _ _ _ _ S2).mono ?_
        rintro e v1 ⟨rfl, hc1⟩
        clear t0 t1 t2 tl
        have SZ := (S2).below hc1
        have RZ := (R2).below hc1
        obtain ⟨t0, t1, t2, tl⟩ := (T2).kept (grown_of_below hc1 none) (by simp)
        have HBZ := below_step HB2 hc1
        clear hc1
        go_wp2_with fail
        refine (HA2.out _ _ RZ).mono ?_
        rintro e v2 ⟨rfl, rfl⟩
        go_wp2_with fail
        go_roundw
        case rel => exact ⟨k + 1, sb', bm', g, f, by omega, by go_num, rfl, ⟨SZ, RZ, hAA, lb1, lr1, HBZ⟩⟩
        case measure => simp [intOf]; omega
      · obtain ⟨x', y', A1, A2⟩ := At_sync y1 h1 h2 HX.a
        have HA1 := Lib.hid A1
        have HA2 := Lib.hid A2
        clear A1 A2
        have e0 : (y0 == 0) = false := beq_eq_false_iff_ne.2 hy.1
        have e1 : (y0 == 1) = false := beq_eq_false_iff_ne.2 hy.2.1
        have e2 : (y0 == 2) = false := beq_eq_false_iff_ne.2 hy.2.2.1
        have e3 : (y0 == 3) = false := beq_eq_false_iff_ne.2 hy.2.2.2
        clear hy
        go_wp2_with fail
        refine calls_named fun W hW => ?_
        have T0 : Tri W wr.heap.size y0 y1 y2 := by rw [hW]; exact ⟨by go_simp, by go_simp, by go_simp, by simp⟩
        have HX1 := HX.below (below_named hW)
        have hWz : wr.heap.size ≤ W.heap.size := (below_named hW).size
        clear hW k0 k1 k2 HX
        refine (HA1.out _ _ _ _ HX1.s).mono ?_
        rintro e v1 ⟨rfl, hc1⟩
        have HXZ := HX1.below hc1
        obtain ⟨t0, t1, t2, tl⟩ := T0.kept (grown_of_below hc1 none) (by simp)
        clear hc1 HX1 T0
        go_wp2_with fail
        refine (HA2.out _ _ HXZ.r).mono ?_
        rintro e v2 ⟨rfl, rfl⟩
        go_wp2_with fail
        go_roundw
        case rel => exact ⟨k + 1, sb, bm, g, f, by omega, by go_num, rfl, ⟨HXZ.s.mono (Nat.le_succ k), HXZ.r, HXZ.a, HXZ.lb, HXZ.lr, HXZ.hB⟩⟩
        case measure => simp [intOf]; omega
    · obtain rfl : k = len := by omega
      go_wp2_with fail
      go_loopw [24] (fun i wv => ∃ j : Int, -1 ≤ j ∧ j ≤ 71 ∧ i = .int .i64 j ∧ Both w w2.heap.size key k sb bm g f wv) (fun i _ => (71 - intOf i).toNat)
      case atStart => exact ⟨-1, by omega, by omega, rfl, HX⟩
      case round =>
        clear HX
        obtain ⟨j, hj0, hj1, rfl, HX⟩ := hrel
        by_cases hjl : j ≤ 70
        · obtain ⟨x', y', A1, A2⟩ := At_sync j h1 h2 HX.a
          have HA1 := Lib.hid A1
          have HA2 := Lib.hid A2
          clear A1 A2
          go_wp2_with fail
          refine (HA1.out _ _ _ _ HX.s).mono ?_
          rintro e v1 ⟨rfl, hc1⟩
          have HXZ := HX.below hc1
          clear hc1 HX
          go_wp2_with fail
          refine (HA2.out _ _ HXZ.r).mono ?_
          rintro e v2 ⟨rfl, rfl⟩
          go_wp2_with fail
          go_roundw
          case rel => first | exact ⟨j + 1, by omega, by omega, by go_num, HXZ⟩ | ((repeat apply Exists.intro); exact ⟨⟨j + 1, by omega, by omega, rfl, HXZ⟩, rfl⟩)
          case measure => simp [intOf]; omega
        · go_wp2_with fail
          refine (nothing_c _).mono ?_
          rintro e v1 ⟨rfl, hc1⟩
          go_wp2_with fail
          go_ret
          exact ⟨rfl, below_step HX.hB hc1⟩

set_option maxRecDepth 100000 in
set_option maxHeartbeats 16000000 in
theorem states_nil (key : Int) (a : Option Addr) (cap : Nat) (w : World) (h1 : -4 ≤ key) (h2 : key ≤ 4) :
    Calls Tryz.prog 9 #[.int .i64 key, .slice a 0 cap] w fun e w' => e = .returned (.bool true) ∧ Below w.heap.size w w' := by
  have HN := Lib.hid fun w => New_yes key w h1 h2
  have HR := Lib.hid fun w => rNew_yes key w h1 h2
  have hsz : (rowOf key (fun j => keyAlt key (j : Int))).size = 71 := rowOf_size _ _
  have hone := Lib.hid (row_one key (fun j => keyAlt key (j : Int)))
  have hi : Hid ((Tryz.prog.info? 63).map (·.size) = some (rowOf key (fun j => keyAlt key (j : Int))).size) := by rw [hsz]; exact info_row
  have hold : Hid (Tryz.zeroCells63.size = (rowOf key (fun j => keyAlt key (j : Int))).size) := by rw [hsz]; exact cellsState
  clear hsz
  go_enter Tryz.func9, Tryz.ntmps9
  go_wp2_with fail
  refine (HN.out _).mono ?_
  rintro e w1 ⟨rfl, S1, hb1⟩
  go_wp2_with fail
  refine (HR.out _).mono ?_
  rintro e w2 ⟨rfl, hb2⟩
  go_wp2_with (refine wpList_store_row rfl 63 (.tmp 7) (.tmp 37) rfl w2.heap.size (rowOf key (fun j => keyAlt key (j : Int))) rfl rfl 63 _ (heap_alloc_new w2 _) hi.out hold.out hone.out ?_)
  refine wp_named fun W hW => ?_
  have HX : Both w w2.heap.size key 0 (w.heap.size + 1) w.heap.size (fun _ => none) (fun j => keyAlt key (j : Int)) W := by
    have hz1 := hb1.size
    have hz2 := hb2.size
    have hg : w2.grownBy ((w2.alloc (.cells Tryz.zeroCells63 63)).setRow w2.heap.size (rowOf key (fun j => keyAlt key (j : Int)))) none := ⟨rfl, rfl, rfl, by simp, fun i hi _ => (setRow_other _ _ _ _ (by omega)).trans (Below.heap_alloc w2 _ i hi)⟩
    refine ⟨by rw [hW]; exact (S1.below hb2).kept hg (by simp) (by simp), by rw [hW]; exact setRow_heap _ _ _ _ _ _ (heap_alloc_new w2 _), Agr.start key, Nat.le_refl _, by omega, by rw [hW]; exact (below_step hb1 hb2).grown hg (by omega) (fun k hk => by cases hk)⟩
  clear hW S1 hb1 hb2 hi hold hone HN HR
  go_loopw [54, 5] (fun i p wr => ∃ (k sb bm : Nat) (g : Int → Option Int) (f : Nat → Int), k ≤ 0 ∧ i = .int .i64 k ∧ p = .pointer (some ⟨sb, 0, none⟩) ∧ Both w w2.heap.size key k sb bm g f wr) (fun i _ _ => 0 - (intOf i).toNat)
  case atStart => exact ⟨0, _, _, _, _, by omega, rfl, rfl, HX⟩
  case round =>
    clear HX
    obtain ⟨k, sb, bm, g, f, hk, rfl, rfl, HX⟩ := hrel
    have hk0 : k = 0 := by omega
    subst hk0
    go_wp2_with fail
    go_loopw [24] (fun i wv => ∃ j : Int, -1 ≤ j ∧ j ≤ 71 ∧ i = .int .i64 j ∧ Both w w2.heap.size key 0 sb bm g f wv) (fun i _ => (71 - intOf i).toNat)
    case atStart => exact ⟨-1, by omega, by omega, rfl, HX⟩
    case round =>
      clear HX
      obtain ⟨j, hj0, hj1, rfl, HX⟩ := hrel
      by_cases hjl : j ≤ 70
      · obtain ⟨x', y', A1, A2⟩ := At_sync j h1 h2 HX.a
        have HA1 := Lib.hid A1
        have HA2 := Lib.hid A2
        clear A1 A2
        go_wp2_with fail
        refine (HA1.out _ _ _ _ HX.s).mono ?_
        rintro e v1 ⟨rfl, hc1⟩
        have HXZ := HX.below hc1
        clear hc1 HX
        go_wp2_with fail
        refine (HA2.out _ _ HXZ.r).mono ?_
        rintro e v2 ⟨rfl, rfl⟩
        go_wp2_with fail
        go_roundw
        case rel => first | exact ⟨j + 1, by omega, by omega, by go_num, HXZ⟩ | ((repeat apply Exists.intro); exact ⟨⟨j + 1, by omega, by omega, rfl, HXZ⟩, rfl⟩)
        case measure => simp [intOf]; omega
      · go_wp2_with fail
        refine (nothing_c _).mono ?_
        rintro e v1 ⟨rfl, hc1⟩
        go_wp2_with fail
        go_ret
        exact ⟨rfl, below_step HX.hB hc1⟩

end Go.Proofs.YthfclapnkemjiaaGreatDoor
