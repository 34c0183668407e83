/-
  The walk of custoslaw05.ToneSmall. No condition.
-/
import Derived.Test.YthfclapnkemjiaaGreatDoorFracs
import Derived.Test.YthfclapnkemjiaaGreatDoorStaves
import Derived.Test.YthfclapnkemjiaaGreatDoorLengths
import Derived.Test.YthfclapnkemjiaaGreatDoorStates
import Derived.Test.YthfclapnkemjiaaGreatDoorIvs
import Derived.Test.YthfclapnkemjiaaGreatDoorParse3
import Derived.Test.YthfclapnkemjiaaGreatDoorAwake
import Derived.Laws.AppendOwn
import Derived.OwnWalk
import Derived.Lib.OthersKept
namespace Go.Proofs.YthfclapnkemjiaaGreatDoor
open Go.RowKit
set_option linter.unusedSimpArgs false
set_option linter.unusedVariables false

theorem mulB {x y : Int} (hx : -6 ≤ x ∧ x ≤ 6) (hy : -4 ≤ y ∧ y ≤ 4) : -24 ≤ x * y ∧ x * y ≤ 24 := by
  have := mul_bd (x := x) (y := y) (M := 6) (K := 4) (by omega) (by omega)
  omega
/-- block b begins with n numbers of type int -/
def Nums (w : World) (b n : Nat) : Prop := b < w.heap.size ∧ ∀ k : Nat, k < n → ∃ v, w.cell? ⟨b, k, none⟩ = some (.int .i64 v) ∧ i64P v
theorem Nums.below {w w' : World} {b n : Nat} (h : Nums w b n) (hb : Below w.heap.size w w') : Nums w' b n :=
  ⟨Nat.lt_of_lt_of_le h.1 hb.size, fun k hk => by
    obtain ⟨v, h1, h2⟩ := h.2 k hk
    exact ⟨v, (hb.cell (p := ⟨b, k, none⟩) h.1).trans h1, h2⟩⟩
theorem Nums.made {w W : World} {l : List Int} {T : TypeId} (h : W = w.alloc (.cells (l.map fun v => Value.int .i64 v).toArray T)) (hl : ∀ v ∈ l, i64P v) : Nums W w.heap.size l.length := by
  subst h
  refine ⟨by simp, fun k hk => ⟨l[k], ?_, hl _ (List.getElem_mem _)⟩⟩
  rw [cell_of_row _ _ _ _ _ _ (heap_alloc_new w _)]
  simp [hk]
theorem next_yes {P : Program} {w : World} {k pos : Nat} {L : ByteArray} (hit : w.heap[k]? = some (.stringIter L pos)) (hL : L.size = 19 ∧ ∀ i (h : i < L.size), (L[i]'h).toNat < 128) (hp : pos < 19) :
    ∃ (c : Int) (W : World), (∀ ty, (Instr.next (.pointer (some ⟨k, 0, none⟩)) true ty).run P w = .ok (.tuple #[.bool true, .int .i64 pos, .int .i32 c]) W) ∧ W.heap[k]? = some (.stringIter L (pos + 1)) ∧ k < W.heap.size ∧ (∀ B a, Below B a w → B ≤ k → Below B a W) := by
  have hp' : pos < L.size := by omega
  refine ⟨_, w.iterAt k L (pos + 1), fun ty => Lib.run_next_ascii_at w k L pos ty hit hp' (hL.2 pos hp'), Lib.iterAt_heap w k L pos (pos + 1) hit, ?_, fun B a h hB => Lib.below_iterAt h hB L (pos + 1)⟩
  rw [Lib.iterAt_size]
  exact (Array.getElem?_eq_some_iff.1 hit).1
theorem piece {P : Program} {T : TypeId} (hT : P.underlying T = some .string) {L : ByteArray} (hL : L.size = 19) (i : Int) (h0 : 0 ≤ i) (hi : i < 19) :
    ∃ S : ByteArray, S.size = 1 ∧ ∀ wx : World, (Instr.slice T (.string L) (some (.int .i64 i)) (some (.int .i64 (i + 1))) none).run P wx = .ok (.string S) wx := by
  have := fun wx => run_slice_string (P := P) wx T L .i64 .i64 i (i + 1) hT h0 (by omega) (by omega)
  exact ⟨_, by simp only [ByteArray.size_extract]; omega, this⟩
instance (x : Int) : Decidable (i64P x) := by unfold i64P; infer_instance
theorem newCells (w : World) (l : List Value) (T : TypeId) : ∀ j u, l[j]? = some u → (w.alloc (.cells l.toArray T)).cell? ((⟨w.heap.size, 0, none⟩ : Addr).add j) = some u := by
  intro j u hu
  have hadd : (⟨w.heap.size, 0, none⟩ : Addr).add j = ⟨w.heap.size, j, none⟩ := by unfold Addr.add; split <;> simp_all
  rw [hadd, cell_of_row _ _ _ _ _ _ (heap_alloc_new w _)]
  simpa using hu
theorem own_cells {w : World} {base : Nat} {e : TypeId} {k : Nat} {xs : List Int} {g cap : Nat} (h : w.ownsRow base e 3 (.slice (some ⟨g, 0, none⟩) k cap) k (xs.map (Value.int .i64))) :
    ∀ i : Nat, i < k → w.cell? ⟨g, 0 + i * 3, none⟩ = some (.int .i64 (xs.getD (i * 3) 0)) ∧ w.cell? ⟨g, 0 + i * 3 + 1, none⟩ = some (.int .i64 (xs.getD (i * 3 + 1) 0)) ∧ w.cell? ⟨g, 0 + i * 3 + 2, none⟩ = some (.int .i64 (xs.getD (i * 3 + 2) 0)) := by
  have hl := h.1
  rw [List.length_map] at hl
  have hj : ∀ j : Nat, j < k * 3 → w.cell? ⟨g, j, none⟩ = some (.int .i64 (xs.getD j 0)) := fun j hj => by
    have hadd : (⟨g, 0, none⟩ : Addr).add j = ⟨g, j, none⟩ := by unfold Addr.add; split <;> simp_all
    have := h.cells (g := g) rfl j (.int .i64 (xs.getD j 0)) (by rw [List.getElem?_map, List.getD_eq_getElem?_getD, List.getElem?_eq_getElem (by omega)]; rfl)
    rwa [hadd] at this
  intro i hi
  rw [Nat.zero_add]
  exact ⟨hj _ (by omega), hj _ (by omega), hj _ (by omega)⟩
set_option maxRecDepth 100000 in
set_option maxHeartbeats 16000000 in
theorem Small_walk (w : World) :
    Calls Tryz.prog 3 #[] w fun e w' => e = .returned (.bool true) ∧ Below w.heap.size w w' := by
  go_enter Tryz.func3, Tryz.ntmps3
  go_wp2_with fail
  go_loopw [1] (fun i wr1 => ∃ x1 : Int, -6 ≤ x1 ∧ x1 ≤ 7 ∧ i = .int .i64 x1 ∧ Below w.heap.size w wr1) (fun i _ => (7 - intOf i).toNat)
  case atStart => exact ⟨-6, by omega, by omega, rfl, (Below.refl _ _)⟩
  case round =>
    obtain ⟨wr1, rfl⟩ : ∃ wo : World, wo = wr := ⟨_, rfl⟩
    obtain ⟨x1, lx1, hx1, rfl, hB1⟩ := hrel
    by_cases cx1 : x1 ≤ 6
    · skip
      go_wp2_with fail
      go_loopw [2] (fun i wr2 => ∃ x2 : Int, -6 ≤ x2 ∧ x2 ≤ 7 ∧ i = .int .i64 x2 ∧ Below w.heap.size w wr2) (fun i _ => (7 - intOf i).toNat)
      case atStart => exact ⟨-6, by omega, by omega, rfl, hB1⟩
      case round =>
        obtain ⟨wr2, rfl⟩ : ∃ wo : World, wo = wr := ⟨_, rfl⟩
        obtain ⟨x2, lx2, hx2, rfl, hB2⟩ := hrel
        by_cases cx2 : x2 ≤ 6
        · skip
          go_wp2_with fail
          go_loopw [3] (fun i wr3 => ∃ x3 : Int, -4 ≤ x3 ∧ x3 ≤ 5 ∧ i = .int .i64 x3 ∧ Below w.heap.size w wr3) (fun i _ => (5 - intOf i).toNat)
          case atStart => exact ⟨-4, by omega, by omega, rfl, hB2⟩
          case round =>
            obtain ⟨wr3, rfl⟩ : ∃ wo : World, wo = wr := ⟨_, rfl⟩
            obtain ⟨x3, lx3, hx3, rfl, hB3⟩ := hrel
            by_cases cx3 : x3 ≤ 4
            · skip
              go_wp2_with fail
              go_loopw [4] (fun i wr4 => ∃ x4 : Int, -1 ≤ x4 ∧ x4 ≤ 5 ∧ i = .int .i64 x4 ∧ Below w.heap.size w wr4) (fun i _ => (5 - intOf i).toNat)
              case atStart => exact ⟨-1, by omega, by omega, rfl, hB3⟩
              case round =>
                obtain ⟨wr4, rfl⟩ : ∃ wo : World, wo = wr := ⟨_, rfl⟩
                obtain ⟨x4, lx4, hx4, rfl, hB4⟩ := hrel
                by_cases cx4 : x4 ≤ 4
                · skip
                  have hm := mulB (x := x1) (y := x3) ⟨by omega, by omega⟩ ⟨by omega, by omega⟩
                  go_wp2_with fail
                  refine (fractions_c x1 x2 x3 x4 (x1 * x3) x2 _ ⟨by omega, by omega⟩ ⟨by omega, by omega⟩ ⟨by omega, by omega⟩ ⟨by omega, by omega⟩ ⟨by omega, by omega⟩ ⟨by omega, by omega⟩).mono ?_
                  rintro e u ⟨rfl, hb⟩
                  have hB' := below_step hB4 hb
                  clear hb
                  go_wp2_with fail
                  go_roundw
                  case rel => first | exact ⟨x4 + 1, by omega, by omega, by go_num, hB'⟩ | ((repeat apply Exists.intro); exact ⟨⟨x4 + 1, by omega, by omega, rfl, hB'⟩, rfl⟩)
                  case measure => simp [intOf]; omega
                · skip
                  go_wp2_with fail
                  go_roundw
                  case rel => first | exact ⟨x3 + 1, by omega, by omega, by go_num, hB4⟩ | ((repeat apply Exists.intro); exact ⟨⟨x3 + 1, by omega, by omega, rfl, hB4⟩, rfl⟩)
                  case measure => simp [intOf]; omega
            · skip
              go_wp2_with fail
              go_roundw
              case rel => first | exact ⟨x2 + 1, by omega, by omega, by go_num, hB3⟩ | ((repeat apply Exists.intro); exact ⟨⟨x2 + 1, by omega, by omega, rfl, hB3⟩, rfl⟩)
              case measure => simp [intOf]; omega
        · skip
          go_wp2_with fail
          go_roundw
          case rel => first | exact ⟨x1 + 1, by omega, by omega, by go_num, hB2⟩ | ((repeat apply Exists.intro); exact ⟨⟨x1 + 1, by omega, by omega, rfl, hB2⟩, rfl⟩)
          case measure => simp [intOf]; omega
    · skip
      go_wp2_with fail
      refine wp_named fun W2 hW2 => ?_
      have NW2 := Lib.hid (Nums.made (l := [-9223372036854775808, -9223372036854775807, -1048577, -1048576, 1, 1048575, 1048576, 1048577, 9223372036854775807]) hW2 (by decide))
      have BW2 : Below w.heap.size w W2 := by rw [hW2]; exact below_step hB1 ((Below.refl _ _).alloc (Nat.le_refl _) _)
      clear hW2
      go_loopw [70] (fun i wr5 => ∃ x5 : Int, 0 ≤ x5 ∧ x5 ≤ 9 ∧ i = .int .i64 x5 ∧ Below w.heap.size w wr5 ∧ Hid (Nums wr5 wr1.heap.size 9)) (fun i _ => (9 - intOf i).toNat)
      case atStart => exact ⟨0, by omega, by omega, rfl, BW2, NW2⟩
      case round =>
        obtain ⟨wr5, rfl⟩ : ∃ wo : World, wo = wr := ⟨_, rfl⟩
        obtain ⟨x5, lx5, hx5, rfl, hB5, hE5⟩ := hrel
        by_cases cx5 : x5 ≤ 8
        · have dx5 : decide (x5 < 9) = true := decide_eq_true (by omega)
          obtain ⟨va, qva, iva⟩ := hE5.out.2 x5.toNat (by omega)
          go_wp2_with fail
          go_loopw [76] (fun i wr6 => ∃ x6 : Int, 0 ≤ x6 ∧ x6 ≤ 9 ∧ i = .int .i64 x6 ∧ Below w.heap.size w wr6 ∧ Hid (Nums wr6 wr1.heap.size 9)) (fun i _ => (9 - intOf i).toNat)
          case atStart => exact ⟨0, by omega, by omega, rfl, hB5, hE5⟩
          case round =>
            obtain ⟨wr6, rfl⟩ : ∃ wo : World, wo = wr := ⟨_, rfl⟩
            obtain ⟨x6, lx6, hx6, rfl, hB6, hE6⟩ := hrel
            by_cases cx6 : x6 ≤ 8
            · have dx6 : decide (x6 < 9) = true := decide_eq_true (by omega)
              obtain ⟨vb, qvb, ivb⟩ := hE6.out.2 x6.toNat (by omega)
              go_wp2_with fail
              refine (fractions_c va vb vb 1 va vb _ iva ivb ivb (by decide) iva ivb).mono ?_
              rintro e u ⟨rfl, hb⟩
              have hC' := below_step hB6 hb
              have E3 := Lib.hid (hE6.out.below hb)
              clear hb
              go_wp2_with fail
              refine (fractions_c va 1 1 vb vb va _ iva (by decide) (by decide) ivb ivb iva).mono ?_
              rintro e u ⟨rfl, hb⟩
              have hD' := below_step hC' hb
              have E4 := Lib.hid (E3.out.below hb)
              clear hb
              go_wp2_with fail
              go_roundw
              case rel => first | exact ⟨x6 + 1, by omega, by omega, by go_num, hD', E4⟩ | ((repeat apply Exists.intro); exact ⟨⟨x6 + 1, by omega, by omega, rfl, hD', E4⟩, rfl⟩)
              case measure => simp [intOf]; omega
            · skip
              go_wp2_with fail
              go_roundw
              case rel => first | exact ⟨x5 + 1, by omega, by omega, by go_num, hB6, hE6⟩ | ((repeat apply Exists.intro); exact ⟨⟨x5 + 1, by omega, by omega, rfl, hB6, hE6⟩, rfl⟩)
              case measure => simp [intOf]; omega
        · skip
          go_wp2_with fail
          go_loopw [10] (fun i wr7 => ∃ x7 : Int, -1 ≤ x7 ∧ x7 ≤ 34 ∧ i = .int .i64 x7 ∧ Below w.heap.size w wr7) (fun i _ => (34 - intOf i).toNat)
          case atStart => exact ⟨-1, by omega, by omega, rfl, hB5⟩
          case round =>
            obtain ⟨wr7, rfl⟩ : ∃ wo : World, wo = wr := ⟨_, rfl⟩
            obtain ⟨x7, lx7, hx7, rfl, hB7⟩ := hrel
            by_cases cx7 : x7 ≤ 33
            · skip
              go_wp2_with fail
              go_loopw [11] (fun i wr8 => ∃ x8 : Int, -1 ≤ x8 ∧ x8 ≤ 11 ∧ i = .int .i64 x8 ∧ Below w.heap.size w wr8) (fun i _ => (11 - intOf i).toNat)
              case atStart => exact ⟨-1, by omega, by omega, rfl, hB7⟩
              case round =>
                obtain ⟨wr8, rfl⟩ : ∃ wo : World, wo = wr := ⟨_, rfl⟩
                obtain ⟨x8, lx8, hx8, rfl, hB8⟩ := hrel
                by_cases cx8 : x8 ≤ 10
                · skip
                  go_wp2_with fail
                  go_loopw [12] (fun i wr9 => ∃ x9 : Int, -1 ≤ x9 ∧ x9 ≤ 18 ∧ i = .int .i64 x9 ∧ Below w.heap.size w wr9) (fun i _ => (18 - intOf i).toNat)
                  case atStart => exact ⟨-1, by omega, by omega, rfl, hB8⟩
                  case round =>
                    obtain ⟨wr9, rfl⟩ : ∃ wo : World, wo = wr := ⟨_, rfl⟩
                    obtain ⟨x9, lx9, hx9, rfl, hB9⟩ := hrel
                    by_cases cx9 : x9 ≤ 17
                    · skip
                      obtain ⟨y1, y2, y3, A1, A2⟩ := Bar_both x8 x9
                      have J1 := Lib.hid A1
                      have J2 := Lib.hid A2
                      clear A1 A2
                      go_wp2_with fail
                      refine (J1.out _).mono ?_
                      rintro e u ⟨rfl, hb⟩
                      have hC := below_step hB9 hb
                      clear hb
                      go_wp2_with fail
                      refine calls_named fun V hV => ?_
                      have Pv := Pair.made hV
                      have hD := below_step hC (below_named hV)
                      clear hV
                      refine (J2.out _).mono ?_
                      rintro e v ⟨rfl, hb⟩
                      have hE := below_step hD hb
                      obtain ⟨p0, p1, p2, -, -⟩ := Pv.next hb
                      clear hb Pv J1 J2
                      go_wp2_with fail
                      go_roundw
                      case rel => first | exact ⟨x9 + 1, by omega, by omega, by go_num, (below_step hE ((Below.refl _ _).alloc (Nat.le_refl _) _))⟩ | ((repeat apply Exists.intro); exact ⟨⟨x9 + 1, by omega, by omega, rfl, (below_step hE ((Below.refl _ _).alloc (Nat.le_refl _) _))⟩, rfl⟩)
                      case measure => simp [intOf]; omega
                    · skip
                      go_wp2_with fail
                      go_roundw
                      case rel => first | exact ⟨x8 + 1, by omega, by omega, by go_num, hB9⟩ | ((repeat apply Exists.intro); exact ⟨⟨x8 + 1, by omega, by omega, rfl, hB9⟩, rfl⟩)
                      case measure => simp [intOf]; omega
                · skip
                  go_wp2_with fail
                  go_loopw [135] (fun i wr10 => ∃ x10 : Int, 0 ≤ x10 ∧ x10 ≤ 4 ∧ i = .int .i64 x10 ∧ Below w.heap.size w wr10) (fun i _ => (4 - intOf i).toNat)
                  case atStart => exact ⟨0, by omega, by omega, rfl, hB8⟩
                  case round =>
                    obtain ⟨wr10, rfl⟩ : ∃ wo : World, wo = wr := ⟨_, rfl⟩
                    obtain ⟨x10, lx10, hx10, rfl, hB10⟩ := hrel
                    by_cases cx10 : x10 ≤ 3
                    · have dx10 : decide (x10 < 4) = true := decide_eq_true (by omega)
                      go_wp2_with fail
                      refine (Lengths_walk x7 _ _ 0 0 x7 _).mono ?_
                      rintro e u ⟨rfl, hb⟩
                      have hB' := below_step hB10 hb
                      clear hb
                      go_wp2_with fail
                      go_roundw
                      case rel => first | exact ⟨x10 + 1, by omega, by omega, by go_num, hB'⟩ | ((repeat apply Exists.intro); exact ⟨⟨x10 + 1, by omega, by omega, rfl, hB'⟩, rfl⟩)
                      case measure => simp [intOf]; omega
                    · skip
                      go_wp2_with fail
                      go_roundw
                      case rel => first | exact ⟨x7 + 1, by omega, by omega, by go_num, hB10⟩ | ((repeat apply Exists.intro); exact ⟨⟨x7 + 1, by omega, by omega, rfl, hB10⟩, rfl⟩)
                      case measure => simp [intOf]; omega
            · skip
              go_wp2_with fail
              go_loopw [18] (fun i wr11 => ∃ x11 : Int, -6 ≤ x11 ∧ x11 ≤ 7 ∧ i = .int .i64 x11 ∧ Below w.heap.size w wr11) (fun i _ => (7 - intOf i).toNat)
              case atStart => exact ⟨-6, by omega, by omega, rfl, hB7⟩
              case round =>
                obtain ⟨wr11, rfl⟩ : ∃ wo : World, wo = wr := ⟨_, rfl⟩
                obtain ⟨x11, lx11, hx11, rfl, hB11⟩ := hrel
                by_cases cx11 : x11 ≤ 6
                · skip
                  go_wp2_with fail
                  go_loopw [19] (fun i wr12 => ∃ x12 : Int, -2 ≤ x12 ∧ x12 ≤ 73 ∧ i = .int .i64 x12 ∧ Below w.heap.size w wr12) (fun i _ => (73 - intOf i).toNat)
                  case atStart => exact ⟨-2, by omega, by omega, rfl, hB11⟩
                  case round =>
                    obtain ⟨wr12, rfl⟩ : ∃ wo : World, wo = wr := ⟨_, rfl⟩
                    obtain ⟨x12, lx12, hx12, rfl, hB12⟩ := hrel
                    by_cases cx12 : x12 ≤ 72
                    · skip
                      go_wp2_with fail
                      go_loopw [20] (fun i wr13 => ∃ x13 : Int, -2 ≤ x13 ∧ x13 ≤ 5 ∧ i = .int .i64 x13 ∧ Below w.heap.size w wr13) (fun i _ => (5 - intOf i).toNat)
                      case atStart => exact ⟨-2, by omega, by omega, rfl, hB12⟩
                      case round =>
                        obtain ⟨wr13, rfl⟩ : ∃ wo : World, wo = wr := ⟨_, rfl⟩
                        obtain ⟨x13, lx13, hx13, rfl, hB13⟩ := hrel
                        by_cases cx13 : x13 ≤ 4
                        · skip
                          go_wp2_with fail
                          refine (staves_c _ _ _ _ _ _ _).mono ?_
                          rintro e u ⟨rfl, hb⟩
                          have hC' := below_step hB13 hb
                          clear hb
                          go_wp2_with fail
                          refine (staves_c _ _ _ _ _ _ _).mono ?_
                          rintro e u ⟨rfl, hb⟩
                          have hD' := below_step hC' hb
                          clear hb
                          go_wp2_with fail
                          go_roundw
                          case rel => first | exact ⟨x13 + 1, by omega, by omega, by go_num, hD'⟩ | ((repeat apply Exists.intro); exact ⟨⟨x13 + 1, by omega, by omega, rfl, hD'⟩, rfl⟩)
                          case measure => simp [intOf]; omega
                        · skip
                          go_wp2_with fail
                          go_roundw
                          case rel => first | exact ⟨x12 + 1, by omega, by omega, by go_num, hB13⟩ | ((repeat apply Exists.intro); exact ⟨⟨x12 + 1, by omega, by omega, rfl, hB13⟩, rfl⟩)
                          case measure => simp [intOf]; omega
                    · skip
                      go_wp2_with fail
                      go_loopw [182, 21] (fun i p wl => ∃ (k : Nat) (xs : List Int) (pa : Option Addr) (cap : Nat), k ≤ 60 ∧ i = .int .i64 k ∧ p = .slice pa k cap ∧ Hid (xs.length = k * 3) ∧ Hid (wl.ownsRow wr12.heap.size 39 3 (.slice pa k cap) k (xs.map (Value.int .i64))) ∧ Below wr12.heap.size wr12 wl) (fun i _ _ => 60 - (intOf i).toNat)
                      case atStart => exact ⟨0, [], none, 0, by omega, rfl, rfl, rfl, ⟨rfl, .inl ⟨rfl, rfl⟩⟩, Below.refl _ _⟩
                      case round =>
                        obtain ⟨k, xs, pa, cap, hk, rfl, rfl, hxl, hown, hBl⟩ := hrel
                        by_cases hlt : k < 60
                        · skip
                          have hlti : (k : Int) < 60 := by omega
                          have hsq : 0 ≤ (k : Int) * (k : Int) ∧ (k : Int) * (k : Int) ≤ 3600 := ⟨Int.mul_nonneg (by omega) (by omega), by have := Int.mul_le_mul (a := (k : Int)) (b := (k : Int)) (c := 60) (d := 60) (by omega) (by omega) (by omega) (by omega); omega⟩
                          have hIt : Tryz.prog.info? 39 = some Tryz.t39 := rfl
                          go_wp2_with (at_builtin; go_loud (refine wpList_append_own _ rfl (.tmp 185) (.tmp 199) _ rfl wr12.heap.size 39 Tryz.t39 _ 3 24 rfl hIt rfl rfl rfl rfl (by omega) (.slice pa k cap) k (xs.map (Value.int .i64)) rfl (hown.out.alloc _) ⟨wr.heap.size, 0, none⟩ 1 1 ([(k : Int) * 7 % 4, 28 + (k : Int) * 5 % 9, (k : Int) * (k : Int) % 5 - 1].map (Value.int .i64)) rfl rfl (newCells _ _ _) (by simp [Value.oneCell']) (by simp only [maxLen]; omega) (by omega) (by have := hBl.size; simp; omega) ?_))
                          intro v' w' ho hg hn
                          obtain ⟨pa', cap', rfl⟩ : ∃ pa' cap', v' = .slice pa' (k + 1) cap' := by
                            rcases ho.2 with ⟨-, h0⟩ | ⟨g, cap', cur, rfl, -⟩
                            · omega
                            · exact ⟨_, _, rfl⟩
                          have hBn : Below wr12.heap.size wr12 w' := (hBl.alloc hBl.size _).grown hg (by have := hBl.size; simp; omega) (fun j hj => (hown.out.lt j hj).1)
                          have hon := Lib.hid (by rw [List.map_append]; exact ho : w'.ownsRow wr12.heap.size 39 3 (.slice pa' (k + 1) cap') (k + 1) ((xs ++ [(k : Int) * 7 % 4, 28 + (k : Int) * 5 % 9, (k : Int) * (k : Int) % 5 - 1]).map (Value.int .i64)))
                          have hxn := Lib.hid (by have := hxl.out; simp; omega : (xs ++ [(k : Int) * 7 % 4, 28 + (k : Int) * 5 % 9, (k : Int) * (k : Int) % 5 - 1]).length = (k + 1) * 3)
                          clear ho hg hn hown hBl hsq hIt hxl
                          generalize xs ++ [(k : Int) * 7 % 4, 28 + (k : Int) * 5 % 9, (k : Int) * (k : Int) % 5 - 1] = ys at hon hxn
                          go_wp2_with fail
                          go_roundw
                          case rel => exact ⟨k + 1, ys, pa', cap', by omega, by go_num, rfl, hxn, hon, hBn⟩
                          case measure => simp [intOf]; omega
                        · skip
                          have hk60 : k = 60 := by omega
                          subst hk60
                          have HB1 := below_step hB12 hBl
                          obtain ⟨-, ⟨-, h0⟩ | ⟨g, cap', cur, hpe, hgb, hgr, -, -, -, -⟩⟩ := id hown.out
                          · omega
                          simp only [Value.slice.injEq] at hpe
                          obtain ⟨rfl, -, rfl⟩ := hpe
                          have hsl := (Array.getElem?_eq_some_iff.1 hgr).1
                          have HS : Hid (Calls Tryz.prog 9 #[.int .i64 x11, .slice (some ⟨g, 0, none⟩) 60 cap] wr fun e w' => e = .returned (.bool true) ∧ Below wr.heap.size wr w') := by
                            by_cases hx : x11 < -4 ∨ 4 < x11
                            · exact states_bad x11 _ _ hx
                            · exact states_some x11 g 0 60 cap _ _ _ wr (by omega) (by omega) (by omega) hsl (own_cells hown.out)
                          clear hown hgr hgb hsl hxl hBl
                          go_wp2_with fail
                          refine (HS.out).mono ?_
                          rintro e u ⟨rfl, hb⟩
                          have hC' := below_step HB1 hb
                          clear hb
                          clear HS
                          go_wp2_with fail
                          go_roundw
                          case rel => first | exact ⟨x11 + 1, by omega, by omega, by go_num, hC'⟩ | ((repeat apply Exists.intro); exact ⟨⟨x11 + 1, by omega, by omega, rfl, hC'⟩, rfl⟩)
                          case measure => simp [intOf]; omega
                · skip
                  go_wp2_with fail
                  go_loopw [23] (fun i wr15 => ∃ x15 : Int, -16 ≤ x15 ∧ x15 ≤ 17 ∧ i = .int .i64 x15 ∧ Below w.heap.size w wr15) (fun i _ => (17 - intOf i).toNat)
                  case atStart => exact ⟨-16, by omega, by omega, rfl, hB11⟩
                  case round =>
                    obtain ⟨wr15, rfl⟩ : ∃ wo : World, wo = wr := ⟨_, rfl⟩
                    obtain ⟨x15, lx15, hx15, rfl, hB15⟩ := hrel
                    by_cases cx15 : x15 ≤ 16
                    · skip
                      go_wp2_with fail
                      go_loopw [24] (fun i wr16 => ∃ x16 : Int, -28 ≤ x16 ∧ x16 ≤ 29 ∧ i = .int .i64 x16 ∧ Below w.heap.size w wr16) (fun i _ => (29 - intOf i).toNat)
                      case atStart => exact ⟨-28, by omega, by omega, rfl, hB15⟩
                      case round =>
                        obtain ⟨wr16, rfl⟩ : ∃ wo : World, wo = wr := ⟨_, rfl⟩
                        obtain ⟨x16, lx16, hx16, rfl, hB16⟩ := hrel
                        by_cases cx16 : x16 ≤ 28
                        · skip
                          go_wp2_with fail
                          refine calls_named fun V hV => ?_
                          have Pv := Pair.made hV
                          have hC0 := below_step hB16 (below_named hV)
                          clear hV
                          refine (intervals_c _ _ _ _ _ _ _ _ ⟨by omega, by omega⟩ ⟨by omega, by omega⟩).mono ?_
                          rintro e u ⟨rfl, hb⟩
                          have hC' := below_step hC0 hb
                          have Pu := Pv.next hb
                          clear hb
                          obtain ⟨p0, p1, p2, -, -⟩ := id Pu
                          go_wp2_with fail
                          refine (intervals_c _ _ _ _ _ _ _ _ ⟨by omega, by omega⟩ ⟨by omega, by omega⟩).mono ?_
                          rintro e u ⟨rfl, hb⟩
                          have hD' := below_step hC' hb
                          clear hb
                          clear p0 p1 p2
                          go_wp2_with fail
                          go_roundw
                          case rel => first | exact ⟨x16 + 1, by omega, by omega, by go_num, hD'⟩ | ((repeat apply Exists.intro); exact ⟨⟨x16 + 1, by omega, by omega, rfl, hD'⟩, rfl⟩)
                          case measure => simp [intOf]; omega
                        · skip
                          go_wp2_with fail
                          go_roundw
                          case rel => first | exact ⟨x15 + 1, by omega, by omega, by go_num, hB16⟩ | ((repeat apply Exists.intro); exact ⟨⟨x15 + 1, by omega, by omega, rfl, hB16⟩, rfl⟩)
                          case measure => simp [intOf]; omega
                    · skip
                      go_wp2_with fail
                      refine wp_named fun W6 hW6 => ?_
                      have NW6 := Lib.hid (Nums.made (l := [-201, -200, -70, -69, 69, 70, 200, 201, -9223372036854775808, 9223372036854775807]) hW6 (by decide))
                      have BW6 : Below w.heap.size w W6 := by rw [hW6]; exact below_step hB15 ((Below.refl _ _).alloc (Nat.le_refl _) _)
                      clear hW6
                      go_loopw [241] (fun i wr17 => ∃ x17 : Int, 0 ≤ x17 ∧ x17 ≤ 10 ∧ i = .int .i64 x17 ∧ Below w.heap.size w wr17 ∧ Hid (Nums wr17 wr15.heap.size 10)) (fun i _ => (10 - intOf i).toNat)
                      case atStart => exact ⟨0, by omega, by omega, rfl, BW6, NW6⟩
                      case round =>
                        obtain ⟨wr17, rfl⟩ : ∃ wo : World, wo = wr := ⟨_, rfl⟩
                        obtain ⟨x17, lx17, hx17, rfl, hB17, hE17⟩ := hrel
                        by_cases cx17 : x17 ≤ 9
                        · have dx17 : decide (x17 < 10) = true := decide_eq_true (by omega)
                          obtain ⟨vn, qvn, ivn⟩ := hE17.out.2 x17.toNat (by omega)
                          go_wp2_with fail
                          refine wp_named fun W7 hW7 => ?_
                          have NW7 := Lib.hid (Nums.made (l := [-201, -200, -118, -117, 117, 118, 200, 201, -9223372036854775808, 9223372036854775807]) hW7 (by decide))
                          have B7 : Below w.heap.size w W7 := by rw [hW7]; exact below_step hB17 ((Below.refl _ _).alloc (Nat.le_refl _) _)
                          have M7 := Lib.hid (hE17.out.below (show Below wr17.heap.size wr17 W7 by rw [hW7]; exact (Below.refl _ _).alloc (Nat.le_refl _) _))
                          clear hW7
                          go_loopw [247] (fun i wr18 => ∃ x18 : Int, 0 ≤ x18 ∧ x18 ≤ 10 ∧ i = .int .i64 x18 ∧ Below w.heap.size w wr18 ∧ Hid (Nums wr18 wr15.heap.size 10 ∧ Nums wr18 wr17.heap.size 10)) (fun i _ => (10 - intOf i).toNat)
                          case atStart => exact ⟨0, by omega, by omega, rfl, B7, ⟨M7.out, NW7.out⟩⟩
                          case round =>
                            obtain ⟨wr18, rfl⟩ : ∃ wo : World, wo = wr := ⟨_, rfl⟩
                            obtain ⟨x18, lx18, hx18, rfl, hB18, hE18⟩ := hrel
                            by_cases cx18 : x18 ≤ 9
                            · have dx18 : decide (x18 < 10) = true := decide_eq_true (by omega)
                              have E2' := Lib.hid hE18.out.2
                              obtain ⟨vm, qvm, ivm⟩ := E2'.out.2 x18.toNat (by omega)
                              go_wp2_with fail
                              refine (intervals_c _ _ _ _ _ _ _ _ ivn ivm).mono ?_
                              rintro e u ⟨rfl, hb⟩
                              have hC' := below_step hB18 hb
                              have F3 := Lib.hid (And.intro (hE18.out.1.below hb) (hE18.out.2.below hb))
                              clear hb
                              go_wp2_with fail
                              refine (intervals_c _ _ _ _ _ _ _ _ (by decide) ivm).mono ?_
                              rintro e u ⟨rfl, hb⟩
                              have hD' := below_step hC' hb
                              have F4 := Lib.hid (And.intro (F3.out.1.below hb) (F3.out.2.below hb))
                              clear hb
                              go_wp2_with fail
                              go_roundw
                              case rel => first | exact ⟨x18 + 1, by omega, by omega, by go_num, hD', F4⟩ | ((repeat apply Exists.intro); exact ⟨⟨x18 + 1, by omega, by omega, rfl, hD', F4⟩, rfl⟩)
                              case measure => simp [intOf]; omega
                            · skip
                              go_wp2_with fail
                              go_roundw
                              case rel => first | exact ⟨x17 + 1, by omega, by omega, by go_num, hB18, hE18.out.1⟩ | ((repeat apply Exists.intro); exact ⟨⟨x17 + 1, by omega, by omega, rfl, hB18, hE18.out.1⟩, rfl⟩)
                              case measure => simp [intOf]; omega
                        · skip
                          go_wp2_with fail
                          generalize hLL : (ByteArray.mk #[97, 98, 99, 103, 104, 114, 65, 66, 35, 48, 49, 56, 57, 45, 80, 77, 109, 100, 32]) = L
                          have hL : Hid (L.size = 19 ∧ ∀ i (h : i < L.size), (L[i]'h).toNat < 128) := by subst hLL; exact ⟨rfl, by decide⟩
                          clear hLL
                          have hL19 := hL.out.1
                          go_loopw [] (fun wl => ∃ (pos : Nat), pos ≤ 19 ∧ Hid (wl.heap[wr17.heap.size]? = some (.stringIter L pos)) ∧ Below w.heap.size w wl) (fun wl => 19 - wl.iterPos wr17.heap.size)
                          case atStart => exact ⟨0, by omega, World.iter_heap _ _ _, hB17.alloc hB17.size _⟩
                          case round =>
                            obtain ⟨wa, rfl⟩ : ∃ wo : World, wo = wr := ⟨_, rfl⟩
                            obtain ⟨pos, hpos, hit, hBa⟩ := hrel
                            have hk0 : w.heap.size ≤ wr17.heap.size := hB17.size
                            by_cases hp : pos < 19
                            · skip
                              obtain ⟨c1, W1, hnx, hit1, hk1, hBf⟩ := next_yes (P := Tryz.prog) hit.out hL.out hp
                              have hit1 := Lib.hid hit1
                              have hB1 := hBf _ _ hBa hk0
                              clear hBf hBa
                              go_wp2_with fail
                              clear hnx
                              go_loopw [] (fun wl => ∃ (pos2 : Nat), pos2 ≤ 19 ∧ Hid (wl.heap[W1.heap.size]? = some (.stringIter L pos2)) ∧ Below W1.heap.size W1 wl) (fun wl => 19 - wl.iterPos W1.heap.size)
                              case atStart => exact ⟨0, by omega, World.iter_heap _ _ _, (Below.refl _ _).alloc (Nat.le_refl _) _⟩
                              case round =>
                                obtain ⟨wb, rfl⟩ : ∃ wo : World, wo = wr := ⟨_, rfl⟩
                                obtain ⟨pos2, hpos2, hitb, hBb⟩ := hrel
                                by_cases hp2 : pos2 < 19
                                · skip
                                  obtain ⟨c2, W2, hnx2, hit2, hk2, hBf2⟩ := next_yes (P := Tryz.prog) hitb.out hL.out hp2
                                  have hit2 := Lib.hid hit2
                                  have hB2 := hBf2 _ _ hBb (Nat.le_refl _)
                                  clear hBf2 hBb
                                  go_wp2_with fail
                                  clear hnx2
                                  go_loopw [283] (fun i wl => ∃ (j : Int), 0 ≤ j ∧ j ≤ 20 ∧ i = .int .i64 j ∧ Below W2.heap.size W2 wl) (fun i _ => (20 - intOf i).toNat)
                                  case atStart => exact ⟨0, by omega, by omega, rfl, Below.refl _ _⟩
                                  case round =>
                                    obtain ⟨wc, rfl⟩ : ∃ wo : World, wo = wr := ⟨_, rfl⟩
                                    obtain ⟨j, hj0, hj1, rfl, hBc⟩ := hrel
                                    by_cases hj : j < 20
                                    · skip
                                      obtain ⟨S1, hS1, hc1⟩ := piece (P := Tryz.prog) (T := 9) rfl hL19 (pos : Int) (by omega) (by omega)
                                      obtain ⟨S2, hS2, hc2⟩ := piece (P := Tryz.prog) (T := 9) rfl hL19 (pos2 : Int) (by omega) (by omega)
                                      have hS12 : (S1 ++ S2).size = 2 := by rw [ByteArray.size_append, hS1, hS2]
                                      have hdj : decide (j < 20) = true := decide_eq_true hj
                                      by_cases hj9 : j < 19
                                      · skip
                                        obtain ⟨S3, hS3, hc3⟩ := piece (P := Tryz.prog) (T := 9) rfl hL19 j (by omega) (by omega)
                                        have hS123 : (S1 ++ S2 ++ S3).size = 3 := by rw [ByteArray.size_append, hS12, hS3]
                                        obtain ⟨z1, z2, z3, A1, A2⟩ := Parse_both (S1 ++ S2 ++ S3) (by simp only [maxLen]; omega)
                                        have J1 := Lib.hid A1
                                        have J2 := Lib.hid A2
                                        clear A1 A2
                                        have J0 := Lib.hid (reads_c (S1 ++ S2 ++ S3) (by simp only [maxLen]; omega))
                                        go_wp2_with fail
                                        go_region
                                        go_wp2_with fail
                                        refine (J0.out _).mono ?_
                                        rintro e u ⟨rfl, hb⟩
                                        have hC := below_step hBc (show Below wc.heap.size wc u from ⟨hb.os, hb.tape, hb.output, hb.size, hb.block⟩)
                                        clear hb
                                        go_wp2_with fail
                                        refine (J1.out _).mono ?_
                                        rintro e u1 ⟨rfl, hb⟩
                                        have hD := below_step hC hb
                                        clear hb
                                        go_wp2_with fail
                                        refine calls_named fun V hV => ?_
                                        have Pv := Pair.made hV
                                        have hE := below_step hD (below_named hV)
                                        clear hV
                                        refine (J2.out _).mono ?_
                                        rintro e v ⟨rfl, hb⟩
                                        have hF := below_step hE hb
                                        obtain ⟨p0, p1, p2, -, -⟩ := Pv.next hb
                                        clear hb Pv J0 J1 J2 hC hD hE
                                        go_wp2_with fail
                                        go_roundw
                                        case rel => first | exact ⟨j + 1, by omega, by omega, by go_num, below_step hF ((Below.refl _ _).alloc (Nat.le_refl _) _)⟩ | ((repeat apply Exists.intro); exact ⟨⟨j + 1, by omega, by omega, rfl, below_step hF ((Below.refl _ _).alloc (Nat.le_refl _) _)⟩, rfl⟩)
                                        case measure => simp [intOf]; omega
                                      · skip
                                        obtain ⟨z1, z2, z3, A1, A2⟩ := Parse_both (S1 ++ S2) (by simp only [maxLen]; omega)
                                        have J1 := Lib.hid A1
                                        have J2 := Lib.hid A2
                                        clear A1 A2
                                        have J0 := Lib.hid (reads_c (S1 ++ S2) (by simp only [maxLen]; omega))
                                        go_wp2_with fail
                                        go_region
                                        go_wp2_with fail
                                        refine (J0.out _).mono ?_
                                        rintro e u ⟨rfl, hb⟩
                                        have hC := below_step hBc (show Below wc.heap.size wc u from ⟨hb.os, hb.tape, hb.output, hb.size, hb.block⟩)
                                        clear hb
                                        go_wp2_with fail
                                        refine (J1.out _).mono ?_
                                        rintro e u1 ⟨rfl, hb⟩
                                        have hD := below_step hC hb
                                        clear hb
                                        go_wp2_with fail
                                        refine calls_named fun V hV => ?_
                                        have Pv := Pair.made hV
                                        have hE := below_step hD (below_named hV)
                                        clear hV
                                        refine (J2.out _).mono ?_
                                        rintro e v ⟨rfl, hb⟩
                                        have hF := below_step hE hb
                                        obtain ⟨p0, p1, p2, -, -⟩ := Pv.next hb
                                        clear hb Pv J0 J1 J2 hC hD hE
                                        go_wp2_with fail
                                        go_roundw
                                        case rel => first | exact ⟨j + 1, by omega, by omega, by go_num, below_step hF ((Below.refl _ _).alloc (Nat.le_refl _) _)⟩ | ((repeat apply Exists.intro); exact ⟨⟨j + 1, by omega, by omega, rfl, below_step hF ((Below.refl _ _).alloc (Nat.le_refl _) _)⟩, rfl⟩)
                                        case measure => simp [intOf]; omega
                                    · skip
                                      have hj20 : j = 20 := by omega
                                      subst hj20
                                      go_wp2_with fail
                                      have hB3 := hB2.trans (hBc.mono (Nat.le_of_lt hk2))
                                      have hit3 := Lib.hid ((hBc.block _ hk2).trans hit2.out)
                                      go_roundw
                                      case rel => exact ⟨pos2 + 1, by omega, hit3, hB3⟩
                                      case measure => simp only [World.iterPos, hit3.out, hitb.out]; omega
                                · skip
                                  have hnx2 : ∀ ty, (Instr.next (.pointer (some ⟨W1.heap.size, 0, none⟩)) true ty).run Tryz.prog wb = _ := fun ty => Lib.run_next_end_at wb W1.heap.size L pos2 ty hitb.out (by omega)
                                  go_wp2_with fail
                                  have hB3 := below_step hB1 hBb
                                  have hit3 := Lib.hid ((hBb.block _ hk1).trans hit1.out)
                                  go_roundw
                                  case rel => exact ⟨pos + 1, by omega, hit3, hB3⟩
                                  case measure => simp only [World.iterPos, hit3.out, hit.out]; omega
                            · skip
                              have hnx : ∀ ty, (Instr.next (.pointer (some ⟨wr17.heap.size, 0, none⟩)) true ty).run Tryz.prog wa = _ := fun ty => Lib.run_next_end_at wa wr17.heap.size L pos ty hit.out (by omega)
                              go_wp2_with fail
                              refine (awake_c _).mono ?_
                              rintro e u ⟨rfl, hb⟩
                              have hE := below_step hBa hb
                              clear hb
                              go_wp2_with fail
                              go_ret
                              exact ⟨rfl, hE⟩
end Go.Proofs.YthfclapnkemjiaaGreatDoor
