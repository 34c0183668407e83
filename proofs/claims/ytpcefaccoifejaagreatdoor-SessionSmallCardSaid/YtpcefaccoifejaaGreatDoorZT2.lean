/-
  The contracts of custosref13.names and custosref13.line. Conditions: the act is one that can be written, its numbers are ints.
-/
import Derived.Test.YtpcefaccoifejaaGreatDoorZT1
import Derived.Test.YtpcefaccoifejaaGreatDoorTX2a
namespace Go.Proofs.YtpcefaccoifejaaGreatDoor
open Go.RowKit
set_option linter.unusedSimpArgs false
set_option linter.unusedVariables false
set_option maxRecDepth 100000

def rnameCells : Array Value := ((nameT.drop 1).map fun l => Value.string ⟨l.toArray⟩).toArray
theorem rnameCells_at {m : Nat} (h : m < 16) : rnameCells[m]? = some (.string ⟨(nameOf (m + 1)).toArray⟩) := by
  have : ∀ m, m < 16 → (nameT.drop 1)[m]? = some (nameOf (m + 1)) := by decide
  unfold rnameCells
  rw [List.getElem?_toArray, List.getElem?_map, this m h]
  rfl
theorem rnames_c (w : World) : Calls Tryz.prog 58 #[] w fun e w' => e = .returned (.slice (some ⟨w.heap.size, 0, none⟩) 16 16) ∧ w' = w.alloc (.cells rnameCells 9) := by
  have hc : rnameCells = #[.string { data := #[99, 108, 101, 102] }, .string { data := #[107, 101, 121] }, .string { data := #[98, 101, 97, 116, 115] }, .string { data := #[117, 110, 105, 116] }, .string { data := #[98, 97, 114] }, .string { data := #[102, 114, 101, 101] }, .string { data := #[104, 101, 97, 100] }, .string { data := #[97, 99, 99] }, .string { data := #[100, 111, 116] }, .string { data := #[116, 105, 101] }, .string { data := #[114, 101, 115, 116] }, .string { data := #[114, 101, 115, 116, 100, 111, 116] }, .string { data := #[115, 116, 101, 109] }, .string { data := #[98, 101, 97, 109] }, .string { data := #[116, 114, 105, 112, 108, 101] }, .string { data := #[116, 101, 120, 116] }] := by kernel_rfl
  have HC := Lib.hid hc
  clear hc
  go_enter Tryz.func58, Tryz.ntmps58
  go_wp2
  go_ret
  exact ⟨rfl, by rw [HC.out]⟩
/-- the line of an act, without its line feed -/
def lineR (a : Ac) : List UInt8 := Lib.join (lineWordsG a) [32]
theorem lineG_R (a : Ac) : lineG a = lineR a ++ [10] := rfl
set_option maxHeartbeats 16000000 in
theorem rline_c (kd x1 x2 x3 x4 x5 v : Int) (w : World) (h : Fit (kd, (x1, x2, x3, x4, x5), v)) (hwa : wfA (kd, (x1, x2, x3, x4, x5), v)) :
    Calls Tryz.prog 32 #[.agg #[.int .i64 kd, .int .i64 x1, .int .i64 x2, .int .i64 x3, .int .i64 x4, .int .i64 x5, .int .i64 v]] w fun e w' => e = .returned (.string ⟨(lineR (kd, (x1, x2, x3, x4, x5), v)).toArray⟩) ∧ Below w.heap.size w w' := by
  have H1 := Lib.hid fun W => decimal_c x1 W hwa.2.1.1
  have H2 := Lib.hid fun W => decimal_c x2 W hwa.2.1.2.1
  have H3 := Lib.hid fun W => decimal_c x3 W hwa.2.1.2.2.1
  have H5 := Lib.hid fun W => decimal_c x5 W hwa.2.1.2.2.2.2
  have HV := Lib.hid fun W => decimal_c v W hwa.2.2
  have l1 := itS_len hwa.2.1.1
  have l2 := itS_len hwa.2.1.2.1
  have l3 := itS_len hwa.2.1.2.2.1
  have l5 := itS_len hwa.2.1.2.2.2.2
  have lv := itS_len hwa.2.2
  obtain ⟨hw1, hw2⟩ := h.what
  have hk := h.kind
  simp only at hw1 hw2 hk l1 l2 l3 l5 lv
  obtain ⟨m, rfl⟩ : ∃ m : Nat, x4 = (m : Int) + 1 := ⟨(x4 - 1).toNat, by omega⟩
  have hm16 : m < 16 := by omega
  have hm0 : (0 : Int) ≤ m := by omega
  have hm1 : (m : Int) < 16 := by omega
  have hwm : IntKind.i64.wrap (m : Int) = m := by rw [IntWalk.i64_left]; exact IntWalk.wrap64_in _ (by omega)
  have lm := nameOf_len (m + 1)
  have htn : ((m : Int) + 1).toNat = m + 1 := by omega
  have HNC := Lib.hid (rnameCells_at hm16)
  have HL : Hid (lineR (kd, (x1, x2, x3, (m : Int) + 1, x5), v) = Lib.join ([kindOf kd, itS x1, itS x2, itS x3, nameOf (m + 1), itS x5] ++ if kd = 1 then [itS v] else []) [32]) := Lib.hid (by unfold lineR lineWordsG; simp only [htn])
  generalize lineR (kd, (x1, x2, x3, (m : Int) + 1, x5), v) = LL at *
  generalize itS x1 = I1 at *
  generalize itS x2 = I2 at *
  generalize itS x3 = I3 at *
  generalize itS x5 = I5 at *
  generalize itS v = IV at *
  generalize nameOf (m + 1) = NM at *
  clear h hwa hw1 hw2 htn
  rcases hk with rfl | rfl
  · have HL2 : Hid (LL = ((((((((((([99, 111, 114, 114, 101, 99, 116, 32] ++ I1) ++ [32]) ++ I2) ++ [32]) ++ I3) ++ [32]) ++ NM) ++ [32]) ++ I5) ++ [32]) ++ IV)) := Lib.hid (by rw [HL.out]; simp [Lib.join_cons, Lib.joinTail, kindOf])
    clear HL
    obtain ⟨X1, hX1⟩ : ∃ X : List UInt8, [99, 111, 114, 114, 101, 99, 116, 32] ++ I1 = X := ⟨_, rfl⟩
    have nX1 : X1.length ≤ 35 := by rw [← hX1, List.length_append]; first | omega | (simp only [List.length_cons, List.length_nil]; omega)
    have fX1 : ∀ w, (Op.stringOp .add ⟨#[99, 111, 114, 114, 101, 99, 116, 32]⟩ ⟨I1.toArray⟩).run Tryz.prog w = .ok (.string ⟨X1.toArray⟩) w := fun w => by rw [← hX1]; exact zadd [99, 111, 114, 114, 101, 99, 116, 32] I1 (by first | omega | (simp only [List.length_cons, List.length_nil]; omega)) (by first | omega | (simp only [List.length_cons, List.length_nil]; omega)) w
    rw [hX1] at HL2
    obtain ⟨X2, hX2⟩ : ∃ X : List UInt8, X1 ++ [32] = X := ⟨_, rfl⟩
    have nX2 : X2.length ≤ 60 := by rw [← hX2, List.length_append]; first | omega | (simp only [List.length_cons, List.length_nil]; omega)
    have fX2 : ∀ w, (Op.stringOp .add ⟨X1.toArray⟩ ⟨#[32]⟩).run Tryz.prog w = .ok (.string ⟨X2.toArray⟩) w := fun w => by rw [← hX2]; exact zadd X1 [32] (by first | omega | (simp only [List.length_cons, List.length_nil]; omega)) (by first | omega | (simp only [List.length_cons, List.length_nil]; omega)) w
    rw [hX2] at HL2
    obtain ⟨X3, hX3⟩ : ∃ X : List UInt8, X2 ++ I2 = X := ⟨_, rfl⟩
    have nX3 : X3.length ≤ 85 := by rw [← hX3, List.length_append]; first | omega | (simp only [List.length_cons, List.length_nil]; omega)
    have fX3 : ∀ w, (Op.stringOp .add ⟨X2.toArray⟩ ⟨I2.toArray⟩).run Tryz.prog w = .ok (.string ⟨X3.toArray⟩) w := fun w => by rw [← hX3]; exact zadd X2 I2 (by first | omega | (simp only [List.length_cons, List.length_nil]; omega)) (by first | omega | (simp only [List.length_cons, List.length_nil]; omega)) w
    rw [hX3] at HL2
    obtain ⟨X4, hX4⟩ : ∃ X : List UInt8, X3 ++ [32] = X := ⟨_, rfl⟩
    have nX4 : X4.length ≤ 110 := by rw [← hX4, List.length_append]; first | omega | (simp only [List.length_cons, List.length_nil]; omega)
    have fX4 : ∀ w, (Op.stringOp .add ⟨X3.toArray⟩ ⟨#[32]⟩).run Tryz.prog w = .ok (.string ⟨X4.toArray⟩) w := fun w => by rw [← hX4]; exact zadd X3 [32] (by first | omega | (simp only [List.length_cons, List.length_nil]; omega)) (by first | omega | (simp only [List.length_cons, List.length_nil]; omega)) w
    rw [hX4] at HL2
    obtain ⟨X5, hX5⟩ : ∃ X : List UInt8, X4 ++ I3 = X := ⟨_, rfl⟩
    have nX5 : X5.length ≤ 135 := by rw [← hX5, List.length_append]; first | omega | (simp only [List.length_cons, List.length_nil]; omega)
    have fX5 : ∀ w, (Op.stringOp .add ⟨X4.toArray⟩ ⟨I3.toArray⟩).run Tryz.prog w = .ok (.string ⟨X5.toArray⟩) w := fun w => by rw [← hX5]; exact zadd X4 I3 (by first | omega | (simp only [List.length_cons, List.length_nil]; omega)) (by first | omega | (simp only [List.length_cons, List.length_nil]; omega)) w
    rw [hX5] at HL2
    obtain ⟨X6, hX6⟩ : ∃ X : List UInt8, X5 ++ [32] = X := ⟨_, rfl⟩
    have nX6 : X6.length ≤ 160 := by rw [← hX6, List.length_append]; first | omega | (simp only [List.length_cons, List.length_nil]; omega)
    have fX6 : ∀ w, (Op.stringOp .add ⟨X5.toArray⟩ ⟨#[32]⟩).run Tryz.prog w = .ok (.string ⟨X6.toArray⟩) w := fun w => by rw [← hX6]; exact zadd X5 [32] (by first | omega | (simp only [List.length_cons, List.length_nil]; omega)) (by first | omega | (simp only [List.length_cons, List.length_nil]; omega)) w
    rw [hX6] at HL2
    obtain ⟨X7, hX7⟩ : ∃ X : List UInt8, X6 ++ NM = X := ⟨_, rfl⟩
    have nX7 : X7.length ≤ 185 := by rw [← hX7, List.length_append]; first | omega | (simp only [List.length_cons, List.length_nil]; omega)
    have fX7 : ∀ w, (Op.stringOp .add ⟨X6.toArray⟩ ⟨NM.toArray⟩).run Tryz.prog w = .ok (.string ⟨X7.toArray⟩) w := fun w => by rw [← hX7]; exact zadd X6 NM (by first | omega | (simp only [List.length_cons, List.length_nil]; omega)) (by first | omega | (simp only [List.length_cons, List.length_nil]; omega)) w
    rw [hX7] at HL2
    obtain ⟨X8, hX8⟩ : ∃ X : List UInt8, X7 ++ [32] = X := ⟨_, rfl⟩
    have nX8 : X8.length ≤ 210 := by rw [← hX8, List.length_append]; first | omega | (simp only [List.length_cons, List.length_nil]; omega)
    have fX8 : ∀ w, (Op.stringOp .add ⟨X7.toArray⟩ ⟨#[32]⟩).run Tryz.prog w = .ok (.string ⟨X8.toArray⟩) w := fun w => by rw [← hX8]; exact zadd X7 [32] (by first | omega | (simp only [List.length_cons, List.length_nil]; omega)) (by first | omega | (simp only [List.length_cons, List.length_nil]; omega)) w
    rw [hX8] at HL2
    obtain ⟨X9, hX9⟩ : ∃ X : List UInt8, X8 ++ I5 = X := ⟨_, rfl⟩
    have nX9 : X9.length ≤ 235 := by rw [← hX9, List.length_append]; first | omega | (simp only [List.length_cons, List.length_nil]; omega)
    have fX9 : ∀ w, (Op.stringOp .add ⟨X8.toArray⟩ ⟨I5.toArray⟩).run Tryz.prog w = .ok (.string ⟨X9.toArray⟩) w := fun w => by rw [← hX9]; exact zadd X8 I5 (by first | omega | (simp only [List.length_cons, List.length_nil]; omega)) (by first | omega | (simp only [List.length_cons, List.length_nil]; omega)) w
    rw [hX9] at HL2
    obtain ⟨X10, hX10⟩ : ∃ X : List UInt8, X9 ++ [32] = X := ⟨_, rfl⟩
    have nX10 : X10.length ≤ 260 := by rw [← hX10, List.length_append]; first | omega | (simp only [List.length_cons, List.length_nil]; omega)
    have fX10 : ∀ w, (Op.stringOp .add ⟨X9.toArray⟩ ⟨#[32]⟩).run Tryz.prog w = .ok (.string ⟨X10.toArray⟩) w := fun w => by rw [← hX10]; exact zadd X9 [32] (by first | omega | (simp only [List.length_cons, List.length_nil]; omega)) (by first | omega | (simp only [List.length_cons, List.length_nil]; omega)) w
    rw [hX10] at HL2
    obtain ⟨X11, hX11⟩ : ∃ X : List UInt8, X10 ++ IV = X := ⟨_, rfl⟩
    have nX11 : X11.length ≤ 285 := by rw [← hX11, List.length_append]; first | omega | (simp only [List.length_cons, List.length_nil]; omega)
    have fX11 : ∀ w, (Op.stringOp .add ⟨X10.toArray⟩ ⟨IV.toArray⟩).run Tryz.prog w = .ok (.string ⟨X11.toArray⟩) w := fun w => by rw [← hX11]; exact zadd X10 IV (by first | omega | (simp only [List.length_cons, List.length_nil]; omega)) (by first | omega | (simp only [List.length_cons, List.length_nil]; omega)) w
    rw [hX11] at HL2
    clear hX1 hX2 hX3 hX4 hX5 hX6 hX7 hX8 hX9 hX10 hX11
    go_enter Tryz.func32, Tryz.ntmps32
    go_wp2_with fail
    refine wp_named fun w1 hW => ?_
    have hX : w1.heap[w.heap.size]? = some (.cells #[.int .i64 1, .int .i64 x1, .int .i64 x2, .int .i64 x3, .int .i64 ((m : Int) + 1), .int .i64 x5, .int .i64 v] 56 (0, 0)) := by rw [hW]; exact heap_alloc_new _ _
    have hB : Below w.heap.size w w1 := by rw [hW]; go_grown
    have hz : w.heap.size < w1.heap.size := (Array.getElem?_eq_some_iff.1 hX).1
    have HSC : Hid (∀ w', Bw w1 w' → w'.cell? ⟨w.heap.size, 0, none⟩ = some (.int .i64 1) ∧ w'.cell? ⟨w.heap.size, 1, none⟩ = some (.int .i64 x1) ∧ w'.cell? ⟨w.heap.size, 2, none⟩ = some (.int .i64 x2) ∧ w'.cell? ⟨w.heap.size, 3, none⟩ = some (.int .i64 x3) ∧ w'.cell? ⟨w.heap.size, 4, none⟩ = some (.int .i64 ((m : Int) + 1)) ∧ w'.cell? ⟨w.heap.size, 5, none⟩ = some (.int .i64 x5) ∧ w'.cell? ⟨w.heap.size, 6, none⟩ = some (.int .i64 v) ∧ Bw w1 w') := fun w' hb => (fun ⟨a0, a1, a2, a3, a4, a5, a6⟩ => ⟨a0, a1, a2, a3, a4, a5, a6, hb⟩) (cellAct ((hb.block _ hz).trans hX))
    have HX := Lib.hid hX
    have HB := Lib.hid hB
    clear hW hX hB
    refine wp_region_noPanic ?_
    refine wp_region_held_drew (S := fun w' => w'.cell? ⟨w.heap.size, 0, none⟩ = some (.int .i64 1) ∧ w'.cell? ⟨w.heap.size, 1, none⟩ = some (.int .i64 x1) ∧ w'.cell? ⟨w.heap.size, 2, none⟩ = some (.int .i64 x2) ∧ w'.cell? ⟨w.heap.size, 3, none⟩ = some (.int .i64 x3) ∧ w'.cell? ⟨w.heap.size, 4, none⟩ = some (.int .i64 ((m : Int) + 1)) ∧ w'.cell? ⟨w.heap.size, 5, none⟩ = some (.int .i64 x5) ∧ w'.cell? ⟨w.heap.size, 6, none⟩ = some (.int .i64 v) ∧ Bw w1 w') (by kernel_rfl) (HSC.out _ (Bw.drew _)) (fun hHeld => ?_)
    refine wpAnyH_take (i := 0) (v := ?v1) (arr_at rfl) (by kernel_rfl) (by kernel_rfl) (by kernel_rfl) (fun _ _ _ h => h) (Or.inl ⟨by rfl, ?hy1⟩) (by assumption) ?_
    case hy1 => (intro w hSw; (try dsimp only at hSw); go_simp <;> with_reducible rfl)
    try simp only [Act.put, List.setIfInBounds_toArray, List.set_cons_zero, List.set_cons_succ]
    refine wpAnyH_take (i := 1) (v := ?v2) (arr_at rfl) (by kernel_rfl) (by kernel_rfl) (by kernel_rfl) (fun _ _ _ h => h) (Or.inl ⟨by rfl, ?hy2⟩) (by assumption) ?_
    case hy2 => (intro w hSw; (try dsimp only at hSw); go_simp <;> with_reducible rfl)
    try simp only [Act.put, List.setIfInBounds_toArray, List.set_cons_zero, List.set_cons_succ]
    refine wpAnyH_take (i := 2) (v := ?v3) (arr_at rfl) (by kernel_rfl) (by kernel_rfl) (by kernel_rfl) (fun _ _ _ h => h) (Or.inl ⟨by rfl, ?hy3⟩) (by assumption) ?_
    case hy3 => (intro w hSw; (try dsimp only at hSw); go_simp <;> with_reducible rfl)
    try simp only [Act.put, List.setIfInBounds_toArray, List.set_cons_zero, List.set_cons_succ]
    refine wpAnyH_take (i := 3) (v := ?v4) (arr_at rfl) (by kernel_rfl) (by kernel_rfl) (by kernel_rfl) (fun _ _ _ h => h) (Or.inl ⟨by rfl, ?hy4⟩) (by assumption) ?_
    case hy4 => (intro w hSw; (try dsimp only at hSw); go_simp <;> with_reducible rfl)
    try simp only [Act.put, List.setIfInBounds_toArray, List.set_cons_zero, List.set_cons_succ]
    refine wpAnyH_take (i := 7) (v := ?v5) (arr_at rfl) (by kernel_rfl) (by kernel_rfl) (by kernel_rfl) (fun _ _ _ h => h) (Or.inl ⟨by rfl, ?hy5⟩) (by assumption) ?_
    case hy5 => (intro w hSw; (try dsimp only at hSw); go_simp <;> with_reducible rfl)
    try simp only [Act.put, List.setIfInBounds_toArray, List.set_cons_zero, List.set_cons_succ]
    refine wpAnyH_take (i := 8) (v := ?v6) (arr_at rfl) (by kernel_rfl) (by kernel_rfl) (by kernel_rfl) (fun _ _ _ h => h) (Or.inl ⟨by rfl, ?hy6⟩) (by assumption) ?_
    case hy6 => (intro w hSw; (try dsimp only at hSw); go_simp <;> with_reducible rfl)
    try simp only [Act.put, List.setIfInBounds_toArray, List.set_cons_zero, List.set_cons_succ]
    refine wpAnyH_take (i := 9) (v := ?v7) (arr_at rfl) (by kernel_rfl) (by kernel_rfl) (by kernel_rfl) (fun _ _ _ h => h) (Or.inl ⟨by rfl, ?hy7⟩) (by assumption) ?_
    case hy7 => (intro w hSw; (try dsimp only at hSw); go_simp <;> with_reducible rfl)
    try simp only [Act.put, List.setIfInBounds_toArray, List.set_cons_zero, List.set_cons_succ]
    refine wpAnyH_take (i := 13) (v := ?v8) (arr_at rfl) (by kernel_rfl) (by kernel_rfl) (by kernel_rfl) (fun _ _ _ h => h) (Or.inl ⟨by rfl, ?hy8⟩) (by assumption) ?_
    case hy8 => (intro w hSw; (try dsimp only at hSw); go_simp <;> with_reducible rfl)
    try simp only [Act.put, List.setIfInBounds_toArray, List.set_cons_zero, List.set_cons_succ]
    refine wpAnyH_take (i := 14) (v := ?v9) (arr_at rfl) (by kernel_rfl) (by kernel_rfl) (by kernel_rfl) (fun _ _ _ h => h) (Or.inl ⟨by rfl, ?hy9⟩) (by assumption) ?_
    case hy9 => (intro w hSw; (try dsimp only at hSw); go_simp <;> with_reducible rfl)
    try simp only [Act.put, List.setIfInBounds_toArray, List.set_cons_zero, List.set_cons_succ]
    refine wpAnyH_take (i := 15) (v := ?v10) (arr_at rfl) (by kernel_rfl) (by kernel_rfl) (by kernel_rfl) (fun _ _ _ h => h) (Or.inl ⟨by rfl, ?hy10⟩) (by assumption) ?_
    case hy10 => (intro w hSw; (try dsimp only at hSw); go_simp <;> with_reducible rfl)
    try simp only [Act.put, List.setIfInBounds_toArray, List.set_cons_zero, List.set_cons_succ]
    refine wpAnyH_take (i := 20) (v := ?v11) (arr_at rfl) (by kernel_rfl) (by kernel_rfl) (by kernel_rfl) (fun _ _ _ h => h) (Or.inl ⟨by rfl, ?hy11⟩) (by assumption) ?_
    case hy11 => (intro w hSw; (try dsimp only at hSw); go_simp <;> with_reducible rfl)
    try simp only [Act.put, List.setIfInBounds_toArray, List.set_cons_zero, List.set_cons_succ]
    refine wpAnyH_take (i := 21) (v := ?v12) (arr_at rfl) (by kernel_rfl) (by kernel_rfl) (by kernel_rfl) (fun _ _ _ h => h) (Or.inl ⟨by rfl, ?hy12⟩) (by assumption) ?_
    case hy12 => (intro w hSw; (try dsimp only at hSw); go_simp <;> with_reducible rfl)
    try simp only [Act.put, List.setIfInBounds_toArray, List.set_cons_zero, List.set_cons_succ]
    refine wpAnyH_take (i := 22) (v := ?v13) (arr_at rfl) (by kernel_rfl) (by kernel_rfl) (by kernel_rfl) (fun _ _ _ h => h) (Or.inl ⟨by rfl, ?hy13⟩) (by assumption) ?_
    case hy13 => (intro w hSw; (try dsimp only at hSw); go_simp <;> with_reducible rfl)
    try simp only [Act.put, List.setIfInBounds_toArray, List.set_cons_zero, List.set_cons_succ]
    refine wpAnyH_take (i := 23) (v := ?v14) (arr_at rfl) (by kernel_rfl) (by kernel_rfl) (by kernel_rfl) (fun _ _ _ h => h) (Or.inl ⟨by rfl, ?hy14⟩) (by assumption) ?_
    case hy14 => (intro w hSw; (try dsimp only at hSw); go_simp <;> with_reducible rfl)
    try simp only [Act.put, List.setIfInBounds_toArray, List.set_cons_zero, List.set_cons_succ]
    refine wpAnyH_take (i := 28) (v := ?v15) (arr_at rfl) (by kernel_rfl) (by kernel_rfl) (by kernel_rfl) (fun _ _ _ h => h) (Or.inl ⟨by rfl, ?hy15⟩) (by assumption) ?_
    case hy15 => (intro w hSw; (try dsimp only at hSw); go_simp <;> with_reducible rfl)
    try simp only [Act.put, List.setIfInBounds_toArray, List.set_cons_zero, List.set_cons_succ]
    refine wpAnyH_take (i := 29) (v := ?v16) (arr_at rfl) (by kernel_rfl) (by kernel_rfl) (by kernel_rfl) (fun _ _ _ h => h) (Or.inl ⟨by rfl, ?hy16⟩) (by assumption) ?_
    case hy16 => (intro w hSw; (try dsimp only at hSw); go_simp <;> with_reducible rfl)
    try simp only [Act.put, List.setIfInBounds_toArray, List.set_cons_zero, List.set_cons_succ]
    refine wpAnyH_take (i := 30) (v := ?v17) (arr_at rfl) (by kernel_rfl) (by kernel_rfl) (by kernel_rfl) (fun _ _ _ h => h) (Or.inl ⟨by rfl, ?hy17⟩) (by assumption) ?_
    case hy17 => (intro w hSw; (try dsimp only at hSw); go_simp <;> with_reducible rfl)
    try simp only [Act.put, List.setIfInBounds_toArray, List.set_cons_zero, List.set_cons_succ]
    refine wpAnyH_ready (rs := [4]) (by kernel_rfl) (by simp) ?_
    refine AllReadyH.cons (arr_at rfl) (fun K hK => ?_) ?_
    · go_simp; refine (H1.out _).mono ?_; rintro rr v4 ⟨rfl, hb4⟩
      have HI4 : Bw w1 v4 := Bw.tr (Bw.drew _) hb4
      refine hK.out _ _ ?_ (fun hHeld => ?_)
      · exact HSC.out _ HI4
      clear hK K
      try simp only [Act.put, List.setIfInBounds_toArray, List.set_cons_zero, List.set_cons_succ]
      refine wpAnyH_take (i := 5) (v := ?v18) (arr_at rfl) (by kernel_rfl) (by kernel_rfl) (by kernel_rfl) (fun _ _ _ h => h) (Or.inl ⟨by rfl, ?hy18⟩) (by assumption) ?_
      case hy18 => (intro w hSw; (try dsimp only at hSw); go_simp <;> with_reducible rfl)
      try simp only [Act.put, List.setIfInBounds_toArray, List.set_cons_zero, List.set_cons_succ]
      refine wpAnyH_take (i := 6) (v := ?v19) (arr_at rfl) (by kernel_rfl) (by kernel_rfl) (by kernel_rfl) (fun _ _ _ h => h) (Or.inl ⟨by rfl, ?hy19⟩) (by assumption) ?_
      case hy19 => (intro w hSw; (try dsimp only at hSw); go_simp <;> with_reducible rfl)
      try simp only [Act.put, List.setIfInBounds_toArray, List.set_cons_zero, List.set_cons_succ]
      refine wpAnyH_ready (rs := [10]) (by kernel_rfl) (by simp) ?_
      refine AllReadyH.cons (arr_at rfl) (fun K hK => ?_) ?_
      · go_simp; refine (H2.out _).mono ?_; rintro rr v10 ⟨rfl, hb10⟩
        have HI10 : Bw w1 v10 := Bw.tr HI4 hb10
        refine hK.out _ _ ?_ (fun hHeld => ?_)
        · exact HSC.out _ HI10
        clear hK K
        try simp only [Act.put, List.setIfInBounds_toArray, List.set_cons_zero, List.set_cons_succ]
        refine wpAnyH_take (i := 11) (v := ?v20) (arr_at rfl) (by kernel_rfl) (by kernel_rfl) (by kernel_rfl) (fun _ _ _ h => h) (Or.inl ⟨by rfl, ?hy20⟩) (by assumption) ?_
        case hy20 => (intro w hSw; (try dsimp only at hSw); go_simp <;> with_reducible rfl)
        try simp only [Act.put, List.setIfInBounds_toArray, List.set_cons_zero, List.set_cons_succ]
        refine wpAnyH_take (i := 12) (v := ?v21) (arr_at rfl) (by kernel_rfl) (by kernel_rfl) (by kernel_rfl) (fun _ _ _ h => h) (Or.inl ⟨by rfl, ?hy21⟩) (by assumption) ?_
        case hy21 => (intro w hSw; (try dsimp only at hSw); go_simp <;> with_reducible rfl)
        try simp only [Act.put, List.setIfInBounds_toArray, List.set_cons_zero, List.set_cons_succ]
        refine wpAnyH_ready (rs := [16]) (by kernel_rfl) (by simp) ?_
        refine AllReadyH.cons (arr_at rfl) (fun K hK => ?_) ?_
        · go_simp; refine (H3.out _).mono ?_; rintro rr v16 ⟨rfl, hb16⟩
          have HI16 : Bw w1 v16 := Bw.tr HI10 hb16
          refine hK.out _ _ ?_ (fun hHeld => ?_)
          · exact HSC.out _ HI16
          clear hK K
          try simp only [Act.put, List.setIfInBounds_toArray, List.set_cons_zero, List.set_cons_succ]
          refine wpAnyH_take (i := 17) (v := ?v22) (arr_at rfl) (by kernel_rfl) (by kernel_rfl) (by kernel_rfl) (fun _ _ _ h => h) (Or.inl ⟨by rfl, ?hy22⟩) (by assumption) ?_
          case hy22 => (intro w hSw; (try dsimp only at hSw); go_simp <;> with_reducible rfl)
          try simp only [Act.put, List.setIfInBounds_toArray, List.set_cons_zero, List.set_cons_succ]
          refine wpAnyH_take (i := 18) (v := ?v23) (arr_at rfl) (by kernel_rfl) (by kernel_rfl) (by kernel_rfl) (fun _ _ _ h => h) (Or.inl ⟨by rfl, ?hy23⟩) (by assumption) ?_
          case hy23 => (intro w hSw; (try dsimp only at hSw); go_simp <;> with_reducible rfl)
          try simp only [Act.put, List.setIfInBounds_toArray, List.set_cons_zero, List.set_cons_succ]
          refine wpAnyH_ready (rs := [19]) (by kernel_rfl) (by simp) ?_
          refine AllReadyH.cons (arr_at rfl) (fun K hK => ?_) ?_
          · go_simp; refine (rnames_c _).mono ?_; rintro rr wN ⟨rfl, hwN⟩
            have HI19 : Bw w1 wN := by rw [hwN]; exact Bw.alloc HI16 _
            refine hK.out _ _ ?_ (fun hHeld => ?_)
            · exact HSC.out _ HI19
            clear hK K
            try simp only [Act.put, List.setIfInBounds_toArray, List.set_cons_zero, List.set_cons_succ]
            have cN : wN.cell? ⟨v16.heap.size, m, none⟩ = some (.string ⟨NM.toArray⟩) := by
              have hh : wN.heap[v16.heap.size]? = some (.cells rnameCells 9 (0, 0)) := by rw [hwN]; exact heap_alloc_new _ _
              rw [cell_of_row _ _ _ _ _ _ hh]
              exact HNC.out
            have zN : v16.heap.size < wN.heap.size := by rw [hwN]; simp
            have HSN : Hid (∀ w', Bw wN w' → (w'.cell? ⟨w.heap.size, 0, none⟩ = some (.int .i64 1) ∧ w'.cell? ⟨w.heap.size, 1, none⟩ = some (.int .i64 x1) ∧ w'.cell? ⟨w.heap.size, 2, none⟩ = some (.int .i64 x2) ∧ w'.cell? ⟨w.heap.size, 3, none⟩ = some (.int .i64 x3) ∧ w'.cell? ⟨w.heap.size, 4, none⟩ = some (.int .i64 ((m : Int) + 1)) ∧ w'.cell? ⟨w.heap.size, 5, none⟩ = some (.int .i64 x5) ∧ w'.cell? ⟨w.heap.size, 6, none⟩ = some (.int .i64 v) ∧ Bw w1 w') ∧ w'.cell? ⟨v16.heap.size, m, none⟩ = some (.string ⟨NM.toArray⟩) ∧ Bw wN w') := fun w' hb => ⟨HSC.out _ (Bw.tr HI19 hb), (hb.cell (p := ⟨v16.heap.size, _, none⟩) zN).trans cN, hb⟩
            refine wpAnyH_switch (S' := fun w' => (w'.cell? ⟨w.heap.size, 0, none⟩ = some (.int .i64 1) ∧ w'.cell? ⟨w.heap.size, 1, none⟩ = some (.int .i64 x1) ∧ w'.cell? ⟨w.heap.size, 2, none⟩ = some (.int .i64 x2) ∧ w'.cell? ⟨w.heap.size, 3, none⟩ = some (.int .i64 x3) ∧ w'.cell? ⟨w.heap.size, 4, none⟩ = some (.int .i64 ((m : Int) + 1)) ∧ w'.cell? ⟨w.heap.size, 5, none⟩ = some (.int .i64 x5) ∧ w'.cell? ⟨w.heap.size, 6, none⟩ = some (.int .i64 v) ∧ Bw w1 w') ∧ w'.cell? ⟨v16.heap.size, m, none⟩ = some (.string ⟨NM.toArray⟩) ∧ Bw wN w') (fun _ h => h.1) (HSN.out _ (Bw.refl _)) (fun hHeld2 => ?_)
            clear hHeld hwN cN
            refine wpAnyH_take (i := 24) (v := ?v24) (arr_at rfl) (by kernel_rfl) (by kernel_rfl) (by kernel_rfl) (fun _ _ _ h => h) (Or.inl ⟨by rfl, ?hy24⟩) (by assumption) ?_
            case hy24 => (intro w hSw; (try dsimp only at hSw); go_simp <;> with_reducible rfl)
            try simp only [Act.put, List.setIfInBounds_toArray, List.set_cons_zero, List.set_cons_succ]
            refine wpAnyH_take (i := 25) (v := ?v25) (arr_at rfl) (by kernel_rfl) (by kernel_rfl) (by kernel_rfl) (fun _ _ _ h => h) (Or.inl ⟨by rfl, ?hy25⟩) (by assumption) ?_
            case hy25 => (intro w hSw; (try dsimp only at hSw); go_simp <;> with_reducible rfl)
            try simp only [Act.put, List.setIfInBounds_toArray, List.set_cons_zero, List.set_cons_succ]
            refine wpAnyH_take (i := 26) (v := ?v26) (arr_at rfl) (by kernel_rfl) (by kernel_rfl) (by kernel_rfl) (fun _ _ _ h => h) (Or.inl ⟨by rfl, ?hy26⟩) (by assumption) ?_
            case hy26 => (intro w hSw; (try dsimp only at hSw); go_simp <;> with_reducible rfl)
            try simp only [Act.put, List.setIfInBounds_toArray, List.set_cons_zero, List.set_cons_succ]
            refine wpAnyH_take (i := 27) (v := ?v27) (arr_at rfl) (by kernel_rfl) (by kernel_rfl) (by kernel_rfl) (fun _ _ _ h => h) (Or.inl ⟨by rfl, ?hy27⟩) (by assumption) ?_
            case hy27 => (intro w hSw; (try dsimp only at hSw); go_simp <;> with_reducible rfl)
            try simp only [Act.put, List.setIfInBounds_toArray, List.set_cons_zero, List.set_cons_succ]
            refine wpAnyH_ready (rs := [31]) (by kernel_rfl) (by simp) ?_
            refine AllReadyH.cons (arr_at rfl) (fun K hK => ?_) ?_
            · go_simp; refine (H5.out _).mono ?_; rintro rr v31 ⟨rfl, hb31⟩
              have HJ31 : Bw wN v31 := hb31
              have HI31 : Bw w1 v31 := Bw.tr HI19 HJ31
              refine hK.out _ _ ?_ (fun hHeld => ?_)
              · exact HSN.out _ HJ31
              clear hK K
              try simp only [Act.put, List.setIfInBounds_toArray, List.set_cons_zero, List.set_cons_succ]
              refine wpAnyH_take (i := 32) (v := ?v28) (arr_at rfl) (by kernel_rfl) (by kernel_rfl) (by kernel_rfl) (fun _ _ _ h => h) (Or.inl ⟨by rfl, ?hy28⟩) (by assumption) ?_
              case hy28 => (intro w hSw; (try dsimp only at hSw); go_simp <;> with_reducible rfl)
              try simp only [Act.put, List.setIfInBounds_toArray, List.set_cons_zero, List.set_cons_succ]
              refine wpAnyH_take (i := 33) (v := ?v29) (arr_at rfl) (by kernel_rfl) (by kernel_rfl) (by kernel_rfl) (fun _ _ _ h => h) (Or.inl ⟨by rfl, ?hy29⟩) (by assumption) ?_
              case hy29 => (intro w hSw; (try dsimp only at hSw); go_simp <;> with_reducible rfl)
              try simp only [Act.put, List.setIfInBounds_toArray, List.set_cons_zero, List.set_cons_succ]
              refine wpAnyH_done (by kernel_rfl) ?_ _
              refine NoPanic.normal ?_
              have hXF : v31.heap[w.heap.size]? = some (.cells #[.int .i64 1, .int .i64 x1, .int .i64 x2, .int .i64 x3, .int .i64 ((m : Int) + 1), .int .i64 x5, .int .i64 v] 56 (0, 0)) := (HI31.block _ hz).trans HX.out
              obtain ⟨e0, e1, e2, e3, e4, e5, e6⟩ := cellAct hXF
              have HBF := Lib.hid (below_step HB.out HI31)
              clear hXF HSC HSN HX
              go_wp2_with fail
              refine (HV.out _).mono ?_
              rintro rr w6 ⟨rfl, hb6⟩
              have HB6 := Lib.hid (below_step HBF.out hb6)
              clear hb6 e0 e1 e2 e3 e4 e5 e6
              go_wp2
              go_ret
              exact ⟨by rw [HL2.out]; rfl, HB6.out⟩
            exact AllReadyH.nil
          exact AllReadyH.nil
        exact AllReadyH.nil
      exact AllReadyH.nil
    exact AllReadyH.nil
  · have HL2 : Hid (LL = ((((((((([99, 111, 110, 102, 105, 114, 109, 32] ++ I1) ++ [32]) ++ I2) ++ [32]) ++ I3) ++ [32]) ++ NM) ++ [32]) ++ I5)) := Lib.hid (by rw [HL.out]; simp [Lib.join_cons, Lib.joinTail, kindOf])
    clear HL
    obtain ⟨X1, hX1⟩ : ∃ X : List UInt8, [99, 111, 110, 102, 105, 114, 109, 32] ++ I1 = X := ⟨_, rfl⟩
    have nX1 : X1.length ≤ 35 := by rw [← hX1, List.length_append]; first | omega | (simp only [List.length_cons, List.length_nil]; omega)
    have fX1 : ∀ w, (Op.stringOp .add ⟨#[99, 111, 110, 102, 105, 114, 109, 32]⟩ ⟨I1.toArray⟩).run Tryz.prog w = .ok (.string ⟨X1.toArray⟩) w := fun w => by rw [← hX1]; exact zadd [99, 111, 110, 102, 105, 114, 109, 32] I1 (by first | omega | (simp only [List.length_cons, List.length_nil]; omega)) (by first | omega | (simp only [List.length_cons, List.length_nil]; omega)) w
    rw [hX1] at HL2
    obtain ⟨X2, hX2⟩ : ∃ X : List UInt8, X1 ++ [32] = X := ⟨_, rfl⟩
    have nX2 : X2.length ≤ 60 := by rw [← hX2, List.length_append]; first | omega | (simp only [List.length_cons, List.length_nil]; omega)
    have fX2 : ∀ w, (Op.stringOp .add ⟨X1.toArray⟩ ⟨#[32]⟩).run Tryz.prog w = .ok (.string ⟨X2.toArray⟩) w := fun w => by rw [← hX2]; exact zadd X1 [32] (by first | omega | (simp only [List.length_cons, List.length_nil]; omega)) (by first | omega | (simp only [List.length_cons, List.length_nil]; omega)) w
    rw [hX2] at HL2
    obtain ⟨X3, hX3⟩ : ∃ X : List UInt8, X2 ++ I2 = X := ⟨_, rfl⟩
    have nX3 : X3.length ≤ 85 := by rw [← hX3, List.length_append]; first | omega | (simp only [List.length_cons, List.length_nil]; omega)
    have fX3 : ∀ w, (Op.stringOp .add ⟨X2.toArray⟩ ⟨I2.toArray⟩).run Tryz.prog w = .ok (.string ⟨X3.toArray⟩) w := fun w => by rw [← hX3]; exact zadd X2 I2 (by first | omega | (simp only [List.length_cons, List.length_nil]; omega)) (by first | omega | (simp only [List.length_cons, List.length_nil]; omega)) w
    rw [hX3] at HL2
    obtain ⟨X4, hX4⟩ : ∃ X : List UInt8, X3 ++ [32] = X := ⟨_, rfl⟩
    have nX4 : X4.length ≤ 110 := by rw [← hX4, List.length_append]; first | omega | (simp only [List.length_cons, List.length_nil]; omega)
    have fX4 : ∀ w, (Op.stringOp .add ⟨X3.toArray⟩ ⟨#[32]⟩).run Tryz.prog w = .ok (.string ⟨X4.toArray⟩) w := fun w => by rw [← hX4]; exact zadd X3 [32] (by first | omega | (simp only [List.length_cons, List.length_nil]; omega)) (by first | omega | (simp only [List.length_cons, List.length_nil]; omega)) w
    rw [hX4] at HL2
    obtain ⟨X5, hX5⟩ : ∃ X : List UInt8, X4 ++ I3 = X := ⟨_, rfl⟩
    have nX5 : X5.length ≤ 135 := by rw [← hX5, List.length_append]; first | omega | (simp only [List.length_cons, List.length_nil]; omega)
    have fX5 : ∀ w, (Op.stringOp .add ⟨X4.toArray⟩ ⟨I3.toArray⟩).run Tryz.prog w = .ok (.string ⟨X5.toArray⟩) w := fun w => by rw [← hX5]; exact zadd X4 I3 (by first | omega | (simp only [List.length_cons, List.length_nil]; omega)) (by first | omega | (simp only [List.length_cons, List.length_nil]; omega)) w
    rw [hX5] at HL2
    obtain ⟨X6, hX6⟩ : ∃ X : List UInt8, X5 ++ [32] = X := ⟨_, rfl⟩
    have nX6 : X6.length ≤ 160 := by rw [← hX6, List.length_append]; first | omega | (simp only [List.length_cons, List.length_nil]; omega)
    have fX6 : ∀ w, (Op.stringOp .add ⟨X5.toArray⟩ ⟨#[32]⟩).run Tryz.prog w = .ok (.string ⟨X6.toArray⟩) w := fun w => by rw [← hX6]; exact zadd X5 [32] (by first | omega | (simp only [List.length_cons, List.length_nil]; omega)) (by first | omega | (simp only [List.length_cons, List.length_nil]; omega)) w
    rw [hX6] at HL2
    obtain ⟨X7, hX7⟩ : ∃ X : List UInt8, X6 ++ NM = X := ⟨_, rfl⟩
    have nX7 : X7.length ≤ 185 := by rw [← hX7, List.length_append]; first | omega | (simp only [List.length_cons, List.length_nil]; omega)
    have fX7 : ∀ w, (Op.stringOp .add ⟨X6.toArray⟩ ⟨NM.toArray⟩).run Tryz.prog w = .ok (.string ⟨X7.toArray⟩) w := fun w => by rw [← hX7]; exact zadd X6 NM (by first | omega | (simp only [List.length_cons, List.length_nil]; omega)) (by first | omega | (simp only [List.length_cons, List.length_nil]; omega)) w
    rw [hX7] at HL2
    obtain ⟨X8, hX8⟩ : ∃ X : List UInt8, X7 ++ [32] = X := ⟨_, rfl⟩
    have nX8 : X8.length ≤ 210 := by rw [← hX8, List.length_append]; first | omega | (simp only [List.length_cons, List.length_nil]; omega)
    have fX8 : ∀ w, (Op.stringOp .add ⟨X7.toArray⟩ ⟨#[32]⟩).run Tryz.prog w = .ok (.string ⟨X8.toArray⟩) w := fun w => by rw [← hX8]; exact zadd X7 [32] (by first | omega | (simp only [List.length_cons, List.length_nil]; omega)) (by first | omega | (simp only [List.length_cons, List.length_nil]; omega)) w
    rw [hX8] at HL2
    obtain ⟨X9, hX9⟩ : ∃ X : List UInt8, X8 ++ I5 = X := ⟨_, rfl⟩
    have nX9 : X9.length ≤ 235 := by rw [← hX9, List.length_append]; first | omega | (simp only [List.length_cons, List.length_nil]; omega)
    have fX9 : ∀ w, (Op.stringOp .add ⟨X8.toArray⟩ ⟨I5.toArray⟩).run Tryz.prog w = .ok (.string ⟨X9.toArray⟩) w := fun w => by rw [← hX9]; exact zadd X8 I5 (by first | omega | (simp only [List.length_cons, List.length_nil]; omega)) (by first | omega | (simp only [List.length_cons, List.length_nil]; omega)) w
    rw [hX9] at HL2
    clear hX1 hX2 hX3 hX4 hX5 hX6 hX7 hX8 hX9
    go_enter Tryz.func32, Tryz.ntmps32
    go_wp2_with fail
    refine wp_named fun w1 hW => ?_
    have hX : w1.heap[w.heap.size]? = some (.cells #[.int .i64 2, .int .i64 x1, .int .i64 x2, .int .i64 x3, .int .i64 ((m : Int) + 1), .int .i64 x5, .int .i64 v] 56 (0, 0)) := by rw [hW]; exact heap_alloc_new _ _
    have hB : Below w.heap.size w w1 := by rw [hW]; go_grown
    have hz : w.heap.size < w1.heap.size := (Array.getElem?_eq_some_iff.1 hX).1
    have HSC : Hid (∀ w', Bw w1 w' → w'.cell? ⟨w.heap.size, 0, none⟩ = some (.int .i64 2) ∧ w'.cell? ⟨w.heap.size, 1, none⟩ = some (.int .i64 x1) ∧ w'.cell? ⟨w.heap.size, 2, none⟩ = some (.int .i64 x2) ∧ w'.cell? ⟨w.heap.size, 3, none⟩ = some (.int .i64 x3) ∧ w'.cell? ⟨w.heap.size, 4, none⟩ = some (.int .i64 ((m : Int) + 1)) ∧ w'.cell? ⟨w.heap.size, 5, none⟩ = some (.int .i64 x5) ∧ w'.cell? ⟨w.heap.size, 6, none⟩ = some (.int .i64 v) ∧ Bw w1 w') := fun w' hb => (fun ⟨a0, a1, a2, a3, a4, a5, a6⟩ => ⟨a0, a1, a2, a3, a4, a5, a6, hb⟩) (cellAct ((hb.block _ hz).trans hX))
    have HX := Lib.hid hX
    have HB := Lib.hid hB
    clear hW hX hB
    refine wp_region_noPanic ?_
    refine wp_region_held_drew (S := fun w' => w'.cell? ⟨w.heap.size, 0, none⟩ = some (.int .i64 2) ∧ w'.cell? ⟨w.heap.size, 1, none⟩ = some (.int .i64 x1) ∧ w'.cell? ⟨w.heap.size, 2, none⟩ = some (.int .i64 x2) ∧ w'.cell? ⟨w.heap.size, 3, none⟩ = some (.int .i64 x3) ∧ w'.cell? ⟨w.heap.size, 4, none⟩ = some (.int .i64 ((m : Int) + 1)) ∧ w'.cell? ⟨w.heap.size, 5, none⟩ = some (.int .i64 x5) ∧ w'.cell? ⟨w.heap.size, 6, none⟩ = some (.int .i64 v) ∧ Bw w1 w') (by kernel_rfl) (HSC.out _ (Bw.drew _)) (fun hHeld => ?_)
    refine wpAnyH_take (i := 0) (v := ?v30) (arr_at rfl) (by kernel_rfl) (by kernel_rfl) (by kernel_rfl) (fun _ _ _ h => h) (Or.inl ⟨by rfl, ?hy30⟩) (by assumption) ?_
    case hy30 => (intro w hSw; (try dsimp only at hSw); go_simp <;> with_reducible rfl)
    try simp only [Act.put, List.setIfInBounds_toArray, List.set_cons_zero, List.set_cons_succ]
    refine wpAnyH_take (i := 1) (v := ?v31) (arr_at rfl) (by kernel_rfl) (by kernel_rfl) (by kernel_rfl) (fun _ _ _ h => h) (Or.inl ⟨by rfl, ?hy31⟩) (by assumption) ?_
    case hy31 => (intro w hSw; (try dsimp only at hSw); go_simp <;> with_reducible rfl)
    try simp only [Act.put, List.setIfInBounds_toArray, List.set_cons_zero, List.set_cons_succ]
    refine wpAnyH_take (i := 2) (v := ?v32) (arr_at rfl) (by kernel_rfl) (by kernel_rfl) (by kernel_rfl) (fun _ _ _ h => h) (Or.inl ⟨by rfl, ?hy32⟩) (by assumption) ?_
    case hy32 => (intro w hSw; (try dsimp only at hSw); go_simp <;> with_reducible rfl)
    try simp only [Act.put, List.setIfInBounds_toArray, List.set_cons_zero, List.set_cons_succ]
    refine wpAnyH_take (i := 3) (v := ?v33) (arr_at rfl) (by kernel_rfl) (by kernel_rfl) (by kernel_rfl) (fun _ _ _ h => h) (Or.inl ⟨by rfl, ?hy33⟩) (by assumption) ?_
    case hy33 => (intro w hSw; (try dsimp only at hSw); go_simp <;> with_reducible rfl)
    try simp only [Act.put, List.setIfInBounds_toArray, List.set_cons_zero, List.set_cons_succ]
    refine wpAnyH_take (i := 7) (v := ?v34) (arr_at rfl) (by kernel_rfl) (by kernel_rfl) (by kernel_rfl) (fun _ _ _ h => h) (Or.inl ⟨by rfl, ?hy34⟩) (by assumption) ?_
    case hy34 => (intro w hSw; (try dsimp only at hSw); go_simp <;> with_reducible rfl)
    try simp only [Act.put, List.setIfInBounds_toArray, List.set_cons_zero, List.set_cons_succ]
    refine wpAnyH_take (i := 8) (v := ?v35) (arr_at rfl) (by kernel_rfl) (by kernel_rfl) (by kernel_rfl) (fun _ _ _ h => h) (Or.inl ⟨by rfl, ?hy35⟩) (by assumption) ?_
    case hy35 => (intro w hSw; (try dsimp only at hSw); go_simp <;> with_reducible rfl)
    try simp only [Act.put, List.setIfInBounds_toArray, List.set_cons_zero, List.set_cons_succ]
    refine wpAnyH_take (i := 9) (v := ?v36) (arr_at rfl) (by kernel_rfl) (by kernel_rfl) (by kernel_rfl) (fun _ _ _ h => h) (Or.inl ⟨by rfl, ?hy36⟩) (by assumption) ?_
    case hy36 => (intro w hSw; (try dsimp only at hSw); go_simp <;> with_reducible rfl)
    try simp only [Act.put, List.setIfInBounds_toArray, List.set_cons_zero, List.set_cons_succ]
    refine wpAnyH_take (i := 13) (v := ?v37) (arr_at rfl) (by kernel_rfl) (by kernel_rfl) (by kernel_rfl) (fun _ _ _ h => h) (Or.inl ⟨by rfl, ?hy37⟩) (by assumption) ?_
    case hy37 => (intro w hSw; (try dsimp only at hSw); go_simp <;> with_reducible rfl)
    try simp only [Act.put, List.setIfInBounds_toArray, List.set_cons_zero, List.set_cons_succ]
    refine wpAnyH_take (i := 14) (v := ?v38) (arr_at rfl) (by kernel_rfl) (by kernel_rfl) (by kernel_rfl) (fun _ _ _ h => h) (Or.inl ⟨by rfl, ?hy38⟩) (by assumption) ?_
    case hy38 => (intro w hSw; (try dsimp only at hSw); go_simp <;> with_reducible rfl)
    try simp only [Act.put, List.setIfInBounds_toArray, List.set_cons_zero, List.set_cons_succ]
    refine wpAnyH_take (i := 15) (v := ?v39) (arr_at rfl) (by kernel_rfl) (by kernel_rfl) (by kernel_rfl) (fun _ _ _ h => h) (Or.inl ⟨by rfl, ?hy39⟩) (by assumption) ?_
    case hy39 => (intro w hSw; (try dsimp only at hSw); go_simp <;> with_reducible rfl)
    try simp only [Act.put, List.setIfInBounds_toArray, List.set_cons_zero, List.set_cons_succ]
    refine wpAnyH_take (i := 20) (v := ?v40) (arr_at rfl) (by kernel_rfl) (by kernel_rfl) (by kernel_rfl) (fun _ _ _ h => h) (Or.inl ⟨by rfl, ?hy40⟩) (by assumption) ?_
    case hy40 => (intro w hSw; (try dsimp only at hSw); go_simp <;> with_reducible rfl)
    try simp only [Act.put, List.setIfInBounds_toArray, List.set_cons_zero, List.set_cons_succ]
    refine wpAnyH_take (i := 21) (v := ?v41) (arr_at rfl) (by kernel_rfl) (by kernel_rfl) (by kernel_rfl) (fun _ _ _ h => h) (Or.inl ⟨by rfl, ?hy41⟩) (by assumption) ?_
    case hy41 => (intro w hSw; (try dsimp only at hSw); go_simp <;> with_reducible rfl)
    try simp only [Act.put, List.setIfInBounds_toArray, List.set_cons_zero, List.set_cons_succ]
    refine wpAnyH_take (i := 22) (v := ?v42) (arr_at rfl) (by kernel_rfl) (by kernel_rfl) (by kernel_rfl) (fun _ _ _ h => h) (Or.inl ⟨by rfl, ?hy42⟩) (by assumption) ?_
    case hy42 => (intro w hSw; (try dsimp only at hSw); go_simp <;> with_reducible rfl)
    try simp only [Act.put, List.setIfInBounds_toArray, List.set_cons_zero, List.set_cons_succ]
    refine wpAnyH_take (i := 23) (v := ?v43) (arr_at rfl) (by kernel_rfl) (by kernel_rfl) (by kernel_rfl) (fun _ _ _ h => h) (Or.inl ⟨by rfl, ?hy43⟩) (by assumption) ?_
    case hy43 => (intro w hSw; (try dsimp only at hSw); go_simp <;> with_reducible rfl)
    try simp only [Act.put, List.setIfInBounds_toArray, List.set_cons_zero, List.set_cons_succ]
    refine wpAnyH_take (i := 28) (v := ?v44) (arr_at rfl) (by kernel_rfl) (by kernel_rfl) (by kernel_rfl) (fun _ _ _ h => h) (Or.inl ⟨by rfl, ?hy44⟩) (by assumption) ?_
    case hy44 => (intro w hSw; (try dsimp only at hSw); go_simp <;> with_reducible rfl)
    try simp only [Act.put, List.setIfInBounds_toArray, List.set_cons_zero, List.set_cons_succ]
    refine wpAnyH_take (i := 29) (v := ?v45) (arr_at rfl) (by kernel_rfl) (by kernel_rfl) (by kernel_rfl) (fun _ _ _ h => h) (Or.inl ⟨by rfl, ?hy45⟩) (by assumption) ?_
    case hy45 => (intro w hSw; (try dsimp only at hSw); go_simp <;> with_reducible rfl)
    try simp only [Act.put, List.setIfInBounds_toArray, List.set_cons_zero, List.set_cons_succ]
    refine wpAnyH_take (i := 30) (v := ?v46) (arr_at rfl) (by kernel_rfl) (by kernel_rfl) (by kernel_rfl) (fun _ _ _ h => h) (Or.inl ⟨by rfl, ?hy46⟩) (by assumption) ?_
    case hy46 => (intro w hSw; (try dsimp only at hSw); go_simp <;> with_reducible rfl)
    try simp only [Act.put, List.setIfInBounds_toArray, List.set_cons_zero, List.set_cons_succ]
    refine wpAnyH_ready (rs := [4]) (by kernel_rfl) (by simp) ?_
    refine AllReadyH.cons (arr_at rfl) (fun K hK => ?_) ?_
    · go_simp; refine (H1.out _).mono ?_; rintro rr v4 ⟨rfl, hb4⟩
      have HI4 : Bw w1 v4 := Bw.tr (Bw.drew _) hb4
      refine hK.out _ _ ?_ (fun hHeld => ?_)
      · exact HSC.out _ HI4
      clear hK K
      try simp only [Act.put, List.setIfInBounds_toArray, List.set_cons_zero, List.set_cons_succ]
      refine wpAnyH_take (i := 5) (v := ?v47) (arr_at rfl) (by kernel_rfl) (by kernel_rfl) (by kernel_rfl) (fun _ _ _ h => h) (Or.inl ⟨by rfl, ?hy47⟩) (by assumption) ?_
      case hy47 => (intro w hSw; (try dsimp only at hSw); go_simp <;> with_reducible rfl)
      try simp only [Act.put, List.setIfInBounds_toArray, List.set_cons_zero, List.set_cons_succ]
      refine wpAnyH_take (i := 6) (v := ?v48) (arr_at rfl) (by kernel_rfl) (by kernel_rfl) (by kernel_rfl) (fun _ _ _ h => h) (Or.inl ⟨by rfl, ?hy48⟩) (by assumption) ?_
      case hy48 => (intro w hSw; (try dsimp only at hSw); go_simp <;> with_reducible rfl)
      try simp only [Act.put, List.setIfInBounds_toArray, List.set_cons_zero, List.set_cons_succ]
      refine wpAnyH_ready (rs := [10]) (by kernel_rfl) (by simp) ?_
      refine AllReadyH.cons (arr_at rfl) (fun K hK => ?_) ?_
      · go_simp; refine (H2.out _).mono ?_; rintro rr v10 ⟨rfl, hb10⟩
        have HI10 : Bw w1 v10 := Bw.tr HI4 hb10
        refine hK.out _ _ ?_ (fun hHeld => ?_)
        · exact HSC.out _ HI10
        clear hK K
        try simp only [Act.put, List.setIfInBounds_toArray, List.set_cons_zero, List.set_cons_succ]
        refine wpAnyH_take (i := 11) (v := ?v49) (arr_at rfl) (by kernel_rfl) (by kernel_rfl) (by kernel_rfl) (fun _ _ _ h => h) (Or.inl ⟨by rfl, ?hy49⟩) (by assumption) ?_
        case hy49 => (intro w hSw; (try dsimp only at hSw); go_simp <;> with_reducible rfl)
        try simp only [Act.put, List.setIfInBounds_toArray, List.set_cons_zero, List.set_cons_succ]
        refine wpAnyH_take (i := 12) (v := ?v50) (arr_at rfl) (by kernel_rfl) (by kernel_rfl) (by kernel_rfl) (fun _ _ _ h => h) (Or.inl ⟨by rfl, ?hy50⟩) (by assumption) ?_
        case hy50 => (intro w hSw; (try dsimp only at hSw); go_simp <;> with_reducible rfl)
        try simp only [Act.put, List.setIfInBounds_toArray, List.set_cons_zero, List.set_cons_succ]
        refine wpAnyH_ready (rs := [16]) (by kernel_rfl) (by simp) ?_
        refine AllReadyH.cons (arr_at rfl) (fun K hK => ?_) ?_
        · go_simp; refine (H3.out _).mono ?_; rintro rr v16 ⟨rfl, hb16⟩
          have HI16 : Bw w1 v16 := Bw.tr HI10 hb16
          refine hK.out _ _ ?_ (fun hHeld => ?_)
          · exact HSC.out _ HI16
          clear hK K
          try simp only [Act.put, List.setIfInBounds_toArray, List.set_cons_zero, List.set_cons_succ]
          refine wpAnyH_take (i := 17) (v := ?v51) (arr_at rfl) (by kernel_rfl) (by kernel_rfl) (by kernel_rfl) (fun _ _ _ h => h) (Or.inl ⟨by rfl, ?hy51⟩) (by assumption) ?_
          case hy51 => (intro w hSw; (try dsimp only at hSw); go_simp <;> with_reducible rfl)
          try simp only [Act.put, List.setIfInBounds_toArray, List.set_cons_zero, List.set_cons_succ]
          refine wpAnyH_take (i := 18) (v := ?v52) (arr_at rfl) (by kernel_rfl) (by kernel_rfl) (by kernel_rfl) (fun _ _ _ h => h) (Or.inl ⟨by rfl, ?hy52⟩) (by assumption) ?_
          case hy52 => (intro w hSw; (try dsimp only at hSw); go_simp <;> with_reducible rfl)
          try simp only [Act.put, List.setIfInBounds_toArray, List.set_cons_zero, List.set_cons_succ]
          refine wpAnyH_ready (rs := [19]) (by kernel_rfl) (by simp) ?_
          refine AllReadyH.cons (arr_at rfl) (fun K hK => ?_) ?_
          · go_simp; refine (rnames_c _).mono ?_; rintro rr wN ⟨rfl, hwN⟩
            have HI19 : Bw w1 wN := by rw [hwN]; exact Bw.alloc HI16 _
            refine hK.out _ _ ?_ (fun hHeld => ?_)
            · exact HSC.out _ HI19
            clear hK K
            try simp only [Act.put, List.setIfInBounds_toArray, List.set_cons_zero, List.set_cons_succ]
            have cN : wN.cell? ⟨v16.heap.size, m, none⟩ = some (.string ⟨NM.toArray⟩) := by
              have hh : wN.heap[v16.heap.size]? = some (.cells rnameCells 9 (0, 0)) := by rw [hwN]; exact heap_alloc_new _ _
              rw [cell_of_row _ _ _ _ _ _ hh]
              exact HNC.out
            have zN : v16.heap.size < wN.heap.size := by rw [hwN]; simp
            have HSN : Hid (∀ w', Bw wN w' → (w'.cell? ⟨w.heap.size, 0, none⟩ = some (.int .i64 2) ∧ w'.cell? ⟨w.heap.size, 1, none⟩ = some (.int .i64 x1) ∧ w'.cell? ⟨w.heap.size, 2, none⟩ = some (.int .i64 x2) ∧ w'.cell? ⟨w.heap.size, 3, none⟩ = some (.int .i64 x3) ∧ w'.cell? ⟨w.heap.size, 4, none⟩ = some (.int .i64 ((m : Int) + 1)) ∧ w'.cell? ⟨w.heap.size, 5, none⟩ = some (.int .i64 x5) ∧ w'.cell? ⟨w.heap.size, 6, none⟩ = some (.int .i64 v) ∧ Bw w1 w') ∧ w'.cell? ⟨v16.heap.size, m, none⟩ = some (.string ⟨NM.toArray⟩) ∧ Bw wN w') := fun w' hb => ⟨HSC.out _ (Bw.tr HI19 hb), (hb.cell (p := ⟨v16.heap.size, _, none⟩) zN).trans cN, hb⟩
            refine wpAnyH_switch (S' := fun w' => (w'.cell? ⟨w.heap.size, 0, none⟩ = some (.int .i64 2) ∧ w'.cell? ⟨w.heap.size, 1, none⟩ = some (.int .i64 x1) ∧ w'.cell? ⟨w.heap.size, 2, none⟩ = some (.int .i64 x2) ∧ w'.cell? ⟨w.heap.size, 3, none⟩ = some (.int .i64 x3) ∧ w'.cell? ⟨w.heap.size, 4, none⟩ = some (.int .i64 ((m : Int) + 1)) ∧ w'.cell? ⟨w.heap.size, 5, none⟩ = some (.int .i64 x5) ∧ w'.cell? ⟨w.heap.size, 6, none⟩ = some (.int .i64 v) ∧ Bw w1 w') ∧ w'.cell? ⟨v16.heap.size, m, none⟩ = some (.string ⟨NM.toArray⟩) ∧ Bw wN w') (fun _ h => h.1) (HSN.out _ (Bw.refl _)) (fun hHeld2 => ?_)
            clear hHeld hwN cN
            refine wpAnyH_take (i := 24) (v := ?v53) (arr_at rfl) (by kernel_rfl) (by kernel_rfl) (by kernel_rfl) (fun _ _ _ h => h) (Or.inl ⟨by rfl, ?hy53⟩) (by assumption) ?_
            case hy53 => (intro w hSw; (try dsimp only at hSw); go_simp <;> with_reducible rfl)
            try simp only [Act.put, List.setIfInBounds_toArray, List.set_cons_zero, List.set_cons_succ]
            refine wpAnyH_take (i := 25) (v := ?v54) (arr_at rfl) (by kernel_rfl) (by kernel_rfl) (by kernel_rfl) (fun _ _ _ h => h) (Or.inl ⟨by rfl, ?hy54⟩) (by assumption) ?_
            case hy54 => (intro w hSw; (try dsimp only at hSw); go_simp <;> with_reducible rfl)
            try simp only [Act.put, List.setIfInBounds_toArray, List.set_cons_zero, List.set_cons_succ]
            refine wpAnyH_take (i := 26) (v := ?v55) (arr_at rfl) (by kernel_rfl) (by kernel_rfl) (by kernel_rfl) (fun _ _ _ h => h) (Or.inl ⟨by rfl, ?hy55⟩) (by assumption) ?_
            case hy55 => (intro w hSw; (try dsimp only at hSw); go_simp <;> with_reducible rfl)
            try simp only [Act.put, List.setIfInBounds_toArray, List.set_cons_zero, List.set_cons_succ]
            refine wpAnyH_take (i := 27) (v := ?v56) (arr_at rfl) (by kernel_rfl) (by kernel_rfl) (by kernel_rfl) (fun _ _ _ h => h) (Or.inl ⟨by rfl, ?hy56⟩) (by assumption) ?_
            case hy56 => (intro w hSw; (try dsimp only at hSw); go_simp <;> with_reducible rfl)
            try simp only [Act.put, List.setIfInBounds_toArray, List.set_cons_zero, List.set_cons_succ]
            refine wpAnyH_ready (rs := [31]) (by kernel_rfl) (by simp) ?_
            refine AllReadyH.cons (arr_at rfl) (fun K hK => ?_) ?_
            · go_simp; refine (H5.out _).mono ?_; rintro rr v31 ⟨rfl, hb31⟩
              have HJ31 : Bw wN v31 := hb31
              have HI31 : Bw w1 v31 := Bw.tr HI19 HJ31
              refine hK.out _ _ ?_ (fun hHeld => ?_)
              · exact HSN.out _ HJ31
              clear hK K
              try simp only [Act.put, List.setIfInBounds_toArray, List.set_cons_zero, List.set_cons_succ]
              refine wpAnyH_take (i := 32) (v := ?v57) (arr_at rfl) (by kernel_rfl) (by kernel_rfl) (by kernel_rfl) (fun _ _ _ h => h) (Or.inl ⟨by rfl, ?hy57⟩) (by assumption) ?_
              case hy57 => (intro w hSw; (try dsimp only at hSw); go_simp <;> with_reducible rfl)
              try simp only [Act.put, List.setIfInBounds_toArray, List.set_cons_zero, List.set_cons_succ]
              refine wpAnyH_take (i := 33) (v := ?v58) (arr_at rfl) (by kernel_rfl) (by kernel_rfl) (by kernel_rfl) (fun _ _ _ h => h) (Or.inl ⟨by rfl, ?hy58⟩) (by assumption) ?_
              case hy58 => (intro w hSw; (try dsimp only at hSw); go_simp <;> with_reducible rfl)
              try simp only [Act.put, List.setIfInBounds_toArray, List.set_cons_zero, List.set_cons_succ]
              refine wpAnyH_done (by kernel_rfl) ?_ _
              refine NoPanic.normal ?_
              have hXF : v31.heap[w.heap.size]? = some (.cells #[.int .i64 2, .int .i64 x1, .int .i64 x2, .int .i64 x3, .int .i64 ((m : Int) + 1), .int .i64 x5, .int .i64 v] 56 (0, 0)) := (HI31.block _ hz).trans HX.out
              obtain ⟨e0, e1, e2, e3, e4, e5, e6⟩ := cellAct hXF
              have HBF := Lib.hid (below_step HB.out HI31)
              clear hXF HSC HSN HX
              go_wp2
              go_ret
              exact ⟨by rw [HL2.out]; rfl, HBF.out⟩
            exact AllReadyH.nil
          exact AllReadyH.nil
        exact AllReadyH.nil
      exact AllReadyH.nil
    exact AllReadyH.nil
end Go.Proofs.YtpcefaccoifejaaGreatDoor
