/-
  Contracts of names and line of package session. Conditions: the numbers are from 0 to 99; the act is one that can be written.
-/
import Derived.Test.YtpcefaccoifejaaGreatDoorKD
namespace Go.Proofs.YtpcefaccoifejaaGreatDoor
open Go.RowKit
set_option linter.unusedSimpArgs false
set_option linter.unusedVariables false
set_option maxRecDepth 100000

theorem wpAnyH_weaken {P : Program} {md : Region.Mode} {ops : Array Oper} {Q : Exit → Act → World → Prop} {S S' : World → Prop} (hS : ∀ w, S' w → S w) : ∀ (fuel : Nat) (listed : Array Bool) (a : Act) (w : World), wpAnyH P md ops Q S' fuel listed a w → wpAnyH P md ops Q S fuel listed a w
  | 0, _, _, _, h => h
  | fuel + 1, _, _, _, h => ⟨h.1, fun i hi => wpOp_mono (fun a' w' h' => ⟨hS _ h'.1, wpAnyH_weaken hS fuel _ a' w' h'.2⟩) (h.2 i hi)⟩
theorem wpAnyH_switch {P : Program} {md : Region.Mode} {ops : Array Oper} {Q : Exit → Act → World → Prop} {S S' : World → Prop} {fuel : Nat} {listed : Array Bool} {a : Act} {w : World} (hS : ∀ w, S' w → S w)
    (h0 : S' w) (h : S' w → wpAnyH P md ops Q S' fuel listed a w) : wpAnyH P md ops Q S fuel listed a w := wpAnyH_weaken hS _ _ _ _ (h h0)
theorem wpAnyH_named {P : Program} {md : Region.Mode} {ops : Array Oper} {Q : Exit → Act → World → Prop} {S : World → Prop} {fuel : Nat} {listed : Array Bool} {a : Act} {w : World} (h : ∀ W, W = w → wpAnyH P md ops Q S fuel listed a W) : wpAnyH P md ops Q S fuel listed a w := h w rfl
theorem arr_at {l : List Oper} {i : Nat} {o : Oper} (h : l[i]? = some o) : l.toArray[i]? = some o := by simpa using h
theorem exit_namedL {Q : Exit → Act → World → Prop} {e : Exit} {a : Act} {w : World} (h : ∀ W, W = w → Q e a W) : Q e a w := h w rfl
theorem Bw.tr {A B C : World} (h : Bw A B) (k : Bw B C) : Bw A C := Below.trans h (Below.mono k h.size)
/-- the names of What -/
def nameT : List (List UInt8) := [[], [99, 108, 101, 102], [107, 101, 121], [98, 101, 97, 116, 115], [117, 110, 105, 116], [98, 97, 114], [102, 114, 101, 101], [104, 101, 97, 100], [97, 99, 99], [100, 111, 116], [116, 105, 101], [114, 101, 115, 116], [114, 101, 115, 116, 100, 111, 116], [115, 116, 101, 109], [98, 101, 97, 109], [116, 114, 105, 112, 108, 101], [116, 101, 120, 116]]
def nameOf (m : Nat) : List UInt8 := nameT.getD m []
def kindOf (k : Int) : List UInt8 := if k = 1 then [99, 111, 114, 114, 101, 99, 116] else [99, 111, 110, 102, 105, 114, 109]
def nameCells : Array Value := (nameT.map fun l => Value.string ⟨l.toArray⟩).toArray
theorem nameCells_at {m : Nat} (h : m < 17) : nameCells[m]? = some (.string ⟨(nameOf m).toArray⟩) := by
  have : ∀ m, m < 17 → nameCells[m]? = some (.string ⟨(nameOf m).toArray⟩) := by
    intro m hm
    unfold nameCells nameOf
    rw [List.getElem?_toArray, List.getElem?_map, List.getD_eq_getElem?_getD, List.getElem?_eq_getElem (show m < nameT.length from hm)]
    rfl
  exact this m h
theorem names_c (w : World) : Calls Tryz.prog 28 #[] w fun e w' => e = .returned (.slice (some ⟨w.heap.size, 0, none⟩) 17 17) ∧ w' = w.alloc (.cells nameCells 9) := by
  have hc : nameCells = #[.string { data := #[] }, .string { data := #[99, 108, 101, 102] }, .string { data := #[107, 101, 121] }, .string { data := #[98, 101, 97, 116, 115] }, .string { data := #[117, 110, 105, 116] }, .string { data := #[98, 97, 114] }, .string { data := #[102, 114, 101, 101] }, .string { data := #[104, 101, 97, 100] }, .string { data := #[97, 99, 99] }, .string { data := #[100, 111, 116] }, .string { data := #[116, 105, 101] }, .string { data := #[114, 101, 115, 116] }, .string { data := #[114, 101, 115, 116, 100, 111, 116] }, .string { data := #[115, 116, 101, 109] }, .string { data := #[98, 101, 97, 109] }, .string { data := #[116, 114, 105, 112, 108, 101] }, .string { data := #[116, 101, 120, 116] }] := by kernel_rfl
  have HC := Lib.hid hc
  clear hc
  go_enter Tryz.func28, Tryz.ntmps28
  go_wp2
  go_ret
  exact ⟨rfl, by rw [HC.out]⟩
def decS (n : Int) : List UInt8 := decL n.toNat
theorem decS_len (n : Int) : (decS n).length ≤ 2 := by unfold decS decL; split <;> simp
theorem nameOf_len (m : Nat) : (nameOf m).length ≤ 7 := by
  by_cases h : m < 17
  · have : ∀ m, m < 17 → (nameOf m).length ≤ 7 := by decide
    exact this m h
  · unfold nameOf
    rw [List.getD_eq_getElem?_getD, List.getElem?_eq_none (by simp [nameT]; omega)]
    simp
theorem kindOf_len (k : Int) : (kindOf k).length = 7 := by unfold kindOf; split <;> rfl
def lineWords (a : Ac) : List (List UInt8) := [kindOf a.1, decS a.2.1.1, decS a.2.1.2.1, decS a.2.1.2.2.1, nameOf a.2.1.2.2.2.1.toNat, decS a.2.1.2.2.2.2] ++ if a.1 = 1 then [decS a.2.2] else []
/-- the line of an act -/
def lineL (a : Ac) : List UInt8 := Lib.join (lineWords a) [32] ++ [10]
theorem join_len (a : Ac) : (Lib.join (lineWords a) [32]).length ≤ 1000 := by
  obtain ⟨k, ⟨x1, x2, x3, x4, x5⟩, v⟩ := a
  unfold lineWords
  have h1 := kindOf_len k
  have h2 := decS_len x1
  have h3 := decS_len x2
  have h4 := decS_len x3
  have h5 := nameOf_len x4.toNat
  have h6 := decS_len x5
  have h7 := decS_len v
  by_cases e : k = 1
  · simp only [e, if_true, List.cons_append, List.nil_append, Lib.join_cons, Lib.joinTail, List.map_cons, List.map_nil, List.flatten_cons, List.flatten_nil, List.length_append, List.length_cons, List.length_nil] at h1 ⊢
    omega
  · simp only [e, if_false, List.cons_append, List.nil_append, List.append_nil, Lib.join_cons, Lib.joinTail, List.map_cons, List.map_nil, List.flatten_cons, List.flatten_nil, List.length_append, List.length_cons, List.length_nil] at h1 ⊢
    omega
/-- an act whose line this text speaks of -/
structure Small (a : Ac) : Prop where
  kind : a.1 = 1 ∨ a.1 = 2
  what : 1 ≤ a.2.1.2.2.2.1 ∧ a.2.1.2.2.2.1 ≤ 16
  n1 : 0 ≤ a.2.1.1 ∧ a.2.1.1 < 100
  n2 : 0 ≤ a.2.1.2.1 ∧ a.2.1.2.1 < 100
  n3 : 0 ≤ a.2.1.2.2.1 ∧ a.2.1.2.2.1 < 100
  n5 : 0 ≤ a.2.1.2.2.2.2 ∧ a.2.1.2.2.2.2 < 100
  nv : 0 ≤ a.2.2 ∧ a.2.2 < 100
theorem infoStr : Tryz.prog.info? 9 = some Tryz.t9 := by kernel_rfl
/-- a block of strings that was made by the call is its own -/
theorem ownRow_of_block {W : World} {lo b : Nat} {cs : Array Value} (h : W.heap[b]? = some (.cells cs 9 (0, 0))) (hb : lo ≤ b) (hs : cs.size ≤ maxLen) : W.ownsRow lo 9 1 (.slice (some ⟨b, 0, none⟩) cs.size cs.size) cs.size cs.toList :=
  ⟨by simp, .inr ⟨b, cs.size, cs, rfl, hb, h, Nat.le_refl _, hs, by simp, List.take_of_length_le (by simp)⟩⟩
/-- what the call owns is joined -/
theorem join_of_own {W : World} {lo n : Nat} {v : Value} {ks : List Value} {ws : List (List UInt8)} (h : W.ownsRow lo 9 1 v n ks) (hk : ks = ws.map fun l => Value.string ⟨l.toArray⟩) (hpos : 0 < n) (hmax : n ≤ 1000) (hlen : (Lib.join ws [32]).length ≤ 1000) :
    Calls Tryz.prog 56 #[v, .string { data := #[32] }] W fun e w' => e = .returned (.string ⟨(Lib.join ws [32]).toArray⟩) ∧ Below W.heap.size W w' := by
  subst hk
  have hl := h.1
  rw [List.length_map, Nat.mul_one] at hl
  rcases h.2 with ⟨_, h0⟩ | ⟨g, cap, cur, rfl, hb, hg, hc, hm, hs, ht⟩
  · omega
  have e1 : (ws.map fun l => (⟨l.toArray⟩ : ByteArray)).map (·.data.toList) = ws := by rw [List.map_map]; exact (List.map_congr_left (fun l _ => rfl)).trans (List.map_id ws)
  have e2 : (ws.map fun l => (⟨l.toArray⟩ : ByteArray)).length = n := by simp [hl]
  have := Join_c g 0 cap (ws.map fun l => (⟨l.toArray⟩ : ByteArray)) ⟨#[32]⟩ W (fun j x hx => by
    have hj : j < n := by rw [← e2]; exact (List.getElem?_eq_some_iff.1 hx).1
    rw [Nat.zero_add, h.cellAt j (by omega), List.getElem?_map]
    rw [List.getElem?_map] at hx
    cases hw : ws[j]? with
    | none => rw [hw] at hx; cases hx
    | some l =>
      rw [hw] at hx
      simp only [Option.map_some, Option.some.injEq] at hx ⊢
      rw [← hx]) (Array.getElem?_eq_some_iff.1 hg).1 (by rw [e2]; omega) (by rw [e2]; exact hc) (by rw [e1]; exact Nat.le_trans hlen (by omega))
  rw [e2, e1] at this
  exact this

set_option maxHeartbeats 8000000 in
theorem line_c (kd x1 x2 x3 x4 x5 v : Int) (w : World) (h : Small (kd, (x1, x2, x3, x4, x5), v)) :
    Calls Tryz.prog 30 #[.agg #[.int .i64 kd, .int .i64 x1, .int .i64 x2, .int .i64 x3, .int .i64 x4, .int .i64 x5, .int .i64 v]] w fun e w' => e = .returned (.string ⟨(lineL (kd, (x1, x2, x3, x4, x5), v)).toArray⟩) ∧ Below w.heap.size w w' := by
  have hI := Lib.hid infoStr
  have H1 := Lib.hid fun w => Itoa_c x1 w h.n1.1 h.n1.2
  have H2 := Lib.hid fun w => Itoa_c x2 w h.n2.1 h.n2.2
  have H3 := Lib.hid fun w => Itoa_c x3 w h.n3.1 h.n3.2
  have H5 := Lib.hid fun w => Itoa_c x5 w h.n5.1 h.n5.2
  have HV : Hid (∀ w, Calls Tryz.prog 55 #[.int .i64 v] w fun e w' => e = .returned (.string ⟨(decS v).toArray⟩) ∧ w = w') := fun w => Itoa_c v w h.nv.1 h.nv.2
  obtain ⟨hw1, hw2⟩ := h.what
  have hk := h.kind
  obtain ⟨m, rfl⟩ : ∃ m : Nat, x4 = m := ⟨x4.toNat, by simp only at hw1; omega⟩
  have hm17 : m < 17 := by simp only at hw2; omega
  have hm0 : (0 : Int) ≤ m := by omega
  have hm1 : (m : Int) < 17 := by omega
  simp only at hk
  clear h hw1 hw2
  have HJ := Lib.hid (join_len (kd, (x1, x2, x3, (m : Int), x5), v))
  have HL : Hid (lineL (kd, (x1, x2, x3, (m : Int), x5), v) = Lib.join (lineWords (kd, (x1, x2, x3, (m : Int), x5), v)) [32] ++ [10]) := rfl
  generalize lineL (kd, (x1, x2, x3, (m : Int), x5), v) = LL at *
  rcases hk with rfl | rfl
  · go_enter Tryz.func30, Tryz.ntmps30
    go_wp2_with fail
    refine wp_named fun w1 hW => ?_
    have k0 : w1.cell? ⟨w.heap.size, 0, none⟩ = some (.int .i64 1) := by rw [hW]; go_simp
    have k1 : w1.cell? ⟨w.heap.size, 1, none⟩ = some (.int .i64 x1) := by rw [hW]; go_simp
    have k2 : w1.cell? ⟨w.heap.size, 2, none⟩ = some (.int .i64 x2) := by rw [hW]; go_simp
    have k3 : w1.cell? ⟨w.heap.size, 3, none⟩ = some (.int .i64 x3) := by rw [hW]; go_simp
    have k4 : w1.cell? ⟨w.heap.size, 4, none⟩ = some (.int .i64 (m : Int)) := by rw [hW]; go_simp
    have k5 : w1.cell? ⟨w.heap.size, 5, none⟩ = some (.int .i64 x5) := by rw [hW]; go_simp
    have k6 : w1.cell? ⟨w.heap.size, 6, none⟩ = some (.int .i64 v) := by rw [hW]; go_simp
    have HB : Hid (Below w.heap.size w w1) := by rw [hW]; show Below _ _ _; go_grown
    have y1 : w.heap.size < w1.heap.size := by rw [hW]; simp
    clear hW
    have HSC : Hid (∀ w', Bw w1 w' → (w'.cell? ⟨w.heap.size, 0, none⟩ = some (.int .i64 1) ∧ w'.cell? ⟨w.heap.size, 1, none⟩ = some (.int .i64 x1) ∧ w'.cell? ⟨w.heap.size, 2, none⟩ = some (.int .i64 x2) ∧ w'.cell? ⟨w.heap.size, 3, none⟩ = some (.int .i64 x3) ∧ w'.cell? ⟨w.heap.size, 4, none⟩ = some (.int .i64 (m : Int)) ∧ w'.cell? ⟨w.heap.size, 5, none⟩ = some (.int .i64 x5)) ∧ Bw w1 w') := fun w' hb => ⟨⟨(hb.cell (p := ⟨w.heap.size, _, none⟩) y1).trans k0, (hb.cell (p := ⟨w.heap.size, _, none⟩) y1).trans k1, (hb.cell (p := ⟨w.heap.size, _, none⟩) y1).trans k2, (hb.cell (p := ⟨w.heap.size, _, none⟩) y1).trans k3, (hb.cell (p := ⟨w.heap.size, _, none⟩) y1).trans k4, (hb.cell (p := ⟨w.heap.size, _, none⟩) y1).trans k5⟩, hb⟩
    clear k0 k1 k2 k3 k4 k5
    refine wp_region_noPanic ?_
    refine wp_region_held_drew (S := fun w' => (w'.cell? ⟨w.heap.size, 0, none⟩ = some (.int .i64 1) ∧ w'.cell? ⟨w.heap.size, 1, none⟩ = some (.int .i64 x1) ∧ w'.cell? ⟨w.heap.size, 2, none⟩ = some (.int .i64 x2) ∧ w'.cell? ⟨w.heap.size, 3, none⟩ = some (.int .i64 x3) ∧ w'.cell? ⟨w.heap.size, 4, none⟩ = some (.int .i64 (m : Int)) ∧ w'.cell? ⟨w.heap.size, 5, none⟩ = some (.int .i64 x5)) ∧ Bw w1 w') (by kernel_rfl) (HSC.out _ (Bw.drew _)) (fun hHeld => ?_)
    refine wpAnyH_take (i := 1) (v := ?v1) (arr_at rfl) (by kernel_rfl) (by kernel_rfl) (by kernel_rfl) (fun _ _ _ h => h) (Or.inl ⟨by rfl, ?hy1⟩) (by assumption) ?_
    case hy1 => (intro w hSw; (try dsimp only at hSw); go_simp <;> with_reducible rfl)
    try simp only [Act.put, List.setIfInBounds_toArray, List.set_cons_zero, List.set_cons_succ]
    refine wpAnyH_take (i := 2) (v := ?v2) (arr_at rfl) (by kernel_rfl) (by kernel_rfl) (by kernel_rfl) (fun _ _ _ h => h) (Or.inl ⟨by rfl, ?hy2⟩) (by assumption) ?_
    case hy2 => (intro w hSw; (try dsimp only at hSw); go_simp <;> with_reducible rfl)
    try simp only [Act.put, List.setIfInBounds_toArray, List.set_cons_zero, List.set_cons_succ]
    refine wpAnyH_take (i := 5) (v := ?v3) (arr_at rfl) (by kernel_rfl) (by kernel_rfl) (by kernel_rfl) (fun _ _ _ h => h) (Or.inl ⟨by rfl, ?hy3⟩) (by assumption) ?_
    case hy3 => (intro w hSw; (try dsimp only at hSw); go_simp <;> with_reducible rfl)
    try simp only [Act.put, List.setIfInBounds_toArray, List.set_cons_zero, List.set_cons_succ]
    refine wpAnyH_take (i := 6) (v := ?v4) (arr_at rfl) (by kernel_rfl) (by kernel_rfl) (by kernel_rfl) (fun _ _ _ h => h) (Or.inl ⟨by rfl, ?hy4⟩) (by assumption) ?_
    case hy4 => (intro w hSw; (try dsimp only at hSw); go_simp <;> with_reducible rfl)
    try simp only [Act.put, List.setIfInBounds_toArray, List.set_cons_zero, List.set_cons_succ]
    refine wpAnyH_take (i := 7) (v := ?v5) (arr_at rfl) (by kernel_rfl) (by kernel_rfl) (by kernel_rfl) (fun _ _ _ h => h) (Or.inl ⟨by rfl, ?hy5⟩) (by assumption) ?_
    case hy5 => (intro w hSw; (try dsimp only at hSw); go_simp <;> with_reducible rfl)
    try simp only [Act.put, List.setIfInBounds_toArray, List.set_cons_zero, List.set_cons_succ]
    refine still_take (i := 8) (v := .string ⟨(decS x1).toArray⟩) (arr_at rfl) (by kernel_rfl) (by kernel_rfl) (by kernel_rfl) (fun _ _ _ h => h) ⟨by rfl, 55, #[.int .i64 x1], ?hy6, fun w _ => H1.out w⟩ (by assumption) ?_
    case hy6 => (intro w; go_simp <;> with_reducible rfl)
    try simp only [Act.put, List.setIfInBounds_toArray, List.set_cons_zero, List.set_cons_succ]
    refine wpAnyH_take (i := 9) (v := ?v7) (arr_at rfl) (by kernel_rfl) (by kernel_rfl) (by kernel_rfl) (fun _ _ _ h => h) (Or.inl ⟨by rfl, ?hy7⟩) (by assumption) ?_
    case hy7 => (intro w hSw; (try dsimp only at hSw); go_simp <;> with_reducible rfl)
    try simp only [Act.put, List.setIfInBounds_toArray, List.set_cons_zero, List.set_cons_succ]
    refine wpAnyH_take (i := 10) (v := ?v8) (arr_at rfl) (by kernel_rfl) (by kernel_rfl) (by kernel_rfl) (fun _ _ _ h => h) (Or.inl ⟨by rfl, ?hy8⟩) (by assumption) ?_
    case hy8 => (intro w hSw; (try dsimp only at hSw); go_simp <;> with_reducible rfl)
    try simp only [Act.put, List.setIfInBounds_toArray, List.set_cons_zero, List.set_cons_succ]
    refine wpAnyH_take (i := 11) (v := ?v9) (arr_at rfl) (by kernel_rfl) (by kernel_rfl) (by kernel_rfl) (fun _ _ _ h => h) (Or.inl ⟨by rfl, ?hy9⟩) (by assumption) ?_
    case hy9 => (intro w hSw; (try dsimp only at hSw); go_simp <;> with_reducible rfl)
    try simp only [Act.put, List.setIfInBounds_toArray, List.set_cons_zero, List.set_cons_succ]
    refine still_take (i := 12) (v := .string ⟨(decS x2).toArray⟩) (arr_at rfl) (by kernel_rfl) (by kernel_rfl) (by kernel_rfl) (fun _ _ _ h => h) ⟨by rfl, 55, #[.int .i64 x2], ?hy10, fun w _ => H2.out w⟩ (by assumption) ?_
    case hy10 => (intro w; go_simp <;> with_reducible rfl)
    try simp only [Act.put, List.setIfInBounds_toArray, List.set_cons_zero, List.set_cons_succ]
    refine wpAnyH_take (i := 13) (v := ?v11) (arr_at rfl) (by kernel_rfl) (by kernel_rfl) (by kernel_rfl) (fun _ _ _ h => h) (Or.inl ⟨by rfl, ?hy11⟩) (by assumption) ?_
    case hy11 => (intro w hSw; (try dsimp only at hSw); go_simp <;> with_reducible rfl)
    try simp only [Act.put, List.setIfInBounds_toArray, List.set_cons_zero, List.set_cons_succ]
    refine wpAnyH_take (i := 14) (v := ?v12) (arr_at rfl) (by kernel_rfl) (by kernel_rfl) (by kernel_rfl) (fun _ _ _ h => h) (Or.inl ⟨by rfl, ?hy12⟩) (by assumption) ?_
    case hy12 => (intro w hSw; (try dsimp only at hSw); go_simp <;> with_reducible rfl)
    try simp only [Act.put, List.setIfInBounds_toArray, List.set_cons_zero, List.set_cons_succ]
    refine wpAnyH_take (i := 15) (v := ?v13) (arr_at rfl) (by kernel_rfl) (by kernel_rfl) (by kernel_rfl) (fun _ _ _ h => h) (Or.inl ⟨by rfl, ?hy13⟩) (by assumption) ?_
    case hy13 => (intro w hSw; (try dsimp only at hSw); go_simp <;> with_reducible rfl)
    try simp only [Act.put, List.setIfInBounds_toArray, List.set_cons_zero, List.set_cons_succ]
    refine still_take (i := 16) (v := .string ⟨(decS x3).toArray⟩) (arr_at rfl) (by kernel_rfl) (by kernel_rfl) (by kernel_rfl) (fun _ _ _ h => h) ⟨by rfl, 55, #[.int .i64 x3], ?hy14, fun w _ => H3.out w⟩ (by assumption) ?_
    case hy14 => (intro w; go_simp <;> with_reducible rfl)
    try simp only [Act.put, List.setIfInBounds_toArray, List.set_cons_zero, List.set_cons_succ]
    refine wpAnyH_take (i := 18) (v := ?v15) (arr_at rfl) (by kernel_rfl) (by kernel_rfl) (by kernel_rfl) (fun _ _ _ h => h) (Or.inl ⟨by rfl, ?hy15⟩) (by assumption) ?_
    case hy15 => (intro w hSw; (try dsimp only at hSw); go_simp <;> with_reducible rfl)
    try simp only [Act.put, List.setIfInBounds_toArray, List.set_cons_zero, List.set_cons_succ]
    refine wpAnyH_take (i := 19) (v := ?v16) (arr_at rfl) (by kernel_rfl) (by kernel_rfl) (by kernel_rfl) (fun _ _ _ h => h) (Or.inl ⟨by rfl, ?hy16⟩) (by assumption) ?_
    case hy16 => (intro w hSw; (try dsimp only at hSw); go_simp <;> with_reducible rfl)
    try simp only [Act.put, List.setIfInBounds_toArray, List.set_cons_zero, List.set_cons_succ]
    refine wpAnyH_take (i := 20) (v := ?v17) (arr_at rfl) (by kernel_rfl) (by kernel_rfl) (by kernel_rfl) (fun _ _ _ h => h) (Or.inl ⟨by rfl, ?hy17⟩) (by assumption) ?_
    case hy17 => (intro w hSw; (try dsimp only at hSw); go_simp <;> with_reducible rfl)
    try simp only [Act.put, List.setIfInBounds_toArray, List.set_cons_zero, List.set_cons_succ]
    refine wpAnyH_take (i := 23) (v := ?v18) (arr_at rfl) (by kernel_rfl) (by kernel_rfl) (by kernel_rfl) (fun _ _ _ h => h) (Or.inl ⟨by rfl, ?hy18⟩) (by assumption) ?_
    case hy18 => (intro w hSw; (try dsimp only at hSw); go_simp <;> with_reducible rfl)
    try simp only [Act.put, List.setIfInBounds_toArray, List.set_cons_zero, List.set_cons_succ]
    refine wpAnyH_take (i := 24) (v := ?v19) (arr_at rfl) (by kernel_rfl) (by kernel_rfl) (by kernel_rfl) (fun _ _ _ h => h) (Or.inl ⟨by rfl, ?hy19⟩) (by assumption) ?_
    case hy19 => (intro w hSw; (try dsimp only at hSw); go_simp <;> with_reducible rfl)
    try simp only [Act.put, List.setIfInBounds_toArray, List.set_cons_zero, List.set_cons_succ]
    refine wpAnyH_take (i := 25) (v := ?v20) (arr_at rfl) (by kernel_rfl) (by kernel_rfl) (by kernel_rfl) (fun _ _ _ h => h) (Or.inl ⟨by rfl, ?hy20⟩) (by assumption) ?_
    case hy20 => (intro w hSw; (try dsimp only at hSw); go_simp <;> with_reducible rfl)
    try simp only [Act.put, List.setIfInBounds_toArray, List.set_cons_zero, List.set_cons_succ]
    refine wpAnyH_ready (rs := [0, 17]) (by kernel_rfl) (by simp) ?_
    refine AllReadyH.cons (arr_at rfl) (fun K hK => ?_) ?_
    · skip
      go_simp
      refine hK.out _ _ ?_ (fun hHeld => ?_)
      · refine HSC.out _ ?_
        (first | exact Bw.alloc (Bw.refl _) _ | exact Bw.alloc (Bw.drew _) _)
      clear hK K
      try simp only [Act.put, List.setIfInBounds_toArray, List.set_cons_zero, List.set_cons_succ]
      refine wpAnyH_named fun WK hWK => ?_
      have hbWK : Bw w1 WK := by rw [hWK]; first | exact Bw.alloc (Bw.refl _) _ | exact Bw.alloc (Bw.drew _) _
      have cWK : WK.cell? ⟨w1.heap.size, 1, none⟩ = some (.string { data := #[99, 111, 114, 114, 101, 99, 116] }) := by
        rw [hWK]; go_simp
      have zWK : w1.heap.size < WK.heap.size := by rw [hWK]; simp
      have HSCWK : Hid (∀ w', Bw WK w' → ((w'.cell? ⟨w.heap.size, 0, none⟩ = some (.int .i64 1) ∧ w'.cell? ⟨w.heap.size, 1, none⟩ = some (.int .i64 x1) ∧ w'.cell? ⟨w.heap.size, 2, none⟩ = some (.int .i64 x2) ∧ w'.cell? ⟨w.heap.size, 3, none⟩ = some (.int .i64 x3) ∧ w'.cell? ⟨w.heap.size, 4, none⟩ = some (.int .i64 (m : Int)) ∧ w'.cell? ⟨w.heap.size, 5, none⟩ = some (.int .i64 x5)) ∧ Bw w1 w') ∧ w'.cell? ⟨w1.heap.size, 1, none⟩ = some (.string { data := #[99, 111, 114, 114, 101, 99, 116] }) ∧ Bw WK w') := fun w' hb => ⟨HSC.out _ (Bw.tr hbWK hb), (hb.cell (p := ⟨w1.heap.size, _, none⟩) zWK).trans cWK, hb⟩
      refine wpAnyH_switch (S' := fun w' => ((w'.cell? ⟨w.heap.size, 0, none⟩ = some (.int .i64 1) ∧ w'.cell? ⟨w.heap.size, 1, none⟩ = some (.int .i64 x1) ∧ w'.cell? ⟨w.heap.size, 2, none⟩ = some (.int .i64 x2) ∧ w'.cell? ⟨w.heap.size, 3, none⟩ = some (.int .i64 x3) ∧ w'.cell? ⟨w.heap.size, 4, none⟩ = some (.int .i64 (m : Int)) ∧ w'.cell? ⟨w.heap.size, 5, none⟩ = some (.int .i64 x5)) ∧ Bw w1 w') ∧ w'.cell? ⟨w1.heap.size, 1, none⟩ = some (.string { data := #[99, 111, 114, 114, 101, 99, 116] }) ∧ Bw WK w') (fun _ h => h.1) (HSCWK.out _ (Bw.refl _)) (fun hHeld2 => ?_)
      clear hWK hHeld
      refine wpAnyH_take (i := 3) (v := ?v21) (arr_at rfl) (by kernel_rfl) (by kernel_rfl) (by kernel_rfl) (fun _ _ _ h => h) (Or.inl ⟨by rfl, ?hy21⟩) (by assumption) ?_
      case hy21 => (intro w hSw; (try dsimp only at hSw); go_simp <;> with_reducible rfl)
      try simp only [Act.put, List.setIfInBounds_toArray, List.set_cons_zero, List.set_cons_succ]
      refine wpAnyH_take (i := 4) (v := ?v22) (arr_at rfl) (by kernel_rfl) (by kernel_rfl) (by kernel_rfl) (fun _ _ _ h => h) (Or.inl ⟨by rfl, ?hy22⟩) (by assumption) ?_
      case hy22 => (intro w hSw; (try dsimp only at hSw); go_simp <;> with_reducible rfl)
      try simp only [Act.put, List.setIfInBounds_toArray, List.set_cons_zero, List.set_cons_succ]
      refine wpAnyH_ready (rs := [17]) (by kernel_rfl) (by simp) ?_
      refine AllReadyH.cons (arr_at rfl) (fun K hK => ?_) ?_
      · skip
        go_simp
        refine (names_c _).mono ?_
        rintro e w2 ⟨rfl, hw2⟩
        refine hK.out _ _ ?_ (fun hHeld => ?_)
        · refine HSCWK.out _ ?_
          rw [hw2]; (first | exact Bw.alloc (Bw.refl _) _ | exact Bw.alloc (Bw.drew _) _)
        clear hK K
        try simp only [Act.put, List.setIfInBounds_toArray, List.set_cons_zero, List.set_cons_succ]
        refine wpAnyH_named fun WN hWN => ?_
        rw [hw2] at hWN
        have hbWN : Bw WK WN := by rw [hWN]; first | exact Bw.alloc (Bw.refl _) _ | exact Bw.alloc (Bw.drew _) _
        have cWN : WN.cell? ⟨WK.heap.size, m, none⟩ = some (.string ⟨(nameOf m).toArray⟩) := by
          have hh : WN.heap[WK.heap.size]? = some (.cells nameCells 9 (0, 0)) := by rw [hWN]; exact heap_alloc_new _ _
          rw [cell_of_row _ _ _ _ _ _ hh]
          exact nameCells_at hm17
        have zWN : WK.heap.size < WN.heap.size := by rw [hWN]; simp
        have HSCWN : Hid (∀ w', Bw WN w' → (((w'.cell? ⟨w.heap.size, 0, none⟩ = some (.int .i64 1) ∧ w'.cell? ⟨w.heap.size, 1, none⟩ = some (.int .i64 x1) ∧ w'.cell? ⟨w.heap.size, 2, none⟩ = some (.int .i64 x2) ∧ w'.cell? ⟨w.heap.size, 3, none⟩ = some (.int .i64 x3) ∧ w'.cell? ⟨w.heap.size, 4, none⟩ = some (.int .i64 (m : Int)) ∧ w'.cell? ⟨w.heap.size, 5, none⟩ = some (.int .i64 x5)) ∧ Bw w1 w') ∧ w'.cell? ⟨w1.heap.size, 1, none⟩ = some (.string { data := #[99, 111, 114, 114, 101, 99, 116] }) ∧ Bw WK w') ∧ w'.cell? ⟨WK.heap.size, m, none⟩ = some (.string ⟨(nameOf m).toArray⟩) ∧ Bw WN w') := fun w' hb => ⟨HSCWK.out _ (Bw.tr hbWN hb), (hb.cell (p := ⟨WK.heap.size, _, none⟩) zWN).trans cWN, hb⟩
        refine wpAnyH_switch (S' := fun w' => (((w'.cell? ⟨w.heap.size, 0, none⟩ = some (.int .i64 1) ∧ w'.cell? ⟨w.heap.size, 1, none⟩ = some (.int .i64 x1) ∧ w'.cell? ⟨w.heap.size, 2, none⟩ = some (.int .i64 x2) ∧ w'.cell? ⟨w.heap.size, 3, none⟩ = some (.int .i64 x3) ∧ w'.cell? ⟨w.heap.size, 4, none⟩ = some (.int .i64 (m : Int)) ∧ w'.cell? ⟨w.heap.size, 5, none⟩ = some (.int .i64 x5)) ∧ Bw w1 w') ∧ w'.cell? ⟨w1.heap.size, 1, none⟩ = some (.string { data := #[99, 111, 114, 114, 101, 99, 116] }) ∧ Bw WK w') ∧ w'.cell? ⟨WK.heap.size, m, none⟩ = some (.string ⟨(nameOf m).toArray⟩) ∧ Bw WN w') (fun _ h => h.1) (HSCWN.out _ (Bw.refl _)) (fun hHeld2 => ?_)
        clear hWN hHeld hw2
        refine wpAnyH_take (i := 21) (v := ?v23) (arr_at rfl) (by kernel_rfl) (by kernel_rfl) (by kernel_rfl) (fun _ _ _ h => h) (Or.inl ⟨by rfl, ?hy23⟩) (by assumption) ?_
        case hy23 => (intro w hSw; (try dsimp only at hSw); go_simp <;> with_reducible rfl)
        try simp only [Act.put, List.setIfInBounds_toArray, List.set_cons_zero, List.set_cons_succ]
        refine wpAnyH_take (i := 22) (v := ?v24) (arr_at rfl) (by kernel_rfl) (by kernel_rfl) (by kernel_rfl) (fun _ _ _ h => h) (Or.inl ⟨by rfl, ?hy24⟩) (by assumption) ?_
        case hy24 => (intro w hSw; (try dsimp only at hSw); go_simp <;> with_reducible rfl)
        try simp only [Act.put, List.setIfInBounds_toArray, List.set_cons_zero, List.set_cons_succ]
        refine still_take (i := 26) (v := .string ⟨(decS x5).toArray⟩) (arr_at rfl) (by kernel_rfl) (by kernel_rfl) (by kernel_rfl) (fun _ _ _ h => h) ⟨by rfl, 55, #[.int .i64 x5], ?hy25, fun w _ => H5.out w⟩ (by assumption) ?_
        case hy25 => (intro w; go_simp <;> with_reducible rfl)
        try simp only [Act.put, List.setIfInBounds_toArray, List.set_cons_zero, List.set_cons_succ]
        refine wpAnyH_ready (rs := [27]) (by kernel_rfl) (by simp) ?_
        refine AllReadyH.cons (arr_at rfl) (fun K hK => ?_) ?_
        · skip
          go_simp
          refine hK.out _ _ ?_ (fun hHeld => ?_)
          · refine HSCWN.out _ ?_
            (first | exact Bw.alloc (Bw.refl _) _ | exact Bw.alloc (Bw.drew _) _)
          clear hK K
          try simp only [Act.put, List.setIfInBounds_toArray, List.set_cons_zero, List.set_cons_succ]
          refine wpAnyH_take (i := 28) (v := ?v26) (arr_at rfl) (by kernel_rfl) (by kernel_rfl) (by kernel_rfl) (fun _ _ _ h => h) (Or.inl ⟨by rfl, ?hy26⟩) (by assumption) ?_
          case hy26 => (intro w hSw; (try dsimp only at hSw); go_simp <;> with_reducible rfl)
          try simp only [Act.put, List.setIfInBounds_toArray, List.set_cons_zero, List.set_cons_succ]
          refine wpAnyH_done (by kernel_rfl) ?_ _
          refine NoPanic.normal ?_
          refine exit_namedL (Q := Exit.then _ _) fun WF hWF => ?_
          have hbF : Bw WN WF := by rw [hWF]; first | exact Bw.alloc (Bw.refl _) _ | exact Bw.alloc (Bw.drew _) _
          have hX : WF.heap[WN.heap.size]? = some (.cells #[.string { data := #[99, 111, 114, 114, 101, 99, 116] }, .string ⟨(decS x1).toArray⟩, .string ⟨(decS x2).toArray⟩, .string ⟨(decS x3).toArray⟩, .string ⟨(nameOf m).toArray⟩, .string ⟨(decS x5).toArray⟩] 9 (0, 0)) := by rw [hWF]; first | exact heap_alloc_new _ _ | exact heap_alloc_new _ _
          have hB1F : Bw w1 WF := Bw.tr hbWK (Bw.tr hbWN hbF)
          have k0 : WF.cell? ⟨w.heap.size, 0, none⟩ = some (.int .i64 1) := (HSC.out _ hB1F).1.1
          have kv : WF.cell? ⟨w.heap.size, 6, none⟩ = some (.int .i64 v) := (hB1F.cell (p := ⟨w.heap.size, 6, none⟩) y1).trans k6
          have hBF : Below w.heap.size w WF := HB.out.trans (hB1F.mono HB.out.size)
          obtain ⟨bx, hbx⟩ : ∃ bx, WN.heap.size = bx := ⟨_, rfl⟩
          have hwb : w.heap.size ≤ bx := by have := hBF.size; rw [← hbx]; exact Nat.le_trans HB.out.size (Nat.le_trans hbWK.size hbWN.size)
          rw [hbx] at hX ⊢
          have HX := Lib.hid hX
          have HBF := Lib.hid hBF
          have hxl : bx < WF.heap.size := (Array.getElem?_eq_some_iff.1 hX).1
          clear hWF hbx hX hBF hHeld2
          have HOWN : Hid (WF.ownsRow w.heap.size 9 1 (.slice (some ⟨bx, 0, none⟩) 6 6) 6 [.string { data := #[99, 111, 114, 114, 101, 99, 116] }, .string ⟨(decS x1).toArray⟩, .string ⟨(decS x2).toArray⟩, .string ⟨(decS x3).toArray⟩, .string ⟨(nameOf m).toArray⟩, .string ⟨(decS x5).toArray⟩]) := ownRow_of_block HX.out hwb (by simp [maxLen])
          have hsF := HBF.out.size
          go_wp2_with (first | (go_at_call 55; refine (HV.out _).mono ?_; rintro e w5 ⟨rfl, rfl⟩) | (at_builtin; go_loud (refine wpList_append_own _ rfl (.tmp 35) (.tmp 39) _ rfl w.heap.size 9 Tryz.t9 _ 1 16 rfl hI.out rfl rfl rfl rfl (by omega) (.slice (some ⟨bx, 0, none⟩) 6 6) 6 _ rfl (HOWN.out.alloc _) ⟨WF.heap.size, 0, none⟩ 1 1 [.string ⟨(decS v).toArray⟩] rfl rfl (newCells _ _ _) (by simp [Value.oneCell']) (by simp only [maxLen]; omega) (by omega) (by simp; omega) ?_; intro v' w6 ho hg hn; have HO := Lib.hid ho; have HB6 := Lib.hid ((HBF.out.alloc hsF _).grown hg (by simp; omega) (fun j hj => by simp [Value.ownBlock] at hj; omega)); clear ho hg hn)))
          have hwords : lineWords (1, (x1, x2, x3, (m : Int), x5), v) = [[99, 111, 114, 114, 101, 99, 116], decS x1, decS x2, decS x3, nameOf m, decS x5, decS v] := rfl
          have HWD := Lib.hid hwords
          have hlen := HJ.out
          rw [hwords] at hlen
          clear hwords
          refine (join_of_own (ws := [[99, 111, 114, 114, 101, 99, 116], decS x1, decS x2, decS x3, nameOf m, decS x5, decS v]) HO.out rfl (by omega) (by omega) hlen).mono ?_
          rintro e w7 ⟨rfl, hb7⟩
          have HB7 := Lib.hid (below_step HB6.out hb7)
          clear hb7
          obtain ⟨J, hJ⟩ : ∃ J, Lib.join [[99, 111, 114, 114, 101, 99, 116], decS x1, decS x2, decS x3, nameOf m, decS x5, decS v] [32] = J := ⟨_, rfl⟩
          rw [hJ] at hlen ⊢
          have hadd : ∀ w, (Op.stringOp .add ⟨J.toArray⟩ ⟨#[10]⟩).run Tryz.prog w = .ok (.string ⟨(J ++ [10]).toArray⟩) w := fun w => run_string_add_lists w J [10] (by omega) (by simp)
          have HLL : Hid (LL = J ++ [10]) := HL.out.trans (by rw [HWD.out, hJ])
          clear hJ
          go_wp2
          go_ret
          exact ⟨by rw [HLL.out]; rfl, HB7.out⟩
        exact AllReadyH.nil
      exact AllReadyH.nil
    refine AllReadyH.cons (arr_at rfl) (fun K hK => ?_) ?_
    · skip
      go_simp
      refine (names_c _).mono ?_
      rintro e w2 ⟨rfl, hw2⟩
      refine hK.out _ _ ?_ (fun hHeld => ?_)
      · refine HSC.out _ ?_
        rw [hw2]; (first | exact Bw.alloc (Bw.refl _) _ | exact Bw.alloc (Bw.drew _) _)
      clear hK K
      try simp only [Act.put, List.setIfInBounds_toArray, List.set_cons_zero, List.set_cons_succ]
      refine wpAnyH_named fun WN hWN => ?_
      rw [hw2] at hWN
      have hbWN : Bw w1 WN := by rw [hWN]; first | exact Bw.alloc (Bw.refl _) _ | exact Bw.alloc (Bw.drew _) _
      have cWN : WN.cell? ⟨w1.heap.size, m, none⟩ = some (.string ⟨(nameOf m).toArray⟩) := by
        have hh : WN.heap[w1.heap.size]? = some (.cells nameCells 9 (0, 0)) := by rw [hWN]; exact heap_alloc_new _ _
        rw [cell_of_row _ _ _ _ _ _ hh]
        exact nameCells_at hm17
      have zWN : w1.heap.size < WN.heap.size := by rw [hWN]; simp
      have HSCWN : Hid (∀ w', Bw WN w' → ((w'.cell? ⟨w.heap.size, 0, none⟩ = some (.int .i64 1) ∧ w'.cell? ⟨w.heap.size, 1, none⟩ = some (.int .i64 x1) ∧ w'.cell? ⟨w.heap.size, 2, none⟩ = some (.int .i64 x2) ∧ w'.cell? ⟨w.heap.size, 3, none⟩ = some (.int .i64 x3) ∧ w'.cell? ⟨w.heap.size, 4, none⟩ = some (.int .i64 (m : Int)) ∧ w'.cell? ⟨w.heap.size, 5, none⟩ = some (.int .i64 x5)) ∧ Bw w1 w') ∧ w'.cell? ⟨w1.heap.size, m, none⟩ = some (.string ⟨(nameOf m).toArray⟩) ∧ Bw WN w') := fun w' hb => ⟨HSC.out _ (Bw.tr hbWN hb), (hb.cell (p := ⟨w1.heap.size, _, none⟩) zWN).trans cWN, hb⟩
      refine wpAnyH_switch (S' := fun w' => ((w'.cell? ⟨w.heap.size, 0, none⟩ = some (.int .i64 1) ∧ w'.cell? ⟨w.heap.size, 1, none⟩ = some (.int .i64 x1) ∧ w'.cell? ⟨w.heap.size, 2, none⟩ = some (.int .i64 x2) ∧ w'.cell? ⟨w.heap.size, 3, none⟩ = some (.int .i64 x3) ∧ w'.cell? ⟨w.heap.size, 4, none⟩ = some (.int .i64 (m : Int)) ∧ w'.cell? ⟨w.heap.size, 5, none⟩ = some (.int .i64 x5)) ∧ Bw w1 w') ∧ w'.cell? ⟨w1.heap.size, m, none⟩ = some (.string ⟨(nameOf m).toArray⟩) ∧ Bw WN w') (fun _ h => h.1) (HSCWN.out _ (Bw.refl _)) (fun hHeld2 => ?_)
      clear hWN hHeld hw2
      refine wpAnyH_take (i := 21) (v := ?v27) (arr_at rfl) (by kernel_rfl) (by kernel_rfl) (by kernel_rfl) (fun _ _ _ h => h) (Or.inl ⟨by rfl, ?hy27⟩) (by assumption) ?_
      case hy27 => (intro w hSw; (try dsimp only at hSw); go_simp <;> with_reducible rfl)
      try simp only [Act.put, List.setIfInBounds_toArray, List.set_cons_zero, List.set_cons_succ]
      refine wpAnyH_take (i := 22) (v := ?v28) (arr_at rfl) (by kernel_rfl) (by kernel_rfl) (by kernel_rfl) (fun _ _ _ h => h) (Or.inl ⟨by rfl, ?hy28⟩) (by assumption) ?_
      case hy28 => (intro w hSw; (try dsimp only at hSw); go_simp <;> with_reducible rfl)
      try simp only [Act.put, List.setIfInBounds_toArray, List.set_cons_zero, List.set_cons_succ]
      refine still_take (i := 26) (v := .string ⟨(decS x5).toArray⟩) (arr_at rfl) (by kernel_rfl) (by kernel_rfl) (by kernel_rfl) (fun _ _ _ h => h) ⟨by rfl, 55, #[.int .i64 x5], ?hy29, fun w _ => H5.out w⟩ (by assumption) ?_
      case hy29 => (intro w; go_simp <;> with_reducible rfl)
      try simp only [Act.put, List.setIfInBounds_toArray, List.set_cons_zero, List.set_cons_succ]
      refine wpAnyH_ready (rs := [0]) (by kernel_rfl) (by simp) ?_
      refine AllReadyH.cons (arr_at rfl) (fun K hK => ?_) ?_
      · skip
        go_simp
        refine hK.out _ _ ?_ (fun hHeld => ?_)
        · refine HSCWN.out _ ?_
          (first | exact Bw.alloc (Bw.refl _) _ | exact Bw.alloc (Bw.drew _) _)
        clear hK K
        try simp only [Act.put, List.setIfInBounds_toArray, List.set_cons_zero, List.set_cons_succ]
        refine wpAnyH_named fun WK hWK => ?_
        have hbWK : Bw WN WK := by rw [hWK]; first | exact Bw.alloc (Bw.refl _) _ | exact Bw.alloc (Bw.drew _) _
        have cWK : WK.cell? ⟨WN.heap.size, 1, none⟩ = some (.string { data := #[99, 111, 114, 114, 101, 99, 116] }) := by
          rw [hWK]; go_simp
        have zWK : WN.heap.size < WK.heap.size := by rw [hWK]; simp
        have HSCWK : Hid (∀ w', Bw WK w' → (((w'.cell? ⟨w.heap.size, 0, none⟩ = some (.int .i64 1) ∧ w'.cell? ⟨w.heap.size, 1, none⟩ = some (.int .i64 x1) ∧ w'.cell? ⟨w.heap.size, 2, none⟩ = some (.int .i64 x2) ∧ w'.cell? ⟨w.heap.size, 3, none⟩ = some (.int .i64 x3) ∧ w'.cell? ⟨w.heap.size, 4, none⟩ = some (.int .i64 (m : Int)) ∧ w'.cell? ⟨w.heap.size, 5, none⟩ = some (.int .i64 x5)) ∧ Bw w1 w') ∧ w'.cell? ⟨w1.heap.size, m, none⟩ = some (.string ⟨(nameOf m).toArray⟩) ∧ Bw WN w') ∧ w'.cell? ⟨WN.heap.size, 1, none⟩ = some (.string { data := #[99, 111, 114, 114, 101, 99, 116] }) ∧ Bw WK w') := fun w' hb => ⟨HSCWN.out _ (Bw.tr hbWK hb), (hb.cell (p := ⟨WN.heap.size, _, none⟩) zWK).trans cWK, hb⟩
        refine wpAnyH_switch (S' := fun w' => (((w'.cell? ⟨w.heap.size, 0, none⟩ = some (.int .i64 1) ∧ w'.cell? ⟨w.heap.size, 1, none⟩ = some (.int .i64 x1) ∧ w'.cell? ⟨w.heap.size, 2, none⟩ = some (.int .i64 x2) ∧ w'.cell? ⟨w.heap.size, 3, none⟩ = some (.int .i64 x3) ∧ w'.cell? ⟨w.heap.size, 4, none⟩ = some (.int .i64 (m : Int)) ∧ w'.cell? ⟨w.heap.size, 5, none⟩ = some (.int .i64 x5)) ∧ Bw w1 w') ∧ w'.cell? ⟨w1.heap.size, m, none⟩ = some (.string ⟨(nameOf m).toArray⟩) ∧ Bw WN w') ∧ w'.cell? ⟨WN.heap.size, 1, none⟩ = some (.string { data := #[99, 111, 114, 114, 101, 99, 116] }) ∧ Bw WK w') (fun _ h => h.1) (HSCWK.out _ (Bw.refl _)) (fun hHeld2 => ?_)
        clear hWK hHeld
        refine wpAnyH_take (i := 3) (v := ?v30) (arr_at rfl) (by kernel_rfl) (by kernel_rfl) (by kernel_rfl) (fun _ _ _ h => h) (Or.inl ⟨by rfl, ?hy30⟩) (by assumption) ?_
        case hy30 => (intro w hSw; (try dsimp only at hSw); go_simp <;> with_reducible rfl)
        try simp only [Act.put, List.setIfInBounds_toArray, List.set_cons_zero, List.set_cons_succ]
        refine wpAnyH_take (i := 4) (v := ?v31) (arr_at rfl) (by kernel_rfl) (by kernel_rfl) (by kernel_rfl) (fun _ _ _ h => h) (Or.inl ⟨by rfl, ?hy31⟩) (by assumption) ?_
        case hy31 => (intro w hSw; (try dsimp only at hSw); go_simp <;> with_reducible rfl)
        try simp only [Act.put, List.setIfInBounds_toArray, List.set_cons_zero, List.set_cons_succ]
        refine wpAnyH_ready (rs := [27]) (by kernel_rfl) (by simp) ?_
        refine AllReadyH.cons (arr_at rfl) (fun K hK => ?_) ?_
        · skip
          go_simp
          refine hK.out _ _ ?_ (fun hHeld => ?_)
          · refine HSCWK.out _ ?_
            (first | exact Bw.alloc (Bw.refl _) _ | exact Bw.alloc (Bw.drew _) _)
          clear hK K
          try simp only [Act.put, List.setIfInBounds_toArray, List.set_cons_zero, List.set_cons_succ]
          refine wpAnyH_take (i := 28) (v := ?v32) (arr_at rfl) (by kernel_rfl) (by kernel_rfl) (by kernel_rfl) (fun _ _ _ h => h) (Or.inl ⟨by rfl, ?hy32⟩) (by assumption) ?_
          case hy32 => (intro w hSw; (try dsimp only at hSw); go_simp <;> with_reducible rfl)
          try simp only [Act.put, List.setIfInBounds_toArray, List.set_cons_zero, List.set_cons_succ]
          refine wpAnyH_done (by kernel_rfl) ?_ _
          refine NoPanic.normal ?_
          refine exit_namedL (Q := Exit.then _ _) fun WF hWF => ?_
          have hbF : Bw WK WF := by rw [hWF]; first | exact Bw.alloc (Bw.refl _) _ | exact Bw.alloc (Bw.drew _) _
          have hX : WF.heap[WK.heap.size]? = some (.cells #[.string { data := #[99, 111, 114, 114, 101, 99, 116] }, .string ⟨(decS x1).toArray⟩, .string ⟨(decS x2).toArray⟩, .string ⟨(decS x3).toArray⟩, .string ⟨(nameOf m).toArray⟩, .string ⟨(decS x5).toArray⟩] 9 (0, 0)) := by rw [hWF]; first | exact heap_alloc_new _ _ | exact heap_alloc_new _ _
          have hB1F : Bw w1 WF := Bw.tr hbWN (Bw.tr hbWK hbF)
          have k0 : WF.cell? ⟨w.heap.size, 0, none⟩ = some (.int .i64 1) := (HSC.out _ hB1F).1.1
          have kv : WF.cell? ⟨w.heap.size, 6, none⟩ = some (.int .i64 v) := (hB1F.cell (p := ⟨w.heap.size, 6, none⟩) y1).trans k6
          have hBF : Below w.heap.size w WF := HB.out.trans (hB1F.mono HB.out.size)
          obtain ⟨bx, hbx⟩ : ∃ bx, WK.heap.size = bx := ⟨_, rfl⟩
          have hwb : w.heap.size ≤ bx := by have := hBF.size; rw [← hbx]; exact Nat.le_trans HB.out.size (Nat.le_trans hbWN.size hbWK.size)
          rw [hbx] at hX ⊢
          have HX := Lib.hid hX
          have HBF := Lib.hid hBF
          have hxl : bx < WF.heap.size := (Array.getElem?_eq_some_iff.1 hX).1
          clear hWF hbx hX hBF hHeld2
          have HOWN : Hid (WF.ownsRow w.heap.size 9 1 (.slice (some ⟨bx, 0, none⟩) 6 6) 6 [.string { data := #[99, 111, 114, 114, 101, 99, 116] }, .string ⟨(decS x1).toArray⟩, .string ⟨(decS x2).toArray⟩, .string ⟨(decS x3).toArray⟩, .string ⟨(nameOf m).toArray⟩, .string ⟨(decS x5).toArray⟩]) := ownRow_of_block HX.out hwb (by simp [maxLen])
          have hsF := HBF.out.size
          go_wp2_with (first | (go_at_call 55; refine (HV.out _).mono ?_; rintro e w5 ⟨rfl, rfl⟩) | (at_builtin; go_loud (refine wpList_append_own _ rfl (.tmp 35) (.tmp 39) _ rfl w.heap.size 9 Tryz.t9 _ 1 16 rfl hI.out rfl rfl rfl rfl (by omega) (.slice (some ⟨bx, 0, none⟩) 6 6) 6 _ rfl (HOWN.out.alloc _) ⟨WF.heap.size, 0, none⟩ 1 1 [.string ⟨(decS v).toArray⟩] rfl rfl (newCells _ _ _) (by simp [Value.oneCell']) (by simp only [maxLen]; omega) (by omega) (by simp; omega) ?_; intro v' w6 ho hg hn; have HO := Lib.hid ho; have HB6 := Lib.hid ((HBF.out.alloc hsF _).grown hg (by simp; omega) (fun j hj => by simp [Value.ownBlock] at hj; omega)); clear ho hg hn)))
          have hwords : lineWords (1, (x1, x2, x3, (m : Int), x5), v) = [[99, 111, 114, 114, 101, 99, 116], decS x1, decS x2, decS x3, nameOf m, decS x5, decS v] := rfl
          have HWD := Lib.hid hwords
          have hlen := HJ.out
          rw [hwords] at hlen
          clear hwords
          refine (join_of_own (ws := [[99, 111, 114, 114, 101, 99, 116], decS x1, decS x2, decS x3, nameOf m, decS x5, decS v]) HO.out rfl (by omega) (by omega) hlen).mono ?_
          rintro e w7 ⟨rfl, hb7⟩
          have HB7 := Lib.hid (below_step HB6.out hb7)
          clear hb7
          obtain ⟨J, hJ⟩ : ∃ J, Lib.join [[99, 111, 114, 114, 101, 99, 116], decS x1, decS x2, decS x3, nameOf m, decS x5, decS v] [32] = J := ⟨_, rfl⟩
          rw [hJ] at hlen ⊢
          have hadd : ∀ w, (Op.stringOp .add ⟨J.toArray⟩ ⟨#[10]⟩).run Tryz.prog w = .ok (.string ⟨(J ++ [10]).toArray⟩) w := fun w => run_string_add_lists w J [10] (by omega) (by simp)
          have HLL : Hid (LL = J ++ [10]) := HL.out.trans (by rw [HWD.out, hJ])
          clear hJ
          go_wp2
          go_ret
          exact ⟨by rw [HLL.out]; rfl, HB7.out⟩
        exact AllReadyH.nil
      exact AllReadyH.nil
    exact AllReadyH.nil
  · go_enter Tryz.func30, Tryz.ntmps30
    go_wp2_with fail
    refine wp_named fun w1 hW => ?_
    have k0 : w1.cell? ⟨w.heap.size, 0, none⟩ = some (.int .i64 2) := by rw [hW]; go_simp
    have k1 : w1.cell? ⟨w.heap.size, 1, none⟩ = some (.int .i64 x1) := by rw [hW]; go_simp
    have k2 : w1.cell? ⟨w.heap.size, 2, none⟩ = some (.int .i64 x2) := by rw [hW]; go_simp
    have k3 : w1.cell? ⟨w.heap.size, 3, none⟩ = some (.int .i64 x3) := by rw [hW]; go_simp
    have k4 : w1.cell? ⟨w.heap.size, 4, none⟩ = some (.int .i64 (m : Int)) := by rw [hW]; go_simp
    have k5 : w1.cell? ⟨w.heap.size, 5, none⟩ = some (.int .i64 x5) := by rw [hW]; go_simp
    have k6 : w1.cell? ⟨w.heap.size, 6, none⟩ = some (.int .i64 v) := by rw [hW]; go_simp
    have HB : Hid (Below w.heap.size w w1) := by rw [hW]; show Below _ _ _; go_grown
    have y1 : w.heap.size < w1.heap.size := by rw [hW]; simp
    clear hW
    have HSC : Hid (∀ w', Bw w1 w' → (w'.cell? ⟨w.heap.size, 0, none⟩ = some (.int .i64 2) ∧ w'.cell? ⟨w.heap.size, 1, none⟩ = some (.int .i64 x1) ∧ w'.cell? ⟨w.heap.size, 2, none⟩ = some (.int .i64 x2) ∧ w'.cell? ⟨w.heap.size, 3, none⟩ = some (.int .i64 x3) ∧ w'.cell? ⟨w.heap.size, 4, none⟩ = some (.int .i64 (m : Int)) ∧ w'.cell? ⟨w.heap.size, 5, none⟩ = some (.int .i64 x5)) ∧ Bw w1 w') := fun w' hb => ⟨⟨(hb.cell (p := ⟨w.heap.size, _, none⟩) y1).trans k0, (hb.cell (p := ⟨w.heap.size, _, none⟩) y1).trans k1, (hb.cell (p := ⟨w.heap.size, _, none⟩) y1).trans k2, (hb.cell (p := ⟨w.heap.size, _, none⟩) y1).trans k3, (hb.cell (p := ⟨w.heap.size, _, none⟩) y1).trans k4, (hb.cell (p := ⟨w.heap.size, _, none⟩) y1).trans k5⟩, hb⟩
    clear k0 k1 k2 k3 k4 k5
    refine wp_region_noPanic ?_
    refine wp_region_held_drew (S := fun w' => (w'.cell? ⟨w.heap.size, 0, none⟩ = some (.int .i64 2) ∧ w'.cell? ⟨w.heap.size, 1, none⟩ = some (.int .i64 x1) ∧ w'.cell? ⟨w.heap.size, 2, none⟩ = some (.int .i64 x2) ∧ w'.cell? ⟨w.heap.size, 3, none⟩ = some (.int .i64 x3) ∧ w'.cell? ⟨w.heap.size, 4, none⟩ = some (.int .i64 (m : Int)) ∧ w'.cell? ⟨w.heap.size, 5, none⟩ = some (.int .i64 x5)) ∧ Bw w1 w') (by kernel_rfl) (HSC.out _ (Bw.drew _)) (fun hHeld => ?_)
    refine wpAnyH_take (i := 1) (v := ?v33) (arr_at rfl) (by kernel_rfl) (by kernel_rfl) (by kernel_rfl) (fun _ _ _ h => h) (Or.inl ⟨by rfl, ?hy33⟩) (by assumption) ?_
    case hy33 => (intro w hSw; (try dsimp only at hSw); go_simp <;> with_reducible rfl)
    try simp only [Act.put, List.setIfInBounds_toArray, List.set_cons_zero, List.set_cons_succ]
    refine wpAnyH_take (i := 2) (v := ?v34) (arr_at rfl) (by kernel_rfl) (by kernel_rfl) (by kernel_rfl) (fun _ _ _ h => h) (Or.inl ⟨by rfl, ?hy34⟩) (by assumption) ?_
    case hy34 => (intro w hSw; (try dsimp only at hSw); go_simp <;> with_reducible rfl)
    try simp only [Act.put, List.setIfInBounds_toArray, List.set_cons_zero, List.set_cons_succ]
    refine wpAnyH_take (i := 5) (v := ?v35) (arr_at rfl) (by kernel_rfl) (by kernel_rfl) (by kernel_rfl) (fun _ _ _ h => h) (Or.inl ⟨by rfl, ?hy35⟩) (by assumption) ?_
    case hy35 => (intro w hSw; (try dsimp only at hSw); go_simp <;> with_reducible rfl)
    try simp only [Act.put, List.setIfInBounds_toArray, List.set_cons_zero, List.set_cons_succ]
    refine wpAnyH_take (i := 6) (v := ?v36) (arr_at rfl) (by kernel_rfl) (by kernel_rfl) (by kernel_rfl) (fun _ _ _ h => h) (Or.inl ⟨by rfl, ?hy36⟩) (by assumption) ?_
    case hy36 => (intro w hSw; (try dsimp only at hSw); go_simp <;> with_reducible rfl)
    try simp only [Act.put, List.setIfInBounds_toArray, List.set_cons_zero, List.set_cons_succ]
    refine wpAnyH_take (i := 7) (v := ?v37) (arr_at rfl) (by kernel_rfl) (by kernel_rfl) (by kernel_rfl) (fun _ _ _ h => h) (Or.inl ⟨by rfl, ?hy37⟩) (by assumption) ?_
    case hy37 => (intro w hSw; (try dsimp only at hSw); go_simp <;> with_reducible rfl)
    try simp only [Act.put, List.setIfInBounds_toArray, List.set_cons_zero, List.set_cons_succ]
    refine still_take (i := 8) (v := .string ⟨(decS x1).toArray⟩) (arr_at rfl) (by kernel_rfl) (by kernel_rfl) (by kernel_rfl) (fun _ _ _ h => h) ⟨by rfl, 55, #[.int .i64 x1], ?hy38, fun w _ => H1.out w⟩ (by assumption) ?_
    case hy38 => (intro w; go_simp <;> with_reducible rfl)
    try simp only [Act.put, List.setIfInBounds_toArray, List.set_cons_zero, List.set_cons_succ]
    refine wpAnyH_take (i := 9) (v := ?v39) (arr_at rfl) (by kernel_rfl) (by kernel_rfl) (by kernel_rfl) (fun _ _ _ h => h) (Or.inl ⟨by rfl, ?hy39⟩) (by assumption) ?_
    case hy39 => (intro w hSw; (try dsimp only at hSw); go_simp <;> with_reducible rfl)
    try simp only [Act.put, List.setIfInBounds_toArray, List.set_cons_zero, List.set_cons_succ]
    refine wpAnyH_take (i := 10) (v := ?v40) (arr_at rfl) (by kernel_rfl) (by kernel_rfl) (by kernel_rfl) (fun _ _ _ h => h) (Or.inl ⟨by rfl, ?hy40⟩) (by assumption) ?_
    case hy40 => (intro w hSw; (try dsimp only at hSw); go_simp <;> with_reducible rfl)
    try simp only [Act.put, List.setIfInBounds_toArray, List.set_cons_zero, List.set_cons_succ]
    refine wpAnyH_take (i := 11) (v := ?v41) (arr_at rfl) (by kernel_rfl) (by kernel_rfl) (by kernel_rfl) (fun _ _ _ h => h) (Or.inl ⟨by rfl, ?hy41⟩) (by assumption) ?_
    case hy41 => (intro w hSw; (try dsimp only at hSw); go_simp <;> with_reducible rfl)
    try simp only [Act.put, List.setIfInBounds_toArray, List.set_cons_zero, List.set_cons_succ]
    refine still_take (i := 12) (v := .string ⟨(decS x2).toArray⟩) (arr_at rfl) (by kernel_rfl) (by kernel_rfl) (by kernel_rfl) (fun _ _ _ h => h) ⟨by rfl, 55, #[.int .i64 x2], ?hy42, fun w _ => H2.out w⟩ (by assumption) ?_
    case hy42 => (intro w; go_simp <;> with_reducible rfl)
    try simp only [Act.put, List.setIfInBounds_toArray, List.set_cons_zero, List.set_cons_succ]
    refine wpAnyH_take (i := 13) (v := ?v43) (arr_at rfl) (by kernel_rfl) (by kernel_rfl) (by kernel_rfl) (fun _ _ _ h => h) (Or.inl ⟨by rfl, ?hy43⟩) (by assumption) ?_
    case hy43 => (intro w hSw; (try dsimp only at hSw); go_simp <;> with_reducible rfl)
    try simp only [Act.put, List.setIfInBounds_toArray, List.set_cons_zero, List.set_cons_succ]
    refine wpAnyH_take (i := 14) (v := ?v44) (arr_at rfl) (by kernel_rfl) (by kernel_rfl) (by kernel_rfl) (fun _ _ _ h => h) (Or.inl ⟨by rfl, ?hy44⟩) (by assumption) ?_
    case hy44 => (intro w hSw; (try dsimp only at hSw); go_simp <;> with_reducible rfl)
    try simp only [Act.put, List.setIfInBounds_toArray, List.set_cons_zero, List.set_cons_succ]
    refine wpAnyH_take (i := 15) (v := ?v45) (arr_at rfl) (by kernel_rfl) (by kernel_rfl) (by kernel_rfl) (fun _ _ _ h => h) (Or.inl ⟨by rfl, ?hy45⟩) (by assumption) ?_
    case hy45 => (intro w hSw; (try dsimp only at hSw); go_simp <;> with_reducible rfl)
    try simp only [Act.put, List.setIfInBounds_toArray, List.set_cons_zero, List.set_cons_succ]
    refine still_take (i := 16) (v := .string ⟨(decS x3).toArray⟩) (arr_at rfl) (by kernel_rfl) (by kernel_rfl) (by kernel_rfl) (fun _ _ _ h => h) ⟨by rfl, 55, #[.int .i64 x3], ?hy46, fun w _ => H3.out w⟩ (by assumption) ?_
    case hy46 => (intro w; go_simp <;> with_reducible rfl)
    try simp only [Act.put, List.setIfInBounds_toArray, List.set_cons_zero, List.set_cons_succ]
    refine wpAnyH_take (i := 18) (v := ?v47) (arr_at rfl) (by kernel_rfl) (by kernel_rfl) (by kernel_rfl) (fun _ _ _ h => h) (Or.inl ⟨by rfl, ?hy47⟩) (by assumption) ?_
    case hy47 => (intro w hSw; (try dsimp only at hSw); go_simp <;> with_reducible rfl)
    try simp only [Act.put, List.setIfInBounds_toArray, List.set_cons_zero, List.set_cons_succ]
    refine wpAnyH_take (i := 19) (v := ?v48) (arr_at rfl) (by kernel_rfl) (by kernel_rfl) (by kernel_rfl) (fun _ _ _ h => h) (Or.inl ⟨by rfl, ?hy48⟩) (by assumption) ?_
    case hy48 => (intro w hSw; (try dsimp only at hSw); go_simp <;> with_reducible rfl)
    try simp only [Act.put, List.setIfInBounds_toArray, List.set_cons_zero, List.set_cons_succ]
    refine wpAnyH_take (i := 20) (v := ?v49) (arr_at rfl) (by kernel_rfl) (by kernel_rfl) (by kernel_rfl) (fun _ _ _ h => h) (Or.inl ⟨by rfl, ?hy49⟩) (by assumption) ?_
    case hy49 => (intro w hSw; (try dsimp only at hSw); go_simp <;> with_reducible rfl)
    try simp only [Act.put, List.setIfInBounds_toArray, List.set_cons_zero, List.set_cons_succ]
    refine wpAnyH_take (i := 23) (v := ?v50) (arr_at rfl) (by kernel_rfl) (by kernel_rfl) (by kernel_rfl) (fun _ _ _ h => h) (Or.inl ⟨by rfl, ?hy50⟩) (by assumption) ?_
    case hy50 => (intro w hSw; (try dsimp only at hSw); go_simp <;> with_reducible rfl)
    try simp only [Act.put, List.setIfInBounds_toArray, List.set_cons_zero, List.set_cons_succ]
    refine wpAnyH_take (i := 24) (v := ?v51) (arr_at rfl) (by kernel_rfl) (by kernel_rfl) (by kernel_rfl) (fun _ _ _ h => h) (Or.inl ⟨by rfl, ?hy51⟩) (by assumption) ?_
    case hy51 => (intro w hSw; (try dsimp only at hSw); go_simp <;> with_reducible rfl)
    try simp only [Act.put, List.setIfInBounds_toArray, List.set_cons_zero, List.set_cons_succ]
    refine wpAnyH_take (i := 25) (v := ?v52) (arr_at rfl) (by kernel_rfl) (by kernel_rfl) (by kernel_rfl) (fun _ _ _ h => h) (Or.inl ⟨by rfl, ?hy52⟩) (by assumption) ?_
    case hy52 => (intro w hSw; (try dsimp only at hSw); go_simp <;> with_reducible rfl)
    try simp only [Act.put, List.setIfInBounds_toArray, List.set_cons_zero, List.set_cons_succ]
    refine wpAnyH_ready (rs := [0, 17]) (by kernel_rfl) (by simp) ?_
    refine AllReadyH.cons (arr_at rfl) (fun K hK => ?_) ?_
    · skip
      go_simp
      refine hK.out _ _ ?_ (fun hHeld => ?_)
      · refine HSC.out _ ?_
        (first | exact Bw.alloc (Bw.refl _) _ | exact Bw.alloc (Bw.drew _) _)
      clear hK K
      try simp only [Act.put, List.setIfInBounds_toArray, List.set_cons_zero, List.set_cons_succ]
      refine wpAnyH_named fun WK hWK => ?_
      have hbWK : Bw w1 WK := by rw [hWK]; first | exact Bw.alloc (Bw.refl _) _ | exact Bw.alloc (Bw.drew _) _
      have cWK : WK.cell? ⟨w1.heap.size, 2, none⟩ = some (.string { data := #[99, 111, 110, 102, 105, 114, 109] }) := by
        rw [hWK]; go_simp
      have zWK : w1.heap.size < WK.heap.size := by rw [hWK]; simp
      have HSCWK : Hid (∀ w', Bw WK w' → ((w'.cell? ⟨w.heap.size, 0, none⟩ = some (.int .i64 2) ∧ w'.cell? ⟨w.heap.size, 1, none⟩ = some (.int .i64 x1) ∧ w'.cell? ⟨w.heap.size, 2, none⟩ = some (.int .i64 x2) ∧ w'.cell? ⟨w.heap.size, 3, none⟩ = some (.int .i64 x3) ∧ w'.cell? ⟨w.heap.size, 4, none⟩ = some (.int .i64 (m : Int)) ∧ w'.cell? ⟨w.heap.size, 5, none⟩ = some (.int .i64 x5)) ∧ Bw w1 w') ∧ w'.cell? ⟨w1.heap.size, 2, none⟩ = some (.string { data := #[99, 111, 110, 102, 105, 114, 109] }) ∧ Bw WK w') := fun w' hb => ⟨HSC.out _ (Bw.tr hbWK hb), (hb.cell (p := ⟨w1.heap.size, _, none⟩) zWK).trans cWK, hb⟩
      refine wpAnyH_switch (S' := fun w' => ((w'.cell? ⟨w.heap.size, 0, none⟩ = some (.int .i64 2) ∧ w'.cell? ⟨w.heap.size, 1, none⟩ = some (.int .i64 x1) ∧ w'.cell? ⟨w.heap.size, 2, none⟩ = some (.int .i64 x2) ∧ w'.cell? ⟨w.heap.size, 3, none⟩ = some (.int .i64 x3) ∧ w'.cell? ⟨w.heap.size, 4, none⟩ = some (.int .i64 (m : Int)) ∧ w'.cell? ⟨w.heap.size, 5, none⟩ = some (.int .i64 x5)) ∧ Bw w1 w') ∧ w'.cell? ⟨w1.heap.size, 2, none⟩ = some (.string { data := #[99, 111, 110, 102, 105, 114, 109] }) ∧ Bw WK w') (fun _ h => h.1) (HSCWK.out _ (Bw.refl _)) (fun hHeld2 => ?_)
      clear hWK hHeld
      refine wpAnyH_take (i := 3) (v := ?v53) (arr_at rfl) (by kernel_rfl) (by kernel_rfl) (by kernel_rfl) (fun _ _ _ h => h) (Or.inl ⟨by rfl, ?hy53⟩) (by assumption) ?_
      case hy53 => (intro w hSw; (try dsimp only at hSw); go_simp <;> with_reducible rfl)
      try simp only [Act.put, List.setIfInBounds_toArray, List.set_cons_zero, List.set_cons_succ]
      refine wpAnyH_take (i := 4) (v := ?v54) (arr_at rfl) (by kernel_rfl) (by kernel_rfl) (by kernel_rfl) (fun _ _ _ h => h) (Or.inl ⟨by rfl, ?hy54⟩) (by assumption) ?_
      case hy54 => (intro w hSw; (try dsimp only at hSw); go_simp <;> with_reducible rfl)
      try simp only [Act.put, List.setIfInBounds_toArray, List.set_cons_zero, List.set_cons_succ]
      refine wpAnyH_ready (rs := [17]) (by kernel_rfl) (by simp) ?_
      refine AllReadyH.cons (arr_at rfl) (fun K hK => ?_) ?_
      · skip
        go_simp
        refine (names_c _).mono ?_
        rintro e w2 ⟨rfl, hw2⟩
        refine hK.out _ _ ?_ (fun hHeld => ?_)
        · refine HSCWK.out _ ?_
          rw [hw2]; (first | exact Bw.alloc (Bw.refl _) _ | exact Bw.alloc (Bw.drew _) _)
        clear hK K
        try simp only [Act.put, List.setIfInBounds_toArray, List.set_cons_zero, List.set_cons_succ]
        refine wpAnyH_named fun WN hWN => ?_
        rw [hw2] at hWN
        have hbWN : Bw WK WN := by rw [hWN]; first | exact Bw.alloc (Bw.refl _) _ | exact Bw.alloc (Bw.drew _) _
        have cWN : WN.cell? ⟨WK.heap.size, m, none⟩ = some (.string ⟨(nameOf m).toArray⟩) := by
          have hh : WN.heap[WK.heap.size]? = some (.cells nameCells 9 (0, 0)) := by rw [hWN]; exact heap_alloc_new _ _
          rw [cell_of_row _ _ _ _ _ _ hh]
          exact nameCells_at hm17
        have zWN : WK.heap.size < WN.heap.size := by rw [hWN]; simp
        have HSCWN : Hid (∀ w', Bw WN w' → (((w'.cell? ⟨w.heap.size, 0, none⟩ = some (.int .i64 2) ∧ w'.cell? ⟨w.heap.size, 1, none⟩ = some (.int .i64 x1) ∧ w'.cell? ⟨w.heap.size, 2, none⟩ = some (.int .i64 x2) ∧ w'.cell? ⟨w.heap.size, 3, none⟩ = some (.int .i64 x3) ∧ w'.cell? ⟨w.heap.size, 4, none⟩ = some (.int .i64 (m : Int)) ∧ w'.cell? ⟨w.heap.size, 5, none⟩ = some (.int .i64 x5)) ∧ Bw w1 w') ∧ w'.cell? ⟨w1.heap.size, 2, none⟩ = some (.string { data := #[99, 111, 110, 102, 105, 114, 109] }) ∧ Bw WK w') ∧ w'.cell? ⟨WK.heap.size, m, none⟩ = some (.string ⟨(nameOf m).toArray⟩) ∧ Bw WN w') := fun w' hb => ⟨HSCWK.out _ (Bw.tr hbWN hb), (hb.cell (p := ⟨WK.heap.size, _, none⟩) zWN).trans cWN, hb⟩
        refine wpAnyH_switch (S' := fun w' => (((w'.cell? ⟨w.heap.size, 0, none⟩ = some (.int .i64 2) ∧ w'.cell? ⟨w.heap.size, 1, none⟩ = some (.int .i64 x1) ∧ w'.cell? ⟨w.heap.size, 2, none⟩ = some (.int .i64 x2) ∧ w'.cell? ⟨w.heap.size, 3, none⟩ = some (.int .i64 x3) ∧ w'.cell? ⟨w.heap.size, 4, none⟩ = some (.int .i64 (m : Int)) ∧ w'.cell? ⟨w.heap.size, 5, none⟩ = some (.int .i64 x5)) ∧ Bw w1 w') ∧ w'.cell? ⟨w1.heap.size, 2, none⟩ = some (.string { data := #[99, 111, 110, 102, 105, 114, 109] }) ∧ Bw WK w') ∧ w'.cell? ⟨WK.heap.size, m, none⟩ = some (.string ⟨(nameOf m).toArray⟩) ∧ Bw WN w') (fun _ h => h.1) (HSCWN.out _ (Bw.refl _)) (fun hHeld2 => ?_)
        clear hWN hHeld hw2
        refine wpAnyH_take (i := 21) (v := ?v55) (arr_at rfl) (by kernel_rfl) (by kernel_rfl) (by kernel_rfl) (fun _ _ _ h => h) (Or.inl ⟨by rfl, ?hy55⟩) (by assumption) ?_
        case hy55 => (intro w hSw; (try dsimp only at hSw); go_simp <;> with_reducible rfl)
        try simp only [Act.put, List.setIfInBounds_toArray, List.set_cons_zero, List.set_cons_succ]
        refine wpAnyH_take (i := 22) (v := ?v56) (arr_at rfl) (by kernel_rfl) (by kernel_rfl) (by kernel_rfl) (fun _ _ _ h => h) (Or.inl ⟨by rfl, ?hy56⟩) (by assumption) ?_
        case hy56 => (intro w hSw; (try dsimp only at hSw); go_simp <;> with_reducible rfl)
        try simp only [Act.put, List.setIfInBounds_toArray, List.set_cons_zero, List.set_cons_succ]
        refine still_take (i := 26) (v := .string ⟨(decS x5).toArray⟩) (arr_at rfl) (by kernel_rfl) (by kernel_rfl) (by kernel_rfl) (fun _ _ _ h => h) ⟨by rfl, 55, #[.int .i64 x5], ?hy57, fun w _ => H5.out w⟩ (by assumption) ?_
        case hy57 => (intro w; go_simp <;> with_reducible rfl)
        try simp only [Act.put, List.setIfInBounds_toArray, List.set_cons_zero, List.set_cons_succ]
        refine wpAnyH_ready (rs := [27]) (by kernel_rfl) (by simp) ?_
        refine AllReadyH.cons (arr_at rfl) (fun K hK => ?_) ?_
        · skip
          go_simp
          refine hK.out _ _ ?_ (fun hHeld => ?_)
          · refine HSCWN.out _ ?_
            (first | exact Bw.alloc (Bw.refl _) _ | exact Bw.alloc (Bw.drew _) _)
          clear hK K
          try simp only [Act.put, List.setIfInBounds_toArray, List.set_cons_zero, List.set_cons_succ]
          refine wpAnyH_take (i := 28) (v := ?v58) (arr_at rfl) (by kernel_rfl) (by kernel_rfl) (by kernel_rfl) (fun _ _ _ h => h) (Or.inl ⟨by rfl, ?hy58⟩) (by assumption) ?_
          case hy58 => (intro w hSw; (try dsimp only at hSw); go_simp <;> with_reducible rfl)
          try simp only [Act.put, List.setIfInBounds_toArray, List.set_cons_zero, List.set_cons_succ]
          refine wpAnyH_done (by kernel_rfl) ?_ _
          refine NoPanic.normal ?_
          refine exit_namedL (Q := Exit.then _ _) fun WF hWF => ?_
          have hbF : Bw WN WF := by rw [hWF]; first | exact Bw.alloc (Bw.refl _) _ | exact Bw.alloc (Bw.drew _) _
          have hX : WF.heap[WN.heap.size]? = some (.cells #[.string { data := #[99, 111, 110, 102, 105, 114, 109] }, .string ⟨(decS x1).toArray⟩, .string ⟨(decS x2).toArray⟩, .string ⟨(decS x3).toArray⟩, .string ⟨(nameOf m).toArray⟩, .string ⟨(decS x5).toArray⟩] 9 (0, 0)) := by rw [hWF]; first | exact heap_alloc_new _ _ | exact heap_alloc_new _ _
          have hB1F : Bw w1 WF := Bw.tr hbWK (Bw.tr hbWN hbF)
          have k0 : WF.cell? ⟨w.heap.size, 0, none⟩ = some (.int .i64 2) := (HSC.out _ hB1F).1.1
          have kv : WF.cell? ⟨w.heap.size, 6, none⟩ = some (.int .i64 v) := (hB1F.cell (p := ⟨w.heap.size, 6, none⟩) y1).trans k6
          have hBF : Below w.heap.size w WF := HB.out.trans (hB1F.mono HB.out.size)
          obtain ⟨bx, hbx⟩ : ∃ bx, WN.heap.size = bx := ⟨_, rfl⟩
          have hwb : w.heap.size ≤ bx := by have := hBF.size; rw [← hbx]; exact Nat.le_trans HB.out.size (Nat.le_trans hbWK.size hbWN.size)
          rw [hbx] at hX ⊢
          have HX := Lib.hid hX
          have HBF := Lib.hid hBF
          have hxl : bx < WF.heap.size := (Array.getElem?_eq_some_iff.1 hX).1
          clear hWF hbx hX hBF hHeld2
          have hwords : lineWords (2, (x1, x2, x3, (m : Int), x5), v) = [[99, 111, 110, 102, 105, 114, 109], decS x1, decS x2, decS x3, nameOf m, decS x5] := rfl
          have HWD := Lib.hid hwords
          have hlen := HJ.out
          rw [hwords] at hlen
          clear hwords
          go_wp2_with fail
          have HOWN : Hid (WF.ownsRow w.heap.size 9 1 (.slice (some ⟨bx, 0, none⟩) 6 6) 6 [.string { data := #[99, 111, 110, 102, 105, 114, 109] }, .string ⟨(decS x1).toArray⟩, .string ⟨(decS x2).toArray⟩, .string ⟨(decS x3).toArray⟩, .string ⟨(nameOf m).toArray⟩, .string ⟨(decS x5).toArray⟩]) := ownRow_of_block HX.out hwb (by simp [maxLen])
          refine (join_of_own (ws := [[99, 111, 110, 102, 105, 114, 109], decS x1, decS x2, decS x3, nameOf m, decS x5]) HOWN.out rfl (by omega) (by omega) hlen).mono ?_
          rintro e w7 ⟨rfl, hb7⟩
          have HB7 := Lib.hid (below_step HBF.out hb7)
          clear hb7
          obtain ⟨J, hJ⟩ : ∃ J, Lib.join [[99, 111, 110, 102, 105, 114, 109], decS x1, decS x2, decS x3, nameOf m, decS x5] [32] = J := ⟨_, rfl⟩
          rw [hJ] at hlen ⊢
          have hadd : ∀ w, (Op.stringOp .add ⟨J.toArray⟩ ⟨#[10]⟩).run Tryz.prog w = .ok (.string ⟨(J ++ [10]).toArray⟩) w := fun w => run_string_add_lists w J [10] (by omega) (by simp)
          have HLL : Hid (LL = J ++ [10]) := HL.out.trans (by rw [HWD.out, hJ])
          clear hJ
          go_wp2
          go_ret
          exact ⟨by rw [HLL.out]; rfl, HB7.out⟩
        exact AllReadyH.nil
      exact AllReadyH.nil
    refine AllReadyH.cons (arr_at rfl) (fun K hK => ?_) ?_
    · skip
      go_simp
      refine (names_c _).mono ?_
      rintro e w2 ⟨rfl, hw2⟩
      refine hK.out _ _ ?_ (fun hHeld => ?_)
      · refine HSC.out _ ?_
        rw [hw2]; (first | exact Bw.alloc (Bw.refl _) _ | exact Bw.alloc (Bw.drew _) _)
      clear hK K
      try simp only [Act.put, List.setIfInBounds_toArray, List.set_cons_zero, List.set_cons_succ]
      refine wpAnyH_named fun WN hWN => ?_
      rw [hw2] at hWN
      have hbWN : Bw w1 WN := by rw [hWN]; first | exact Bw.alloc (Bw.refl _) _ | exact Bw.alloc (Bw.drew _) _
      have cWN : WN.cell? ⟨w1.heap.size, m, none⟩ = some (.string ⟨(nameOf m).toArray⟩) := by
        have hh : WN.heap[w1.heap.size]? = some (.cells nameCells 9 (0, 0)) := by rw [hWN]; exact heap_alloc_new _ _
        rw [cell_of_row _ _ _ _ _ _ hh]
        exact nameCells_at hm17
      have zWN : w1.heap.size < WN.heap.size := by rw [hWN]; simp
      have HSCWN : Hid (∀ w', Bw WN w' → ((w'.cell? ⟨w.heap.size, 0, none⟩ = some (.int .i64 2) ∧ w'.cell? ⟨w.heap.size, 1, none⟩ = some (.int .i64 x1) ∧ w'.cell? ⟨w.heap.size, 2, none⟩ = some (.int .i64 x2) ∧ w'.cell? ⟨w.heap.size, 3, none⟩ = some (.int .i64 x3) ∧ w'.cell? ⟨w.heap.size, 4, none⟩ = some (.int .i64 (m : Int)) ∧ w'.cell? ⟨w.heap.size, 5, none⟩ = some (.int .i64 x5)) ∧ Bw w1 w') ∧ w'.cell? ⟨w1.heap.size, m, none⟩ = some (.string ⟨(nameOf m).toArray⟩) ∧ Bw WN w') := fun w' hb => ⟨HSC.out _ (Bw.tr hbWN hb), (hb.cell (p := ⟨w1.heap.size, _, none⟩) zWN).trans cWN, hb⟩
      refine wpAnyH_switch (S' := fun w' => ((w'.cell? ⟨w.heap.size, 0, none⟩ = some (.int .i64 2) ∧ w'.cell? ⟨w.heap.size, 1, none⟩ = some (.int .i64 x1) ∧ w'.cell? ⟨w.heap.size, 2, none⟩ = some (.int .i64 x2) ∧ w'.cell? ⟨w.heap.size, 3, none⟩ = some (.int .i64 x3) ∧ w'.cell? ⟨w.heap.size, 4, none⟩ = some (.int .i64 (m : Int)) ∧ w'.cell? ⟨w.heap.size, 5, none⟩ = some (.int .i64 x5)) ∧ Bw w1 w') ∧ w'.cell? ⟨w1.heap.size, m, none⟩ = some (.string ⟨(nameOf m).toArray⟩) ∧ Bw WN w') (fun _ h => h.1) (HSCWN.out _ (Bw.refl _)) (fun hHeld2 => ?_)
      clear hWN hHeld hw2
      refine wpAnyH_take (i := 21) (v := ?v59) (arr_at rfl) (by kernel_rfl) (by kernel_rfl) (by kernel_rfl) (fun _ _ _ h => h) (Or.inl ⟨by rfl, ?hy59⟩) (by assumption) ?_
      case hy59 => (intro w hSw; (try dsimp only at hSw); go_simp <;> with_reducible rfl)
      try simp only [Act.put, List.setIfInBounds_toArray, List.set_cons_zero, List.set_cons_succ]
      refine wpAnyH_take (i := 22) (v := ?v60) (arr_at rfl) (by kernel_rfl) (by kernel_rfl) (by kernel_rfl) (fun _ _ _ h => h) (Or.inl ⟨by rfl, ?hy60⟩) (by assumption) ?_
      case hy60 => (intro w hSw; (try dsimp only at hSw); go_simp <;> with_reducible rfl)
      try simp only [Act.put, List.setIfInBounds_toArray, List.set_cons_zero, List.set_cons_succ]
      refine still_take (i := 26) (v := .string ⟨(decS x5).toArray⟩) (arr_at rfl) (by kernel_rfl) (by kernel_rfl) (by kernel_rfl) (fun _ _ _ h => h) ⟨by rfl, 55, #[.int .i64 x5], ?hy61, fun w _ => H5.out w⟩ (by assumption) ?_
      case hy61 => (intro w; go_simp <;> with_reducible rfl)
      try simp only [Act.put, List.setIfInBounds_toArray, List.set_cons_zero, List.set_cons_succ]
      refine wpAnyH_ready (rs := [0]) (by kernel_rfl) (by simp) ?_
      refine AllReadyH.cons (arr_at rfl) (fun K hK => ?_) ?_
      · skip
        go_simp
        refine hK.out _ _ ?_ (fun hHeld => ?_)
        · refine HSCWN.out _ ?_
          (first | exact Bw.alloc (Bw.refl _) _ | exact Bw.alloc (Bw.drew _) _)
        clear hK K
        try simp only [Act.put, List.setIfInBounds_toArray, List.set_cons_zero, List.set_cons_succ]
        refine wpAnyH_named fun WK hWK => ?_
        have hbWK : Bw WN WK := by rw [hWK]; first | exact Bw.alloc (Bw.refl _) _ | exact Bw.alloc (Bw.drew _) _
        have cWK : WK.cell? ⟨WN.heap.size, 2, none⟩ = some (.string { data := #[99, 111, 110, 102, 105, 114, 109] }) := by
          rw [hWK]; go_simp
        have zWK : WN.heap.size < WK.heap.size := by rw [hWK]; simp
        have HSCWK : Hid (∀ w', Bw WK w' → (((w'.cell? ⟨w.heap.size, 0, none⟩ = some (.int .i64 2) ∧ w'.cell? ⟨w.heap.size, 1, none⟩ = some (.int .i64 x1) ∧ w'.cell? ⟨w.heap.size, 2, none⟩ = some (.int .i64 x2) ∧ w'.cell? ⟨w.heap.size, 3, none⟩ = some (.int .i64 x3) ∧ w'.cell? ⟨w.heap.size, 4, none⟩ = some (.int .i64 (m : Int)) ∧ w'.cell? ⟨w.heap.size, 5, none⟩ = some (.int .i64 x5)) ∧ Bw w1 w') ∧ w'.cell? ⟨w1.heap.size, m, none⟩ = some (.string ⟨(nameOf m).toArray⟩) ∧ Bw WN w') ∧ w'.cell? ⟨WN.heap.size, 2, none⟩ = some (.string { data := #[99, 111, 110, 102, 105, 114, 109] }) ∧ Bw WK w') := fun w' hb => ⟨HSCWN.out _ (Bw.tr hbWK hb), (hb.cell (p := ⟨WN.heap.size, _, none⟩) zWK).trans cWK, hb⟩
        refine wpAnyH_switch (S' := fun w' => (((w'.cell? ⟨w.heap.size, 0, none⟩ = some (.int .i64 2) ∧ w'.cell? ⟨w.heap.size, 1, none⟩ = some (.int .i64 x1) ∧ w'.cell? ⟨w.heap.size, 2, none⟩ = some (.int .i64 x2) ∧ w'.cell? ⟨w.heap.size, 3, none⟩ = some (.int .i64 x3) ∧ w'.cell? ⟨w.heap.size, 4, none⟩ = some (.int .i64 (m : Int)) ∧ w'.cell? ⟨w.heap.size, 5, none⟩ = some (.int .i64 x5)) ∧ Bw w1 w') ∧ w'.cell? ⟨w1.heap.size, m, none⟩ = some (.string ⟨(nameOf m).toArray⟩) ∧ Bw WN w') ∧ w'.cell? ⟨WN.heap.size, 2, none⟩ = some (.string { data := #[99, 111, 110, 102, 105, 114, 109] }) ∧ Bw WK w') (fun _ h => h.1) (HSCWK.out _ (Bw.refl _)) (fun hHeld2 => ?_)
        clear hWK hHeld
        refine wpAnyH_take (i := 3) (v := ?v62) (arr_at rfl) (by kernel_rfl) (by kernel_rfl) (by kernel_rfl) (fun _ _ _ h => h) (Or.inl ⟨by rfl, ?hy62⟩) (by assumption) ?_
        case hy62 => (intro w hSw; (try dsimp only at hSw); go_simp <;> with_reducible rfl)
        try simp only [Act.put, List.setIfInBounds_toArray, List.set_cons_zero, List.set_cons_succ]
        refine wpAnyH_take (i := 4) (v := ?v63) (arr_at rfl) (by kernel_rfl) (by kernel_rfl) (by kernel_rfl) (fun _ _ _ h => h) (Or.inl ⟨by rfl, ?hy63⟩) (by assumption) ?_
        case hy63 => (intro w hSw; (try dsimp only at hSw); go_simp <;> with_reducible rfl)
        try simp only [Act.put, List.setIfInBounds_toArray, List.set_cons_zero, List.set_cons_succ]
        refine wpAnyH_ready (rs := [27]) (by kernel_rfl) (by simp) ?_
        refine AllReadyH.cons (arr_at rfl) (fun K hK => ?_) ?_
        · skip
          go_simp
          refine hK.out _ _ ?_ (fun hHeld => ?_)
          · refine HSCWK.out _ ?_
            (first | exact Bw.alloc (Bw.refl _) _ | exact Bw.alloc (Bw.drew _) _)
          clear hK K
          try simp only [Act.put, List.setIfInBounds_toArray, List.set_cons_zero, List.set_cons_succ]
          refine wpAnyH_take (i := 28) (v := ?v64) (arr_at rfl) (by kernel_rfl) (by kernel_rfl) (by kernel_rfl) (fun _ _ _ h => h) (Or.inl ⟨by rfl, ?hy64⟩) (by assumption) ?_
          case hy64 => (intro w hSw; (try dsimp only at hSw); go_simp <;> with_reducible rfl)
          try simp only [Act.put, List.setIfInBounds_toArray, List.set_cons_zero, List.set_cons_succ]
          refine wpAnyH_done (by kernel_rfl) ?_ _
          refine NoPanic.normal ?_
          refine exit_namedL (Q := Exit.then _ _) fun WF hWF => ?_
          have hbF : Bw WK WF := by rw [hWF]; first | exact Bw.alloc (Bw.refl _) _ | exact Bw.alloc (Bw.drew _) _
          have hX : WF.heap[WK.heap.size]? = some (.cells #[.string { data := #[99, 111, 110, 102, 105, 114, 109] }, .string ⟨(decS x1).toArray⟩, .string ⟨(decS x2).toArray⟩, .string ⟨(decS x3).toArray⟩, .string ⟨(nameOf m).toArray⟩, .string ⟨(decS x5).toArray⟩] 9 (0, 0)) := by rw [hWF]; first | exact heap_alloc_new _ _ | exact heap_alloc_new _ _
          have hB1F : Bw w1 WF := Bw.tr hbWN (Bw.tr hbWK hbF)
          have k0 : WF.cell? ⟨w.heap.size, 0, none⟩ = some (.int .i64 2) := (HSC.out _ hB1F).1.1
          have kv : WF.cell? ⟨w.heap.size, 6, none⟩ = some (.int .i64 v) := (hB1F.cell (p := ⟨w.heap.size, 6, none⟩) y1).trans k6
          have hBF : Below w.heap.size w WF := HB.out.trans (hB1F.mono HB.out.size)
          obtain ⟨bx, hbx⟩ : ∃ bx, WK.heap.size = bx := ⟨_, rfl⟩
          have hwb : w.heap.size ≤ bx := by have := hBF.size; rw [← hbx]; exact Nat.le_trans HB.out.size (Nat.le_trans hbWN.size hbWK.size)
          rw [hbx] at hX ⊢
          have HX := Lib.hid hX
          have HBF := Lib.hid hBF
          have hxl : bx < WF.heap.size := (Array.getElem?_eq_some_iff.1 hX).1
          clear hWF hbx hX hBF hHeld2
          have hwords : lineWords (2, (x1, x2, x3, (m : Int), x5), v) = [[99, 111, 110, 102, 105, 114, 109], decS x1, decS x2, decS x3, nameOf m, decS x5] := rfl
          have HWD := Lib.hid hwords
          have hlen := HJ.out
          rw [hwords] at hlen
          clear hwords
          go_wp2_with fail
          have HOWN : Hid (WF.ownsRow w.heap.size 9 1 (.slice (some ⟨bx, 0, none⟩) 6 6) 6 [.string { data := #[99, 111, 110, 102, 105, 114, 109] }, .string ⟨(decS x1).toArray⟩, .string ⟨(decS x2).toArray⟩, .string ⟨(decS x3).toArray⟩, .string ⟨(nameOf m).toArray⟩, .string ⟨(decS x5).toArray⟩]) := ownRow_of_block HX.out hwb (by simp [maxLen])
          refine (join_of_own (ws := [[99, 111, 110, 102, 105, 114, 109], decS x1, decS x2, decS x3, nameOf m, decS x5]) HOWN.out rfl (by omega) (by omega) hlen).mono ?_
          rintro e w7 ⟨rfl, hb7⟩
          have HB7 := Lib.hid (below_step HBF.out hb7)
          clear hb7
          obtain ⟨J, hJ⟩ : ∃ J, Lib.join [[99, 111, 110, 102, 105, 114, 109], decS x1, decS x2, decS x3, nameOf m, decS x5] [32] = J := ⟨_, rfl⟩
          rw [hJ] at hlen ⊢
          have hadd : ∀ w, (Op.stringOp .add ⟨J.toArray⟩ ⟨#[10]⟩).run Tryz.prog w = .ok (.string ⟨(J ++ [10]).toArray⟩) w := fun w => run_string_add_lists w J [10] (by omega) (by simp)
          have HLL : Hid (LL = J ++ [10]) := HL.out.trans (by rw [HWD.out, hJ])
          clear hJ
          go_wp2
          go_ret
          exact ⟨by rw [HLL.out]; rfl, HB7.out⟩
        exact AllReadyH.nil
      exact AllReadyH.nil
    exact AllReadyH.nil
end Go.Proofs.YtpcefaccoifejaaGreatDoor
