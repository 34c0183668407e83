/-
  Contracts of the two closures over options, and of slices.IndexFunc and slices.ContainsFunc with them. Conditions: what is read lies in memory as SW says.
-/
import Derived.Test.YtpcefaccoifejaaGreatDoorK6
namespace Go.Proofs.YtpcefaccoifejaaGreatDoor
open Go.RowKit Go.Maps
set_option linter.unusedSimpArgs false
set_option linter.unusedVariables false
set_option maxRecDepth 100000

theorem any_no {p : Opt → Bool} {os : List Opt} (h : ∀ j, j < os.length → p (optAt os j) = false) : os.any p = false := by
  rw [List.any_eq_false]
  intro o ho
  obtain ⟨i, hi, rfl⟩ := List.getElem_of_mem ho
  have := h i hi
  rw [optAt_get hi] at this
  simp [this]
theorem any_yes {p : Opt → Bool} {os : List Opt} {j : Nat} (hj : j < os.length) (h : p (optAt os j) = true) : os.any p = true := List.any_eq_true.2 ⟨_, optAt_mem hj, h⟩
def badB (o : Opt) : Bool := decide (o.2 < 0) || decide (10000 < o.2)
theorem New1_c (x y : Int) (w : World) : Calls Tryz.prog 38 #[.agg #[.int .i64 x, .int .i64 y]] w fun e w' => e = .returned (.bool (badB (x, y))) ∧ Below w.heap.size w w' := by
  unfold badB
  simp only
  by_cases h1 : y < 0
  · rw [decide_eq_true h1, Bool.true_or]
    go_enter Tryz.func38, Tryz.ntmps38
    go_wp2
    go_ret
    exact ⟨rfl, by go_grown⟩
  · rw [decide_eq_false h1, Bool.false_or]
    have h1' : 0 ≤ y := by omega
    by_cases h2 : 10000 < y
    · rw [decide_eq_true h2]
      go_enter Tryz.func38, Tryz.ntmps38
      go_wp2
      go_ret
      exact ⟨rfl, by go_grown⟩
    · rw [decide_eq_false h2]
      have h2' : y ≤ 10000 := by omega
      go_enter Tryz.func38, Tryz.ntmps38
      go_wp2
      go_ret
      exact ⟨rfl, by go_grown⟩
theorem mayC1_c (x y v : Int) (B : Nat) (w : World) (hB : w.cell? ⟨B, 0, none⟩ = some (.int .i64 v)) (hb : B < w.heap.size) : Calls Tryz.prog 68 #[.agg #[.int .i64 x, .int .i64 y], .pointer (some ⟨B, 0, none⟩)] w fun e w' => e = .returned (.bool (decide (x = v))) ∧ Below w.heap.size w w' := by
  by_cases h1 : x = v
  · rw [decide_eq_true h1]
    go_enter Tryz.func68, Tryz.ntmps68
    go_wp2
    go_ret
    exact ⟨by simp [h1], by go_grown⟩
  · rw [decide_eq_false h1]
    go_enter Tryz.func68, Tryz.ntmps68
    go_wp2
    go_ret
    exact ⟨by simp [h1], by go_grown⟩

set_option maxHeartbeats 1000000 in
theorem IndexNew_c (v : Value) (os : List Opt) (lo hi : Nat) (w : World) (h : OptsAt w lo hi v os) (hh : hi ≤ w.heap.size) (hl : os.length ≤ 1000000) :
    Calls Tryz.prog 66 #[v, .func (.func 38) #[] #[]] w fun e w' => (∃ r : Int, e = .returned (.int .i64 r) ∧ ((0 ≤ r ∧ os.any badB = true) ∨ (r = -1 ∧ os.any badB = false))) ∧ Below w.heap.size w w' := by
  obtain ⟨a, cap, rfl, -, hr⟩ := h
  have HR := Lib.hid hr
  have HP : Hid (∀ (x y : Int) (W : World), Below w.heap.size w W → Calls Tryz.prog 38 (#[.agg #[.int .i64 x, .int .i64 y]] ++ #[]) W fun e w' => e = .returned (.bool (badB (x, y))) ∧ Below W.heap.size W w') := fun x y W hb => New1_c x y W
  obtain ⟨p, hp⟩ : ∃ p : Opt → Bool, badB = p := ⟨_, rfl⟩
  rw [hp] at HP
  simp only [hp]
  clear hp
  obtain ⟨n, hn⟩ : ∃ n, os.length = n := ⟨_, rfl⟩
  have HN := Lib.hid hn
  rw [hn] at hl ⊢
  clear hr hn 
  go_enter Tryz.func66, Tryz.ntmps66
  go_wp2
  go_loopw [8] (fun i wr => ∃ (k : Nat), k ≤ n ∧ i = .int .i64 (k : Int) ∧ (∀ j, j < k → p (optAt os j) = false) ∧ Below w.heap.size w wr) (fun i wr => n - (intOf i).toNat)
  case atStart => exact ⟨0, Nat.zero_le _, rfl, fun j hj => absurd hj (Nat.not_lt_zero _), Below.refl _ _⟩
  case round =>
    obtain ⟨k, hkn, rfl, heq, hB⟩ := hrel
    have HE := Lib.hid heq
    clear heq
    by_cases hk : k < n
    · have hkx : k < os.length := by rw [HN.out]; exact hk
      obtain ⟨b, off, rfl, h1, h2, hc⟩ := HR.out (by omega)
      have c0 : wr.cell? ⟨b, off + k * 2, none⟩ = some (.int .i64 (optAt os k).1) := (hB.cell (p := ⟨b, _, none⟩) (show b < _ by omega)).trans (hc k hkx 0 _ rfl)
      have c1 : wr.cell? ⟨b, off + k * 2 + 1, none⟩ = some (.int .i64 (optAt os k).2) := (hB.cell (p := ⟨b, _, none⟩) (show b < _ by omega)).trans (hc k hkx 1 _ rfl)
      have HX : Hid (p (optAt os k) = p ((optAt os k).1, (optAt os k).2)) := rfl
      have HC := Lib.hid (HP.out (optAt os k).1 (optAt os k).2 wr hB)
      generalize (optAt os k).1 = x at *
      generalize (optAt os k).2 = y at *
      have hk0 : (0 : Int) ≤ k := by omega
      have hk1 : (k : Int) < n := by omega
      have HB := Lib.hid hB
      clear hc hB
      generalize hpx : p (x, y) = r at *
      go_wp2_with fail
      refine HC.out.mono ?_
      rintro e w3 ⟨rfl, hb3⟩
      have HB3 := Lib.hid (below_step HB.out hb3)
      clear hb3 c0 c1
      cases r
      · go_wp2
        go_roundw
        case rel => exact ⟨k + 1, by omega, by go_num, fun j hj => by
          rcases Nat.lt_succ_iff_lt_or_eq.1 hj with h | rfl
          · exact HE.out j h
          · exact HX.out, HB3.out⟩
        case measure => simp [intOf]; omega
      · go_wp2
        go_ret
        exact ⟨⟨(k : Int), rfl, .inl ⟨hk0, any_yes hkx HX.out⟩⟩, HB3.out⟩
    · have hk' : k = n := by omega
      subst hk'
      go_wp2
      go_ret
      exact ⟨⟨-1, rfl, .inr ⟨rfl, any_no (fun j hj => HE.out j (by rw [← HN.out]; exact hj))⟩⟩, hB⟩
theorem ContainsNew_c (v : Value) (os : List Opt) (lo hi : Nat) (w : World) (h : OptsAt w lo hi v os) (hh : hi ≤ w.heap.size) (hl : os.length ≤ 1000000) :
    Calls Tryz.prog 37 #[v, .func (.func 38) #[] #[]] w fun e w' => e = .returned (.bool (os.any badB)) ∧ Below w.heap.size w w' := by
  have HC := Lib.hid (IndexNew_c v os lo hi w h hh hl)
  obtain ⟨a, cap, rfl, -, -⟩ := h
  generalize os.any badB = r at *
  generalize os.length = n at *
  go_enter Tryz.func37, Tryz.ntmps37
  go_wp2_with fail
  refine HC.out.mono ?_
  rintro e w3 ⟨⟨i, rfl, hi⟩, hb3⟩
  rcases hi with ⟨h0, rfl⟩ | ⟨rfl, rfl⟩
  · go_wp2
    go_ret
    exact ⟨rfl, hb3⟩
  · go_wp2
    go_ret
    exact ⟨rfl, hb3⟩

set_option maxHeartbeats 1000000 in
theorem IndexMay_c (val : Int) (B : Nat) (v : Value) (os : List Opt) (lo hi : Nat) (w : World) (h : OptsAt w lo hi v os) (hh : hi ≤ w.heap.size) (hl : os.length ≤ 1000000) (hB : w.cell? ⟨B, 0, none⟩ = some (.int .i64 val)) (hBs : B < w.heap.size) :
    Calls Tryz.prog 66 #[v, .func (.func 68) #[] #[.pointer (some ⟨B, 0, none⟩)]] w fun e w' => (∃ r : Int, e = .returned (.int .i64 r) ∧ ((0 ≤ r ∧ os.any (fun o : Opt => decide (o.1 = val)) = true) ∨ (r = -1 ∧ os.any (fun o : Opt => decide (o.1 = val)) = false))) ∧ Below w.heap.size w w' := by
  obtain ⟨a, cap, rfl, -, hr⟩ := h
  have HR := Lib.hid hr
  have HP : Hid (∀ (x y : Int) (W : World), Below w.heap.size w W → Calls Tryz.prog 68 (#[.agg #[.int .i64 x, .int .i64 y]] ++ #[.pointer (some ⟨B, 0, none⟩)]) W fun e w' => e = .returned (.bool ((fun o : Opt => decide (o.1 = val)) (x, y))) ∧ Below W.heap.size W w') := fun x y W hb => mayC1_c x y val B W ((hb.cell (p := ⟨B, 0, none⟩) hBs).trans hB) (Nat.lt_of_lt_of_le hBs hb.size)
  obtain ⟨p, hp⟩ : ∃ p : Opt → Bool, (fun o : Opt => decide (o.1 = val)) = p := ⟨_, rfl⟩
  rw [hp] at HP
  simp only [hp]
  clear hp
  obtain ⟨n, hn⟩ : ∃ n, os.length = n := ⟨_, rfl⟩
  have HN := Lib.hid hn
  rw [hn] at hl ⊢
  clear hr hn hB
  go_enter Tryz.func66, Tryz.ntmps66
  go_wp2
  go_loopw [8] (fun i wr => ∃ (k : Nat), k ≤ n ∧ i = .int .i64 (k : Int) ∧ (∀ j, j < k → p (optAt os j) = false) ∧ Below w.heap.size w wr) (fun i wr => n - (intOf i).toNat)
  case atStart => exact ⟨0, Nat.zero_le _, rfl, fun j hj => absurd hj (Nat.not_lt_zero _), Below.refl _ _⟩
  case round =>
    obtain ⟨k, hkn, rfl, heq, hB⟩ := hrel
    have HE := Lib.hid heq
    clear heq
    by_cases hk : k < n
    · have hkx : k < os.length := by rw [HN.out]; exact hk
      obtain ⟨b, off, rfl, h1, h2, hc⟩ := HR.out (by omega)
      have c0 : wr.cell? ⟨b, off + k * 2, none⟩ = some (.int .i64 (optAt os k).1) := (hB.cell (p := ⟨b, _, none⟩) (show b < _ by omega)).trans (hc k hkx 0 _ rfl)
      have c1 : wr.cell? ⟨b, off + k * 2 + 1, none⟩ = some (.int .i64 (optAt os k).2) := (hB.cell (p := ⟨b, _, none⟩) (show b < _ by omega)).trans (hc k hkx 1 _ rfl)
      have HX : Hid (p (optAt os k) = p ((optAt os k).1, (optAt os k).2)) := rfl
      have HC := Lib.hid (HP.out (optAt os k).1 (optAt os k).2 wr hB)
      generalize (optAt os k).1 = x at *
      generalize (optAt os k).2 = y at *
      have hk0 : (0 : Int) ≤ k := by omega
      have hk1 : (k : Int) < n := by omega
      have HB := Lib.hid hB
      clear hc hB
      generalize hpx : p (x, y) = r at *
      go_wp2_with fail
      refine HC.out.mono ?_
      rintro e w3 ⟨rfl, hb3⟩
      have HB3 := Lib.hid (below_step HB.out hb3)
      clear hb3 c0 c1
      cases r
      · go_wp2
        go_roundw
        case rel => exact ⟨k + 1, by omega, by go_num, fun j hj => by
          rcases Nat.lt_succ_iff_lt_or_eq.1 hj with h | rfl
          · exact HE.out j h
          · exact HX.out, HB3.out⟩
        case measure => simp [intOf]; omega
      · go_wp2
        go_ret
        exact ⟨⟨(k : Int), rfl, .inl ⟨hk0, any_yes hkx HX.out⟩⟩, HB3.out⟩
    · have hk' : k = n := by omega
      subst hk'
      go_wp2
      go_ret
      exact ⟨⟨-1, rfl, .inr ⟨rfl, any_no (fun j hj => HE.out j (by rw [← HN.out]; exact hj))⟩⟩, hB⟩
theorem ContainsMay_c (val : Int) (B : Nat) (v : Value) (os : List Opt) (lo hi : Nat) (w : World) (h : OptsAt w lo hi v os) (hh : hi ≤ w.heap.size) (hl : os.length ≤ 1000000) (hB : w.cell? ⟨B, 0, none⟩ = some (.int .i64 val)) (hBs : B < w.heap.size) :
    Calls Tryz.prog 37 #[v, .func (.func 68) #[] #[.pointer (some ⟨B, 0, none⟩)]] w fun e w' => e = .returned (.bool (os.any (fun o : Opt => decide (o.1 = val)))) ∧ Below w.heap.size w w' := by
  have HC := Lib.hid (IndexMay_c val B v os lo hi w h hh hl hB hBs)
  obtain ⟨a, cap, rfl, -, -⟩ := h
  generalize os.any (fun o : Opt => decide (o.1 = val)) = r at *
  generalize os.length = n at *
  go_enter Tryz.func37, Tryz.ntmps37
  go_wp2_with fail
  refine HC.out.mono ?_
  rintro e w3 ⟨⟨i, rfl, hi⟩, hb3⟩
  rcases hi with ⟨h0, rfl⟩ | ⟨rfl, rfl⟩
  · go_wp2
    go_ret
    exact ⟨rfl, hb3⟩
  · go_wp2
    go_ret
    exact ⟨rfl, hb3⟩
end Go.Proofs.YtpcefaccoifejaaGreatDoor
