/-
  The contract of custosref13.Format. Conditions: what is read lies in memory as SW says; the acts' numbers are ints; at most 100000 acts.
-/
import Derived.Test.YtpcefaccoifejaaGreatDoorZT2
import Derived.Test.YtpcefaccoifejaaGreatDoorFormG
namespace Go.Proofs.YtpcefaccoifejaaGreatDoor
open Go.RowKit
set_option linter.unusedSimpArgs false
set_option linter.unusedVariables false
set_option maxRecDepth 100000

/-- can an act be written -/
def fitB (a : Ac) : Bool := (decide (a.1 = 1) || decide (a.1 = 2)) && decide (1 ≤ a.2.1.2.2.2.1) && decide (a.2.1.2.2.2.1 ≤ 16)
theorem fitB_iff (a : Ac) : fitB a = true ↔ Fit a := by
  unfold fitB
  simp only [Bool.and_eq_true, Bool.or_eq_true, decide_eq_true_eq]
  exact ⟨fun ⟨⟨h1, h2⟩, h3⟩ => ⟨h1, h2, h3⟩, fun h => ⟨⟨h.kind, h.what.1⟩, h.what.2⟩⟩
/-- the text of acts, or the error -/
def formO (l : List Ac) : List UInt8 × Int := if 4096 < l.length then ([], 4) else if l.all fitB = true then (formatG l, 0) else ([], 1)
theorem formO_bad {l : List Ac} (hl : ¬ 4096 < l.length) {a : Ac} (ha : a ∈ l) (h : fitB a = false) : formO l = ([], 1) := by
  unfold formO
  rw [if_neg hl, if_neg (fun hh => by
    have := List.all_eq_true.1 hh a ha
    rw [h] at this
    cases this)]
theorem formO_good {l : List Ac} (hl : ¬ 4096 < l.length) (h : ∀ a ∈ l, fitB a = true) : formO l = (formatG l, 0) := by
  unfold formO
  rw [if_neg hl, if_pos (List.all_eq_true.2 h)]
set_option maxHeartbeats 8000000 in
theorem rFormat_c (v : Value) (acts : List Ac) (lo hi : Nat) (w : World) (h : ActsAt w lo hi v acts) (hh : hi ≤ w.heap.size) (hwf : ∀ a ∈ acts, wfA a) (hlen : acts.length ≤ 100000) :
    Calls Tryz.prog 8 #[v] w fun e w' => e = .returned (.tuple #[.string ⟨(formO acts).1.toArray⟩, .int .i64 (formO acts).2]) ∧ Below w.heap.size w w' := by
  obtain ⟨fa, fc, rfl, -, hr⟩ := h
  have HR := Lib.hid hr
  by_cases hbig : 4096 < acts.length
  · have hO : formO acts = ([], 4) := if_pos hbig
    rw [hO]
    have hbI : (4096 : Int) < (acts.length : Int) := by omega
    go_enter Tryz.func8, Tryz.ntmps8
    go_wp2
    go_ret2
    exact ⟨rfl, by go_grown⟩
  · have HBD := Lib.hid fun a (ha : a ∈ acts) h => formO_bad hbig ha (a := a) h
    have HGD := Lib.hid fun h => formO_good hbig h
    generalize formO acts = FO at *
    obtain ⟨n, hn⟩ : ∃ n, acts.length = n := ⟨_, rfl⟩
    have HN := Lib.hid hn
    rw [hn] at hbig hlen ⊢
    have hbI : ¬ (4096 : Int) < (n : Int) := by omega
    clear hr hn
    go_enter Tryz.func8, Tryz.ntmps8
    go_wp2_with fail
    go_loopw [4, 5] (fun sv i wr => ∃ (k : Nat), k ≤ n ∧ i = .int .i64 (k : Int) ∧ sv = .string ⟨(formatG (acts.take k)).toArray⟩ ∧ (∀ a ∈ acts.take k, fitB a = true) ∧ Below w.heap.size w wr)
      (fun _ i wr => n - (intOf i).toNat)
    case atStart => exact ⟨0, Nat.zero_le _, rfl, rfl, (fun a ha => by simp at ha), by go_grown⟩
    case round =>
      obtain ⟨k, hkn, rfl, rfl, hall, hB⟩ := hrel
      have HALL := Lib.hid hall
      have HB := Lib.hid hB
      by_cases hk : k < n
      · have hkf : k < acts.length := by rw [HN.out]; exact hk
        obtain ⟨bf, off, rfl, hb1, hb2, hc⟩ := HR.out (by omega)
        have hcw : ∀ j u, (acV (acAt acts k))[j]? = some u → wr.cell? ⟨bf, off + k * 7 + j, none⟩ = some u := fun j u hu => (hB.cell (p := ⟨bf, off + k * 7 + j, none⟩) (show bf < w.heap.size by omega)).trans (hc k hkf j u hu)
        have hwa := hwf _ (acAt_mem hkf)
        have hst : formatG (acts.take (k + 1)) = formatG (acts.take k) ++ lineG (acAt acts k) := by rw [take_snoc hkf, ← acAt_get hkf, formatG_snoc]
        have hfl := formatG_len (acts.take k) (fun a ha => hwf a (List.mem_of_mem_take ha))
        have hll := lineG_len hwa
        rw [List.length_take] at hfl
        have hfl2 : (formatG (acts.take k)).length ≤ 4100096 := Nat.le_trans hfl (Nat.mul_le_mul_right 1001 (show min k acts.length ≤ 4096 by omega))
        have hnx : fitB (acAt acts k) = true → ∀ a ∈ acts.take (k + 1), fitB a = true := fun h a ha => by
          rw [take_snoc hkf, ← acAt_get hkf] at ha
          rcases List.mem_append.1 ha with ha | ha
          · exact hall a ha
          · rw [List.mem_singleton.1 ha]; exact h
        have hbd : fitB (acAt acts k) = false → FO = ([], 1) := HBD.out _ (acAt_mem hkf)
        have HST := Lib.hid hst
        have HNX := Lib.hid hnx
        have HBX := Lib.hid hbd
        generalize formatG (acts.take k) = F at *
        generalize acAt acts k = A at *
        obtain ⟨kd, ⟨x1, x2, x3, x4, x5⟩, av⟩ := A
        have HWA := Lib.hid hwa
        have c0 := hcw 0 _ rfl
        have c1 := hcw 1 _ rfl
        have c2 := hcw 2 _ rfl
        have c3 := hcw 3 _ rfl
        have c4 := hcw 4 _ rfl
        have c5 := hcw 5 _ rfl
        have c6 := hcw 6 _ rfl
        simp only [Nat.add_zero] at c0
        have hk0 : (0 : Int) ≤ k := by omega
        have hk1 : (k : Int) < n := by omega
        have hk2 : (k : Int) ≤ 4096 := by omega
        have hsz := hB.size
        clear hcw hc hB hst hwa hnx hbd hall hfl
        by_cases hkd : kd = 1 ∨ kd = 2
        · rcases hkd with rfl | rfl
          · by_cases hlo : 1 ≤ x4
            · by_cases hhi : x4 ≤ 16
              · have hfit : fitB (1, (x1, x2, x3, x4, x5), av) = true := by simp [fitB, hlo, hhi]
                have hlo2 : ¬ x4 < 1 := by omega
                have hhi2 : ¬ (16 : Int) < x4 := by omega
                have HF := Lib.hid ((fitB_iff _).1 hfit)
                have hR := lineG_R (1, (x1, x2, x3, x4, x5), av)
                have HRL := Lib.hid fun W => rline_c 1 x1 x2 x3 x4 x5 av W HF.out HWA.out
                generalize lineR (1, (x1, x2, x3, x4, x5), av) = LR at *
                have hlr : LR.length ≤ 1001 := by rw [hR, List.length_append] at hll; omega
                rw [hR] at HST
                have f1 := zadd F LR (by omega) (by omega)
                have f2 := fun w => zadd (F ++ LR) [10] (by rw [List.length_append]; omega) (by simp) w
                have HN2 := Lib.hid (HNX.out hfit)
                clear hR hll hfit HNX HBX
                go_wp2_with fail
                refine (HRL.out _).mono ?_
                rintro rr w4 ⟨rfl, hb4⟩
                have HB4 : Hid (Below w.heap.size w w4) := below_step HB.out hb4
                clear hb4
                go_wp2
                go_roundw
                case rel => exact ⟨k + 1, by omega, by go_num, by rw [HST.out], HN2.out, HB4.out⟩
                case measure => simp [intOf]; omega
              · have hO := HBX.out (by simp [fitB, hhi])
                have hhi2 : (16 : Int) < x4 := by omega
                have hlo2 : ¬ x4 < 1 := by omega
                go_wp2_with fail
                subst hO
                go_ret2
                exact ⟨rfl, HB.out⟩
            · have hO := HBX.out (by simp [fitB, hlo])
              have hlo2 : x4 < 1 := by omega
              go_wp2_with fail
              subst hO
              go_ret2
              exact ⟨rfl, HB.out⟩
          · by_cases hlo : 1 ≤ x4
            · by_cases hhi : x4 ≤ 16
              · have hfit : fitB (2, (x1, x2, x3, x4, x5), av) = true := by simp [fitB, hlo, hhi]
                have hlo2 : ¬ x4 < 1 := by omega
                have hhi2 : ¬ (16 : Int) < x4 := by omega
                have HF := Lib.hid ((fitB_iff _).1 hfit)
                have hR := lineG_R (2, (x1, x2, x3, x4, x5), av)
                have HRL := Lib.hid fun W => rline_c 2 x1 x2 x3 x4 x5 av W HF.out HWA.out
                generalize lineR (2, (x1, x2, x3, x4, x5), av) = LR at *
                have hlr : LR.length ≤ 1001 := by rw [hR, List.length_append] at hll; omega
                rw [hR] at HST
                have f1 := zadd F LR (by omega) (by omega)
                have f2 := fun w => zadd (F ++ LR) [10] (by rw [List.length_append]; omega) (by simp) w
                have HN2 := Lib.hid (HNX.out hfit)
                clear hR hll hfit HNX HBX
                go_wp2_with fail
                refine (HRL.out _).mono ?_
                rintro rr w4 ⟨rfl, hb4⟩
                have HB4 : Hid (Below w.heap.size w w4) := below_step HB.out hb4
                clear hb4
                go_wp2
                go_roundw
                case rel => exact ⟨k + 1, by omega, by go_num, by rw [HST.out], HN2.out, HB4.out⟩
                case measure => simp [intOf]; omega
              · have hO := HBX.out (by simp [fitB, hhi])
                have hhi2 : (16 : Int) < x4 := by omega
                have hlo2 : ¬ x4 < 1 := by omega
                go_wp2_with fail
                subst hO
                go_ret2
                exact ⟨rfl, HB.out⟩
            · have hO := HBX.out (by simp [fitB, hlo])
              have hlo2 : x4 < 1 := by omega
              go_wp2_with fail
              subst hO
              go_ret2
              exact ⟨rfl, HB.out⟩
        · have hk1' : ¬ kd = 1 := fun e => hkd (.inl e)
          have hk2' : ¬ kd = 2 := fun e => hkd (.inr e)
          have hO := HBX.out (by simp [fitB, hk1', hk2'])
          go_wp2_with fail
          subst hO
          go_ret2
          exact ⟨rfl, HB.out⟩
      · obtain rfl : k = n := by omega
        have hta : acts.take k = acts := by rw [← HN.out, List.take_length]
        rw [hta] at HALL ⊢
        have hO := HGD.out HALL.out
        clear hB hta
        go_wp2_with fail
        subst hO
        go_ret2
        exact ⟨rfl, HB.out⟩
end Go.Proofs.YtpcefaccoifejaaGreatDoor
