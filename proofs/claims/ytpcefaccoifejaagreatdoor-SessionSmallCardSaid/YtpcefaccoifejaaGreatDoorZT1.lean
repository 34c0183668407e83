/-
  The contract of custosref13.decimal: a number as a text. Conditions: the number is an int.
-/
import Derived.Test.YtpcefaccoifejaaGreatDoorTXP
import Derived.Laws.BytesArg
namespace Go.Proofs.YtpcefaccoifejaaGreatDoor
open Go.RowKit
set_option linter.unusedSimpArgs false
set_option linter.unusedVariables false
set_option maxRecDepth 100000

/-- a new slice of one byte as a text -/
theorem zconv1 (d : Int) (w : World) : (convert 89 9 (.slice (some ⟨w.heap.size, 0, none⟩) 1 1)).run Tryz.prog (w.alloc (.cells #[.int .u8 d] 5)) = .ok (.string ⟨#[UInt8.ofNat d.toNat]⟩) (w.alloc (.cells #[.int .u8 d] 5)) :=
  run_convert_bytes_arg (P := Tryz.prog) _ 89 5 Tryz.underlying89 Tryz.underlying5 w.heap.size 0 1 1 [d] rfl (fun i hi => by
    obtain rfl : i = 0 := by omega
    simp) 9 Tryz.underlying9
/-- two texts laid together -/
theorem zadd (a b : List UInt8) (ha : a.length ≤ 8000000) (hb : b.length ≤ 8000000) (w : World) : (Op.stringOp .add ⟨a.toArray⟩ ⟨b.toArray⟩).run Tryz.prog w = .ok (.string ⟨(a ++ b).toArray⟩) w :=
  run_string_add_lists w a b (by omega) (by omega)
/-- the digits of a number, none for 0 -/
def digW (m : Nat) : List UInt8 := if m = 0 then [] else Lib.decDigits m
theorem digW_step {m : Nat} (h : m ≠ 0) : digW m = digW (m / 10) ++ [UInt8.ofNat (48 + m % 10)] := by
  unfold digW
  rw [if_neg h]
  by_cases h10 : m < 10
  · rw [if_pos (by omega), Lib.decDigits, dif_pos h10, show m % 10 = m by omega]
    rfl
  · rw [if_neg (by omega), Lib.decDigits, dif_neg h10]
theorem tmod_sign (k : Int) : Int.tmod k 10 = ((k.natAbs % 10 : Nat) : Int) ∨ Int.tmod k 10 = -((k.natAbs % 10 : Nat) : Int) := by
  rcases Int.le_total 0 k with h | h
  · left; rw [Int.tmod_eq_emod_of_nonneg h]; omega
  · right
    have e : Int.tmod k 10 = -(Int.tmod (-k) 10) := by rw [Int.neg_tmod, Int.neg_neg]
    rw [e, Int.tmod_eq_emod_of_nonneg (by omega)]; omega
theorem tdiv_abs (k : Int) : (Int.tdiv k 10).natAbs = k.natAbs / 10 := by rw [Int.natAbs_tdiv]; rfl
set_option maxHeartbeats 4000000 in
theorem decimal_c (n : Int) (w : World) (hn : i64B n) : Calls Tryz.prog 57 #[.int .i64 n] w fun e w' => e = .returned (.string ⟨(itS n).toArray⟩) ∧ Below w.heap.size w w' := by
  by_cases h0 : n = 0
  · subst h0
    have e : itS 0 = [48] := by unfold itS Lib.itoa Lib.decDigits; rfl
    rw [e]
    go_enter Tryz.func57, Tryz.ntmps57
    go_wp2
    go_ret
    exact ⟨rfl, by go_grown⟩
  · obtain ⟨hn1, hn2⟩ := hn
    have hsh := itS_len (n := n) ⟨hn1, hn2⟩
    obtain ⟨D, hD⟩ : ∃ D, Lib.decDigits n.natAbs = D := ⟨_, rfl⟩
    have HI : Hid (itS n = if n < 0 then 45 :: D else D) := Lib.hid (by
      unfold itS Lib.itoa
      rw [← hD]
      split
      · rfl
      · rw [show n.toNat = n.natAbs by omega])
    have hdl : D.length ≤ 21 := by
      rw [HI.out] at hsh
      split at hsh
      · simp only [List.length_cons] at hsh; omega
      · exact hsh
    have hst : digW n.natAbs ++ [] = D := by rw [← hD, List.append_nil]; unfold digW; rw [if_neg (by omega)]
    generalize itS n = IT at *
    clear hD hsh
    have HST := Lib.hid hst
    clear hst
    go_enter Tryz.func57, Tryz.ntmps57
    go_wp2_with fail
    go_loopw [3, 4] (fun sv kv wr => ∃ (k : Int) (X : List UInt8), kv = .int .i64 k ∧ -9223372036854775808 ≤ k ∧ k ≤ 9223372036854775807 ∧ sv = .string ⟨X.toArray⟩ ∧ digW k.natAbs ++ X = D ∧ Below w.heap.size w wr)
      (fun _ kv _ => (intOf kv).natAbs)
    case atStart => exact ⟨n, [], rfl, hn1, hn2, rfl, HST.out, by go_grown⟩
    case round =>
      obtain ⟨k, X, rfl, hk1, hk2, rfl, hX, hB⟩ := hrel
      have hXl : X.length ≤ 21 := by rw [← hX, List.length_append] at hdl; omega
      have HB := Lib.hid hB
      by_cases hk : k = 0
      · subst hk
        have hXD : X = D := by rw [← hX]; rfl
        subst hXD
        clear hX hB
        by_cases hneg : n < 0
        · have hI := HI.out
          rw [if_pos hneg] at hI
          have hadd := zadd [45] X (by simp) (by omega)
          go_wp2
          go_ret
          exact ⟨by first | rfl | (rw [hI]; rfl), HB.out⟩
        · have hI := HI.out
          rw [if_neg hneg] at hI
          go_wp2
          go_ret
          exact ⟨by first | rfl | rw [hI], HB.out⟩
      · have hnx : digW (Int.tdiv k 10).natAbs ++ (UInt8.ofNat (48 + k.natAbs % 10) :: X) = D := by
          rw [← hX, digW_step (m := k.natAbs) (by omega), List.append_assoc, tdiv_abs]
          rfl
        have HNX := Lib.hid hnx
        have hc : k.natAbs % 10 < 10 := Nat.mod_lt _ (by decide)
        have hta := tdiv_abs k
        have hlt : (Int.tdiv k 10).natAbs < k.natAbs := by omega
        have hq1 : -9223372036854775808 ≤ Int.tdiv k 10 := by omega
        have hq2 : Int.tdiv k 10 ≤ 9223372036854775807 := by omega
        have hcv := fun d => zconv1 d wr
        have hsg := tmod_sign k
        generalize k.natAbs % 10 = c at *
        have hadd := zadd [UInt8.ofNat (48 + c)] X (by simp) (by omega)
        have hcI : (c : Int) ≤ 9 := by omega
        clear hX hB hta
        have hcat : ((⟨#[48 + UInt8.ofNat c]⟩ : ByteArray) ++ ⟨X.toArray⟩) = ⟨((UInt8.ofNat (48 + c)) :: X).toArray⟩ := by
          apply ByteArray.ext
          simp
        rcases hsg with hsg | hsg
        · have hd : ¬ (c : Int) < 0 := by omega
          go_wp2_with fail
          exact ⟨⟨Int.tdiv k 10, _, rfl, hq1, hq2, congrArg Value.string hcat, HNX.out, HB.out.alloc HB.out.size _⟩, hlt⟩
        · rcases Nat.eq_zero_or_pos c with rfl | hc0
          · go_wp2_with fail
            exact ⟨⟨Int.tdiv k 10, _, rfl, hq1, hq2, congrArg Value.string hcat, HNX.out, HB.out.alloc HB.out.size _⟩, hlt⟩
          · have hd : -(c : Int) < 0 := by omega
            go_wp2_with fail
            exact ⟨⟨Int.tdiv k 10, _, rfl, hq1, hq2, congrArg Value.string hcat, HNX.out, HB.out.alloc HB.out.size _⟩, hlt⟩
end Go.Proofs.YtpcefaccoifejaaGreatDoor
