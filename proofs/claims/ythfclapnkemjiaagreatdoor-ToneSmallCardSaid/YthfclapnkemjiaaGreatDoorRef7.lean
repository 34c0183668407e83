/-
  Contracts of Number and Read of the reference. Condition: the text is no longer than any text can be.
-/
import Derived.Test.YthfclapnkemjiaaGreatDoorRef6
import Derived.Test.YthfclapnkemjiaaGreatDoorParse3
import Derived.Lib.Strings
namespace Go.Proofs.YthfclapnkemjiaaGreatDoor
open Go.RowKit
set_option linter.unusedSimpArgs false
set_option linter.unusedVariables false

def isDig (b : UInt8) : Bool := decide (48 ≤ b.toNat ∧ b.toNat ≤ 57)
def numV : List UInt8 → Int := List.foldl (fun n b => 10 * n + ((b.toNat : Int) - 48)) 0
/-- what Number returns -/
def numL (l : List UInt8) : Int := if l.length = 0 ∨ 9 < l.length ∨ (1 < l.length ∧ l.head? = some 48) then -1 else if l.all isDig = true then numV l else -1
theorem numV_snoc (l : List UInt8) (b : UInt8) : numV (l ++ [b]) = 10 * numV l + ((b.toNat : Int) - 48) := by
  unfold numV; rw [List.foldl_append]; rfl
theorem take_next {l : List UInt8} {k : Nat} {b : UInt8} (h : l[k]? = some b) : l.take (k + 1) = l.take k ++ [b] := by
  obtain ⟨hk, rfl⟩ := List.getElem?_eq_some_iff.1 h
  rw [List.take_succ_eq_append_getElem hk]
set_option maxRecDepth 100000 in
set_option maxHeartbeats 4000000 in
theorem rNumber_loop (s : ByteArray) (v : Int) (w : World) (h1 : 0 < (s.size : Int)) (h2 : (s.size : Int) ≤ 9) (h3 : (∀ b, s.data.toList[0]? = some b → (¬ (s.size : Int) ≤ 1 → b.toNat ≠ 48)))
    (HV1 : Hid (s.data.toList.all isDig = true → v = numV s.data.toList)) (HV2 : Hid (s.data.toList.all isDig ≠ true → v = -1)) :
    Calls Tryz.prog 94 #[.string s] w fun e w' => e = .returned (.int .i64 v) ∧ w = w' := by
  have hz := sz3 s
  obtain ⟨b0, hb0⟩ : ∃ b, s.data.toList[0]? = some b := ⟨_, List.getElem?_eq_getElem (by omega)⟩
  have hI0 := fun w => idx_str s 0 b0 hb0 w
  have hbb := byte_bd b0
  have HI0 := Lib.hid hI0
  have h48 := h3 b0 hb0
  have h0 : ((s.size : Int) == 0) = false := beq_eq_false_iff_ne.2 (by omega)
  have hcase : ((s.size : Int) ≤ 1) ∨ (¬ (s.size : Int) ≤ 1 ∧ (((b0.toNat : Nat) : Int) == 48) = false) := by
    by_cases h : (s.size : Int) ≤ 1
    · exact .inl h
    · exact .inr ⟨h, beq_eq_false_iff_ne.2 (fun e => h48 h (by omega))⟩
  have HZ := Lib.hid hz
  clear hI0 h48 h3 hb0 hz
  rcases hcase with hc | ⟨hc, hc48⟩
  all_goals
    have hI0 := HI0.out
    clear HI0
    simp only [Int.natCast_zero] at hI0
    go_enter Tryz.func94, Tryz.ntmps94
    go_wp2_with fail
    go_loop [3, 4] (fun n i => ∃ k : Nat, (k : Int) ≤ (s.size : Int) ∧ i = .int .i64 k ∧ ∃ m : Int, n = .int .i64 m ∧ 0 ≤ m ∧ m ≤ 9999999999 ∧ Hid (m = numV (s.data.toList.take k) ∧ m < ((10 ^ k : Nat) : Int) ∧ (s.data.toList.take k).all isDig = true)) (fun _ i => s.size - (intOf i).toNat)
    case atStart => exact ⟨0, by omega, rfl, 0, rfl, by omega, by omega, rfl, by decide, rfl⟩
    case round =>
      obtain ⟨k, hk, rfl, m, rfl, hm0, hm1, HM⟩ := hrel
      by_cases hlt : (k : Int) < (s.size : Int)
      · obtain ⟨b, hb⟩ : ∃ b, s.data.toList[k]? = some b := ⟨_, List.getElem?_eq_getElem (by have := HZ.out; omega)⟩
        have hI := fun w => idx_str s k b hb w
        have hbb1 := byte_bd b
        have hlt2 : k < s.size := by omega
        by_cases hd : (48 : Int) ≤ (b.toNat : Int) ∧ (b.toNat : Int) ≤ 57
        · have HM2 : Hid (10 * m + (b.toNat : Int) - 48 = numV (s.data.toList.take (k + 1)) ∧ 10 * m + (b.toNat : Int) - 48 < ((10 ^ (k + 1) : Nat) : Int) ∧ (s.data.toList.take (k + 1)).all isDig = true) := by
            obtain ⟨e1, e2, e3⟩ := HM.out
            refine ⟨?_, ?_, ?_⟩
            · rw [take_next hb, numV_snoc, ← e1]; omega
            · rw [Nat.pow_succ]; omega
            · rw [take_next hb, List.all_append, e3]
              simp [isDig]; omega
          have hm9 : m ≤ 999999999 := by
            obtain ⟨e1, e2, e3⟩ := HM.out
            have h1 : 10 ^ k ≤ 10 ^ 8 := Nat.pow_le_pow_right (by decide) (by omega)
            have h2 : 10 ^ 8 = 100000000 := by decide
            omega
          obtain ⟨d1, d2⟩ := hd
          clear HM hb hI0
          generalize (b.toNat : Int) = c at *
          go_wp2_with fail
          go_round
          case rel => exact ⟨k + 1, by omega, by go_num, 10 * m + c - 48, by go_num, by omega, by omega, HM2⟩
          case measure => simp [intOf]; omega
        · have HV : Hid (v = -1) := HV2.out (fun h => by
            have := List.all_eq_true.1 h b (List.mem_of_getElem? hb)
            unfold isDig at this
            have := of_decide_eq_true this
            omega)
          have hd' : (b.toNat : Int) < 48 ∨ (¬ (b.toNat : Int) < 48 ∧ 57 < (b.toNat : Int)) := by omega
          clear HM hb hI0 hd
          generalize (b.toNat : Int) = c at *
          rcases hd' with hd | ⟨hd, hd2⟩
          all_goals
            go_wp2_with fail
            go_ret
            exact ⟨by rw [HV.out]; rfl, rfl⟩
      · have HV : Hid (v = m) := by
          obtain ⟨e1, e2, e3⟩ := HM.out
          have hkk : s.data.toList.take k = s.data.toList := List.take_of_length_le (by have := HZ.out; omega)
          rw [hkk] at e1 e3
          exact (HV1.out e3).trans e1.symm
        clear HM hI0
        go_wp2_with fail
        go_ret
        exact ⟨by rw [HV.out]; rfl, rfl⟩
set_option maxRecDepth 100000 in
theorem rNumber_c (s : ByteArray) (hsz : s.size ≤ maxLen) (w : World) :
    Calls Tryz.prog 94 #[.string s] w fun e w' => e = .returned (.int .i64 (numL s.data.toList)) ∧ w = w' := by
  have hz := sz3 s
  unfold maxLen at hsz
  by_cases h0 : s.size = 0
  · have hs : s = ⟨#[]⟩ := by
      apply Go.WideShapes.bytes_inj
      rw [← sz3] at h0
      rw [List.eq_nil_of_length_eq_zero h0]
    subst hs
    go_enter Tryz.func94, Tryz.ntmps94
    go_wp2
    go_ret
    exact ⟨rfl, rfl⟩
  · by_cases h9 : 9 < s.size
    · have e : numL s.data.toList = -1 := by unfold numL; rw [if_pos (by omega)]
      rw [e]
      have k0 : ((s.size : Int) == 0) = false := beq_eq_false_iff_ne.2 (by omega)
      have k9 : 9 < (s.size : Int) := by omega
      clear h0 e hz
      go_enter Tryz.func94, Tryz.ntmps94
      go_wp2
      go_ret
      exact ⟨rfl, rfl⟩
    · by_cases h48 : 1 < s.size ∧ s.data.toList[0]? = some 48
      · have e : numL s.data.toList = -1 := by unfold numL; rw [if_pos (.inr (.inr ⟨by omega, by rw [List.head?_eq_getElem?]; exact h48.2⟩))]
        rw [e]
        have hI0 := fun w => idx_str s 0 48 h48.2 w
        have k0 : ((s.size : Int) == 0) = false := beq_eq_false_iff_ne.2 (by omega)
        have k9 : ¬ 9 < (s.size : Int) := by omega
        have k1 : 1 < (s.size : Int) := by omega
        have k2 : 1 < s.size := h48.1
        simp only [Int.natCast_zero, show ((48 : UInt8).toNat : Int) = 48 from rfl] at hI0
        clear h0 e hz h48 h9
        go_enter Tryz.func94, Tryz.ntmps94
        go_wp2
        go_ret
        exact ⟨rfl, rfl⟩
      · have hc : ¬ (s.data.toList.length = 0 ∨ 9 < s.data.toList.length ∨ (1 < s.data.toList.length ∧ s.data.toList.head? = some 48)) := by
          rw [List.head?_eq_getElem?, hz]
          rintro (h | h | ⟨h, k⟩)
          · omega
          · omega
          · exact h48 ⟨h, k⟩
        refine rNumber_loop s _ w (by omega) (by omega) (fun b hb hn h => h48 ⟨by omega, by rw [hb]; exact congrArg some (UInt8.toNat_inj.1 h)⟩) (fun h => ?_) (fun h => ?_)
        · unfold numL; rw [if_neg hc, if_pos h]
        · unfold numL; rw [if_neg hc, if_neg h]
theorem num_dec : ∀ n : Nat, n < 100 → numL (decL n) = (n : Int) := by decide +kernel

theorem numF_bd : ∀ (l : List UInt8) (a : Int), 0 ≤ a → l.all isDig = true → 0 ≤ List.foldl (fun n b => 10 * n + ((b.toNat : Int) - 48)) a l ∧ List.foldl (fun n b => 10 * n + ((b.toNat : Int) - 48)) a l < (a + 1) * ((10 ^ l.length : Nat) : Int)
  | [], a, h, _ => ⟨h, by show a < (a + 1) * 1; omega⟩
  | b :: l, a, h, hd => by
    rw [List.all_cons, Bool.and_eq_true] at hd
    have hb := hd.1
    unfold isDig at hb
    have hb := of_decide_eq_true hb
    have ih := numF_bd l (10 * a + ((b.toNat : Int) - 48)) (by omega) hd.2
    refine ⟨ih.1, Int.lt_of_lt_of_le ih.2 ?_⟩
    rw [List.length_cons, Nat.pow_succ, Int.natCast_mul, Int.mul_comm (((10 ^ l.length : Nat) : Int)), ← Int.mul_assoc]
    exact Int.mul_le_mul_of_nonneg_right (by omega) (Int.natCast_nonneg _)
theorem numL_bd (l : List UInt8) : -1 ≤ numL l ∧ numL l ≤ 999999999 := by
  unfold numL
  split
  · omega
  · rename_i h
    split
    · rename_i hd
      have hb := numF_bd l 0 (by omega) hd
      have h1 : 10 ^ l.length ≤ 10 ^ 9 := Nat.pow_le_pow_right (by decide) (by omega)
      have h2 : 10 ^ 9 = 1000000000 := by decide
      unfold numV
      omega
    · omega
theorem titleT_parts {st se : Int} {s : ByteArray} (h : titleT st se = some s) :
    ((st < 0 ∨ (st = 0 ∧ se < 0)) ∧ -69 ≤ st ∧ ∃ q d, s.data.toList = 45 :: q :: decL (-st + 1).toNat ∧ se = -(nat7 (-st) + d) ∧ -2 ≤ d ∧ d ≤ 1) ∨
    (¬ (st < 0 ∨ (st = 0 ∧ se < 0)) ∧ st ≤ 69 ∧ ∃ q d, q ≠ 45 ∧ s.data.toList = q :: decL (st + 1).toNat ∧ se = nat7 st + d ∧ -2 ≤ d ∧ d ≤ 1) := by
  rw [titleT_eq] at h
  cases hu : titleL st se with
  | none => rw [hu] at h; cases h
  | some l =>
    rw [hu] at h
    injection h with h
    subst h
    have hl : (mkB l).data.toList = l := by simp [mkB]
    rw [hl]
    unfold titleL at hu
    split at hu
    · cases hu
    · rename_i hr
      split at hu
      · rename_i hn
        unfold upL at hu
        cases hq : qualL (perf (-st)) (-se - nat7 (-st)) with
        | none => rw [hq] at hu; cases hu
        | some q =>
          rw [hq] at hu
          have hb := qualL_bd hq
          exact .inl ⟨hn, by omega, q, -se - nat7 (-st), by injection hu with hu; exact hu.symm, by omega, hb.1, hb.2.1⟩
      · rename_i hn
        unfold upL at hu
        cases hq : qualL (perf st) (se - nat7 st) with
        | none => rw [hq] at hu; cases hu
        | some q =>
          rw [hq] at hu
          have hb := qualL_bd hq
          exact .inr ⟨hn, by omega, q, se - nat7 st, hb.2.2, by injection hu with hu; exact hu.symm, by omega, hb.1, hb.2.1⟩
theorem decL_len1 (n : Nat) : 1 ≤ (decL n).length := by unfold decL; split <;> simp
theorem extract_list (s : ByteArray) : (s.extract 1 s.size).data.toList = s.data.toList.drop 1 := by
  rw [Lib.extract_data, List.take_of_length_le (by rw [List.length_drop, sz3]; exact Nat.le_refl _)]
theorem slice1 (s : ByteArray) (h : 1 ≤ s.size) (w : World) : (Instr.slice 9 (.string s) (some (.int .i64 1)) none none).run Tryz.prog w = .ok (.string (s.extract 1 s.size)) w :=
  run_slice_string_l w _ s Tryz.underlying9 .i64 1 (by omega) (by omega)
/-- what every title of s has, by its first byte -/
theorem read_neg {s : ByteArray} (h0 : s.data.toList[0]? = some 45) {st se : Int} (h : titleT st se = some s) : 3 ≤ s.size ∧ numL (s.data.toList.drop 2) - 1 = -st ∧ 0 ≤ -st ∧ -st ≤ 69 ∧ ∃ d, se = -(nat7 (-st) + d) ∧ -2 ≤ d ∧ d ≤ 1 := by
  rcases titleT_parts h with ⟨hn, h69, q, d, hl, hse, hd0, hd1⟩ | ⟨hn, h69, q, d, hq, hl, hse, hd0, hd1⟩
  · have hz := sz3 s
    have h1 := decL_len1 (-st + 1).toNat
    have e : s.data.toList.drop 2 = decL (-st + 1).toNat := by rw [hl]; rfl
    rw [hl] at hz
    simp only [List.length_cons] at hz
    rw [e, num_dec _ (by omega)]
    exact ⟨by omega, by omega, by omega, by omega, d, hse, hd0, hd1⟩
  · rw [hl] at h0
    exact absurd (by injection h0) hq
theorem read_pos {s : ByteArray} (h0 : s.data.toList[0]? ≠ some 45) {st se : Int} (h : titleT st se = some s) : 2 ≤ s.size ∧ numL (s.data.toList.drop 1) - 1 = st ∧ 0 ≤ st ∧ st ≤ 69 ∧ ∃ d, se = nat7 st + d ∧ -2 ≤ d ∧ d ≤ 1 := by
  rcases titleT_parts h with ⟨hn, h69, q, d, hl, hse, hd0, hd1⟩ | ⟨hn, h69, q, d, hq, hl, hse, hd0, hd1⟩
  · rw [hl] at h0
    exact absurd rfl h0
  · have hz := sz3 s
    have h1 := decL_len1 (st + 1).toNat
    have e : s.data.toList.drop 1 = decL (st + 1).toNat := by rw [hl]; rfl
    rw [hl] at hz
    simp only [List.length_cons] at hz
    rw [e, num_dec _ (by omega)]
    exact ⟨by omega, by omega, by omega, by omega, d, hse, hd0, hd1⟩
set_option maxRecDepth 100000 in
set_option maxHeartbeats 8000000 in
theorem rRead_neg (s r t : ByteArray) (x y z m : Int) (w : World) (hs0 : 0 < (s.size : Int)) (hs : (s.size : Int) ≤ 9223372036854775807) (c : Int) (hc : c = 45)
    (hI0 : ∀ w, (Instr.index 9 (.string s) (.int .i64 0)).run Tryz.prog w = .ok (.int .u8 c) w)
    (hS1 : ∀ w, (Instr.slice 9 (.string s) (some (.int .i64 1)) none none).run Tryz.prog w = .ok (.string r) w)
    (hS2 : 2 ≤ (r.size : Int) → ∀ w, (Instr.slice 9 (.string r) (some (.int .i64 1)) none none).run Tryz.prog w = .ok (.string t) w)
    (HM : Hid (∀ w, Calls Tryz.prog 94 #[.string t] w fun e w' => e = .returned (.int .i64 m) ∧ w = w')) (hm0 : -1 ≤ m) (hm1 : m ≤ 999999999)
    (HT : Hid (∀ st se, titleT st se = some s → 2 ≤ (r.size : Int) ∧ 0 ≤ m - 1 ∧ m - 1 ≤ 69 ∧ st = -(m - 1) ∧ ∃ d, se = -(nat7 (m - 1) + d) ∧ -2 ≤ d ∧ d ≤ 1))
    (HY : Hid (∀ st se, titleT st se = some s → x = st ∧ y = se ∧ z = 0)) (HN : Hid ((∀ st se, titleT st se ≠ some s) → x = 0 ∧ y = 0 ∧ z = 5)) :
    Calls Tryz.prog 58 #[.string s] w fun e w' => e = .returned (.tuple #[.agg #[.int .i64 x, .int .i64 y], .int .i64 z]) ∧ Below w.heap.size w w' := by
  subst hc
  by_cases hr : (r.size : Int) < 2
  · skip
    have HX := Lib.hid (HN.out (fun st se h => by have := HT.out st se h; omega))
    clear HN HY HT hS2
    go_enter Tryz.func58, Tryz.ntmps58
    go_wp2_with fail
    (try simp only [Exit.inBlock, Exit.then]); refine bodyPost_ret (by simp [results, Tryz.results58, go_sem, *]; try rfl) rfl ?_
    obtain ⟨h1, h2, h3⟩ := HX.out
    exact ⟨by rw [h1, h2, h3], by go_grown⟩
  · have hs2 := hS2 (by omega)
    by_cases h0 : m - 1 < 0
    · skip
      have HX := Lib.hid (HN.out (fun st se h => by have := HT.out st se h; omega))
      clear HN HY HT hS2
      go_enter Tryz.func58, Tryz.ntmps58
      go_wp2_with fail
      refine (HM.out _).mono ?_
      rintro e w1 ⟨rfl, rfl⟩
      go_wp2_with fail
      (try simp only [Exit.inBlock, Exit.then]); refine bodyPost_ret (by simp [results, Tryz.results58, go_sem, *]; try rfl) rfl ?_
      obtain ⟨h1, h2, h3⟩ := HX.out
      exact ⟨by rw [h1, h2, h3], by go_grown⟩
    · by_cases h9 : 69 < m - 1
      · skip
        have HX := Lib.hid (HN.out (fun st se h => by have := HT.out st se h; omega))
        clear HN HY HT hS2
        go_enter Tryz.func58, Tryz.ntmps58
        go_wp2_with fail
        refine (HM.out _).mono ?_
        rintro e w1 ⟨rfl, rfl⟩
        go_wp2_with fail
        (try simp only [Exit.inBlock, Exit.then]); refine bodyPost_ret (by simp [results, Tryz.results58, go_sem, *]; try rfl) rfl ?_
        obtain ⟨h1, h2, h3⟩ := HX.out
        exact ⟨by rw [h1, h2, h3], by go_grown⟩
      · clear hS2
        obtain ⟨n, hn⟩ : ∃ n, m - 1 = n := ⟨_, rfl⟩
        rw [hn] at HT h0 h9
        have hv := nat7_200 n (by omega) (by omega)
        have HC := Lib.hid fun w => rNatural_c n w (by omega) (by omega)
        generalize nat7 n = v at *
        go_enter Tryz.func58, Tryz.ntmps58
        go_wp2_with fail
        refine (HM.out _).mono ?_
        rintro e w1 ⟨rfl, rfl⟩
        clear hI0 hs2 HM hS1
        go_wp2_with fail
        go_loopw [7] (fun i wr => ∃ q : Int, -2 ≤ q ∧ q ≤ 2 ∧ i = .int .i64 q ∧ Hid (∀ d, -2 ≤ d → d < q → titleT (-n) (-(v + d)) ≠ some s) ∧ RdS w wr) (fun i _ => (2 - intOf i).toNat)
        case atStart => exact ⟨-2, by omega, by omega, rfl, fun d h1 h2 => by omega, by go_simp, by go_simp, by go_simp, by go_simp, by simp, by go_grown⟩
        case round =>
          obtain ⟨q, hq0, hq1, rfl, HJ, hR⟩ := hrel
          by_cases hlt : q ≤ 1
          · have HTT := fun w => rTitle_c (-n) (-(v + q)) w
            have HJ2 : titleT (-n) (-(v + q)) ≠ some s → Hid (∀ d, -2 ≤ d → d < q + 1 → titleT (-n) (-(v + d)) ≠ some s) := by
              intro hne d h1 h2
              by_cases hd : d = q
              · subst hd; exact hne
              · exact HJ.out d h1 (by omega)
            clear HJ
            cases ht : titleT (-n) (-(v + q)) with
            | none =>
              rw [ht] at HTT
              have HJ3 := HJ2 (by rw [ht]; exact fun h => by cases h)
              have HT2 : Hid (∀ w, Calls Tryz.prog 56 #[.agg #[.int .i64 (-n), .int .i64 (-(v + q))]] w fun e w' => e = .returned (.tuple #[.string ByteArray.empty, .int .i64 8]) ∧ Below w.heap.size w w') := HTT
              clear HTT HJ2 ht
              go_wp2_with fail
              refine (HC.out _).mono ?_
              rintro e w1 ⟨rfl, rfl⟩
              go_wp2_with fail
              refine calls_named fun W hW => ?_
              have hR2 := hR.next (below_named hW)
              have Pq := Pair.made hW
              have hy : w.heap.size < wr.heap.size := hR.lt
              clear hW hR
              refine (HT2.out _).mono ?_
              rintro e w2 ⟨rfl, hb2⟩
              have hR3 := hR2.next hb2
              replace Pq := Pq.next hb2
              clear hb2 hR2
              clear Pq
              go_wp2_with fail
              go_roundw
              case rel => exact ⟨q + 1, by omega, by omega, by go_num, HJ3, hR3⟩
              case measure => simp [intOf]; omega
            | some u =>
              rw [ht] at HTT
              have HT2 : Hid (∀ w, Calls Tryz.prog 56 #[.agg #[.int .i64 (-n), .int .i64 (-(v + q))]] w fun e w' => e = .returned (.tuple #[.string u, .int .i64 0]) ∧ Below w.heap.size w w') := HTT
              clear HTT
              by_cases he : u = s
              · subst he
                obtain ⟨hx, hy, hz⟩ := HY.out _ _ ht
                have HX : Hid (x = (-n) ∧ y = (-(v + q)) ∧ z = 0) := ⟨hx, hy, hz⟩
                clear hx hy hz HJ2 ht
                go_wp2_with fail
                refine (HC.out _).mono ?_
                rintro e w1 ⟨rfl, rfl⟩
                go_wp2_with fail
                refine calls_named fun W hW => ?_
                have hR2 := hR.next (below_named hW)
                have Pq := Pair.made hW
                have hy : w.heap.size < wr.heap.size := hR.lt
                clear hW hR
                refine (HT2.out _).mono ?_
                rintro e w2 ⟨rfl, hb2⟩
                have hR3 := hR2.next hb2
                replace Pq := Pq.next hb2
                clear hb2 hR2
                obtain ⟨r0, r1, z0, z1, hlt3, hB3⟩ := hR3
                obtain ⟨q0, q1, q2, -, -⟩ := Pq
                go_wp2_with fail
                (try simp only [Exit.inBlock, Exit.then]); refine bodyPost_ret (by simp [results, Tryz.results58, go_sem, *]; try rfl) rfl ?_
                obtain ⟨h1, h2, h3⟩ := HX.out
                exact ⟨by rw [h1, h2, h3], by go_grown⟩
              · have HJ3 := HJ2 (by rw [ht]; exact fun h => he (by injection h))
                have hq : (u.toList == s.toList) = false := beq_eq_false_iff_ne.2 (fun h => he (Go.WideShapes.bytes_inj (by rw [← ByteArray.toList_eq, ← ByteArray.toList_eq]; exact h)))
                clear HJ2 ht he
                go_wp2_with fail
                refine (HC.out _).mono ?_
                rintro e w1 ⟨rfl, rfl⟩
                go_wp2_with fail
                refine calls_named fun W hW => ?_
                have hR2 := hR.next (below_named hW)
                have Pq := Pair.made hW
                have hy : w.heap.size < wr.heap.size := hR.lt
                clear hW hR
                refine (HT2.out _).mono ?_
                rintro e w2 ⟨rfl, hb2⟩
                have hR3 := hR2.next hb2
                replace Pq := Pq.next hb2
                clear hb2 hR2
                clear Pq
                go_wp2_with fail
                go_roundw
                case rel => exact ⟨q + 1, by omega, by omega, by go_num, HJ3, hR3⟩
                case measure => simp [intOf]; omega
          · have HX := Lib.hid (HN.out (fun st se h => by obtain ⟨_, _, _, h3, d, h4, h5, h6⟩ := HT.out st se h; exact HJ.out d h5 (by omega) (by rw [← h3, ← h4]; exact h)))
            clear HJ
            obtain ⟨r0, r1, z0, z1, hlt3, hB3⟩ := hR
            go_wp2_with fail
            (try simp only [Exit.inBlock, Exit.then]); refine bodyPost_ret (by simp [results, Tryz.results58, go_sem, *]; try rfl) rfl ?_
            obtain ⟨h1, h2, h3⟩ := HX.out
            exact ⟨by rw [h1, h2, h3], by go_grown⟩
set_option maxRecDepth 100000 in
set_option maxHeartbeats 8000000 in
theorem rRead_pos (s r t : ByteArray) (x y z m : Int) (w : World) (hs0 : 0 < (s.size : Int)) (hs : (s.size : Int) ≤ 9223372036854775807) (c : Int) (hc : (c == 45) = false)
    (hI0 : ∀ w, (Instr.index 9 (.string s) (.int .i64 0)).run Tryz.prog w = .ok (.int .u8 c) w)
    (hS2 : 2 ≤ (s.size : Int) → ∀ w, (Instr.slice 9 (.string s) (some (.int .i64 1)) none none).run Tryz.prog w = .ok (.string t) w)
    (HM : Hid (∀ w, Calls Tryz.prog 94 #[.string t] w fun e w' => e = .returned (.int .i64 m) ∧ w = w')) (hm0 : -1 ≤ m) (hm1 : m ≤ 999999999)
    (HT : Hid (∀ st se, titleT st se = some s → 2 ≤ (s.size : Int) ∧ 0 ≤ m - 1 ∧ m - 1 ≤ 69 ∧ st = m - 1 ∧ ∃ d, se = nat7 (m - 1) + d ∧ -2 ≤ d ∧ d ≤ 1))
    (HY : Hid (∀ st se, titleT st se = some s → x = st ∧ y = se ∧ z = 0)) (HN : Hid ((∀ st se, titleT st se ≠ some s) → x = 0 ∧ y = 0 ∧ z = 5)) :
    Calls Tryz.prog 58 #[.string s] w fun e w' => e = .returned (.tuple #[.agg #[.int .i64 x, .int .i64 y], .int .i64 z]) ∧ Below w.heap.size w w' := by
  by_cases hr : (s.size : Int) < 2
  · skip
    have HX := Lib.hid (HN.out (fun st se h => by have := HT.out st se h; omega))
    clear HN HY HT hS2
    go_enter Tryz.func58, Tryz.ntmps58
    go_wp2_with fail
    (try simp only [Exit.inBlock, Exit.then]); refine bodyPost_ret (by simp [results, Tryz.results58, go_sem, *]; try rfl) rfl ?_
    obtain ⟨h1, h2, h3⟩ := HX.out
    exact ⟨by rw [h1, h2, h3], by go_grown⟩
  · have hs2 := hS2 (by omega)
    by_cases h0 : m - 1 < 0
    · skip
      have HX := Lib.hid (HN.out (fun st se h => by have := HT.out st se h; omega))
      clear HN HY HT hS2
      go_enter Tryz.func58, Tryz.ntmps58
      go_wp2_with fail
      refine (HM.out _).mono ?_
      rintro e w1 ⟨rfl, rfl⟩
      go_wp2_with fail
      (try simp only [Exit.inBlock, Exit.then]); refine bodyPost_ret (by simp [results, Tryz.results58, go_sem, *]; try rfl) rfl ?_
      obtain ⟨h1, h2, h3⟩ := HX.out
      exact ⟨by rw [h1, h2, h3], by go_grown⟩
    · by_cases h9 : 69 < m - 1
      · skip
        have HX := Lib.hid (HN.out (fun st se h => by have := HT.out st se h; omega))
        clear HN HY HT hS2
        go_enter Tryz.func58, Tryz.ntmps58
        go_wp2_with fail
        refine (HM.out _).mono ?_
        rintro e w1 ⟨rfl, rfl⟩
        go_wp2_with fail
        (try simp only [Exit.inBlock, Exit.then]); refine bodyPost_ret (by simp [results, Tryz.results58, go_sem, *]; try rfl) rfl ?_
        obtain ⟨h1, h2, h3⟩ := HX.out
        exact ⟨by rw [h1, h2, h3], by go_grown⟩
      · clear hS2
        obtain ⟨n, hn⟩ : ∃ n, m - 1 = n := ⟨_, rfl⟩
        rw [hn] at HT h0 h9
        have hv := nat7_200 n (by omega) (by omega)
        have HC := Lib.hid fun w => rNatural_c n w (by omega) (by omega)
        generalize nat7 n = v at *
        go_enter Tryz.func58, Tryz.ntmps58
        go_wp2_with fail
        refine (HM.out _).mono ?_
        rintro e w1 ⟨rfl, rfl⟩
        clear hI0 hs2 HM
        go_wp2_with fail
        go_loopw [7] (fun i wr => ∃ q : Int, -2 ≤ q ∧ q ≤ 2 ∧ i = .int .i64 q ∧ Hid (∀ d, -2 ≤ d → d < q → titleT n (v + d) ≠ some s) ∧ RdS w wr) (fun i _ => (2 - intOf i).toNat)
        case atStart => exact ⟨-2, by omega, by omega, rfl, fun d h1 h2 => by omega, by go_simp, by go_simp, by go_simp, by go_simp, by simp, by go_grown⟩
        case round =>
          obtain ⟨q, hq0, hq1, rfl, HJ, hR⟩ := hrel
          by_cases hlt : q ≤ 1
          · have HTT := fun w => rTitle_c n (v + q) w
            have HJ2 : titleT n (v + q) ≠ some s → Hid (∀ d, -2 ≤ d → d < q + 1 → titleT n (v + d) ≠ some s) := by
              intro hne d h1 h2
              by_cases hd : d = q
              · subst hd; exact hne
              · exact HJ.out d h1 (by omega)
            clear HJ
            cases ht : titleT n (v + q) with
            | none =>
              rw [ht] at HTT
              have HJ3 := HJ2 (by rw [ht]; exact fun h => by cases h)
              have HT2 : Hid (∀ w, Calls Tryz.prog 56 #[.agg #[.int .i64 n, .int .i64 (v + q)]] w fun e w' => e = .returned (.tuple #[.string ByteArray.empty, .int .i64 8]) ∧ Below w.heap.size w w') := HTT
              clear HTT HJ2 ht
              go_wp2_with fail
              refine (HC.out _).mono ?_
              rintro e w1 ⟨rfl, rfl⟩
              go_wp2_with fail
              refine calls_named fun W hW => ?_
              have hR2 := hR.next (below_named hW)
              have Pq := Pair.made hW
              have hy : w.heap.size < wr.heap.size := hR.lt
              clear hW hR
              refine (HT2.out _).mono ?_
              rintro e w2 ⟨rfl, hb2⟩
              have hR3 := hR2.next hb2
              replace Pq := Pq.next hb2
              clear hb2 hR2
              clear Pq
              go_wp2_with fail
              go_roundw
              case rel => exact ⟨q + 1, by omega, by omega, by go_num, HJ3, hR3⟩
              case measure => simp [intOf]; omega
            | some u =>
              rw [ht] at HTT
              have HT2 : Hid (∀ w, Calls Tryz.prog 56 #[.agg #[.int .i64 n, .int .i64 (v + q)]] w fun e w' => e = .returned (.tuple #[.string u, .int .i64 0]) ∧ Below w.heap.size w w') := HTT
              clear HTT
              by_cases he : u = s
              · subst he
                obtain ⟨hx, hy, hz⟩ := HY.out _ _ ht
                have HX : Hid (x = n ∧ y = (v + q) ∧ z = 0) := ⟨hx, hy, hz⟩
                clear hx hy hz HJ2 ht
                go_wp2_with fail
                refine (HC.out _).mono ?_
                rintro e w1 ⟨rfl, rfl⟩
                go_wp2_with fail
                refine calls_named fun W hW => ?_
                have hR2 := hR.next (below_named hW)
                have Pq := Pair.made hW
                have hy : w.heap.size < wr.heap.size := hR.lt
                clear hW hR
                refine (HT2.out _).mono ?_
                rintro e w2 ⟨rfl, hb2⟩
                have hR3 := hR2.next hb2
                replace Pq := Pq.next hb2
                clear hb2 hR2
                obtain ⟨r0, r1, z0, z1, hlt3, hB3⟩ := hR3
                obtain ⟨q0, q1, q2, -, -⟩ := Pq
                go_wp2_with fail
                (try simp only [Exit.inBlock, Exit.then]); refine bodyPost_ret (by simp [results, Tryz.results58, go_sem, *]; try rfl) rfl ?_
                obtain ⟨h1, h2, h3⟩ := HX.out
                exact ⟨by rw [h1, h2, h3], by go_grown⟩
              · have HJ3 := HJ2 (by rw [ht]; exact fun h => he (by injection h))
                have hq : (u.toList == s.toList) = false := beq_eq_false_iff_ne.2 (fun h => he (Go.WideShapes.bytes_inj (by rw [← ByteArray.toList_eq, ← ByteArray.toList_eq]; exact h)))
                clear HJ2 ht he
                go_wp2_with fail
                refine (HC.out _).mono ?_
                rintro e w1 ⟨rfl, rfl⟩
                go_wp2_with fail
                refine calls_named fun W hW => ?_
                have hR2 := hR.next (below_named hW)
                have Pq := Pair.made hW
                have hy : w.heap.size < wr.heap.size := hR.lt
                clear hW hR
                refine (HT2.out _).mono ?_
                rintro e w2 ⟨rfl, hb2⟩
                have hR3 := hR2.next hb2
                replace Pq := Pq.next hb2
                clear hb2 hR2
                clear Pq
                go_wp2_with fail
                go_roundw
                case rel => exact ⟨q + 1, by omega, by omega, by go_num, HJ3, hR3⟩
                case measure => simp [intOf]; omega
          · have HX := Lib.hid (HN.out (fun st se h => by obtain ⟨_, _, _, h3, d, h4, h5, h6⟩ := HT.out st se h; exact HJ.out d h5 (by omega) (by rw [← h3, ← h4]; exact h)))
            clear HJ
            obtain ⟨r0, r1, z0, z1, hlt3, hB3⟩ := hR
            go_wp2_with fail
            (try simp only [Exit.inBlock, Exit.then]); refine bodyPost_ret (by simp [results, Tryz.results58, go_sem, *]; try rfl) rfl ?_
            obtain ⟨h1, h2, h3⟩ := HX.out
            exact ⟨by rw [h1, h2, h3], by go_grown⟩
set_option maxRecDepth 100000 in
theorem rRead_empty (w : World) : Calls Tryz.prog 58 #[.string ⟨#[]⟩] w fun e w' => e = .returned (.tuple #[.agg #[.int .i64 0, .int .i64 0], .int .i64 5]) ∧ Below w.heap.size w w' := by
  go_enter Tryz.func58, Tryz.ntmps58
  go_wp2_with fail
  (try simp only [Exit.inBlock, Exit.then]); refine bodyPost_ret (by simp [results, Tryz.results58, go_sem, *]; try rfl) rfl ?_
  exact ⟨rfl, by go_grown⟩
theorem rRead_c (s : ByteArray) (x y z : Int) (hsz : s.size ≤ maxLen) (w : World) (HY : Hid (∀ st se, titleT st se = some s → x = st ∧ y = se ∧ z = 0)) (HN : Hid ((∀ st se, titleT st se ≠ some s) → x = 0 ∧ y = 0 ∧ z = 5)) :
    Calls Tryz.prog 58 #[.string s] w fun e w' => e = .returned (.tuple #[.agg #[.int .i64 x, .int .i64 y], .int .i64 z]) ∧ Below w.heap.size w w' := by
  have hz := sz3 s
  have hmx := hsz
  unfold maxLen at hmx
  rcases Nat.eq_zero_or_pos s.size with h0 | h0
  · have hs : s = ⟨#[]⟩ := by
      apply Go.WideShapes.bytes_inj
      rw [← sz3] at h0
      rw [List.eq_nil_of_length_eq_zero h0]
    obtain ⟨rfl, rfl, rfl⟩ := HN.out (fun st se h => by
      have h1 := titleT_parts h
      rw [List.eq_nil_of_length_eq_zero (by omega : s.data.toList.length = 0)] at h1
      rcases h1 with ⟨_, _, _, _, h2, _⟩ | ⟨_, _, _, _, _, h2, _⟩ <;> cases h2)
    rw [hs]
    exact rRead_empty w
  · obtain ⟨c, hc⟩ : ∃ c, s.data.toList[0]? = some c := ⟨_, List.getElem?_eq_getElem (by omega)⟩
    have hI0 := fun w => idx_str s 0 c hc w
    have hrl := extract_list s
    have hrz : (s.extract 1 s.size).size = s.size - 1 := by rw [← sz3, hrl, List.length_drop, hz]
    by_cases h45 : c = 45
    · subst h45
      have htl := extract_list (s.extract 1 s.size)
      rw [hrl, List.drop_drop] at htl
      have hM := fun w => rNumber_c ((s.extract 1 s.size).extract 1 (s.extract 1 s.size).size) (by rw [← sz3, htl, List.length_drop, hz]; omega) w
      rw [htl] at hM
      exact rRead_neg s (s.extract 1 s.size) _ x y z _ w (by omega) (by omega) 45 rfl hI0 (fun w => slice1 s (by omega) w) (fun h w => slice1 _ (by omega) w) hM (numL_bd _).1 (numL_bd _).2
        (fun st se h => by
          obtain ⟨h1, h2, h3, h4, d, h5, h6, h7⟩ := read_neg hc h
          have e : s.data.toList.drop (1 + 1) = s.data.toList.drop 2 := rfl
          rw [e]
          refine ⟨by omega, by omega, by omega, by omega, d, ?_, h6, h7⟩
          rw [h2]; exact h5) HY HN
    · have hM := fun w => rNumber_c (s.extract 1 s.size) (by omega) w
      rw [hrl] at hM
      exact rRead_pos s s _ x y z _ w (by omega) (by omega) c.toNat (beq_eq_false_iff_ne.2 (fun h => h45 (UInt8.toNat_inj.1 (by show c.toNat = 45; omega)))) hI0 (fun h w => slice1 s (by omega) w) hM (numL_bd _).1 (numL_bd _).2
        (fun st se h => by
          obtain ⟨h1, h2, h3, h4, d, h5, h6, h7⟩ := read_pos (by rw [hc]; exact fun k => h45 (by injection k)) h
          refine ⟨by omega, by omega, by omega, by omega, d, ?_, h6, h7⟩
          rw [h2]; exact h5) HY HN

end Go.Proofs.YthfclapnkemjiaaGreatDoor
