/-
  The contract of custosref13.number. Conditions: the text is at most 200000 bytes long.
-/
import Derived.Test.YtpcefaccoifejaaGreatDoorZT4
namespace Go.Proofs.YtpcefaccoifejaaGreatDoor
open Go.RowKit
set_option linter.unusedSimpArgs false
set_option linter.unusedVariables false
set_option maxRecDepth 100000

/-- what the reference makes of a word: its number, or 2000000 -/
def NumR (s : List UInt8) (x : Int) : Prop := (x = 2000000 ∧ ∀ n : Int, -1000000 ≤ n → n ≤ 1000000 → itS n ≠ s) ∨ (-1000000 ≤ x ∧ x ≤ 1000000 ∧ itS x = s)
theorem it_shape {n : Int} {s : List UInt8} (h : itS n = s) : (n < 0 ∧ s = 45 :: Lib.decDigits n.natAbs) ∨ (0 ≤ n ∧ s = Lib.decDigits n.natAbs) := by
  subst h
  unfold itS Lib.itoa
  split
  · rename_i hn
    exact .inl ⟨hn, rfl⟩
  · rename_i hn
    exact .inr ⟨by omega, by rw [show n.toNat = n.natAbs by omega]⟩
/-- where the digits begin -/
def From (s : List UInt8) (f : Nat) : Prop := (s[0]? = some 45 ∧ f = 1) ∨ (s[0]? ≠ some 45 ∧ f = 0)
theorem dig_at {u i : Nat} {b : UInt8} (h : (Lib.decDigits u)[i]? = some b) : 48 ≤ b.toNat ∧ b.toNat ≤ 57 := digits_mem u b (List.mem_of_getElem? h)
theorem from_neg {s : List UInt8} {f : Nat} {n : Int} (hf : From s f) (h : itS n = s) : (n < 0 ∧ f = 1 ∧ s.drop f = Lib.decDigits n.natAbs) ∨ (0 ≤ n ∧ f = 0 ∧ s.drop f = Lib.decDigits n.natAbs) := by
  rcases it_shape h with ⟨hn, hs⟩ | ⟨hn, hs⟩
  · rcases hf with ⟨h0, rfl⟩ | ⟨h0, rfl⟩
    · exact .inl ⟨hn, rfl, by rw [hs]; rfl⟩
    · exact absurd (by rw [hs]; rfl) h0
  · rcases hf with ⟨h0, rfl⟩ | ⟨h0, rfl⟩
    · rw [hs] at h0
      have := dig_at h0
      exact absurd this.1 (by decide)
    · exact .inr ⟨hn, rfl, by rw [hs]; rfl⟩
theorem none_byte {s : List UInt8} {f i : Nat} {b : UInt8} (hf : From s f) (hi : f ≤ i) (hb : s[i]? = some b) (hd : ¬ (48 ≤ b.toNat ∧ b.toNat ≤ 57)) : NumR s 2000000 := by
  refine .inl ⟨rfl, fun n _ _ h => ?_⟩
  have hb2 : (s.drop f)[i - f]? = some b := by rw [List.getElem?_drop, show f + (i - f) = i by omega]; exact hb
  rcases from_neg hf h with ⟨_, _, hs⟩ | ⟨_, _, hs⟩
  · rw [hs] at hb2; exact hd (dig_at hb2)
  · rw [hs] at hb2; exact hd (dig_at hb2)
theorem val_big {s : List UInt8} {f v : Nat} (hf : From s f) (hv : Lib.decFrom 0 (s.drop f) = some v) (h : 1000000 < v) : NumR s 2000000 := by
  refine .inl ⟨rfl, fun n h1 h2 e => ?_⟩
  rcases from_neg hf e with ⟨_, _, hs⟩ | ⟨_, _, hs⟩
  · rw [hs, decFrom_digits] at hv; injection hv with hv; omega
  · rw [hs, decFrom_digits] at hv; injection hv with hv; omega
theorem val_other {s : List UInt8} {f v : Nat} {x : Int} (hf : From s f) (hv : Lib.decFrom 0 (s.drop f) = some v) (hx : x = if f = 1 then -(v : Int) else v) (h : itS x ≠ s) : NumR s 2000000 := by
  refine .inl ⟨rfl, fun n h1 h2 e => ?_⟩
  rcases from_neg hf e with ⟨hn, rfl, hs⟩ | ⟨hn, rfl, hs⟩
  · rw [hs, decFrom_digits] at hv; injection hv with hv
    rw [if_pos rfl] at hx
    exact h (by rw [hx, show -(v : Int) = n by omega]; exact e)
  · rw [hs, decFrom_digits] at hv; injection hv with hv
    rw [if_neg (by decide)] at hx
    exact h (by rw [hx, show (v : Int) = n by omega]; exact e)
theorem none_len {s : List UInt8} (h : s.length = 0 ∨ 8 < s.length) : NumR s 2000000 := by
  refine .inl ⟨rfl, fun n h1 h2 e => ?_⟩
  have hl : 1 ≤ (Lib.decDigits n.natAbs).length := List.length_pos_iff.2 (digits_ne _)
  have h7 := nDigits_le7 n.natAbs (by omega)
  rcases it_shape e with ⟨_, hs⟩ | ⟨_, hs⟩
  · have := congrArg List.length hs
    simp only [List.length_cons] at this
    omega
  · have := congrArg List.length hs
    omega
theorem digit_val {b : UInt8} (h : 48 ≤ b.toNat ∧ b.toNat ≤ 57) : Lib.digitVal b = some (b.toNat - 48) := by
  have := digitVal_of (b.toNat - 48) (by omega)
  rwa [show 48 + (b.toNat - 48) = b.toNat by omega, show UInt8.ofNat b.toNat = b from UInt8.ofNat_toNat] at this
set_option maxHeartbeats 4000000 in
theorem rnumber_c (s : List UInt8) (w : World) (hs : s.length ≤ 200000) :
    Calls Tryz.prog 64 #[.string ⟨s.toArray⟩] w fun e w' => ∃ x : Int, e = .returned (.int .i64 x) ∧ NumR s x ∧ Below w.heap.size w w' := by
  by_cases h0 : s.length = 0
  · have hN := none_len (s := s) (.inl h0)
    have h0I : (s.length : Int) = 0 := by omega
    go_enter Tryz.func64, Tryz.ntmps64
    go_wp2
    go_ret
    exact ⟨_, rfl, hN, Below.refl _ _⟩
  · by_cases h8 : 8 < s.length
    · have hN := none_len (s := s) (.inr h8)
      have h0I : ¬ (s.length : Int) = 0 := by omega
      have h8I : (8 : Int) < (s.length : Int) := by omega
      go_enter Tryz.func64, Tryz.ntmps64
      go_wp2
      go_ret
      exact ⟨_, rfl, hN, Below.refl _ _⟩
    · have h0I : ¬ (s.length : Int) = 0 := by omega
      have h8I : ¬ (8 : Int) < (s.length : Int) := by omega
      have hpos : 0 < s.length := by omega
      have hposI : (0 : Int) < (s.length : Int) := by omega
      obtain ⟨b0, hb0⟩ : ∃ b, s[0]? = some b := ⟨_, List.getElem?_eq_getElem hpos⟩
      have hgb0 : ∀ h, (⟨s.toArray⟩ : ByteArray)[0]'h = b0 := fun h => by
        have : s[0] = b0 := (List.getElem?_eq_some_iff.1 hb0).2
        exact this
      by_cases h45 : b0 = 45
      · subst h45
        have HF : Hid (From s 1) := Lib.hid (.inl ⟨hb0, rfl⟩)
        clear hb0
        go_enter Tryz.func64, Tryz.ntmps64
        go_wp2_with fail
        go_loopw [3, 5] (fun nv i wr => ∃ (k v : Nat), 1 ≤ k ∧ k ≤ s.length ∧ i = .int .i64 (k : Int) ∧ nv = .int .i64 (v : Int) ∧ Lib.decFrom 0 ((s.drop 1).take (k - 1)) = some v ∧ v < 10 ^ (k - 1) ∧ Below w.heap.size w wr)
          (fun _ i wr => s.length - (intOf i).toNat)
        case atStart => exact ⟨1, 0, Nat.le_refl _, by omega, rfl, rfl, by simp [Lib.decFrom], by simp, by go_grown⟩
        case round =>
          obtain ⟨k, v, hfk, hkn, rfl, rfl, hv, hvb, hB⟩ := hrel
          have HB := Lib.hid hB
          have HV := Lib.hid hv
          have hp8 : 10 ^ (k - 1) ≤ 10 ^ 8 := Nat.pow_le_pow_right (by decide) (by omega)
          have hv8 : v ≤ 100000000 := by have : (10 : Nat) ^ 8 = 100000000 := rfl; omega
          have hk0 : (0 : Int) ≤ k := by omega
          have hv0 : (0 : Int) ≤ v := by omega
          have hv9 : (v : Int) ≤ 100000000 := by omega
          clear hv hB
          by_cases hk : k < s.length
          · obtain ⟨b, hb⟩ : ∃ b, s[k]? = some b := ⟨_, List.getElem?_eq_getElem hk⟩
            have hgb : ∀ h, (⟨s.toArray⟩ : ByteArray)[k]'h = b := fun h => by
              have : s[k] = b := (List.getElem?_eq_some_iff.1 hb).2
              exact this
            have hkI : (k : Int) < (s.length : Int) := by omega
            have hk3 : (k : Int) ≤ 8 := by omega
            have hbu : b.toNat < 256 := UInt8.toNat_lt b
            by_cases hd : 48 ≤ b.toNat ∧ b.toNat ≤ 57
            · obtain ⟨c, hc⟩ : ∃ c : Nat, b.toNat = 48 + c := ⟨b.toNat - 48, by omega⟩
              have hc9 : c ≤ 9 := by omega
              have hnx : Lib.decFrom 0 ((s.drop 1).take (k + 1 - 1)) = some (v * 10 + c) := by
                have e1 : (s.drop 1).take (k + 1 - 1) = (s.drop 1).take (k - 1) ++ [b] := by
                  rw [show k + 1 - 1 = (k - 1) + 1 by omega, List.take_add_one, List.getElem?_drop, show 1 + (k - 1) = k by omega, hb]
                  rfl
                rw [e1]
                have := decFrom_snoc b _ 0 v HV.out _ (digit_val hd)
                rwa [show b.toNat - 48 = c by omega] at this
              have hbd : v * 10 + c < 10 ^ (k + 1 - 1) := by
                rw [show k + 1 - 1 = (k - 1) + 1 by omega, Nat.pow_succ]
                omega
              have HNX := Lib.hid hnx
              have HBD := Lib.hid hbd
              have hbI : ((b.toNat : Nat) : Int) = 48 + (c : Int) := by omega
              have hcI : (c : Int) ≤ 9 := by omega
              have hc0 : (0 : Int) ≤ c := by omega
              have hg1 : ¬ ((48 : Int) + c < 48) := by omega
              have hg2 : ¬ ((57 : Int) < 48 + c) := by omega
              have hq : (10 : Int) * v + (48 + c) - 48 = ((v * 10 + c : Nat) : Int) := by omega
              clear hnx hbd hvb hp8 hd hb hc
              go_wp2_with fail
              go_roundw
              case rel => exact ⟨k + 1, v * 10 + c, by omega, by omega, by go_num, by rw [← hq]; exact congrArg (Value.int .i64) (by omega), HNX.out, HBD.out, HB.out⟩
              case measure => simp [intOf]; omega
            · have hN := none_byte HF.out hfk hb hd
              by_cases hlo : b.toNat < 48
              · have hloI : ((b.toNat : Nat) : Int) < 48 := by omega
                clear hp8 hvb hb
                go_wp2_with fail
                go_ret
                exact ⟨_, rfl, hN, HB.out⟩
              · have hloI : ¬ ((b.toNat : Nat) : Int) < 48 := by omega
                have hhiI : (57 : Int) < ((b.toNat : Nat) : Int) := by omega
                clear hp8 hvb hb
                go_wp2_with fail
                go_ret
                exact ⟨_, rfl, hN, HB.out⟩
          · obtain rfl : k = s.length := by omega
            have hv : Lib.decFrom 0 (s.drop 1) = some v := by
              have := HV.out
              rwa [List.take_of_length_le (by rw [List.length_drop]; exact Nat.le_refl _)] at this
            clear HV hp8 hvb
            by_cases hbig : 1000000 < v
            · have hN := val_big HF.out hv hbig
              have hbI : (1000000 : Int) < (v : Int) := by omega
              clear hv
              go_wp2_with fail
              go_ret
              exact ⟨_, rfl, hN, HB.out⟩
            · have hbI : ¬ (1000000 : Int) < (v : Int) := by omega
              obtain ⟨x, hx⟩ : ∃ x : Int, x = -(v : Int) := ⟨_, rfl⟩
              have HDC := Lib.hid fun W => decimal_c x W ⟨by omega, by omega⟩
              have hx1 : -1000000 ≤ x := by omega
              have hx2 : x ≤ 1000000 := by omega
              by_cases hsame : itS x = s
              · have hN : NumR s x := .inr ⟨hx1, hx2, hsame⟩
                rw [hsame] at HDC
                have HX := Lib.hid hx
                clear hv hsame hx
                go_wp2_with fail
                rw [← HX.out]
                refine (HDC.out _).mono ?_
                rintro rr w4 ⟨rfl, hb4⟩
                have HB4 := Lib.hid (below_step HB.out hb4)
                clear hb4
                go_wp2_with fail
                go_ret
                exact ⟨_, rfl, hN, HB4.out⟩
              · have hN := val_other HF.out hv (x := x) (by rw [hx]; rfl) hsame
                have hne : (itS x == s) = false := by simpa using hsame
                have HX := Lib.hid hx
                clear hv hsame hx
                go_wp2_with fail
                rw [← HX.out]
                refine (HDC.out _).mono ?_
                rintro rr w4 ⟨rfl, hb4⟩
                have HB4 := Lib.hid (below_step HB.out hb4)
                clear hb4
                go_wp2_with fail
                go_ret
                exact ⟨_, rfl, hN, HB4.out⟩
      · have HF : Hid (From s 0) := Lib.hid (.inr ⟨by rw [hb0]; simpa using h45, rfl⟩)
        have h45I : ¬ ((b0.toNat : Int) = 45) := fun e => h45 (UInt8.toNat_inj.1 (by simpa using (by omega : b0.toNat = 45)))
        clear hb0
        go_enter Tryz.func64, Tryz.ntmps64
        go_wp2_with fail
        go_loopw [3, 5] (fun nv i wr => ∃ (k v : Nat), 0 ≤ k ∧ k ≤ s.length ∧ i = .int .i64 (k : Int) ∧ nv = .int .i64 (v : Int) ∧ Lib.decFrom 0 ((s.drop 0).take (k - 0)) = some v ∧ v < 10 ^ (k - 0) ∧ Below w.heap.size w wr)
          (fun _ i wr => s.length - (intOf i).toNat)
        case atStart => exact ⟨0, 0, Nat.le_refl _, by omega, rfl, rfl, by simp [Lib.decFrom], by simp, by go_grown⟩
        case round =>
          obtain ⟨k, v, hfk, hkn, rfl, rfl, hv, hvb, hB⟩ := hrel
          have HB := Lib.hid hB
          have HV := Lib.hid hv
          have hp8 : 10 ^ (k - 0) ≤ 10 ^ 8 := Nat.pow_le_pow_right (by decide) (by omega)
          have hv8 : v ≤ 100000000 := by have : (10 : Nat) ^ 8 = 100000000 := rfl; omega
          have hk0 : (0 : Int) ≤ k := by omega
          have hv0 : (0 : Int) ≤ v := by omega
          have hv9 : (v : Int) ≤ 100000000 := by omega
          clear hv hB
          by_cases hk : k < s.length
          · obtain ⟨b, hb⟩ : ∃ b, s[k]? = some b := ⟨_, List.getElem?_eq_getElem hk⟩
            have hgb : ∀ h, (⟨s.toArray⟩ : ByteArray)[k]'h = b := fun h => by
              have : s[k] = b := (List.getElem?_eq_some_iff.1 hb).2
              exact this
            have hkI : (k : Int) < (s.length : Int) := by omega
            have hk3 : (k : Int) ≤ 8 := by omega
            have hbu : b.toNat < 256 := UInt8.toNat_lt b
            by_cases hd : 48 ≤ b.toNat ∧ b.toNat ≤ 57
            · obtain ⟨c, hc⟩ : ∃ c : Nat, b.toNat = 48 + c := ⟨b.toNat - 48, by omega⟩
              have hc9 : c ≤ 9 := by omega
              have hnx : Lib.decFrom 0 ((s.drop 0).take (k + 1 - 0)) = some (v * 10 + c) := by
                have e1 : (s.drop 0).take (k + 1 - 0) = (s.drop 0).take (k - 0) ++ [b] := by
                  rw [show k + 1 - 0 = (k - 0) + 1 by omega, List.take_add_one, List.getElem?_drop, show 0 + (k - 0) = k by omega, hb]
                  rfl
                rw [e1]
                have := decFrom_snoc b _ 0 v HV.out _ (digit_val hd)
                rwa [show b.toNat - 48 = c by omega] at this
              have hbd : v * 10 + c < 10 ^ (k + 1 - 0) := by
                rw [show k + 1 - 0 = (k - 0) + 1 by omega, Nat.pow_succ]
                omega
              have HNX := Lib.hid hnx
              have HBD := Lib.hid hbd
              have hbI : ((b.toNat : Nat) : Int) = 48 + (c : Int) := by omega
              have hcI : (c : Int) ≤ 9 := by omega
              have hc0 : (0 : Int) ≤ c := by omega
              have hg1 : ¬ ((48 : Int) + c < 48) := by omega
              have hg2 : ¬ ((57 : Int) < 48 + c) := by omega
              have hq : (10 : Int) * v + (48 + c) - 48 = ((v * 10 + c : Nat) : Int) := by omega
              clear hnx hbd hvb hp8 hd hb hc
              go_wp2_with fail
              go_roundw
              case rel => exact ⟨k + 1, v * 10 + c, by omega, by omega, by go_num, by rw [← hq]; exact congrArg (Value.int .i64) (by omega), HNX.out, HBD.out, HB.out⟩
              case measure => simp [intOf]; omega
            · have hN := none_byte HF.out hfk hb hd
              by_cases hlo : b.toNat < 48
              · have hloI : ((b.toNat : Nat) : Int) < 48 := by omega
                clear hp8 hvb hb
                go_wp2_with fail
                go_ret
                exact ⟨_, rfl, hN, HB.out⟩
              · have hloI : ¬ ((b.toNat : Nat) : Int) < 48 := by omega
                have hhiI : (57 : Int) < ((b.toNat : Nat) : Int) := by omega
                clear hp8 hvb hb
                go_wp2_with fail
                go_ret
                exact ⟨_, rfl, hN, HB.out⟩
          · obtain rfl : k = s.length := by omega
            have hv : Lib.decFrom 0 (s.drop 0) = some v := by
              have := HV.out
              rwa [List.take_of_length_le (by rw [List.length_drop]; exact Nat.le_refl _)] at this
            clear HV hp8 hvb
            by_cases hbig : 1000000 < v
            · have hN := val_big HF.out hv hbig
              have hbI : (1000000 : Int) < (v : Int) := by omega
              clear hv
              go_wp2_with fail
              go_ret
              exact ⟨_, rfl, hN, HB.out⟩
            · have hbI : ¬ (1000000 : Int) < (v : Int) := by omega
              obtain ⟨x, hx⟩ : ∃ x : Int, x = (v : Int) := ⟨_, rfl⟩
              have HDC := Lib.hid fun W => decimal_c x W ⟨by omega, by omega⟩
              have hx1 : -1000000 ≤ x := by omega
              have hx2 : x ≤ 1000000 := by omega
              by_cases hsame : itS x = s
              · have hN : NumR s x := .inr ⟨hx1, hx2, hsame⟩
                rw [hsame] at HDC
                have HX := Lib.hid hx
                clear hv hsame hx
                go_wp2_with fail
                rw [← HX.out]
                refine (HDC.out _).mono ?_
                rintro rr w4 ⟨rfl, hb4⟩
                have HB4 := Lib.hid (below_step HB.out hb4)
                clear hb4
                go_wp2_with fail
                go_ret
                exact ⟨_, rfl, hN, HB4.out⟩
              · have hN := val_other HF.out hv (x := x) (by rw [hx]; rfl) hsame
                have hne : (itS x == s) = false := by simpa using hsame
                have HX := Lib.hid hx
                clear hv hsame hx
                go_wp2_with fail
                rw [← HX.out]
                refine (HDC.out _).mono ?_
                rintro rr w4 ⟨rfl, hb4⟩
                have HB4 := Lib.hid (below_step HB.out hb4)
                clear hb4
                go_wp2_with fail
                go_ret
                exact ⟨_, rfl, hN, HB4.out⟩
end Go.Proofs.YtpcefaccoifejaaGreatDoor
