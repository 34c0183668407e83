/-
  The contract of session.number. Conditions: the library's tables and variables lie in the world; the word is at most 1000000 bytes long.
-/
import Derived.Test.YtpcefaccoifejaaGreatDoorTXP
namespace Go.Proofs.YtpcefaccoifejaaGreatDoor
open Go.RowKit
set_option linter.unusedSimpArgs false
set_option linter.unusedVariables false
set_option maxRecDepth 100000

theorem atoiO_eq (s : List UInt8) : atoiO ⟨s.toArray⟩ = (match Lib.atoiAll s with | .ok v => some v | _ => none) := by
  unfold atoiO
  show (match Lib.atoiAll s with | .ok v => some v | _ => none) = _
  cases Lib.atoiAll s <;> rfl
theorem numOf_eq (s : List UInt8) : numOf s = (match atoiO ⟨s.toArray⟩ with | some v => if -1000000 ≤ v ∧ v ≤ 1000000 then some v else none | none => none) := by
  rw [atoiO_eq]
  unfold numOf
  cases Lib.atoiAll s <;> rfl
theorem number_c (s : List UInt8) (w : World) (hs : s.length ≤ 1000000) (he : Env w) :
    Calls Tryz.prog 62 #[.string ⟨s.toArray⟩] w fun e w' => ∃ n : Int, e = .returned (.tuple #[.int .i64 n, .bool (numOf s).isSome]) ∧ (∀ v, numOf s = some v → n = v) ∧ Below w.heap.size w w' := by
  have HA := Lib.hid fun W (hb : Below w.heap.size w W) => Atoi_c ⟨s.toArray⟩ W (by simp [ByteArray.size]; omega) (he.below hb)
  rw [numOf_eq]
  clear he
  generalize atoiO ⟨s.toArray⟩ = O at *
  cases O with
  | none =>
    go_enter Tryz.func62, Tryz.ntmps62
    go_wp2_with fail
    refine (HA.out _ (by show Below _ _ _; go_grown)).mono ?_
    rintro e w1 ⟨⟨x, t, a, rfl⟩, hb1⟩
    have HB1 : Hid (Below w.heap.size w w1) := hb1
    clear hb1
    go_wp2
    go_ret2
    exact ⟨x, rfl, (fun v hv => nomatch hv), HB1.out⟩
  | some v =>
    by_cases hb : -1000000 ≤ v ∧ v ≤ 1000000
    · simp only [if_pos hb]
      obtain ⟨h1, h2⟩ := hb
      go_enter Tryz.func62, Tryz.ntmps62
      go_wp2_with fail
      refine (HA.out _ (by show Below _ _ _; go_grown)).mono ?_
      rintro e w1 ⟨rfl, hb1⟩
      have HB1 : Hid (Below w.heap.size w w1) := hb1
      clear hb1
      go_wp2
      go_ret2
      exact ⟨v, rfl, fun u hu => Option.some.inj hu, HB1.out⟩
    · simp only [if_neg hb]
      by_cases h1 : -1000000 ≤ v
      · have h2 : ¬ v ≤ 1000000 := fun h => hb ⟨h1, h⟩
        clear hb
        go_enter Tryz.func62, Tryz.ntmps62
        go_wp2_with fail
        refine (HA.out _ (by show Below _ _ _; go_grown)).mono ?_
        rintro e w1 ⟨rfl, hb1⟩
        have HB1 : Hid (Below w.heap.size w w1) := hb1
        clear hb1
        go_wp2
        go_ret2
        exact ⟨v, by simp [h2], (fun u hu => nomatch hu), HB1.out⟩
      · clear hb
        go_enter Tryz.func62, Tryz.ntmps62
        go_wp2_with fail
        refine (HA.out _ (by show Below _ _ _; go_grown)).mono ?_
        rintro e w1 ⟨rfl, hb1⟩
        have HB1 : Hid (Below w.heap.size w w1) := hb1
        clear hb1
        go_wp2
        go_ret2
        exact ⟨⟨v, rfl⟩, HB1.out⟩
theorem idxOf_first : ∀ (zs : List (List UInt8)) (k : Nat) (l : List UInt8), zs[k]? = some l → (∀ j m, j < k → zs[j]? = some m → m ≠ l) → zs.idxOf l = k
  | [], k, l, h, _ => by simp at h
  | z :: zs, 0, l, h, _ => by
    simp only [List.getElem?_cons_zero, Option.some.injEq] at h
    rw [h]
    simp
  | z :: zs, k + 1, l, h, hne => by
    have hz := hne 0 z (by omega) rfl
    have hb : (z == l) = false := by simpa using hz
    rw [List.idxOf_cons, hb, idxOf_first zs k l (by simpa using h) (fun j m hj hm => hne (j + 1) m (by omega) (by simpa using hm))]
    rfl
theorem Index_c (b n c : Nat) (zs : List (List UInt8)) (x : List UInt8) (w : World) (hn : n = zs.length) (hbig : n ≤ 1000000) (hc : ∀ j l, zs[j]? = some l → w.cell? ⟨b, 0 + j, none⟩ = some (.string ⟨l.toArray⟩)) :
    Calls Tryz.prog 61 #[.slice (some ⟨b, 0, none⟩) n c, .string ⟨x.toArray⟩] w fun e w' => e = .returned (.int .i64 (if x ∈ zs then (zs.idxOf x : Int) else -1)) ∧ w' = w := by
  have HR1 : Hid (∀ k : Nat, zs[k]? = some x → (∀ (j : Nat) (m : List UInt8), j < k → zs[j]? = some m → m ≠ x) → (if x ∈ zs then (zs.idxOf x : Int) else -1) = (k : Int)) := fun k h1 h2 => by
    rw [if_pos (List.mem_of_getElem? h1), idxOf_first zs k x h1 h2]
  have HR2 : Hid (x ∉ zs → (if x ∈ zs then (zs.idxOf x : Int) else -1) = -1) := fun h => if_neg h
  generalize (if x ∈ zs then (zs.idxOf x : Int) else -1) = R at *
  go_enter Tryz.func61, Tryz.ntmps61
  go_wp2
  go_loop [5, 8] (fun _ i => ∃ k : Nat, k ≤ n ∧ i = .int .i64 k ∧ ∀ j l, j < k → zs[j]? = some l → l ≠ x) (fun _ i => match i with | .int _ m => n - m.toNat | _ => 0)
  case atStart => exact ⟨0, Nat.zero_le _, rfl, fun j l hj => absurd hj (Nat.not_lt_zero _)⟩
  case round =>
    obtain ⟨k, hk, rfl, hne⟩ := hrel
    by_cases hlt : k < n
    · obtain ⟨l, hl⟩ : ∃ l, zs[k]? = some l := ⟨_, List.getElem?_eq_getElem (by omega)⟩
      have hcell := hc k l hl
      rw [Nat.zero_add] at hcell
      by_cases e : l = x
      · subst e
        have hR := HR1.out k hl hne
        go_wp2
        go_ret
        exact ⟨rfl, rfl⟩
      · have hx : (x == l) = false := by simpa using fun h => e h.symm
        go_wp2
        refine ⟨⟨k + 1, by omega, by simp, fun j m hj hm => ?_⟩, by simp only; omega⟩
        by_cases ej : j = k
        · subst ej
          rw [hl] at hm
          rw [← Option.some.inj hm]
          exact e
        · exact hne j m (by omega) hm
    · obtain rfl : k = n := by omega
      have hno : x ∉ zs := fun hm => by
        obtain ⟨j, hj, hm⟩ := List.getElem_of_mem hm
        exact hne j _ (by omega) (List.getElem?_eq_getElem hj) hm
      have hR := HR2.out hno
      go_wp2
      go_ret
      exact ⟨rfl, rfl⟩
end Go.Proofs.YtpcefaccoifejaaGreatDoor
