/-
  Names of intervals, byte by byte, and the contract of tone.Read. Condition: the text is no longer than any text can be.
-/
import Derived.Test.YthfclapnkemjiaaGreatDoorTrans2
namespace Go.Proofs.YthfclapnkemjiaaGreatDoor
open Go.RowKit
set_option linter.unusedSimpArgs false
set_option linter.unusedVariables false

def qualL (p : Bool) (d : Int) : Option UInt8 :=
  if p = true then (if d = 1 then some 65 else if d = 0 then some 80 else if d = -1 then some 100 else none)
  else (if d = 1 then some 65 else if d = 0 then some 77 else if d = -1 then some 109 else if d = -2 then some 100 else none)
def mkB (l : List UInt8) : ByteArray := ⟨l.toArray⟩
theorem qual_eq (p : Bool) (d : Int) : qual p d = (qualL p d).map (fun q => mkB [q]) := by
  unfold qual qualL updS
  cases p <;> simp only [if_true, Bool.false_eq_true, if_false]
  · by_cases h1 : d = 1
    · simp only [if_pos h1]; rfl
    · by_cases h2 : d = 0
      · simp only [if_neg h1, if_pos h2]; rfl
      · by_cases h3 : d = -1
        · simp only [if_neg h1, if_neg h2, if_pos h3]; rfl
        · by_cases h4 : d = -2
          · simp only [if_neg h1, if_neg h2, if_neg h3, if_pos h4]; rfl
          · simp only [if_neg h1, if_neg h2, if_neg h3, if_neg h4]; rfl
  · by_cases h1 : d = 1
    · simp only [if_pos h1]; rfl
    · by_cases h2 : d = 0
      · simp only [if_neg h1, if_pos h2]; rfl
      · by_cases h3 : d = -1
        · simp only [if_neg h1, if_neg h2, if_pos h3]; rfl
        · simp only [if_neg h1, if_neg h2, if_neg h3]; rfl
def upL (st se : Int) : Option (List UInt8) := (qualL (perf st) (se - nat7 st)).map (fun q => q :: decL (st + 1).toNat)
/-- the name of an interval, byte by byte -/
def titleL (st se : Int) : Option (List UInt8) :=
  if st < -69 ∨ 69 < st ∨ se < -200 ∨ 200 < se then none
  else if st < 0 ∨ (st = 0 ∧ se < 0) then (upL (-st) (-se)).map (45 :: ·) else upL st se
theorem upT_eq (st se : Int) : upT st se = (upL st se).map mkB := by
  unfold upT upL
  rw [qual_eq]
  cases qualL (perf st) (se - nat7 st) with
  | none => rfl
  | some q =>
    simp only [Option.map_some]
    exact congrArg some (mk_add [q] (decL (st + 1).toNat))
theorem titleT_eq (st se : Int) : titleT st se = (titleL st se).map mkB := by
  unfold titleT titleL
  split
  · rfl
  · split
    · rw [upT_eq]
      cases upL (-st) (-se) with
      | none => rfl
      | some l =>
        simp only [Option.map_some]
        exact congrArg some (mk_add [45] l)
    · exact upT_eq st se
theorem qualL_bd {p : Bool} {d : Int} {q : UInt8} (h : qualL p d = some q) : -2 ≤ d ∧ d ≤ 1 ∧ q ≠ 45 := by
  unfold qualL at h
  cases p <;> simp only [if_true, Bool.false_eq_true, if_false] at h
  · split at h
    · injection h with h; subst h; exact ⟨by omega, by omega, by decide⟩
    · split at h
      · injection h with h; subst h; exact ⟨by omega, by omega, by decide⟩
      · split at h
        · injection h with h; subst h; exact ⟨by omega, by omega, by decide⟩
        · split at h
          · injection h with h; subst h; exact ⟨by omega, by omega, by decide⟩
          · cases h
  · split at h
    · injection h with h; subst h; exact ⟨by omega, by omega, by decide⟩
    · split at h
      · injection h with h; subst h; exact ⟨by omega, by omega, by decide⟩
      · split at h
        · injection h with h; subst h; exact ⟨by omega, by omega, by decide⟩
        · cases h
theorem qualL_in : ∀ p : Bool, ∀ d ∈ ([-2, -1, 0, 1] : List Int), ∀ e ∈ ([-2, -1, 0, 1] : List Int), qualL p d = qualL p e → (qualL p d).isSome = true → d = e := by decide
theorem qualL_inj {p : Bool} {d e : Int} {q : UInt8} (h : qualL p d = some q) (k : qualL p e = some q) : d = e := by
  have h1 := qualL_bd h
  have h2 := qualL_bd k
  exact qualL_in p d (by simp only [List.mem_cons, List.not_mem_nil, or_false]; omega) e (by simp only [List.mem_cons, List.not_mem_nil, or_false]; omega) (h.trans k.symm) (by rw [h]; rfl)
theorem decL_in : ∀ a, a < 100 → ∀ b, b < 100 → decL a = decL b → a = b := by decide +kernel
theorem upL_inj {st se st2 se2 : Int} {l : List UInt8} (h : upL st se = some l) (k : upL st2 se2 = some l) (h0 : 0 ≤ st) (h1 : st ≤ 69) (k0 : 0 ≤ st2) (k1 : st2 ≤ 69) : st = st2 ∧ se = se2 := by
  unfold upL at h k
  cases hq : qualL (perf st) (se - nat7 st) with
  | none => rw [hq] at h; cases h
  | some q =>
    cases hr : qualL (perf st2) (se2 - nat7 st2) with
    | none => rw [hr] at k; cases k
    | some r =>
      rw [hq] at h
      rw [hr] at k
      injection h with h
      injection k with k
      rw [← k] at h
      injection h with e1 e2
      have e3 := decL_in _ (by omega) _ (by omega) e2
      have e4 : st = st2 := by omega
      subst e4
      subst e1
      have := qualL_inj hq hr
      exact ⟨rfl, by omega⟩
theorem upL_bd {st se : Int} {l : List UInt8} (h : upL st se = some l) : nat7 st - 2 ≤ se ∧ se ≤ nat7 st + 1 ∧ l.head? ≠ some 45 := by
  unfold upL at h
  cases hq : qualL (perf st) (se - nat7 st) with
  | none => rw [hq] at h; cases h
  | some q =>
    rw [hq] at h
    injection h with h
    have := qualL_bd hq
    subst h
    exact ⟨by omega, by omega, fun h => this.2.2 (by injection h)⟩
theorem titleL_inj {st se st2 se2 : Int} {l : List UInt8} (h : titleL st se = some l) (k : titleL st2 se2 = some l) : st = st2 ∧ se = se2 := by
  unfold titleL at h k
  split at h
  · cases h
  · split at k
    · cases k
    · split at h
      · cases hu : upL (-st) (-se) with
        | none => rw [hu] at h; cases h
        | some u =>
          rw [hu] at h
          injection h with h
          split at k
          · cases hv : upL (-st2) (-se2) with
            | none => rw [hv] at k; cases k
            | some v =>
              rw [hv] at k
              injection k with k
              rw [← k] at h
              injection h with e1 e2
              subst e2
              have := upL_inj hu hv (by omega) (by omega) (by omega) (by omega)
              omega
          · have := (upL_bd k).2.2
            rw [← h] at this
            exact absurd rfl this
      · split at k
        · cases hv : upL (-st2) (-se2) with
          | none => rw [hv] at k; cases k
          | some v =>
            rw [hv] at k
            injection k with k
            have := (upL_bd h).2.2
            rw [← k] at this
            exact absurd rfl this
        · exact upL_inj h k (by omega) (by omega) (by omega) (by omega)
/-- the middle of the intervals of so many steps -/
def mid (n : Int) : Int := if n < 0 then -nat7 (-n) else nat7 n
theorem titleL_bd {st se : Int} {l : List UInt8} (h : titleL st se = some l) : -69 ≤ st ∧ st ≤ 69 ∧ mid st - 2 ≤ se ∧ se ≤ mid st + 2 := by
  unfold titleL at h
  split at h
  · cases h
  · split at h
    · cases hu : upL (-st) (-se) with
      | none => rw [hu] at h; cases h
      | some u =>
        have := upL_bd hu
        unfold mid
        split
        · omega
        · have e : st = 0 := by omega
          subst e
          have e0 : nat7 0 = 0 := rfl
          rw [show -(0 : Int) = 0 from rfl, e0] at this
          rw [e0]
          omega
    · have := upL_bd h
      unfold mid
      split
      · omega
      · omega
theorem mkB_inj {a b : List UInt8} (h : mkB a = mkB b) : a = b := by
  have : (mkB a).data.toList = (mkB b).data.toList := by rw [h]
  simpa [mkB] using this
theorem titleT_inj {st se st2 se2 : Int} {s : ByteArray} (h : titleT st se = some s) (k : titleT st2 se2 = some s) : st = st2 ∧ se = se2 := by
  rw [titleT_eq] at h k
  cases hu : titleL st se with
  | none => rw [hu] at h; cases h
  | some u =>
    cases hv : titleL st2 se2 with
    | none => rw [hv] at k; cases k
    | some v =>
      rw [hu] at h
      rw [hv] at k
      injection h with h
      injection k with k
      obtain rfl := mkB_inj (h.trans k.symm)
      exact titleL_inj hu hv
theorem titleT_bd {st se : Int} {s : ByteArray} (h : titleT st se = some s) : -69 ≤ st ∧ st ≤ 69 ∧ mid st - 2 ≤ se ∧ se ≤ mid st + 2 := by
  rw [titleT_eq] at h
  cases hu : titleL st se with
  | none => rw [hu] at h; cases h
  | some u => exact titleL_bd hu

theorem nat7_200 (s : Int) (h0 : 0 ≤ s) (h1 : s ≤ 69) : 0 ≤ nat7 s ∧ nat7 s ≤ 200 := by
  unfold nat7
  have : ∀ k, k < 7 → 0 ≤ ([0, 2, 4, 5, 7, 9, 11] : List Int).getD k 0 ∧ ([0, 2, 4, 5, 7, 9, 11] : List Int).getD k 0 ≤ 11 := by decide
  have := this (s % 7).toNat (by omega)
  omega
/-- what stands in the block of the result, and what lies below it -/
structure RdS (w wr : World) : Prop where
  r0 : wr.cell? ⟨w.heap.size, 0, none⟩ = some (.int .i64 0)
  r1 : wr.cell? ⟨w.heap.size, 1, none⟩ = some (.int .i64 0)
  z0 : wr.frozen? ⟨w.heap.size, 0, none⟩ = false
  z1 : wr.frozen? ⟨w.heap.size, 1, none⟩ = false
  lt : w.heap.size < wr.heap.size
  hB : Below w.heap.size w wr
theorem RdS.next {w wr W : World} (h : RdS w wr) (hb : Below wr.heap.size wr W) : RdS w W :=
  ⟨(hb.cell (p := ⟨w.heap.size, 0, none⟩) h.lt).trans h.r0, (hb.cell (p := ⟨w.heap.size, 1, none⟩) h.lt).trans h.r1, (hb.frozen (p := ⟨w.heap.size, 0, none⟩) h.lt).trans h.z0, (hb.frozen (p := ⟨w.heap.size, 1, none⟩) h.lt).trans h.z1,
    Nat.lt_of_lt_of_le h.lt hb.size, below_step h.hB hb⟩
set_option maxRecDepth 100000 in
set_option maxHeartbeats 4000000 in
theorem Read_c (s : ByteArray) (x y z : Int) (w : World) (HY : Hid (∀ st se, titleT st se = some s → x = st ∧ y = se ∧ z = 0)) (HN : Hid ((∀ st se, titleT st se ≠ some s) → x = 0 ∧ y = 0 ∧ z = 5)) :
    Calls Tryz.prog 57 #[.string s] w fun e w' => e = .returned (.tuple #[.agg #[.int .i64 x, .int .i64 y], .int .i64 z]) ∧ Below w.heap.size w w' := by
  go_enter Tryz.func57, Tryz.ntmps57
  go_wp2_with fail
  go_loopw [4] (fun i wr => ∃ n : Int, -69 ≤ n ∧ n ≤ 70 ∧ i = .int .i64 n ∧ Hid (∀ st se, titleT st se = some s → n ≤ st) ∧ RdS w wr) (fun i _ => (70 - intOf i).toNat)
  case atStart => exact ⟨-69, by omega, by omega, rfl, fun st se h => (titleT_bd h).1, by go_simp, by go_simp, by go_simp, by go_simp, by simp, by go_grown⟩
  case round =>
    obtain ⟨n, hn0, hn1, rfl, HI, hR⟩ := hrel
    by_cases hlt : n < 70
    · obtain ⟨m, hm, HM⟩ : ∃ m, (m = if n < 0 then -n else n) ∧ Hid (mid n = if n < 0 then -nat7 m else nat7 m) := by
        refine ⟨_, rfl, ?_⟩
        unfold mid
        split <;> exact rfl
      have hm0 : 0 ≤ m := by rw [hm]; split <;> omega
      have hm1 : m ≤ 69 := by rw [hm]; split <;> omega
      have hb := nat7_200 m hm0 hm1
      have HC := Lib.hid fun w => natural_c m w hm0 (by omega)
      generalize nat7 m = v at *
      by_cases hneg : n < 0
      · rw [if_pos hneg] at hm HM
        subst hm
        go_wp2_with fail
        refine (HC.out _).mono ?_
        rintro e w1 ⟨rfl, hb1⟩
        have hR1 := hR.next hb1
        have HS : Hid (∀ st se, titleT st se = some s → n < st ∨ (n = st ∧ -v - 2 ≤ se)) := by
          intro st se h
          have h1 := HI.out st se h
          have h2 := titleT_bd h
          have h3 := HM.out
          rcases Int.lt_or_eq_of_le h1 with h4 | h4
          · exact .inl h4
          · subst h4; exact .inr ⟨rfl, by omega⟩
        clear hb1 hR HI HC
        go_wp2_with fail
        go_loopw [6] (fun j wr2 => ∃ q : Int, -v - 2 ≤ q ∧ q ≤ -v + 3 ∧ j = .int .i64 q ∧ Hid (∀ st se, titleT st se = some s → n < st ∨ (n = st ∧ q ≤ se)) ∧ RdS w wr2) (fun j _ => (-v + 3 - intOf j).toNat)
        case atStart => exact ⟨-v - 2, by omega, by omega, rfl, HS, hR1⟩
        case round =>
          clear HS hR1
          obtain ⟨q, hq0, hq1, rfl, HJ, hR2⟩ := hrel
          by_cases hlt2 : q ≤ -v + 2
          · have HT := fun w => Title_c n q w ⟨by omega, by omega⟩ ⟨by omega, by omega⟩
            have HJ2 : titleT n q ≠ some s → Hid (∀ st se, titleT st se = some s → n < st ∨ (n = st ∧ q + 1 ≤ se)) := by
              intro hne st se h
              rcases HJ.out st se h with h1 | ⟨h1, h2⟩
              · exact .inl h1
              · subst h1
                rcases Int.lt_or_eq_of_le h2 with h3 | h3
                · exact .inr ⟨rfl, by omega⟩
                · subst h3; exact absurd h hne
            clear HJ
            cases ht : titleT n q with
            | none =>
              rw [ht] at HT
              have HJ3 := HJ2 (by rw [ht]; exact fun h => by cases h)
              have HT2 : Hid (∀ w, Calls Tryz.prog 55 #[.agg #[.int .i64 n, .int .i64 q]] w fun e w' => e = .returned (.tuple #[.string ByteArray.empty, .int .i64 8]) ∧ Below w.heap.size w w') := HT
              clear HT HJ2 ht
              go_wp2_with fail
              refine (HT2.out _).mono ?_
              rintro e w2 ⟨rfl, hb2⟩
              have hR3 := hR2.next hb2
              clear hb2 hR2
              go_wp2_with fail
              go_roundw
              case rel => exact ⟨q + 1, by omega, by omega, by go_num, HJ3, hR3⟩
              case measure => simp [intOf]; omega
            | some t =>
              rw [ht] at HT
              have HT2 : Hid (∀ w, Calls Tryz.prog 55 #[.agg #[.int .i64 n, .int .i64 q]] w fun e w' => e = .returned (.tuple #[.string t, .int .i64 0]) ∧ Below w.heap.size w w') := HT
              clear HT
              by_cases he : t = s
              · subst he
                obtain ⟨hx, hy, hz⟩ := HY.out n q ht
                have HXYZ : Hid (x = n ∧ y = q ∧ z = 0) := ⟨hx, hy, hz⟩
                clear hx hy hz HJ2 ht
                go_wp2_with fail
                refine (HT2.out _).mono ?_
                rintro e w2 ⟨rfl, hb2⟩
                obtain ⟨r0, r1, z0, z1, hlt3, hB3⟩ := hR2.next hb2
                clear hb2 hR2
                go_wp2_with fail
                (try simp only [Exit.inBlock, Exit.then]); refine bodyPost_ret (by simp [results, Tryz.results57, go_sem, *]; try rfl) rfl ?_
                obtain ⟨hx, hy, hz⟩ := HXYZ.out
                exact ⟨by rw [hx, hy, hz], by go_grown⟩
              · have HJ3 := HJ2 (by rw [ht]; exact fun h => he (by injection h))
                have hq : (t.toList == s.toList) = false := beq_eq_false_iff_ne.2 (fun h => he (Go.WideShapes.bytes_inj (by rw [← ByteArray.toList_eq, ← ByteArray.toList_eq]; exact h)))
                clear HJ2 ht he
                go_wp2_with fail
                refine (HT2.out _).mono ?_
                rintro e w2 ⟨rfl, hb2⟩
                have hR3 := hR2.next hb2
                clear hb2 hR2
                go_wp2_with fail
                go_roundw
                case rel => exact ⟨q + 1, by omega, by omega, by go_num, HJ3, hR3⟩
                case measure => simp [intOf]; omega
          · have HI2 : Hid (∀ st se, titleT st se = some s → n + 1 ≤ st) := by
              intro st se h
              have h2 := titleT_bd h
              have h3 := HM.out
              rcases HJ.out st se h with h1 | ⟨h1, h4⟩
              · omega
              · subst h1; omega
            clear HJ
            go_wp2_with fail
            go_roundw
            case rel => exact ⟨n + 1, by omega, by omega, by go_num, HI2, hR2⟩
            case measure => simp [intOf]; omega
      · rw [if_neg hneg] at hm HM
        have hmn : n = m := hm.symm
        clear hm
        subst hmn
        go_wp2_with fail
        refine (HC.out _).mono ?_
        rintro e w1 ⟨rfl, hb1⟩
        have hR1 := hR.next hb1
        have HS : Hid (∀ st se, titleT st se = some s → n < st ∨ (n = st ∧ v - 2 ≤ se)) := by
          intro st se h
          have h1 := HI.out st se h
          have h2 := titleT_bd h
          have h3 := HM.out
          rcases Int.lt_or_eq_of_le h1 with h4 | h4
          · exact .inl h4
          · subst h4; exact .inr ⟨rfl, by omega⟩
        clear hb1 hR HI HC
        go_wp2_with fail
        go_loopw [6] (fun j wr2 => ∃ q : Int, v - 2 ≤ q ∧ q ≤ v + 3 ∧ j = .int .i64 q ∧ Hid (∀ st se, titleT st se = some s → n < st ∨ (n = st ∧ q ≤ se)) ∧ RdS w wr2) (fun j _ => (v + 3 - intOf j).toNat)
        case atStart => exact ⟨v - 2, by omega, by omega, rfl, HS, hR1⟩
        case round =>
          clear HS hR1
          obtain ⟨q, hq0, hq1, rfl, HJ, hR2⟩ := hrel
          by_cases hlt2 : q ≤ v + 2
          · have HT := fun w => Title_c n q w ⟨by omega, by omega⟩ ⟨by omega, by omega⟩
            have HJ2 : titleT n q ≠ some s → Hid (∀ st se, titleT st se = some s → n < st ∨ (n = st ∧ q + 1 ≤ se)) := by
              intro hne st se h
              rcases HJ.out st se h with h1 | ⟨h1, h2⟩
              · exact .inl h1
              · subst h1
                rcases Int.lt_or_eq_of_le h2 with h3 | h3
                · exact .inr ⟨rfl, by omega⟩
                · subst h3; exact absurd h hne
            clear HJ
            cases ht : titleT n q with
            | none =>
              rw [ht] at HT
              have HJ3 := HJ2 (by rw [ht]; exact fun h => by cases h)
              have HT2 : Hid (∀ w, Calls Tryz.prog 55 #[.agg #[.int .i64 n, .int .i64 q]] w fun e w' => e = .returned (.tuple #[.string ByteArray.empty, .int .i64 8]) ∧ Below w.heap.size w w') := HT
              clear HT HJ2 ht
              go_wp2_with fail
              refine (HT2.out _).mono ?_
              rintro e w2 ⟨rfl, hb2⟩
              have hR3 := hR2.next hb2
              clear hb2 hR2
              go_wp2_with fail
              go_roundw
              case rel => exact ⟨q + 1, by omega, by omega, by go_num, HJ3, hR3⟩
              case measure => simp [intOf]; omega
            | some t =>
              rw [ht] at HT
              have HT2 : Hid (∀ w, Calls Tryz.prog 55 #[.agg #[.int .i64 n, .int .i64 q]] w fun e w' => e = .returned (.tuple #[.string t, .int .i64 0]) ∧ Below w.heap.size w w') := HT
              clear HT
              by_cases he : t = s
              · subst he
                obtain ⟨hx, hy, hz⟩ := HY.out n q ht
                have HXYZ : Hid (x = n ∧ y = q ∧ z = 0) := ⟨hx, hy, hz⟩
                clear hx hy hz HJ2 ht
                go_wp2_with fail
                refine (HT2.out _).mono ?_
                rintro e w2 ⟨rfl, hb2⟩
                obtain ⟨r0, r1, z0, z1, hlt3, hB3⟩ := hR2.next hb2
                clear hb2 hR2
                go_wp2_with fail
                (try simp only [Exit.inBlock, Exit.then]); refine bodyPost_ret (by simp [results, Tryz.results57, go_sem, *]; try rfl) rfl ?_
                obtain ⟨hx, hy, hz⟩ := HXYZ.out
                exact ⟨by rw [hx, hy, hz], by go_grown⟩
              · have HJ3 := HJ2 (by rw [ht]; exact fun h => he (by injection h))
                have hq : (t.toList == s.toList) = false := beq_eq_false_iff_ne.2 (fun h => he (Go.WideShapes.bytes_inj (by rw [← ByteArray.toList_eq, ← ByteArray.toList_eq]; exact h)))
                clear HJ2 ht he
                go_wp2_with fail
                refine (HT2.out _).mono ?_
                rintro e w2 ⟨rfl, hb2⟩
                have hR3 := hR2.next hb2
                clear hb2 hR2
                go_wp2_with fail
                go_roundw
                case rel => exact ⟨q + 1, by omega, by omega, by go_num, HJ3, hR3⟩
                case measure => simp [intOf]; omega
          · have HI2 : Hid (∀ st se, titleT st se = some s → n + 1 ≤ st) := by
              intro st se h
              have h2 := titleT_bd h
              have h3 := HM.out
              rcases HJ.out st se h with h1 | ⟨h1, h4⟩
              · omega
              · subst h1; omega
            clear HJ
            go_wp2_with fail
            go_roundw
            case rel => exact ⟨n + 1, by omega, by omega, by go_num, HI2, hR2⟩
            case measure => simp [intOf]; omega
    · obtain rfl : n = 70 := by omega
      have HXYZ := Lib.hid (HN.out (fun st se h => by have h1 := titleT_bd h; have h2 := HI.out st se h; omega))
      obtain ⟨r0, r1, z0, z1, hlt3, hB3⟩ := hR
      clear HI
      go_wp2_with fail
      (try simp only [Exit.inBlock, Exit.then]); refine bodyPost_ret (by simp [results, Tryz.results57, go_sem, *]; try rfl) rfl ?_
      obtain ⟨hx, hy, hz⟩ := HXYZ.out
      exact ⟨by rw [hx, hy, hz], by go_grown⟩
end Go.Proofs.YthfclapnkemjiaaGreatDoor
