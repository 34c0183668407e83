/-
  The contract of custosref13.Parse. Conditions: the text is at most 200000 bytes long.
-/
import Derived.Test.YtpcefaccoifejaaGreatDoorZT7
import Derived.Test.YtpcefaccoifejaaGreatDoorKC
namespace Go.Proofs.YtpcefaccoifejaaGreatDoor
open Go.RowKit
set_option linter.unusedSimpArgs false
set_option linter.unusedVariables false
set_option maxRecDepth 100000

theorem zinfoRAct : Tryz.prog.info? 56 = some Tryz.t56 := by kernel_rfl
theorem cut_none (c : UInt8) (x : List UInt8) (h : c ∉ x) : Lib.cut x [c] = (x, [], false) := by
  unfold Lib.cut
  rw [index_none c x h, if_neg (by omega)]
theorem extract_range {s : List UInt8} {k j : Nat} : (⟨s.toArray⟩ : ByteArray).extract k j = ⟨((s.drop k).take (j - k)).toArray⟩ := by
  apply ByteArray.ext
  apply Array.toList_inj.1
  show ((⟨s.toArray⟩ : ByteArray).extract k j).data.toList = _
  rw [Lib.extract_data]
theorem cut_at {t : List UInt8} {k j : Nat} (hkj : k ≤ j) (hj : t[j]? = some 10) (hno : ∀ i, k ≤ i → i < j → t[i]? ≠ some 10) : Lib.cut (t.drop k) [10] = ((t.drop k).take (j - k), t.drop (j + 1), true) := by
  obtain ⟨hjl, hj2⟩ := List.getElem?_eq_some_iff.1 hj
  have e : t.drop k = (t.drop k).take (j - k) ++ 10 :: t.drop (j + 1) := by
    conv => lhs; rw [← List.take_append_drop (j - k) (t.drop k)]
    rw [List.drop_drop, show k + (j - k) = j by omega, List.drop_eq_getElem_cons hjl, hj2]
  have hn : (10 : UInt8) ∉ (t.drop k).take (j - k) := fun hm => by
    obtain ⟨i, hi, hi2⟩ := List.getElem_of_mem hm
    have hl : i < j - k := by rw [List.length_take] at hi; omega
    have : ((t.drop k).take (j - k))[i]? = some 10 := by rw [List.getElem?_eq_getElem hi, hi2]
    rw [List.getElem?_take, if_pos hl, List.getElem?_drop] at this
    exact hno (k + i) (by omega) (by omega) this
  conv => lhs; rw [e]
  exact cut_word 10 _ _ hn
theorem cut_end {t : List UInt8} {k : Nat} (hno : ∀ i, k ≤ i → i < t.length → t[i]? ≠ some 10) : Lib.cut (t.drop k) [10] = (t.drop k, [], false) := by
  refine cut_none 10 _ (fun hm => ?_)
  obtain ⟨i, hi, hi2⟩ := List.getElem_of_mem hm
  have : (t.drop k)[i]? = some 10 := by rw [List.getElem?_eq_getElem hi, hi2]
  rw [List.getElem?_drop] at this
  rw [List.length_drop] at hi
  exact hno (k + i) (by omega) (by omega) this
set_option maxHeartbeats 8000000 in
theorem rParse_c (t : List UInt8) (w : World) (ht : t.length ≤ 200000) :
    Calls Tryz.prog 10 #[.string ⟨t.toArray⟩] w fun e w' => ∃ v, e = .returned (.tuple #[v, .int .i64 ((parseO t).2.1 : Int), .int .i64 (parseO t).2.2]) ∧ ActsAt w' w.heap.size w'.heap.size v (parseO t).1 ∧ Below w.heap.size w w' := by
  have hI := Lib.hid zinfoRAct
  by_cases hbig : 131072 < t.length
  · have hP : parseO t = ([], 0, 4) := by unfold parseO; rw [if_pos hbig]
    rw [hP]
    have hbI : (131072 : Int) < (t.length : Int) := by omega
    go_enter Tryz.func10, Tryz.ntmps10
    go_wp2
    go_ret3
    exact ⟨_, rfl, ⟨none, 0, rfl, fun _ => rfl, Row.none _ _ _ _ _ _⟩, Below.refl _ _⟩
  · have hP : parseO t = parseGo t.length [] t := by unfold parseO; rw [if_neg hbig]
    have HP := Lib.hid hP
    have hbI : ¬ (131072 : Int) < (t.length : Int) := by omega
    generalize parseO t = PO at *
    clear hP hbig
    go_enter Tryz.func10, Tryz.ntmps10
    go_wp2_with fail
    go_loopw [5, 6] (fun ov kv wr => ∃ (f k : Nat) (acc : List Ac), kv = .int .i64 (k : Int) ∧ k ≤ t.length ∧ acc.length ≤ 4096 ∧ t.length - k ≤ f ∧ f ≤ 200000 ∧ PO = parseGo f acc (t.drop k) ∧ wr.ownsRow w.heap.size 56 7 ov acc.length (acc.flatMap acV) ∧ Below w.heap.size w wr)
      (fun _ kv _ => t.length - (intOf kv).toNat)
    case atStart => exact ⟨t.length, 0, [], rfl, Nat.zero_le _, by simp, by omega, ht, HP.out, World.ownsRow_nil _ _ _ _, by go_grown⟩
    case round =>
      obtain ⟨f, k, acc, rfl, hkl, hal, hrf, hf, hPO, hown, hB⟩ := hrel
      have HOWN := Lib.hid hown
      have HB := Lib.hid hB
      have HPO := Lib.hid hPO
      obtain ⟨pa, pc, rfl⟩ := own_shape hown
      clear hown hPO hB HP
      have hk0 : (0 : Int) ≤ k := by omega
      by_cases hk : k < t.length
      · obtain ⟨f, rfl⟩ : ∃ g, f = g + 1 := ⟨f - 1, by omega⟩
        have hr : t.drop k ≠ [] := fun e => by have := congrArg List.length e; rw [List.length_drop, List.length_nil] at this; omega
        have hkI : (k : Int) < (t.length : Int) := by omega
        have HNO := Lib.hid fun h => HPO.out.trans (parseGo_none (f := f) (acc := acc) hr h)
        have HOP := Lib.hid fun a h e => HPO.out.trans (parseGo_open (f := f) (acc := acc) (a := a) hr h e)
        have HMA := Lib.hid fun a h e l => HPO.out.trans (parseGo_many (f := f) (acc := acc) (a := a) hr h e l)
        have HNX := Lib.hid fun a h e l => HPO.out.trans (parseGo_next (f := f) (acc := acc) (a := a) hr h e l)
        have hal0 : (0 : Int) ≤ (acc.length : Int) := by omega
        clear HPO hr
        go_wp2_with fail
        obtain ⟨wo, rfl⟩ : ∃ wo : World, wo = wr := ⟨_, rfl⟩
        go_loopw [7] (fun jv wq => ∃ (j : Nat), k ≤ j ∧ j ≤ t.length ∧ jv = .int .i64 (j : Int) ∧ (∀ i, k ≤ i → i < j → t[i]? ≠ some 10) ∧ wq = wo)
          (fun jv _ => t.length - (intOf jv).toNat)
        case atStart => exact ⟨k, Nat.le_refl _, by omega, rfl, (fun i h1 h2 => by omega), rfl⟩
        case round =>
          obtain ⟨j, hkj, hjl, rfl, hno, rfl⟩ := hrel
          have hj0 : (0 : Int) ≤ j := by omega
          by_cases hj : j < t.length
          · obtain ⟨b, hb⟩ : ∃ b, t[j]? = some b := ⟨_, List.getElem?_eq_getElem hj⟩
            have hgb : ∀ h, (⟨t.toArray⟩ : ByteArray)[j]'h = b := fun h => by
              have : t[j] = b := (List.getElem?_eq_some_iff.1 hb).2
              exact this
            have hjI : (j : Int) < (t.length : Int) := by omega
            have hj3 : (j : Int) ≤ 200000 := by omega
            by_cases h10 : b = 10
            · subst h10
              have hcut := cut_at hkj hb hno
              have hex : (⟨t.toArray⟩ : ByteArray).extract k j = ⟨((t.drop k).take (j - k)).toArray⟩ := extract_range
              have hsl : ((t.drop k).take (j - k)).length ≤ 200000 := by simp only [List.length_take, List.length_drop]; omega
              have hkjI : (k : Int) ≤ (j : Int) := by omega
              rw [hcut] at HNO HOP HMA HNX
              simp only at HNO HOP HMA HNX
              obtain ⟨s1, hs1⟩ : ∃ s1, (t.drop k).take (j - k) = s1 := ⟨_, rfl⟩
              rw [hs1] at hex hsl HNO HOP HMA HNX
              clear hcut hs1 hno hb
              go_wp2_with fail
              refine (ract_c s1 _ hsl).mono ?_
              rintro e w3 ⟨a, rfl, ha, hb3⟩
              obtain ⟨kd, ⟨x1, x2, x3, x4, x5⟩, av⟩ := a
              dsimp only [acA]
              have HB3 : Hid (Below w.heap.size w w3) := below_step HB.out hb3
              have HO3 := Lib.hid (own_below HOWN.out hb3)
              have hs3 := HB3.out.size
              clear hb3 hex
              cases hO : actO s1 with
              | none =>
                have hp := HNO.out hO
                clear ha hO HNO HOP HMA HNX
                go_wp2_with fail
                subst hp
                go_ret3
                exact ⟨_, rfl, ⟨none, 0, rfl, fun _ => rfl, Row.none _ _ _ _ _ _⟩, HB3.out.alloc hs3 _⟩
              | some a2 =>
                obtain rfl := ha a2 hO
                have hjn : ¬ (j : Int) = (t.length : Int) := by omega
                by_cases hmany : 4096 ≤ acc.length
                · have hp := HMA.out _ hO trivial hmany
                  have hmI : (4096 : Int) ≤ (acc.length : Int) := by omega
                  clear ha hO HNO HOP HMA HNX
                  go_wp2_with fail
                  subst hp
                  go_ret3
                  exact ⟨_, rfl, ⟨none, 0, rfl, fun _ => rfl, Row.none _ _ _ _ _ _⟩, HB3.out.alloc hs3 _⟩
                · have hp := HNX.out _ hO trivial hmany
                  have hmI : ¬ (4096 : Int) ≤ (acc.length : Int) := by omega
                  have HP := Lib.hid hp
                  clear ha hO HNO HOP HMA HNX hp
                  go_wp2_with (at_builtin; go_loud (refine wpList_append_own _ rfl (.tmp 53) (.tmp 55) _ rfl w.heap.size 56 Tryz.t56 _ 7 56 rfl hI.out rfl rfl rfl rfl (by omega) (.slice pa acc.length pc) acc.length _ rfl ((HO3.out.alloc _).alloc _) ⟨w3.heap.size + 1, 0, none⟩ 1 1 (acV (kd, (x1, x2, x3, x4, x5), av)) rfl rfl (newCells2 _ _ _ _) (by simp [acV, Value.oneCell']) (by simp only [maxLen]; omega) (by omega) (by simp; omega) ?_); intro v8 w8 hao hag hn8)
                  have hB8 : Below w.heap.size w w8 := ((HB3.out.alloc hs3 _).alloc (by simp; omega) _).grown hag (by simp; omega) (fun i hi => (HO3.out.lt i hi).1)
                  go_roundw
                  case rel => exact ⟨f, j + 1, acc ++ [(kd, (x1, x2, x3, x4, x5), av)], by go_num, by omega, by simp; omega, by omega, by omega, HP.out, by simpa using hao, hB8⟩
                  case measure => simp [intOf]; omega
            · have hbn : ¬ ((b.toNat : Int) = 10) := fun e => h10 (UInt8.toNat_inj.1 (by simpa using (by omega : b.toNat = 10)))
              have hno2 : ∀ i, k ≤ i → i < j + 1 → t[i]? ≠ some 10 := fun i h1 h2 => by
                by_cases e : i = j
                · subst e; rw [hb]; simpa using h10
                · exact hno i h1 (by omega)
              have HN2 := Lib.hid hno2
              clear hno hno2 hb h10
              go_wp2_with fail
              go_roundw
              case rel => exact ⟨j + 1, by omega, by omega, by go_num, HN2.out, trivial⟩
              case measure => simp [intOf]; omega
          · obtain rfl : j = t.length := by omega
            have hcut := cut_end (t := t) (k := k) (fun i h1 h2 => hno i h1 (by omega))
            have htk : (t.drop k).take (t.length - k) = t.drop k := List.take_of_length_le (by rw [List.length_drop]; exact Nat.le_refl _)
            have hex : (⟨t.toArray⟩ : ByteArray).extract k t.length = ⟨((t.drop k).take (t.length - k)).toArray⟩ := extract_range
            rw [htk] at hex
            have hsl : (t.drop k).length ≤ 200000 := by simp only [List.length_take, List.length_drop]; omega
            have hkjI : (k : Int) ≤ (t.length : Int) := by omega
            rw [hcut] at HNO HOP HMA HNX
            simp only at HNO HOP HMA HNX
            obtain ⟨s1, hs1⟩ : ∃ s1, t.drop k = s1 := ⟨_, rfl⟩
            rw [hs1] at hex hsl HNO HOP HMA HNX
            clear hcut hs1 hno htk
            go_wp2_with fail
            refine (ract_c s1 _ hsl).mono ?_
            rintro e w3 ⟨a, rfl, ha, hb3⟩
            obtain ⟨kd, ⟨x1, x2, x3, x4, x5⟩, av⟩ := a
            dsimp only [acA]
            have HB3 : Hid (Below w.heap.size w w3) := below_step HB.out hb3
            have HO3 := Lib.hid (own_below HOWN.out hb3)
            have hs3 := HB3.out.size
            clear hb3 hex
            cases hO : actO s1 with
            | none =>
              have hp := HNO.out hO
              clear ha hO HNO HOP HMA HNX
              go_wp2_with fail
              subst hp
              go_ret3
              exact ⟨_, rfl, ⟨none, 0, rfl, fun _ => rfl, Row.none _ _ _ _ _ _⟩, HB3.out.alloc hs3 _⟩
            | some a2 =>
              obtain rfl := ha a2 hO
              have hp := HOP.out _ hO trivial
              clear ha hO HNO HOP HMA HNX
              go_wp2_with fail
              subst hp
              go_ret3
              exact ⟨_, rfl, ⟨none, 0, rfl, fun _ => rfl, Row.none _ _ _ _ _ _⟩, HB3.out.alloc hs3 _⟩
      · obtain rfl : k = t.length := by omega
        have hd : t.drop t.length = [] := List.drop_length
        rw [hd, parseGo_end] at HPO
        go_wp2
        have hp := HPO.out
        subst hp
        go_ret3
        exact ⟨_, rfl, acts_of_own HOWN.out, HB.out⟩
end Go.Proofs.YtpcefaccoifejaaGreatDoor
