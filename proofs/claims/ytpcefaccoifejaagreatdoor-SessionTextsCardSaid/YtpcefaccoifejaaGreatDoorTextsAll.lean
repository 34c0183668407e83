/-
  The card of custoslaw13.SessionTexts: whatever the input, the law returns true, and what it was given reads as before. Conditions: those of the given statement alone.
-/
import Derived.Test.YtpcefaccoifejaaGreatDoorZT7
import Derived.Test.YtpcefaccoifejaaGreatDoorK15
import Derived.Test.YtpcefaccoifejaaGreatDoorZT9
import Derived.Test.YtpcefaccoifejaaGreatDoorL1
import Derived.Test.YtpcefaccoifejaaGreatDoorAW
import Derived.Test.YtpcefaccoifejaaGreatDoorAR
import Derived.Test.YtpcefaccoifejaaGreatDoorChecked
import Derived.Test.YtpcefaccoifejaaGreatDoorCards
import Derived.Lib.SmallJoins
import Derived.SizedLaws
import Derived.ChangeSlices
import Derived.Carry
import Derived.ChangeSame
import Derived.ChangeOld
import Derived.ProofKit
import Derived.OpenShut
import Derived.Test.YtpcefaccoifejaaGreatDoorTX0
import Derived.Stop.LaidErr
import Derived.MakeChecks
import Derived.LaidMore
import Derived.LaidHandle
import Derived.Lib.LaidTab
import Derived.Shelf.Vars
import Derived.Test.YtpcefaccoifejaaGreatDoorTie
import Derived.WalkKit
import Derived.Deep.DeepHandedRow
namespace Go.Proofs.YtpcefaccoifejaaGreatDoor
open Go.RowKit
set_option linter.unusedSimpArgs false
set_option linter.unusedVariables false
set_option maxRecDepth 100000

theorem zinfoRAct : Tryz.prog.info? 56 = some Tryz.t56 := by kernel_rfl
theorem cut_none (c : UInt8) (x : List UInt8) (h : c ∉ x) : Lib.cut x [c] = (x, [], false) := by
  unfold Lib.cut
  rw [index_none c x h, if_neg (by omega)]
theorem extract_range {s : List UInt8} {k j : Nat} : (⟨s.toArray⟩ : ByteArray).extract k j = ⟨((s.drop k).take (j - k)).toArray⟩ := by
  apply ByteArray.ext
  apply Array.toList_inj.1
  show ((⟨s.toArray⟩ : ByteArray).extract k j).data.toList = _
  rw [Lib.extract_data]
theorem cut_at {t : List UInt8} {k j : Nat} (hkj : k ≤ j) (hj : t[j]? = some 10) (hno : ∀ i, k ≤ i → i < j → t[i]? ≠ some 10) : Lib.cut (t.drop k) [10] = ((t.drop k).take (j - k), t.drop (j + 1), true) := by
  obtain ⟨hjl, hj2⟩ := List.getElem?_eq_some_iff.1 hj
  have e : t.drop k = (t.drop k).take (j - k) ++ 10 :: t.drop (j + 1) := by
    conv => lhs; rw [← List.take_append_drop (j - k) (t.drop k)]
    rw [List.drop_drop, show k + (j - k) = j by omega, List.drop_eq_getElem_cons hjl, hj2]
  have hn : (10 : UInt8) ∉ (t.drop k).take (j - k) := fun hm => by
    obtain ⟨i, hi, hi2⟩ := List.getElem_of_mem hm
    have hl : i < j - k := by rw [List.length_take] at hi; omega
    have : ((t.drop k).take (j - k))[i]? = some 10 := by rw [List.getElem?_eq_getElem hi, hi2]
    rw [List.getElem?_take, if_pos hl, List.getElem?_drop] at this
    exact hno (k + i) (by omega) (by omega) this
  conv => lhs; rw [e]
  exact cut_word 10 _ _ hn
theorem cut_end {t : List UInt8} {k : Nat} (hno : ∀ i, k ≤ i → i < t.length → t[i]? ≠ some 10) : Lib.cut (t.drop k) [10] = (t.drop k, [], false) := by
  refine cut_none 10 _ (fun hm => ?_)
  obtain ⟨i, hi, hi2⟩ := List.getElem_of_mem hm
  have : (t.drop k)[i]? = some 10 := by rw [List.getElem?_eq_getElem hi, hi2]
  rw [List.getElem?_drop] at this
  rw [List.length_drop] at hi
  exact hno (k + i) (by omega) (by omega) this
set_option maxHeartbeats 8000000 in
theorem rParse_c (t : List UInt8) (w : World) (ht : t.length ≤ 200000) :
    Calls Tryz.prog 10 #[.string ⟨t.toArray⟩] w fun e w' => ∃ v, e = .returned (.tuple #[v, .int .i64 ((parseO t).2.1 : Int), .int .i64 (parseO t).2.2]) ∧ ActsAt w' w.heap.size w'.heap.size v (parseO t).1 ∧ Below w.heap.size w w' := by
  have hI := Lib.hid zinfoRAct
  by_cases hbig : 131072 < t.length
  · have hP : parseO t = ([], 0, 4) := by unfold parseO; rw [if_pos hbig]
    rw [hP]
    have hbI : (131072 : Int) < (t.length : Int) := by omega
    go_enter Tryz.func10, Tryz.ntmps10
    go_wp2
    go_ret3
    exact ⟨_, rfl, ⟨none, 0, rfl, fun _ => rfl, Row.none _ _ _ _ _ _⟩, Below.refl _ _⟩
  · have hP : parseO t = parseGo t.length [] t := by unfold parseO; rw [if_neg hbig]
    have HP := Lib.hid hP
    have hbI : ¬ (131072 : Int) < (t.length : Int) := by omega
    generalize parseO t = PO at *
    clear hP hbig
    go_enter Tryz.func10, Tryz.ntmps10
    go_wp2_with fail
    go_loopw [5, 6] (fun ov kv wr => ∃ (f k : Nat) (acc : List Ac), kv = .int .i64 (k : Int) ∧ k ≤ t.length ∧ acc.length ≤ 4096 ∧ t.length - k ≤ f ∧ f ≤ 200000 ∧ PO = parseGo f acc (t.drop k) ∧ wr.ownsRow w.heap.size 56 7 ov acc.length (acc.flatMap acV) ∧ Below w.heap.size w wr)
      (fun _ kv _ => t.length - (intOf kv).toNat)
    case atStart => exact ⟨t.length, 0, [], rfl, Nat.zero_le _, by simp, by omega, ht, HP.out, World.ownsRow_nil _ _ _ _, by go_grown⟩
    case round =>
      obtain ⟨f, k, acc, rfl, hkl, hal, hrf, hf, hPO, hown, hB⟩ := hrel
      have HOWN := Lib.hid hown
      have HB := Lib.hid hB
      have HPO := Lib.hid hPO
      obtain ⟨pa, pc, rfl⟩ := own_shape hown
      clear hown hPO hB HP
      have hk0 : (0 : Int) ≤ k := by omega
      by_cases hk : k < t.length
      · obtain ⟨f, rfl⟩ : ∃ g, f = g + 1 := ⟨f - 1, by omega⟩
        have hr : t.drop k ≠ [] := fun e => by have := congrArg List.length e; rw [List.length_drop, List.length_nil] at this; omega
        have hkI : (k : Int) < (t.length : Int) := by omega
        have HNO := Lib.hid fun h => HPO.out.trans (parseGo_none (f := f) (acc := acc) hr h)
        have HOP := Lib.hid fun a h e => HPO.out.trans (parseGo_open (f := f) (acc := acc) (a := a) hr h e)
        have HMA := Lib.hid fun a h e l => HPO.out.trans (parseGo_many (f := f) (acc := acc) (a := a) hr h e l)
        have HNX := Lib.hid fun a h e l => HPO.out.trans (parseGo_next (f := f) (acc := acc) (a := a) hr h e l)
        have hal0 : (0 : Int) ≤ (acc.length : Int) := by omega
        clear HPO hr
        go_wp2_with fail
        obtain ⟨wo, rfl⟩ : ∃ wo : World, wo = wr := ⟨_, rfl⟩
        go_loopw [7] (fun jv wq => ∃ (j : Nat), k ≤ j ∧ j ≤ t.length ∧ jv = .int .i64 (j : Int) ∧ (∀ i, k ≤ i → i < j → t[i]? ≠ some 10) ∧ wq = wo)
          (fun jv _ => t.length - (intOf jv).toNat)
        case atStart => exact ⟨k, Nat.le_refl _, by omega, rfl, (fun i h1 h2 => by omega), rfl⟩
        case round =>
          obtain ⟨j, hkj, hjl, rfl, hno, rfl⟩ := hrel
          have hj0 : (0 : Int) ≤ j := by omega
          by_cases hj : j < t.length
          · obtain ⟨b, hb⟩ : ∃ b, t[j]? = some b := ⟨_, List.getElem?_eq_getElem hj⟩
            have hgb : ∀ h, (⟨t.toArray⟩ : ByteArray)[j]'h = b := fun h => by
              have : t[j] = b := (List.getElem?_eq_some_iff.1 hb).2
              exact this
            have hjI : (j : Int) < (t.length : Int) := by omega
            have hj3 : (j : Int) ≤ 200000 := by omega
            by_cases h10 : b = 10
            · subst h10
              have hcut := cut_at hkj hb hno
              have hex : (⟨t.toArray⟩ : ByteArray).extract k j = ⟨((t.drop k).take (j - k)).toArray⟩ := extract_range
              have hsl : ((t.drop k).take (j - k)).length ≤ 200000 := by simp only [List.length_take, List.length_drop]; omega
              have hkjI : (k : Int) ≤ (j : Int) := by omega
              rw [hcut] at HNO HOP HMA HNX
              simp only at HNO HOP HMA HNX
              obtain ⟨s1, hs1⟩ : ∃ s1, (t.drop k).take (j - k) = s1 := ⟨_, rfl⟩
              rw [hs1] at hex hsl HNO HOP HMA HNX
              clear hcut hs1 hno hb
              go_wp2_with fail
              refine (ract_c s1 _ hsl).mono ?_
              rintro e w3 ⟨a, rfl, ha, hb3⟩
              obtain ⟨kd, ⟨x1, x2, x3, x4, x5⟩, av⟩ := a
              dsimp only [acA]
              have HB3 : Hid (Below w.heap.size w w3) := below_step HB.out hb3
              have HO3 := Lib.hid (own_below HOWN.out hb3)
              have hs3 := HB3.out.size
              clear hb3 hex
              cases hO : actO s1 with
              | none =>
                have hp := HNO.out hO
                clear ha hO HNO HOP HMA HNX
                go_wp2_with fail
                subst hp
                go_ret3
                exact ⟨_, rfl, ⟨none, 0, rfl, fun _ => rfl, Row.none _ _ _ _ _ _⟩, HB3.out.alloc hs3 _⟩
              | some a2 =>
                obtain rfl := ha a2 hO
                have hjn : ¬ (j : Int) = (t.length : Int) := by omega
                by_cases hmany : 4096 ≤ acc.length
                · have hp := HMA.out _ hO trivial hmany
                  have hmI : (4096 : Int) ≤ (acc.length : Int) := by omega
                  clear ha hO HNO HOP HMA HNX
                  go_wp2_with fail
                  subst hp
                  go_ret3
                  exact ⟨_, rfl, ⟨none, 0, rfl, fun _ => rfl, Row.none _ _ _ _ _ _⟩, HB3.out.alloc hs3 _⟩
                · have hp := HNX.out _ hO trivial hmany
                  have hmI : ¬ (4096 : Int) ≤ (acc.length : Int) := by omega
                  have HP := Lib.hid hp
                  clear ha hO HNO HOP HMA HNX hp
                  go_wp2_with (at_builtin; go_loud (refine wpList_append_own _ rfl (.tmp 53) (.tmp 55) _ rfl w.heap.size 56 Tryz.t56 _ 7 56 rfl hI.out rfl rfl rfl rfl (by omega) (.slice pa acc.length pc) acc.length _ rfl ((HO3.out.alloc _).alloc _) ⟨w3.heap.size + 1, 0, none⟩ 1 1 (acV (kd, (x1, x2, x3, x4, x5), av)) rfl rfl (newCells2 _ _ _ _) (by simp [acV, Value.oneCell']) (by simp only [maxLen]; omega) (by omega) (by simp; omega) ?_); intro v8 w8 hao hag hn8)
                  have hB8 : Below w.heap.size w w8 := ((HB3.out.alloc hs3 _).alloc (by simp; omega) _).grown hag (by simp; omega) (fun i hi => (HO3.out.lt i hi).1)
                  go_roundw
                  case rel => exact ⟨f, j + 1, acc ++ [(kd, (x1, x2, x3, x4, x5), av)], by go_num, by omega, by simp; omega, by omega, by omega, HP.out, by simpa using hao, hB8⟩
                  case measure => simp [intOf]; omega
            · have hbn : ¬ ((b.toNat : Int) = 10) := fun e => h10 (UInt8.toNat_inj.1 (by simpa using (by omega : b.toNat = 10)))
              have hno2 : ∀ i, k ≤ i → i < j + 1 → t[i]? ≠ some 10 := fun i h1 h2 => by
                by_cases e : i = j
                · subst e; rw [hb]; simpa using h10
                · exact hno i h1 (by omega)
              have HN2 := Lib.hid hno2
              clear hno hno2 hb h10
              go_wp2_with fail
              go_roundw
              case rel => exact ⟨j + 1, by omega, by omega, by go_num, HN2.out, trivial⟩
              case measure => simp [intOf]; omega
          · obtain rfl : j = t.length := by omega
            have hcut := cut_end (t := t) (k := k) (fun i h1 h2 => hno i h1 (by omega))
            have htk : (t.drop k).take (t.length - k) = t.drop k := List.take_of_length_le (by rw [List.length_drop]; exact Nat.le_refl _)
            have hex : (⟨t.toArray⟩ : ByteArray).extract k t.length = ⟨((t.drop k).take (t.length - k)).toArray⟩ := extract_range
            rw [htk] at hex
            have hsl : (t.drop k).length ≤ 200000 := by simp only [List.length_take, List.length_drop]; omega
            have hkjI : (k : Int) ≤ (t.length : Int) := by omega
            rw [hcut] at HNO HOP HMA HNX
            simp only at HNO HOP HMA HNX
            obtain ⟨s1, hs1⟩ : ∃ s1, t.drop k = s1 := ⟨_, rfl⟩
            rw [hs1] at hex hsl HNO HOP HMA HNX
            clear hcut hs1 hno htk
            go_wp2_with fail
            refine (ract_c s1 _ hsl).mono ?_
            rintro e w3 ⟨a, rfl, ha, hb3⟩
            obtain ⟨kd, ⟨x1, x2, x3, x4, x5⟩, av⟩ := a
            dsimp only [acA]
            have HB3 : Hid (Below w.heap.size w w3) := below_step HB.out hb3
            have HO3 := Lib.hid (own_below HOWN.out hb3)
            have hs3 := HB3.out.size
            clear hb3 hex
            cases hO : actO s1 with
            | none =>
              have hp := HNO.out hO
              clear ha hO HNO HOP HMA HNX
              go_wp2_with fail
              subst hp
              go_ret3
              exact ⟨_, rfl, ⟨none, 0, rfl, fun _ => rfl, Row.none _ _ _ _ _ _⟩, HB3.out.alloc hs3 _⟩
            | some a2 =>
              obtain rfl := ha a2 hO
              have hp := HOP.out _ hO trivial
              clear ha hO HNO HOP HMA HNX
              go_wp2_with fail
              subst hp
              go_ret3
              exact ⟨_, rfl, ⟨none, 0, rfl, fun _ => rfl, Row.none _ _ _ _ _ _⟩, HB3.out.alloc hs3 _⟩
      · obtain rfl : k = t.length := by omega
        have hd : t.drop t.length = [] := List.drop_length
        rw [hd, parseGo_end] at HPO
        go_wp2
        have hp := HPO.out
        subst hp
        go_ret3
        exact ⟨_, rfl, acts_of_own HOWN.out, HB.out⟩
end Go.Proofs.YtpcefaccoifejaaGreatDoor

namespace Go.Proofs.YtpcefaccoifejaaGreatDoor
open Go.RowKit
set_option linter.unusedSimpArgs false
set_option linter.unusedVariables false
set_option maxRecDepth 100000

set_option maxHeartbeats 4000000 in
theorem owns_c (v : Value) (acts : List Ac) (lo hi : Nat) (w : World) (h : ActsAt w lo hi v acts) (hh : hi ≤ w.heap.size) (hlen : acts.length ≤ 1000) :
    Calls Tryz.prog 7 #[v] w fun e w' => ∃ v', e = .returned v' ∧ ActsAt w' w.heap.size w'.heap.size v' acts ∧ Below w.heap.size w w' := by
  have hI := Lib.hid infoActS
  obtain ⟨fa, fc, rfl, -, hr⟩ := h
  have HR := Lib.hid hr
  obtain ⟨n, hn⟩ : ∃ n, acts.length = n := ⟨_, rfl⟩
  have HN := Lib.hid hn
  rw [hn] at hlen ⊢
  clear hr hn
  go_enter Tryz.func7, Tryz.ntmps7
  go_wp2_with fail
  go_loopw [3, 4] (fun ov i wr => ∃ (k : Nat), k ≤ n ∧ i = .int .i64 (k : Int) ∧ wr.ownsRow w.heap.size 60 7 ov k ((acts.take k).flatMap acV) ∧ Below w.heap.size w wr)
    (fun _ i wr => n - (intOf i).toNat)
  case atStart => exact ⟨0, Nat.zero_le _, rfl, World.ownsRow_nil _ _ _ _, by go_grown⟩
  case round =>
    obtain ⟨k, hkn, rfl, hown, hB⟩ := hrel
    have HOWN := Lib.hid hown
    have HB := Lib.hid hB
    obtain ⟨pa, pc, rfl⟩ := own_shape hown
    clear hown
    by_cases hk : k < n
    · have hkf : k < acts.length := by rw [HN.out]; exact hk
      obtain ⟨bf, off, rfl, hb1, hb2, hc⟩ := HR.out (by omega)
      have hcw : ∀ j u, (acV (acAt acts k))[j]? = some u → wr.cell? ⟨bf, off + k * 7 + j, none⟩ = some u := fun j u hu => (hB.cell (p := ⟨bf, off + k * 7 + j, none⟩) (show bf < w.heap.size by omega)).trans (hc k hkf j u hu)
      have hst : (acts.take (k + 1)).flatMap acV = (acts.take k).flatMap acV ++ acV (acAt acts k) := by rw [take_snoc hkf, ← acAt_get hkf]; simp
      have HST := Lib.hid hst
      generalize (acts.take k).flatMap acV = F at *
      generalize acAt acts k = A at *
      obtain ⟨kd, ⟨x1, x2, x3, x4, x5⟩, av⟩ := A
      have c0 := hcw 0 _ rfl
      have c1 := hcw 1 _ rfl
      have c2 := hcw 2 _ rfl
      have c3 := hcw 3 _ rfl
      have c4 := hcw 4 _ rfl
      have c5 := hcw 5 _ rfl
      have c6 := hcw 6 _ rfl
      simp only [Nat.add_zero] at c0
      have hk0 : (0 : Int) ≤ k := by omega
      have hk1 : (k : Int) < n := by omega
      have hk2 : (k : Int) ≤ 1000 := by omega
      have hsz := hB.size
      clear hcw hc hB hst
      go_wp2_with fail
      refine (own_c kd x1 x2 x3 x4 x5 av _).mono ?_
      rintro rr w3 ⟨rfl, hb3⟩
      have HB3 : Hid (Below w.heap.size w w3) := below_step HB.out hb3
      have HO3 := Lib.hid (own_below HOWN.out hb3)
      have hs3 := HB3.out.size
      clear hb3 c0 c1 c2 c3 c4 c5 c6
      go_wp2_with (at_builtin; go_loud (refine wpList_append_own _ rfl (.tmp 11) (.tmp 17) _ rfl w.heap.size 60 Tryz.t60 _ 7 56 rfl hI.out rfl rfl rfl rfl (by omega) (.slice pa k pc) k _ rfl (HO3.out.alloc _) ⟨w3.heap.size, 0, none⟩ 1 1 (acV (kd, (x1, x2, x3, x4, x5), av)) rfl rfl (newCells _ _ _) (by simp [acV, Value.oneCell']) (by simp only [maxLen]; omega) (by omega) (by simp; omega) ?_); intro v8 w8 hao hag hn8)
      have hB8 : Below w.heap.size w w8 := (HB3.out.alloc hs3 _).grown hag (by simp; omega) (fun i hi => (HO3.out.lt i hi).1)
      go_roundw
      case rel => exact ⟨k + 1, by omega, by go_num, by rw [HST.out]; exact hao, hB8⟩
      case measure => simp [intOf]; omega
    · obtain rfl : k = n := by omega
      have hta : acts.take k = acts := by rw [← HN.out, List.take_length]
      rw [hta] at HOWN
      have hA := acts_of_own (w := wr) (lo := w.heap.size) (e := 60) (v := .slice pa k pc) (acts := acts) (by rw [HN.out]; exact HOWN.out)
      clear hB hta
      go_wp2_with fail
      go_ret
      exact ⟨_, rfl, hA, HB.out⟩
/-- a text of acts is short -/
theorem line_len2 {a : Ac} (hw : wfA a) : (lineG a).length ≤ 200 := by
  obtain ⟨k, ⟨x1, x2, x3, x4, x5⟩, v⟩ := a
  obtain ⟨-, ⟨w1, w2, w3, -, w5⟩, wv⟩ := hw
  unfold lineG lineWordsG
  have h1 := kindOf_len k
  have h2 := itS_len w1
  have h3 := itS_len w2
  have h4 := itS_len w3
  have h5 := nameOf_len x4.toNat
  have h6 := itS_len w5
  have h7 := itS_len wv
  simp only at h2 h3 h4 h6 h7
  by_cases e : k = 1
  · simp only [e, if_true, List.cons_append, List.nil_append, Lib.join_cons, Lib.joinTail, List.map_cons, List.map_nil, List.flatten_cons, List.flatten_nil, List.length_append, List.length_cons, List.length_nil] at h1 ⊢
    omega
  · simp only [e, if_false, List.cons_append, List.nil_append, List.append_nil, Lib.join_cons, Lib.joinTail, List.map_cons, List.map_nil, List.flatten_cons, List.flatten_nil, List.length_append, List.length_cons, List.length_nil] at h1 ⊢
    omega
theorem format_len2 : ∀ l : List Ac, (∀ a ∈ l, wfA a) → (formatG l).length ≤ l.length * 200
  | [], _ => by simp [formatG]
  | a :: r, h => by
    have h1 := line_len2 (h a (by simp))
    have h2 := format_len2 r (fun x hx => h x (by simp [hx]))
    unfold formatG at h2 ⊢
    rw [List.flatMap_cons, List.length_append, List.length_cons, Nat.succ_mul]
    omega
theorem formO_len {l : List Ac} (h : ∀ a ∈ l, wfA a) (hl : l.length ≤ 200) : (formO l).1.length ≤ 40000 := by
  have := format_len2 l h
  unfold formO
  split
  · simp
  · split
    · simp only; omega
    · simp
end Go.Proofs.YtpcefaccoifejaaGreatDoor

namespace Go.Proofs.YtpcefaccoifejaaGreatDoor
open Go.RowKit
set_option linter.unusedSimpArgs false
set_option linter.unusedVariables false
set_option maxRecDepth 100000

theorem parse_few (x : List UInt8) : (parseO x).1.length ≤ 4096 := by
  by_cases h : (parseO x).2.2 = 0
  · obtain ⟨l, e, -, -, hl⟩ := parse_ok h
    rw [e]
    exact hl
  · rw [parse_err h]
    simp
theorem Texts_big (v0 : Value) (acts : List Ac) (t : List UInt8) (W : World) (hA : ActsAt W 0 W.heap.size v0 acts) (h : 200 < acts.length ∨ 4000 < t.length) :
    Calls Tryz.prog 3 #[v0, .string ⟨t.toArray⟩] W fun e w' => e = .returned (.bool true) ∧ Below W.heap.size W w' := by
  obtain ⟨aa, ac, rfl, -⟩ := hA
  by_cases h1 : 200 < acts.length
  · have h1I : (200 : Int) < (acts.length : Int) := by omega
    clear h
    go_enter Tryz.func3, Tryz.ntmps3
    go_wp2_with fail
    refine (awake_c _).mono ?_
    rintro rr w2 ⟨rfl, hb2⟩
    have HB2 := Lib.hid (below_step (w := W) (by go_grown) hb2)
    clear hb2
    go_wp2
    go_ret
    exact ⟨rfl, HB2.out⟩
  · have h1I : ¬ (200 : Int) < (acts.length : Int) := by omega
    have h2I : (4000 : Int) < (t.length : Int) := by omega
    clear h
    go_enter Tryz.func3, Tryz.ntmps3
    go_wp2_with fail
    refine (awake_c _).mono ?_
    rintro rr w2 ⟨rfl, hb2⟩
    have HB2 := Lib.hid (below_step (w := W) (by go_grown) hb2)
    clear hb2
    go_wp2
    go_ret
    exact ⟨rfl, HB2.out⟩
set_option maxHeartbeats 8000000 in
theorem Texts_small (v0 : Value) (acts : List Ac) (t : List UInt8) (W : World) (hA : ActsAt W 0 W.heap.size v0 acts) (hwf : ∀ a ∈ acts, wfA a) (h1 : ¬ 200 < acts.length) (h2 : ¬ 4000 < t.length) (he : Env W) :
    Calls Tryz.prog 3 #[v0, .string ⟨t.toArray⟩] W fun e w' => e = .returned (.bool true) ∧ Below W.heap.size W w' := by
  have HE := Lib.hid fun W' (hb : Below W.heap.size W W') => he.below hb
  have HOW := Lib.hid fun W' (hb : Below W.heap.size W W') => owns_c v0 acts 0 W.heap.size W' (hA.move (Same.of_below hb)) hb.size (by omega)
  have HFA := Lib.hid fun v lo W' (hb : Below W.heap.size W W') (ha : ActsAt W' lo W'.heap.size v acts) => FormatA_c v acts lo W'.heap.size W' ha (Nat.le_refl _) hwf (by omega) (HE.out _ hb)
  have HRF := Lib.hid fun W' (hb : Below W.heap.size W W') => rFormat_c v0 acts 0 W.heap.size W' (hA.move (Same.of_below hb)) hb.size hwf (by omega)
  have hfl := formO_len hwf (by omega)
  generalize formO acts = FO at *
  obtain ⟨X, er⟩ := FO
  simp only at hfl HFA HRF
  have HPS := Lib.hid fun (x : List UInt8) (hx : x.length ≤ 200000) W' (hb : Below W.heap.size W W') => Parse_c x W' hx (HE.out _ hb)
  have HPR := Lib.hid fun (x : List UInt8) (hx : x.length ≤ 200000) W' => rParse_c x W' hx
  have HLX : Hid (X.length ≤ 200000) := Lib.hid (by omega)
  have HLT : Hid (t.length ≤ 200000) := Lib.hid (by omega)
  obtain ⟨aa, ac, rfl, -⟩ := hA
  have h1I : ¬ (200 : Int) < (acts.length : Int) := by omega
  have h2I : ¬ (4000 : Int) < (t.length : Int) := by omega
  obtain ⟨na, hna⟩ : ∃ na, acts.length = na := ⟨_, rfl⟩
  rw [hna] at h1I HOW HRF ⊢
  clear he hwf h1 h2 hfl hna
  go_enter Tryz.func3, Tryz.ntmps3
  go_wp2_with fail
  refine (HOW.out _ (by go_grown)).mono ?_
  rintro rr w2 ⟨vo, rfl, ho, hb2⟩
  have HB2 : Hid (Below W.heap.size W w2) := Lib.hid (below_step (w := W) (by go_grown) hb2)
  have HO2 := Lib.hid ho
  clear ho hb2
  go_wp2_with fail
  refine (HFA.out _ _ _ HB2.out HO2.out).mono ?_
  rintro rr w3 ⟨rfl, hb3⟩
  have HB3 : Hid (Below W.heap.size W w3) := below_step HB2.out hb3
  clear hb3 HO2
  go_wp2_with fail
  refine (HRF.out _ HB3.out).mono ?_
  rintro rr w4 ⟨rfl, hb4⟩
  have HB4 : Hid (Below W.heap.size W w4) := below_step HB3.out hb4
  clear hb4 HB3 HB2
  go_wp2_with fail
  go_loopw [49] (fun iv wr => ∃ (j : Nat), j ≤ 2 ∧ iv = .int .i64 (j : Int) ∧ wr.heap[w4.heap.size]? = some (.cells #[.string ⟨t.toArray⟩, .string ⟨X.toArray⟩] 9 (0, 0)) ∧ Below W.heap.size W wr)
    (fun iv _ => 2 - (intOf iv).toNat)
  case atStart => exact ⟨0, by omega, rfl, heap_alloc_new _ _, HB4.out.alloc HB4.out.size _⟩
  case round =>
    obtain ⟨j, hj, rfl, hC, hB⟩ := hrel
    have HB := Lib.hid hB
    have HC := Lib.hid hC
    have hj0 : (0 : Int) ≤ j := by omega
    by_cases hjl : j < 2
    · obtain ⟨x, hx, hcell⟩ : ∃ x : List UInt8, x.length ≤ 200000 ∧ wr.cell? ⟨w4.heap.size, j, none⟩ = some (.string ⟨x.toArray⟩) := by
        rcases (by omega : j = 0 ∨ j = 1) with rfl | rfl
        · exact ⟨t, HLT.out, by rw [cell_of_row _ _ _ _ _ _ hC]; rfl⟩
        · exact ⟨X, HLX.out, by rw [cell_of_row _ _ _ _ _ _ hC]; rfl⟩
      have hjI : (j : Int) < 2 := by omega
      have HP1 := Lib.hid (HPS.out x hx)
      have HP2 := Lib.hid (HPR.out x hx)
      have hPL := parse_few x
      generalize parseO x = P at *
      obtain ⟨AC, LN, ER⟩ := P
      simp only at HP1 HP2 hPL
      clear hB hC
      go_wp2_with fail
      refine (HP1.out _ HB.out).mono ?_
      rintro rr w5 ⟨va, rfl, ha, hb5⟩
      have HB5 : Hid (Below W.heap.size W w5) := below_step HB.out hb5
      have HC5 : Hid (w5.heap[w4.heap.size]? = some (.cells #[.string ⟨t.toArray⟩, .string ⟨X.toArray⟩] 9 (0, 0))) := (hb5.block _ (Array.getElem?_eq_some_iff.1 HC.out).1).trans HC.out
      have HA5 := Lib.hid ha
      clear ha hb5 hcell
      go_wp2_with fail
      refine (HP2.out _).mono ?_
      rintro rr w6 ⟨vb, rfl, hb, hb6⟩
      have HB6 : Hid (Below W.heap.size W w6) := below_step HB5.out hb6
      have HC6 : Hid (w6.heap[w4.heap.size]? = some (.cells #[.string ⟨t.toArray⟩, .string ⟨X.toArray⟩] 9 (0, 0))) := (hb6.block _ (Array.getElem?_eq_some_iff.1 HC5.out).1).trans HC5.out
      have HA6 : Hid (ActsAt w6 wr.heap.size w5.heap.size va AC) := Lib.hid (HA5.out.move (Same.of_below hb6))
      have HZ6 : Hid (w5.heap.size ≤ w6.heap.size) := Lib.hid hb6.size
      have HR6 := Lib.hid hb
      clear hb hb6
      go_wp2_with fail
      have hsa := sameActs_c va vb AC AC wr.heap.size w5.heap.size w5.heap.size w6.heap.size w6 HA6.out HR6.out HZ6.out (Nat.le_refl _) (by omega)
      rw [decide_eq_true rfl] at hsa
      refine hsa.mono ?_
      rintro rr w7 ⟨rfl, hb7⟩
      have hC7 : w7.heap[w4.heap.size]? = some (.cells #[.string ⟨t.toArray⟩, .string ⟨X.toArray⟩] 9 (0, 0)) := (hb7.block _ (Array.getElem?_eq_some_iff.1 HC6.out).1).trans HC6.out
      have HB7 : Hid (Below W.heap.size W w7) := below_step HB6.out hb7
      have HC7 := Lib.hid hC7
      clear hb7 hC7 hsa
      go_wp2_with fail
      go_roundw
      case rel => exact ⟨j + 1, by omega, by go_num, HC7.out, HB7.out⟩
      case measure => simp [intOf]; omega
    · obtain rfl : j = 2 := by omega
      clear hB hC
      go_wp2_with fail
      refine (awake_c _).mono ?_
      rintro rr w7 ⟨rfl, hb7⟩
      have HB7 := Lib.hid (below_step HB.out hb7)
      clear hb7
      go_wp2
      go_ret
      exact ⟨rfl, HB7.out⟩
theorem Texts_walk (v0 : Value) (acts : List Ac) (s : ByteArray) (W : World) (hA : ActsAt W 0 W.heap.size v0 acts) (hwf : ∀ a ∈ acts, wfA a) (he : Env W) :
    Calls Tryz.prog 3 #[v0, .string s] W fun e w' => e = .returned (.bool true) ∧ Below W.heap.size W w' := by
  have hs : s = ⟨s.data.toList.toArray⟩ := by simp
  rw [hs]
  by_cases h : 200 < acts.length ∨ 4000 < s.data.toList.length
  · exact Texts_big v0 acts s.data.toList W hA h
  · rw [not_or] at h
    exact Texts_small v0 acts s.data.toList W hA hwf h.1 h.2 he
end Go.Proofs.YtpcefaccoifejaaGreatDoor

namespace Go.Proofs.YtpcefaccoifejaaGreatDoor
open Go.ChangeShapes Go.WideShapes Go.RowKit Go.WideElems

/-- every type of a list is a row of the table that can be read again -/
def rowed (P : Program) (ts : List TypeId) : Bool := ts.all fun t => P.readableRec t && decide (t < P.types.size)

theorem carried {H : Type} {enc : TypeId × Value → H} {P : Program} (hl : laidOutB P = true) {W W' : World} (hb : Below W.heap.size W W') {sp : Nat → Bool} :
    ∀ {ts : List TypeId} {vs : List Value} {ds : List (DataW H)} {ps : List MemPlace}, rowed P ts = true → DataW.TrodAll enc P W 0 (fun _ => true) true ts vs ds ps →
      (∀ p ∈ ps, p.block < W.heap.size) → (∀ p ∈ ps, sp p.block = true) → DataW.TrodAll enc P W' 0 sp true ts vs ds ps
  | [], vs, ds, ps, _, h, _, _ => by
    obtain ⟨rfl, rfl, rfl⟩ := trodAll_nil h
    exact h
  | t :: ts, vs, ds, ps, hr, h, hlt, hsp => by
    obtain ⟨v, vs1, d, ds1, p, q, rfl, rfl, rfl, h1, h2⟩ := trodAll_cons h
    simp only [rowed, List.all_cons, Bool.and_eq_true, decide_eq_true_eq] at hr
    exact ⟨p, q, Trod_stays hl hr.1.1 hr.1.2 h1 (fun x hx => hb.same (hlt x (List.mem_append_left _ hx))) (fun x hx => hsp x (List.mem_append_left _ hx)),
      carried hl hb (by simpa [rowed] using hr.2) h2 (fun x hx => hlt x (List.mem_append_right _ hx)) (fun x hx => hsp x (List.mem_append_right _ hx)), rfl⟩

theorem post_true {H : Type} {enc : TypeId × Value → H} {P : Program} (hl : laidOutB P = true) {f : Func} {s : ChangeSpec} {apart fresh handsOn again : Bool} {W W' : World} {args : Array Value} {ds gs : List (DataW H)} {before : List MemPlace}
    {tb : TypeId} (hres : f.resultTypes = #[tb]) (htb : P.underlying tb = some .bool) (hts : rowed P f.params.toList = true) (hv : s.vars = [])
    (hfn : s.fn H (ds ++ []) = { results := [.lit (.bool true)], args := ds, vars := [] })
    (hW : DataW.Whole enc P f.params.toList s.vars apart W args.toList ds gs before) (hb : Below W.heap.size W W') : s.post enc P f apart fresh handsOn again W args (.bool true) W' := by
  have hlt := hW.lt
  have hW' := hW
  obtain ⟨p, q, hA, hV, rfl, hz, hn⟩ := hW
  rw [hv] at hV
  obtain ⟨rfl, rfl⟩ := trodVars_none hV
  rw [List.append_nil] at hlt hz hn
  have hargs : ∀ sp : Nat → Bool, (∀ x ∈ p, sp x.block = true) → DataW.TrodAll enc P W' 0 sp true f.params.toList args.toList ds p := fun sp hsp => carried hl hb hts hA hlt hsp
  have hvars : ∀ sp : Nat → Bool, DataW.TrodVars enc P W' sp s.vars [] [] := fun sp => by rw [hv]; rfl
  have hrs : ∀ (b : Nat) (sp : Nat → Bool) (hd : Bool), DataW.TrodAll enc P W' b sp hd f.resultTypes.toList ((Value.bool true).resultList f.resultTypes.size) [.lit (.bool true)] [] := fun b sp hd => by
    rw [hres]
    exact trodAll_cons_mk (shut_bool htb _) trodAll_mk0
  refine ⟨ds, [], p ++ [], [], p, [], hW', ?_, ?_, ?_, hb.frame _, fun _ => ?_⟩
  · rw [hfn]; exact hrs _ _ _
  · rw [hfn]; exact hargs _ fun x hx => by simpa using hlt x hx
  · rw [hfn]; exact hvars _
  · refine ⟨ok_one hres rfl (okWide_bool_mk htb _), _, _, ([] ++ p) ++ [], ⟨[] ++ p, [], trodAll_append (hargs _ fun _ _ => rfl) (hrs _ _ _), hvars _, rfl, ?_, ?_⟩, ?_⟩
    · intro b off hp
      have hp' : MemPlace.cell b off ∈ p := by simpa using hp
      rw [hb.frozen (p := ⟨b, off, none⟩) (hlt _ hp')]
      exact hz b off hp'
    · intro ha
      simpa using hn ha
    · intro x hx _
      simpa using hx

/-- the numbers of a listed datum -/
def cellsIn : DataW Unit → Array Value
  | .agg xs => (xs.map fun | .lit (.int k n) => Value.int k n | _ => .bool false).toArray
  | _ => #[]
def putAt (h : Array Obj) (g : Nat) (d : DataW Unit) : Array Obj := h.modify g fun | .cells _ t frozen => .cells (cellsIn d) t frozen | o => o
theorem own : ownKnob Tryz.prog.godebug = none := by kernel_rfl
theorem laidOut : laidOutB Tryz.prog = true := by kernel_rfl
/-- a world for the witness: the settled one with what the listed tables hold -/
noncomputable def laidWorld (os : Os) : World :=
  { World.holding Tryz.prog os ⟨#[], #[], []⟩ with
    heap := putAt (putAt (putAt (World.holding Tryz.prog os ⟨#[], #[], []⟩).heap 1 Rows.laid_internal_strconv_uint64pow10) 6 Rows.laid_math_bits_deBruijn32tab) 7 Rows.laid_math_bits_deBruijn64tab }
end Go.Proofs.YtpcefaccoifejaaGreatDoor

namespace Go.Proofs.YtpcefaccoifejaaGreatDoor
open Go.ChangeShapes Go.WideShapes Go.ChangeAt Go.RowKit Go.Shelf
set_option linter.unusedSimpArgs false
set_option linter.unusedVariables false
set_option maxRecDepth 100000

theorem gES : Tryz.prog.globalNamed "strconv.ErrSyntax" = some 2 := by kernel_rfl
theorem gER : Tryz.prog.globalNamed "strconv.ErrRange" = some 3 := by kernel_rfl
theorem gEST : (Tryz.prog.globals[2]?).map (·.type) = some 94 := by kernel_rfl
theorem gERT : (Tryz.prog.globals[3]?).map (·.type) = some 94 := by kernel_rfl
theorem cellsES : Tryz.prog.cellsOf 196 = 1 := by kernel_rfl
theorem cellsStr : Tryz.prog.cellsOf 9 = 1 := by kernel_rfl
theorem starES : "*" ++ "errors.errorString" = "*errors.errorString" := by decide
theorem rowES (u : TypeId) (h : Tryz.prog.typeName? 3 u = some "*errors.errorString") : u = 194 :=
  typeName_ptr_named (nm := "errors.errorString") (by rw [starES]; kernel_rfl) (by kernel_rfl) (by decide) u (by rw [starES]; exact h)
theorem gPT : Tryz.prog.globalNamed "internal/strconv.uint64pow10" = some 1 := by kernel_rfl
theorem gPTT : (Tryz.prog.globals[1]?).map (·.type) = some 177 := by kernel_rfl
theorem cells64 : Tryz.prog.cellsOf 159 = 1 := by kernel_rfl
theorem cells20 : Tryz.prog.cellsOf 177 = 20 := by kernel_rfl
theorem max_of {W : World} (h : W.ShapedOpen Tryz.prog) : ∃ m, W.cell? ⟨0, 0, none⟩ = some (.int .i64 m) :=
  cell_of_shapedOpen_int (t := 3) (zero := #[.int .i64 0]) h (of_decide_eq_true (by kernel_rfl)) (by kernel_rfl) rfl (by kernel_rfl) (by kernel_rfl) Tryz.underlying3
/-- the library's tables and variables lie where a statement of texts begins -/
theorem env_of {W : World} (hL : laidMetH Tryz.prog Rows.sessionTextsRow.laid W) (hsh : W.ShapedOpen Tryz.prog) : Env W := by
  rw [MakeChecks.laidMetH_plain _ _ _ (by kernel_rfl)] at hL
  have h3 := hL.tail.tail
  have h5 := h3.tail.tail
  have h6 := h5.tail
  obtain ⟨a1, s1, hv1, -, -, -⟩ := laid_sentinel h5 gER gERT Tryz.underlying94 rowES Tryz.underlying194 Tryz.underlying196 rfl rfl Tryz.underlying9 cellsES cellsStr
  obtain ⟨a2, s2, hv2, -, -, -⟩ := laid_sentinel h6 gES gEST Tryz.underlying94 rowES Tryz.underlying194 Tryz.underlying196 rfl rfl Tryz.underlying9 cellsES cellsStr
  exact ⟨Lib.tabIs_of_head gPT gPTT Tryz.underlying177 Tryz.underlying159 cells64 cells20 h3, ⟨_, _, hv2⟩, ⟨_, _, hv1⟩, max_of hsh⟩
/-- a world for the witness: what the program's own laying of its variables leaves -/
noncomputable def laidWorldL (os : Os) : World := { World.doorLaid Tryz.prog 3000 os with heap := putAt (World.doorLaid Tryz.prog 3000 os).heap 4 Rows.laid_unicode_utf8_first }
set_option maxHeartbeats 4000000 in
theorem laidL_met (os : Os) (args : Array Value) : laidMetH Tryz.prog Rows.sessionTextsRow.laid ((laidWorldL os).forCall (fun _ _ => 0) ⟨#[], args, []⟩).memory := by
  rw [MakeChecks.laidMetH_plain _ _ _ (by kernel_rfl)]
  exact laidMet_of_run' 8 (by kernel_rfl) (by kernel_rfl)
end Go.Proofs.YtpcefaccoifejaaGreatDoor

namespace Go.Proofs.YtpcefaccoifejaaGreatDoor.fnSessionTexts
open Go.ChangeShapes Go.WideShapes Go.ChangeAt Go.RowKit Go.Joins Go.ChangeMaps
set_option linter.unusedVariables false
set_option linter.unusedSimpArgs false

set_option maxRecDepth 100000 in
theorem contract (H : Type) (enc : TypeId × Value → H) (W : World) (base : Nat) (args : Array Value) (ds gs : List (DataW H)) (before : List MemPlace)
    (hval : ∀ (j : Nat) t v, Tryz.f3.params[j]? = some t → args[j]? = some v → Value.okWide Tryz.prog W .any base t v)
    (hW : DataW.Whole enc Tryz.prog Tryz.f3.params.toList Rows.sessionTextsSpec.vars false W args.toList ds gs before)
    (hz : (DataW.weightsEach Tryz.prog (Tryz.f3.params.toList ++ []) (ds ++ gs)).all (· ≤ reachBytes) = true) (hL : laidMetH Tryz.prog Rows.sessionTextsRow.laid W) (hsh : W.ShapedOpen Tryz.prog) :
    Calls Tryz.prog 3 args W fun e W' => ∃ v, e = .returned v ∧ Rows.sessionTextsSpec.post enc Tryz.prog Tryz.f3 false true false false W args v W' := by
  have hW' := hW
  obtain ⟨p, q, hA0, hV, rfl, hfz, hnd⟩ := hW
  have hA : DataW.TrodAll enc Tryz.prog W 0 (fun _ => true) true Tryz.f3.params.toList args.toList ds p := hA0
  rw [Tryz.params3] at hA hval hz
  clear hA0
  obtain ⟨v0, vs0, d0, ds0, p0, q0, hargs, rfl, rfl, h0, r0⟩ := trodAll_cons hA
  obtain ⟨v1, vs1, d1, ds1, p1, q1, rfl, rfl, rfl, h1, r1⟩ := trodAll_cons r0
  obtain ⟨rfl, rfl, rfl⟩ := trodAll_nil r1
  obtain rfl : args = #[v0, v1] := by cases args; simp_all
  obtain ⟨rfl, rfl⟩ := trodVars_none hV
  clear hargs
  obtain ⟨fu0, h0f⟩ := h0
  obtain ⟨sa0, sl0, sc0, rfl⟩ := okWide_slice Tryz.underlying22 (hval 0 22 v0 rfl rfl)
  obtain ⟨w0, a0, e0, hA0, wf0, hn0⟩ := acts_open h0f
  simp [Value.cells] at e0
  subst e0
  generalize Value.slice sa0 sl0 sc0 = v0 at *
  obtain ⟨t, rfl, rfl, rfl, ws1⟩ := open_string Tryz.underlying9 (hval 1 9 v1 rfl rfl) h1
  have walk := Texts_walk v0 a0 t W hA0 wf0 (env_of hL hsh)
  refine walk.mono fun e W' ⟨he, hb⟩ => ?_
  subst he
  exact ⟨_, rfl, post_true laidOut (tb := 4) (by kernel_rfl) Tryz.underlying4 (by kernel_rfl) rfl rfl hW' hb⟩

theorem laid_met (os : Os) : laidMetH Tryz.prog Rows.sessionTextsRow.laid ((laidWorldL os).forCall (fun _ _ => 0) ⟨#[], #[.slice none 0 0, .string ByteArray.empty], []⟩).memory :=
  laidL_met os _
theorem reads (os : Os) {H : Type} (enc : TypeId × Value → H) : ∃ places, DataW.whole enc Tryz.prog ((laidWorldL os).forCall (fun _ _ => 0) ⟨#[], #[.slice none 0 0, .string ByteArray.empty], []⟩).memory Tryz.f3.params.toList Rows.sessionTextsSpec.vars false (#[.slice none 0 0, .string ByteArray.empty] : Array Value).toList 8 = some ([.nil, .lit (.string [])], [], places) :=
  ⟨[], by kernel_rfl⟩

set_option maxRecDepth 100000 in
theorem lifted (os : Os) (started : os.Started) (H : Type) (enc : TypeId × Value → H) (F : Stop.Interp) :
    ReturnsInHanded {} Tryz.checked os 3 .any ((OpenSpec.ofChange Rows.sessionTextsSpec).preRow enc Tryz.prog Tryz.f3 Rows.sessionTextsRow.domain false Rows.sessionTextsRow.laid) (((OpenSpec.ofChange Rows.sessionTextsSpec).at F).post enc Tryz.prog Tryz.f3 false true false false) := by
  obtain ⟨places, hx⟩ := reads os enc
  refine returnsInHanded_of_row (C := Tryz.checked) (s := OpenSpec.ofChange Rows.sessionTextsSpec) own started (by kernel_rfl) Tryz.func3
    (witness_row_at (enc := enc) (C := Tryz.checked) false (laidWorldL os) #[.slice none 0 0, .string ByteArray.empty] rfl (by kernel_rfl) (by kernel_rfl) (by kernel_rfl)
      (OpenSpec.preRow_of_cond 8 hx (by kernel_rfl) (fun k hk => by cases hk) (by kernel_rfl) (laid_met os))) ?_
  intro W base args ds gs before hval hW _ _ hz hL hsh _
  exact contract H enc W base args ds gs before hval hW hz hL hsh

theorem said : Rows.SessionTextsSaid :=
  OpenClaim.holds_of_cond 3 Tryz.f3 rfl rfl rfl rfl rfl rfl rfl ⟨rfl, rfl, rfl, rfl, rfl⟩ rfl rfl rfl rfl rfl (by kernel_rfl) Tryz.func3 (by kernel_rfl)
    (of_decide_eq_true (by kernel_rfl)) (by unfold Func.isWrapper; first | (rw [if_pos (by decide +kernel)]; kernel_rfl) | (rw [if_neg (by decide +kernel)]; exact ⟨rfl, rfl⟩))
    (fun os started H enc _ F => by rw [OpenClaim.pre_eq_preRow]; exact lifted os started H enc F)

theorem plain (f : FuncId) (fn : Func) (hf : Tryz.pinned.checked.prog.funcNamed "custos/custoslaw13.SessionTexts" = some f) (hfn : Tryz.pinned.checked.prog.funcs[f]? = some fn) :
    true = Tryz.pinned.checked.prog.looks [] ∧ ∀ (j : Nat) t, fn.params[j]? = some t → Tryz.pinned.checked.prog.wantsStandIn t = false := by
  obtain rfl : f = 3 := Option.some.inj ((show Tryz.prog.funcNamed "custos/custoslaw13.SessionTexts" = some 3 by kernel_rfl).symm.trans hf) |>.symm
  obtain rfl : fn = Tryz.f3 := (Option.some.inj (Tryz.func3.symm.trans hfn)).symm
  refine ⟨by kernel_rfl, fun j t ht => ?_⟩
  have all := List.all_eq_true.1 (show (Tryz.f3.params.toList.all fun t => Tryz.prog.wantsStandIn t == false) = true by kernel_rfl)
  exact beq_iff_eq.1 (all t (by simpa using Array.mem_of_getElem? ht))

theorem card : Rows.SessionTextsCardSaid :=
  Claim7.holds_tied_plain_at .later [] _ _ _ _ said (fun _ h => by cases h) (by kernel_rfl) (fun _ h => by cases h) sessionTexts_row_tie rfl ⟨rfl, rfl⟩ (by kernel_rfl) rfl plain (by kernel_rfl)
end Go.Proofs.YtpcefaccoifejaaGreatDoor.fnSessionTexts
