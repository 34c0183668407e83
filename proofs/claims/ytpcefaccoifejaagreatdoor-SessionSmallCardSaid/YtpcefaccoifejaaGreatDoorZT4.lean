/-
  The contract of custosref13.words. Conditions: the text is at most 200000 bytes long.
-/
import Derived.Test.YtpcefaccoifejaaGreatDoorZT1
import Derived.Test.YtpcefaccoifejaaGreatDoorTX2a
import Derived.Laws.OwnMore
import Derived.Lib.Strings
namespace Go.Proofs.YtpcefaccoifejaaGreatDoor
open Go.RowKit
set_option linter.unusedSimpArgs false
set_option linter.unusedVariables false
set_option maxRecDepth 100000

/-- words laid together, the last one apart -/
theorem join_snoc (c : UInt8) (x : List UInt8) : ∀ (ws : List (List UInt8)), ws ≠ [] → Lib.join (ws ++ [x]) [c] = Lib.join ws [c] ++ c :: x
  | [], h => absurd rfl h
  | [y], _ => by rw [List.cons_append, List.nil_append, join_two, Lib.join_one, Lib.join_one]
  | y :: z :: r, _ => by
    have ih := join_snoc c x (z :: r) (by simp)
    rw [show (y :: z :: r) ++ [x] = y :: z :: (r ++ [x]) by simp, join_two, show z :: (r ++ [x]) = (z :: r) ++ [x] by simp, ih, join_two]
    simp
theorem join_more (c b : UInt8) (x : List UInt8) : ∀ (ws : List (List UInt8)), Lib.join (ws ++ [x ++ [b]]) [c] = Lib.join (ws ++ [x]) [c] ++ [b]
  | [] => by simp [Lib.join_one]
  | y :: r => by
    rw [join_snoc c _ (y :: r) (by simp), join_snoc c _ (y :: r) (by simp)]
    simp
theorem own_some {w : World} {base k n : Nat} {e : TypeId} {v : Value} {ks : List Value} (h : w.ownsRow base e k v (n + 1) ks) : ∃ g cap, v = .slice (some ⟨g, 0, none⟩) (n + 1) cap := by
  rcases h.2 with ⟨rfl, h0⟩ | ⟨g, cap, cur, rfl, -⟩
  · exact absurd h0 (by simp)
  · exact ⟨g, cap, rfl⟩
theorem extract_one {s : List UInt8} {k : Nat} {b : UInt8} (hb : s[k]? = some b) : (⟨s.toArray⟩ : ByteArray).extract k (k + 1) = ⟨#[b]⟩ := by
  apply ByteArray.ext
  apply Array.toList_inj.1
  obtain ⟨hk, rfl⟩ := List.getElem?_eq_some_iff.1 hb
  show ((⟨s.toArray⟩ : ByteArray).extract k (k + 1)).data.toList = [s[k]]
  rw [Lib.extract_data]
  show (s.drop k).take (k + 1 - k) = [s[k]]
  rw [List.drop_eq_getElem_cons hk, show k + 1 - k = 1 by omega]
  rfl
def strV (l : List UInt8) : Value := .string ⟨l.toArray⟩
set_option maxHeartbeats 4000000 in
theorem words_c (s : List UInt8) (w : World) (hs : s.length ≤ 200000) :
    Calls Tryz.prog 63 #[.string ⟨s.toArray⟩] w fun e w' => ∃ v, e = .returned v ∧ w'.ownsRow w.heap.size 9 1 v (wordsOf s).length ((wordsOf s).map strV) ∧ Below w.heap.size w w' := by
  have hI := Lib.hid infoStr
  have HW : Hid (∀ ws : List (List UInt8), ws ≠ [] → (∀ x ∈ ws, (32 : UInt8) ∉ x) → s = Lib.join ws [32] → wordsOf s = ws) := Lib.hid fun ws h0 h1 h2 => by rw [h2]; exact wordsOf_join h0 h1
  generalize wordsOf s = WS at *
  go_enter Tryz.func63, Tryz.ntmps63
  go_wp2_with fail
  go_loopw [3, 4] (fun ov i wr => ∃ (k : Nat) (init : List (List UInt8)) (l : List UInt8), k ≤ s.length ∧ i = .int .i64 (k : Int) ∧ s.take k = Lib.join (init ++ [l]) [32] ∧ (∀ x ∈ init ++ [l], (32 : UInt8) ∉ x) ∧ init.length ≤ k ∧
      wr.ownsRow w.heap.size 9 1 ov (init.length + 1) ((init ++ [l]).map strV) ∧ Below w.heap.size w wr)
    (fun _ i wr => s.length - (intOf i).toNat)
  case atStart => exact ⟨0, [], [], Nat.zero_le _, rfl, by simp [Lib.join_one], by simp, Nat.le_refl _, World.ownsRow_lit w #[strV []] 1 (Nat.le_refl _) (by decide) rfl, by go_grown⟩
  case round =>
    obtain ⟨k, init, l, hkn, rfl, hpre, hno, hil, hown, hB⟩ := hrel
    have HOWN := Lib.hid hown
    have HB := Lib.hid hB
    obtain ⟨g, cap, rfl⟩ := own_some hown
    have hll : l.length ≤ 200000 := by
      have := congrArg List.length hpre
      rw [List.length_take] at this
      cases init with
      | nil => rw [List.nil_append, Lib.join_one] at this; omega
      | cons y r => rw [join_snoc 32 l (y :: r) (by simp), List.length_append, List.length_cons] at this; omega
    have hk0 : (0 : Int) ≤ k := by omega
    by_cases hk : k < s.length
    · obtain ⟨b, hb⟩ : ∃ b, s[k]? = some b := ⟨_, List.getElem?_eq_getElem hk⟩
      have hgb : ∀ h, (⟨s.toArray⟩ : ByteArray)[k]'h = b := fun h => by
        have : s[k] = b := (List.getElem?_eq_some_iff.1 hb).2
        exact this
      have htk : s.take (k + 1) = s.take k ++ [b] := by rw [List.take_add_one, hb]; rfl
      have hkI : (k : Int) < (s.length : Int) := by omega
      have hk3 : (k : Int) ≤ 200000 := by omega
      have hi0 : (0 : Int) ≤ (init.length : Int) := by omega
      have hi3 : (init.length : Int) ≤ 200000 := by omega
      by_cases hb32 : b = 32
      · subst hb32
        have hn1 : s.take (k + 1) = Lib.join ((init ++ [l]) ++ [[]]) [32] := by rw [htk, hpre, join_snoc 32 [] (init ++ [l]) (by simp)]
        have hn2 : ∀ x ∈ (init ++ [l]) ++ [[]], (32 : UInt8) ∉ x := fun x hx => by
          rcases List.mem_append.1 hx with hx | hx
          · exact hno x hx
          · rw [List.mem_singleton.1 hx]; simp
        have HN1 := Lib.hid hn1
        have HN2 := Lib.hid hn2
        have hsz := hB.size
        clear hpre hno hown hB htk hn1 hn2 hb
        go_wp2_with (at_builtin; go_loud (refine wpList_append_own _ rfl (.tmp 16) (.tmp 17) _ rfl w.heap.size 9 Tryz.t9 _ 1 16 rfl hI.out rfl rfl rfl rfl (by omega) (.slice (some ⟨g, 0, none⟩) (init.length + 1) cap) (init.length + 1) _ rfl (HOWN.out.alloc _) ⟨wr.heap.size, 0, none⟩ 1 1 [strV []] rfl rfl (newCells _ _ _) (by simp [strV, Value.oneCell']) (by simp only [maxLen]; omega) (by omega) (by simp; omega) ?_); intro v8 w8 hao hag hn8)
        have hB8 : Below w.heap.size w w8 := (HB.out.alloc hsz _).grown hag (by simp; omega) (fun j hj => (HOWN.out.lt j hj).1)
        go_roundw
        case rel => exact ⟨k + 1, init ++ [l], [], by omega, by go_num, HN1.out, HN2.out, by simp; omega, by simpa using hao, hB8⟩
        case measure => simp [intOf]; omega
      · have hbn : ¬ ((b.toNat : Int) = 32) := fun e => hb32 (UInt8.toNat_inj.1 (by simpa using (by omega : b.toNat = 32)))
        have hn1 : s.take (k + 1) = Lib.join (init ++ [l ++ [b]]) [32] := by rw [htk, hpre, join_more]
        have hn2 : ∀ x ∈ init ++ [l ++ [b]], (32 : UInt8) ∉ x := fun x hx => by
          rcases List.mem_append.1 hx with hx | hx
          · exact hno x (List.mem_append_left _ hx)
          · rw [List.mem_singleton.1 hx]
            intro hm
            rcases List.mem_append.1 hm with hm | hm
            · exact hno l (by simp) hm
            · exact hb32 (List.mem_singleton.1 hm).symm
        have HN1 := Lib.hid hn1
        have HN2 := Lib.hid hn2
        have hsz := hB.size
        have hcell : wr.cell? ⟨g, init.length, none⟩ = some (.string ⟨l.toArray⟩) := by
          rw [HOWN.out.cellAt init.length (by omega)]
          simp [strV]
        have hfz : ∀ j, wr.frozen? ⟨g, j, none⟩ = false := HOWN.out.frozenAt
        have hadd : ∀ w, (Op.stringOp .add ⟨l.toArray⟩ ⟨#[b]⟩).run Tryz.prog w = .ok (.string ⟨(l ++ [b]).toArray⟩) w := zadd l [b] (by omega) (by simp)
        have hex := extract_one hb
        clear hpre hno hown hB htk hn1 hn2 hb
        go_wp2_with fail
--REGION
        have hwi : IntKind.i64.wrap (init.length : Int) = init.length := by rw [IntWalk.i64_left]; exact IntWalk.wrap64_in _ (by omega)
        have hwk : IntKind.i64.wrap ((k : Int) + 1) = (k : Int) + 1 := by rw [IntWalk.i64_left]; exact IntWalk.wrap64_in _ (by omega)
        have hwl : (init.length : Int) < (init.length : Int) + 1 := by omega
        have hkk : (k : Int) ≤ (k : Int) + 1 := by omega
        have hks : (k : Int) + 1 ≤ (s.length : Int) := by omega
        refine wp_region_noPanic ?_
        refine wp_region_held_drew (S := fun w' => Kg wr (some g) w') (by kernel_rfl) (Kg.drew _ _) (fun hHeld => ?_)
        refine wpAnyH_take (i := 0) (v := ?v1) (arr_at rfl) (by kernel_rfl) (by kernel_rfl) (by kernel_rfl) (fun _ _ _ h => h) (Or.inl ⟨by rfl, ?hy1⟩) (by assumption) ?_
        case hy1 => (intro w hSw; (try dsimp only at hSw); go_simp <;> with_reducible rfl)
        try simp only [Act.put, List.setIfInBounds_toArray, List.set_cons_zero, List.set_cons_succ]
        refine wpAnyH_take (i := 1) (v := ?v2) (arr_at rfl) (by kernel_rfl) (by kernel_rfl) (by kernel_rfl) (fun _ _ _ h => h) (Or.inl ⟨by rfl, ?hy2⟩) (by assumption) ?_
        case hy2 => (intro w hSw; (try dsimp only at hSw); go_simp <;> with_reducible rfl)
        try simp only [Act.put, List.setIfInBounds_toArray, List.set_cons_zero, List.set_cons_succ]
        refine wpAnyH_take (i := 2) (v := ?v3) (arr_at rfl) (by kernel_rfl) (by kernel_rfl) (by kernel_rfl) (fun _ _ _ h => h) (Or.inl ⟨by rfl, ?hy3⟩) (by assumption) ?_
        case hy3 => (intro w hSw; (try dsimp only at hSw); go_simp <;> with_reducible rfl)
        try simp only [Act.put, List.setIfInBounds_toArray, List.set_cons_zero, List.set_cons_succ]
        refine wpAnyH_take (i := 3) (v := ?v4) (arr_at rfl) (by kernel_rfl) (by kernel_rfl) (by kernel_rfl) (fun _ _ _ h => h) (Or.inl ⟨by rfl, ?hy4⟩) (by assumption) ?_
        case hy4 => (intro w hSw; (try dsimp only at hSw); go_simp <;> with_reducible rfl)
        try simp only [Act.put, List.setIfInBounds_toArray, List.set_cons_zero, List.set_cons_succ]
        refine wpAnyH_take (i := 4) (v := ?v5) (arr_at rfl) (by kernel_rfl) (by kernel_rfl) (by kernel_rfl) (fun _ _ _ h => h) (Or.inl ⟨by rfl, ?hy5⟩) (by assumption) ?_
        case hy5 => (intro w hSw; (try dsimp only at hSw); go_simp <;> with_reducible rfl)
        try simp only [Act.put, List.setIfInBounds_toArray, List.set_cons_zero, List.set_cons_succ]
        refine wpAnyH_take (i := 5) (v := ?v6) (arr_at rfl) (by kernel_rfl) (by kernel_rfl) (by kernel_rfl) (fun _ _ _ h => h) (Or.inl ⟨by rfl, ?hy6⟩) (by assumption) ?_
        case hy6 => (intro w hSw; (try dsimp only at hSw); go_simp <;> with_reducible rfl)
        try simp only [Act.put, List.setIfInBounds_toArray, List.set_cons_zero, List.set_cons_succ]
        refine wpAnyH_take (i := 6) (v := ?v7) (arr_at rfl) (by kernel_rfl) (by kernel_rfl) (by kernel_rfl) (fun _ _ _ h => h) (Or.inl ⟨by rfl, ?hy7⟩) (by assumption) ?_
        case hy7 => (intro w hSw; (try dsimp only at hSw); go_simp <;> with_reducible rfl)
        try simp only [Act.put, List.setIfInBounds_toArray, List.set_cons_zero, List.set_cons_succ]
        refine wpAnyH_take (i := 7) (v := ?v8) (arr_at rfl) (by kernel_rfl) (by kernel_rfl) (by kernel_rfl) (fun _ _ _ h => h) (Or.inl ⟨by rfl, ?hy8⟩) (by assumption) ?_
        case hy8 => (intro w hSw; (try dsimp only at hSw); go_simp <;> with_reducible rfl)
        try simp only [Act.put, List.setIfInBounds_toArray, List.set_cons_zero, List.set_cons_succ]
        refine wpAnyH_take (i := 8) (v := ?v9) (arr_at rfl) (by kernel_rfl) (by kernel_rfl) (by kernel_rfl) (fun _ _ _ h => h) (Or.inl ⟨by rfl, ?hy9⟩) (by assumption) ?_
        case hy9 => (intro w hSw; (try dsimp only at hSw); go_simp <;> with_reducible rfl)
        try simp only [Act.put, List.setIfInBounds_toArray, List.set_cons_zero, List.set_cons_succ]
        refine wpAnyH_take (i := 10) (v := ?v10) (arr_at rfl) (by kernel_rfl) (by kernel_rfl) (by kernel_rfl) (fun _ _ _ h => h) (Or.inl ⟨by rfl, ?hy10⟩) (by assumption) ?_
        case hy10 => (intro w hSw; (try dsimp only at hSw); go_simp <;> with_reducible rfl)
        try simp only [Act.put, List.setIfInBounds_toArray, List.set_cons_zero, List.set_cons_succ]
        refine wpAnyH_take (i := 11) (v := ?v11) (arr_at rfl) (by kernel_rfl) (by kernel_rfl) (by kernel_rfl) (fun _ _ _ h => h) (Or.inl ⟨by rfl, ?hy11⟩) (by assumption) ?_
        case hy11 => (intro w hSw; (try dsimp only at hSw); go_simp <;> with_reducible rfl)
        try simp only [Act.put, List.setIfInBounds_toArray, List.set_cons_zero, List.set_cons_succ]
        refine wpAnyH_take (i := 12) (v := ?v12) (arr_at rfl) (by kernel_rfl) (by kernel_rfl) (by kernel_rfl) (fun _ _ _ h => h) (Or.inl ⟨by rfl, ?hy12⟩) (by assumption) ?_
        case hy12 => (intro w hSw; (try dsimp only at hSw); go_simp <;> with_reducible rfl)
        try simp only [Act.put, List.setIfInBounds_toArray, List.set_cons_zero, List.set_cons_succ]
        refine wpAnyH_take (i := 13) (v := ?v13) (arr_at rfl) (by kernel_rfl) (by kernel_rfl) (by kernel_rfl) (fun _ _ _ h => h) (Or.inl ⟨by rfl, ?hy13⟩) (by assumption) ?_
        case hy13 => (intro w hSw; (try dsimp only at hSw); go_simp <;> with_reducible rfl)
        try simp only [Act.put, List.setIfInBounds_toArray, List.set_cons_zero, List.set_cons_succ]
        refine wpAnyH_take (i := 14) (v := ?v14) (arr_at rfl) (by kernel_rfl) (by kernel_rfl) (by kernel_rfl) (fun _ _ _ h => h) (Or.inl ⟨by rfl, ?hy14⟩) (by assumption) ?_
        case hy14 => (intro w hSw; (try dsimp only at hSw); go_simp <;> with_reducible rfl)
        try simp only [Act.put, List.setIfInBounds_toArray, List.set_cons_zero, List.set_cons_succ]
        refine wpAnyH_ready (rs := [9]) (by kernel_rfl) (by simp) ?_
        refine AllReadyH.cons (arr_at rfl) (fun K hK => ?_) ?_
        · go_simp
          refine hK.out _ _ ?_ (fun hHeld => ?_)
          · first | exact Kg.setg (Kg.drew _ _) _ _ | exact Kg.drew _ _
          clear hK K
          try simp only [Act.put, List.setIfInBounds_toArray, List.set_cons_zero, List.set_cons_succ]
          refine wpAnyH_take (i := 15) (v := ?v15) (arr_at rfl) (by kernel_rfl) (by kernel_rfl) (by kernel_rfl) (fun _ _ _ h => h) (Or.inl ⟨by rfl, ?hy15⟩) (by assumption) ?_
          case hy15 => (intro w hSw; (try dsimp only at hSw); go_simp <;> with_reducible rfl)
          try simp only [Act.put, List.setIfInBounds_toArray, List.set_cons_zero, List.set_cons_succ]
          refine wpAnyH_take (i := 16) (v := ?v16) (arr_at rfl) (by kernel_rfl) (by kernel_rfl) (by kernel_rfl) (fun _ _ _ h => h) (Or.inl ⟨by rfl, ?hy16⟩) (by assumption) ?_
          case hy16 => (intro w hSw; (try dsimp only at hSw); go_simp <;> with_reducible rfl)
          try simp only [Act.put, List.setIfInBounds_toArray, List.set_cons_zero, List.set_cons_succ]
          refine wpAnyH_ready (rs := [17]) (by kernel_rfl) (by simp) ?_
          refine AllReadyH.cons (arr_at rfl) (fun K hK => ?_) ?_
          · go_simp
            refine hK.out _ _ ?_ (fun hHeld => ?_)
            · first | exact Kg.setg (Kg.drew _ _) _ _ | exact Kg.drew _ _
            clear hK K
            try simp only [Act.put, List.setIfInBounds_toArray, List.set_cons_zero, List.set_cons_succ]
            refine wpAnyH_done (by kernel_rfl) ?_ _
            refine NoPanic.normal ?_
            refine exit_namedL (Q := Exit.inBlock _ _) fun WF hWF => ?_
            have hst := HOWN.out.drew.stored init.length (strV (l ++ [b]))
            have hro : WF.ownsRow w.heap.size 9 1 (.slice (some ⟨g, 0, none⟩) (init.length + 1) cap) (init.length + 1) ((init ++ [l ++ [b]]).map strV) := by
              rw [hWF]
              have := hst.1
              rwa [show ((init ++ [l]).map strV).set init.length (strV (l ++ [b])) = (init ++ [l ++ [b]]).map strV by simp] at this
            have hgr : Below w.heap.size w WF := by
              rw [hWF]
              exact HB.out.drew.grown hst.2 hsz (fun j hj => by cases hj; exact (HOWN.out.lt g rfl).1)
            clear hWF hst hHeld hcell hfz
            go_wp2
            go_roundw
            case rel => exact ⟨k + 1, init, l ++ [b], by omega, by go_num, HN1.out, HN2.out, by omega, by simpa using hro, hgr⟩
            case measure => simp [intOf]; omega
          exact AllReadyH.nil
        exact AllReadyH.nil
--END
    · obtain rfl : k = s.length := by omega
      rw [List.take_length] at hpre
      have hW := HW.out _ (by simp) hno hpre
      clear hown hB
      go_wp2_with fail
      subst hW
      go_ret
      exact ⟨_, rfl, by simpa using HOWN.out, HB.out⟩
end Go.Proofs.YtpcefaccoifejaaGreatDoor
