/-
  Features of which some are settled: how one more is settled in memory. Conditions: the features' places differ.
-/
import Derived.Test.YtpcefaccoifejaaGreatDoorKC
namespace Go.Proofs.YtpcefaccoifejaaGreatDoor
open Go.RowKit Go.Maps
set_option linter.unusedSimpArgs false
set_option linter.unusedVariables false

/-- features of which those of pre are settled -/
def setL (fs : List Ft) (acts : List Ac) (pre : List (SetI fs acts)) : List Ft := fs.map fun f => if f.1 ∈ pre.map (plOf fs) then (f.1, [(pres acts f, 0)]) else f
theorem setL_len (fs : List Ft) (acts : List Ac) (pre : List (SetI fs acts)) : (setL fs acts pre).length = fs.length := by simp [setL]
theorem setL_nil (fs : List Ft) (acts : List Ac) : setL fs acts [] = fs := by simp [setL]
theorem setL_end {fs : List Ft} {acts : List Ac} {pre : List (SetI fs acts)} (h : pre.map (plOf fs) = ordA acts) : setL fs acts pre = feats fs acts := by
  unfold setL feats
  congr 1
  funext f
  rw [h]
  by_cases e : touched acts f.1 = true
  · rw [if_pos e, if_pos ((ordA_mem _ _).2 e)]
  · rw [if_neg e, if_neg (fun x => e ((ordA_mem _ _).1 x))]
theorem setL_pl (fs : List Ft) (acts : List Ac) (pre : List (SetI fs acts)) : (setL fs acts pre).map (·.1) = fs.map (·.1) := by
  unfold setL
  rw [List.map_map]
  congr 1
  funext f
  simp only [Function.comp]
  split <;> rfl
theorem setL_at {fs : List Ft} {acts : List Ac} (pre : List (SetI fs acts)) {j : Nat} (h : j < fs.length) : ftAt (setL fs acts pre) j = if (ftAt fs j).1 ∈ pre.map (plOf fs) then ((ftAt fs j).1, [(pres acts (ftAt fs j), 0)]) else ftAt fs j := by
  rw [ftAt_get (by rw [setL_len]; exact h), ftAt_get h]
  simp [setL]
theorem ftFlat_set : ∀ (fs : List Ft) (ws : List Value) (i : Nat) (v : Value), ws.length = fs.length → i < fs.length → ftFlat fs (ws.set i v) = (ftFlat fs ws).set (i * 6 + 5) v
  | [], _, i, v, _, h => by simp at h
  | f :: r, [], i, v, h, _ => by simp at h
  | f :: r, u :: us, 0, v, _, _ => rfl
  | f :: r, u :: us, i + 1, v, h, hi => by
    have ih := ftFlat_set r us i v (by simpa using h) (by simpa using hi)
    rw [show (i + 1) * 6 + 5 = (i * 6 + 5) + 1 + 1 + 1 + 1 + 1 + 1 by omega]
    show ftV f.1 u ++ ftFlat r (us.set i v) = (ftV f.1 u ++ ftFlat r us).set ((i * 6 + 5) + 1 + 1 + 1 + 1 + 1 + 1) v
    rw [ih]
    rfl
theorem ftFlat_congr : ∀ (fs gs : List Ft) (ws : List Value), fs.map (·.1) = gs.map (·.1) → ftFlat fs ws = ftFlat gs ws
  | [], [], _, _ => rfl
  | [], _ :: _, _, h => by cases h
  | _ :: _, [], _, h => by cases h
  | f :: r, g :: s, [], _ => by simp [ftFlat]
  | f :: r, g :: s, u :: us, h => by
    simp only [List.map_cons, List.cons.injEq] at h
    have ih := ftFlat_congr r s us h.2
    show ftV f.1 u ++ ftFlat r us = ftV g.1 u ++ ftFlat s us
    rw [ih, h.1]
theorem OwnFeats.settle {W : World} {lo g cap i : Nat} {fs : List Ft} {acts : List Ac} (hg : Good fs) (pre : List (SetI fs acts)) (x : SetI fs acts) (hif : i < fs.length) (hxi : plOf fs x = (ftAt fs i).1) {ws : List Value} (hwl : ws.length = fs.length)
    (hrw : W.ownsRow lo 47 6 (.slice (some ⟨g, 0, none⟩) fs.length cap) fs.length (ftFlat (setL fs acts pre) ws))
    (hop : ∀ j, j < (setL fs acts pre).length → W.ownsRow lo 41 2 (ws.getD j default) (ftAt (setL fs acts pre) j).2.length ((ftAt (setL fs acts pre) j).2.flatMap optV)) (hlo : lo ≤ W.heap.size) :
    OwnFeats ((W.setCell ⟨g, i * 6 + 5, none⟩ (.slice (some ⟨W.heap.size, 0, none⟩) 1 1)).alloc (.cells #[.int .i64 (pres acts (ftAt fs i)), .int .i64 0] 41)).drew lo (.slice (some ⟨g, 0, none⟩) fs.length cap) (setL fs acts (pre ++ [x])) := by
  obtain ⟨hst, hgs⟩ := hrw.stored (i * 6 + 5) (.slice (some ⟨W.heap.size, 0, none⟩) 1 1)
  refine ⟨ws.set i (.slice (some ⟨W.heap.size, 0, none⟩) 1 1), by rw [List.length_set, hwl, setL_len], ?_, fun j hj => ?_⟩
  · rw [setL_len, ftFlat_congr _ (setL fs acts pre) _ (by rw [setL_pl, setL_pl]), ftFlat_set _ _ _ _ (by rw [hwl, setL_len]) (by rw [setL_len]; exact hif)]
    exact hst.alloc _
  · rw [setL_len] at hj
    by_cases e : j = i
    · subst e
      have h1 : (ws.set j (.slice (some ⟨W.heap.size, 0, none⟩) 1 1)).getD j default = .slice (some ⟨W.heap.size, 0, none⟩) 1 1 := by
        rw [List.getD_eq_getElem?_getD, List.getElem?_set_self (by omega)]
        rfl
      have h2 : ftAt (setL fs acts (pre ++ [x])) j = ((ftAt fs j).1, [(pres acts (ftAt fs j), 0)]) := by
        rw [setL_at _ hj, if_pos (by rw [List.map_append, List.mem_append]; exact .inr (by simp [hxi]))]
      rw [h1, h2]
      have := World.ownsRow_lit (base := lo) (e := 41) (size := 2) (W.setCell ⟨g, j * 6 + 5, none⟩ (.slice (some ⟨W.heap.size, 0, none⟩) 1 1)) #[.int .i64 (pres acts (ftAt fs j)), .int .i64 0] 1 (by simpa [World.setCell] using hlo) (by simp only [maxLen]; omega) rfl
      have hz : (W.setCell ⟨g, j * 6 + 5, none⟩ (.slice (some ⟨W.heap.size, 0, none⟩) 1 1)).heap.size = W.heap.size := by simp [World.setCell]
      rw [hz] at this
      exact this
    · have h1 : (ws.set i (.slice (some ⟨W.heap.size, 0, none⟩) 1 1)).getD j default = ws.getD j default := by
        rw [List.getD_eq_getElem?_getD, List.getElem?_set_ne (fun h => e h.symm), ← List.getD_eq_getElem?_getD]
      have hne : (ftAt fs j).1 ≠ (ftAt fs i).1 := fun h => by
        have a1 := atF_at hg.apart hj
        have a2 := atF_at hg.apart hif
        rw [ftAt_get hj, ftAt_get hif] at h
        rw [h, a2] at a1
        exact e (Option.some.inj a1).symm
      have h2 : ftAt (setL fs acts (pre ++ [x])) j = ftAt (setL fs acts pre) j := by
        rw [setL_at _ hj, setL_at _ hj]
        have : (ftAt fs j).1 ∈ (pre ++ [x]).map (plOf fs) ↔ (ftAt fs j).1 ∈ pre.map (plOf fs) := by
          rw [List.map_append, List.mem_append]
          simp only [List.map_cons, List.map_nil, List.mem_singleton, hxi]
          exact ⟨fun h => h.resolve_right hne, .inl⟩
        by_cases hm : (ftAt fs j).1 ∈ pre.map (plOf fs)
        · rw [if_pos hm, if_pos (this.2 hm)]
        · rw [if_neg hm, if_neg (fun h => hm (this.1 h))]
      rw [h1, h2]
      exact ((hop j (by rw [setL_len]; exact hj)).kept hgs (own_apart (hop j (by rw [setL_len]; exact hj)) hrw (by decide))).alloc _
end Go.Proofs.YtpcefaccoifejaaGreatDoor
