/-
  The chapter's examples in plain Lean: what each step of custoslaw13.awake gives. No conditions.
-/
import Derived.Test.YtpcefaccoifejaaGreatDoorFormS
import Derived.Test.YtpcefaccoifejaaGreatDoorKB
import Derived.Test.YtpcefaccoifejaaGreatDoorKD
import Derived.Test.YtpcefaccoifejaaGreatDoorKC
import Derived.Test.YtpcefaccoifejaaGreatDoorK18
import Derived.Test.YtpcefaccoifejaaGreatDoorK19
namespace Go.Proofs.YtpcefaccoifejaaGreatDoor
open Go.RowKit
set_option linter.unusedSimpArgs false
set_option linter.unusedVariables false
set_option maxRecDepth 100000

theorem calls_named {P : Program} {f : FuncId} {args : Array Value} {w : World} {Q : Ending → World → Prop} (h : ∀ W, W = w → Calls P f args W Q) : Calls P f args w Q := h w rfl
theorem Kg.setCell {W w1 : World} {b : Nat} (h : Kg W (some b) w1) (o : Nat) (u : Value) : Kg W (some b) (w1.setCell ⟨b, o, none⟩ u) :=
  ⟨h.os, h.tape, h.output, by simpa [World.setCell] using h.size, fun i hi hn => (Below.heap_setCell w1 ⟨b, o, none⟩ u i (fun e => hn (by rw [e]))).trans (h.block i hi hn)⟩
theorem SesAt.grown {w w' : World} {lo p m flo fhi b : Nat} {va vf : Value} {fs : List Ft} {acts : List Ac} (h : SesAt w lo p m flo fhi va vf fs acts) (hk : Kg w (some b) w') (h1 : b ≠ p) (h2 : b ≠ m) (h3 : ¬ (flo ≤ b ∧ b < fhi)) (h4 : va.ownBlock ≠ some b) : SesAt w' lo p m flo fhi va vf fs acts := by
  have hp : p < w.heap.size := (Array.getElem?_eq_some_iff.1 h.cells).1
  refine h.kept (Bs := p) (fun c hc => hk.block c (h.lt hp hc) (fun e => ?_)) hk.size
  injection e with e
  subst e
  rcases hc with rfl | rfl | hc | hc | rfl
  · exact h1 rfl
  · exact h2 rfl
  · exact h3 hc
  · exact h4 hc
  · exact h1 rfl
theorem SesAt.low {w : World} {lo lo' p m flo fhi : Nat} {va vf : Value} {fs : List Ft} {acts : List Ac} (h : SesAt w lo p m flo fhi va vf fs acts) (hl : lo' ≤ lo) : SesAt w lo' p m flo fhi va vf fs acts :=
  ⟨h.cells, own_low h.acts hl, h.feats, h.map, h.pf, h.mf, h.af, Nat.le_trans hl h.lp, Nat.le_trans hl h.lm, Nat.le_trans hl h.lf, h.hf⟩
/-- a block of at least k cells of a type -/
def Soft (w : World) (b : Nat) (T : TypeId) (k : Nat) : Prop := ∃ c : Array Value, w.heap[b]? = some (.cells c T (0, 0)) ∧ k ≤ c.size
section
variable {w w' : World} {b k : Nat} {T : TypeId}
theorem Soft.lt (h : Soft w b T k) : b < w.heap.size := by
  obtain ⟨c, h, _⟩ := h
  exact (Array.getElem?_eq_some_iff.1 h).1
theorem Soft.cell (h : Soft w b T k) {j : Nat} (hj : j < k) : ∃ u, w.cell? ⟨b, j, none⟩ = some u := by
  obtain ⟨c, h, hk⟩ := h
  exact ⟨c[j]'(by omega), by rw [cell_of_row _ _ _ _ _ _ h]; exact Array.getElem?_eq_getElem (by omega)⟩
theorem Soft.free (h : Soft w b T k) (j : Nat) : w.frozen? ⟨b, j, none⟩ = false := by
  obtain ⟨c, h, hk⟩ := h
  exact frozen_of_row w b j _ _ h
theorem Soft.below (h : Soft w b T k) (hb : Below w.heap.size w w') : Soft w' b T k := by
  have hl := h.lt
  obtain ⟨c, h, hk⟩ := h
  exact ⟨c, (hb.block b hl).trans h, hk⟩
theorem Soft.mono (h : Soft w b T k) {j : Nat} (hj : j ≤ k) : Soft w b T j := by
  obtain ⟨c, h, hk⟩ := h
  exact ⟨c, h, by omega⟩
theorem Soft.set (h : Soft w b T k) (a o : Nat) (u : Value) : Soft (w.setCell ⟨a, o, none⟩ u) b T k := by
  by_cases e : b = a
  · subst e
    obtain ⟨c, h, hk⟩ := h
    exact ⟨_, heap_setCell_same w b o _ _ u h, by simpa using hk⟩
  · obtain ⟨c, h, hk⟩ := h
    exact ⟨c, (Below.heap_setCell w ⟨a, o, none⟩ u b e).trans h, hk⟩
theorem soft_own {lo k2 n : Nat} {v : Value} {ks : List Value} (h : w.ownsRow lo T k2 v n ks) (hn : 0 < n) : ∃ g cap, v = .slice (some ⟨g, 0, none⟩) n cap ∧ lo ≤ g ∧ Soft w g T (n * k2) := by
  have hl := h.1
  rcases h.2 with ⟨rfl, hn0⟩ | ⟨g, cap, cur, rfl, hb, hg, hcap, hm, hs, ht⟩
  · omega
  · refine ⟨g, cap, rfl, hb, cur, hg, ?_⟩
    have := congrArg List.length ht
    rw [List.length_take, hl] at this
    simp only [Array.length_toList] at this
    omega
end
/-- one feature of its own: the cell that leads to its options, and the block where they lie -/
theorem own_one {w : World} {lo i : Nat} {v : Value} {fs : List Ft} (h : OwnFeats w lo v fs) (hi : i < fs.length) (hne : (ftAt fs i).2 ≠ []) : ∃ g cap o n2 cap2, v = .slice (some ⟨g, 0, none⟩) fs.length cap ∧ (∃ c, w.heap[g]? = some (.cells c 47 (0, 0))) ∧
    w.cell? ⟨g, i * 6 + 5, none⟩ = some (.slice (some ⟨o, 0, none⟩) n2 cap2) ∧ lo ≤ o ∧ Soft w o 41 1 ∧ 0 < n2 := by
  obtain ⟨vs, hl, hrow, ho⟩ := h
  have hlen : 0 < (ftAt fs i).2.length := List.length_pos_iff.2 hne
  obtain ⟨o, cap2, hv, hlo, hs⟩ := soft_own (ho i hi) hlen
  obtain ⟨g, cap, rfl, hlg, c, hc, -⟩ := soft_own hrow (by omega)
  refine ⟨g, cap, o, _, cap2, rfl, ⟨c, hc⟩, ?_, hlo, hs.mono (by omega), hlen⟩
  rw [hrow.cellAt (i * 6 + 5) (by omega), ← hv]
  have hz : i < (fs.zip vs).length := by rw [List.length_zip]; omega
  have := flatMap_at (fun x : Ft × Value => ftV x.1.1 x.2) 6 (fun _ => rfl) (fs.zip vs) i 5 hz (vs.getD i default) (by
    rw [List.getElem_zip]
    show some vs[i] = _
    rw [List.getD_eq_getElem?_getD, List.getElem?_eq_getElem (by omega)]
    rfl)
  exact this
def actA : Ac := (1, (0, 0, 3, 13, 0), 1)
def actB : Ac := (2, (0, 0, 3, 7, 4), 0)
theorem aw_new : newE pairL = 0 := by decide +kernel
theorem aw_do1 : doE pairL [] actA = 0 := by decide +kernel
theorem aw_acts1 : doA pairL [] actA = [actA] := by decide +kernel
theorem aw_val : valE pairL [actA] (0, 0, 3, 13, 0) = (1, 0) := by decide +kernel
theorem aw_feats : feats pairL [actA] = [((0, 0, 3, 7, 4), [(1, 0), (2, 3)]), ((0, 0, 3, 13, 0), [(1, 0)])] := by decide +kernel
theorem aw_w13 : weight pairL [actA] 13 = 3 := by decide +kernel
theorem aw_w7 : weight pairL [actA] 7 = 4 := by decide +kernel
theorem aw_do2 : doE pairL [actA] actB = 0 := by decide +kernel
theorem aw_acts2 : doA pairL [actA] actB = [actA, actB] := by decide +kernel
theorem aw_v7 : weight pairL [actA, actB] 7 = 5 := by decide +kernel
theorem aw_undo : undoE [actA, actB] = 0 := by decide +kernel
theorem aw_text : formatL [actA, actB] = [99, 111, 114, 114, 101, 99, 116, 32, 48, 32, 48, 32, 51, 32, 115, 116, 101, 109, 32, 48, 32, 49, 10, 99, 111, 110, 102, 105, 114, 109, 32, 48, 32, 48, 32, 51, 32, 104, 101, 97, 100, 32, 52, 10] := by decide +kernel
theorem aw_small : ∀ a ∈ [actA, actB], Small a := by
  intro a ha
  simp only [List.mem_cons, List.not_mem_nil, or_false] at ha
  rcases ha with rfl | rfl
  · exact ⟨by decide, by decide, by decide, by decide, by decide, by decide, by decide⟩
  · exact ⟨by decide, by decide, by decide, by decide, by decide, by decide, by decide⟩
theorem aw_new1 : newE (pairL.take 1) = 0 := by decide +kernel
theorem aw_left : (playGo (pairL.take 1) [] [] [actA]).2 = [actA] := by decide +kernel
theorem i64_dec {x : Int} (h : decide (-9223372036854775808 ≤ x) = true ∧ decide (x ≤ 9223372036854775807) = true) : i64B x := ⟨of_decide_eq_true h.1, of_decide_eq_true h.2⟩
theorem pair_wf : wfFs pairL := by
  intro f hf
  simp only [pairL, List.mem_cons, List.not_mem_nil, or_false] at hf
  rcases hf with rfl | rfl
  · refine ⟨⟨i64_dec (by decide), i64_dec (by decide), i64_dec (by decide), i64_dec (by decide), i64_dec (by decide)⟩, fun o ho => ?_, by decide⟩
    simp only [List.mem_cons, List.not_mem_nil, or_false] at ho
    rcases ho with rfl | rfl <;> exact ⟨i64_dec (by decide), i64_dec (by decide)⟩
  · refine ⟨⟨i64_dec (by decide), i64_dec (by decide), i64_dec (by decide), i64_dec (by decide), i64_dec (by decide)⟩, fun o ho => ?_, by decide⟩
    simp only [List.mem_cons, List.not_mem_nil, or_false] at ho
    rcases ho with rfl | rfl <;> exact ⟨i64_dec (by decide), i64_dec (by decide)⟩
theorem wfA_A : wfA actA := ⟨i64_dec (by decide), ⟨i64_dec (by decide), i64_dec (by decide), i64_dec (by decide), i64_dec (by decide), i64_dec (by decide)⟩, i64_dec (by decide)⟩
theorem wfA_B : wfA actB := ⟨i64_dec (by decide), ⟨i64_dec (by decide), i64_dec (by decide), i64_dec (by decide), i64_dec (by decide), i64_dec (by decide)⟩, i64_dec (by decide)⟩
theorem wfAs1 : wfAs [actA] := fun a h => by
  simp only [List.mem_cons, List.not_mem_nil, or_false] at h
  subst h
  exact wfA_A
theorem wfAs2 : wfAs [actA, actB] := fun a h => by
  simp only [List.mem_cons, List.not_mem_nil, or_false] at h
  rcases h with rfl | rfl
  · exact wfA_A
  · exact wfA_B
theorem acted1 : Acted pairL [actA] := by
  have := (Acted.nil pairL).doA actA
  rwa [aw_acts1] at this
theorem acted2 : Acted pairL [actA, actB] := by
  have := acted1.doA actB
  rwa [aw_acts2] at this
/-- what leads into a block of another type does not lead into this one -/
theorem own_ne {w : World} {lo k n b : Nat} {T Y : TypeId} {v : Value} {ks : List Value} {c : Array Value} {z : Nat × Nat} (h : w.ownsRow lo T k v n ks) (hb : w.heap[b]? = some (.cells c Y z)) (hne : T ≠ Y) : v.ownBlock ≠ some b := by
  intro e
  rcases h.2 with ⟨rfl, _⟩ | ⟨g, cap, cur, rfl, _, hg, _⟩
  · cases e
  · simp only [Value.ownBlock, Option.some.injEq] at e
    subst e
    rw [hg] at hb
    simp only [Option.some.injEq, Obj.cells.injEq] at hb
    exact hne hb.2.1
/-- a row from its first element on -/
theorem FeatsAt.take1 {w : World} {lo hi : Nat} {b cap n : Nat} {fs : List Ft} (h : FeatsAt w lo hi (.slice (some ⟨b, 0, none⟩) fs.length n) fs) (hl : 1 ≤ fs.length) : FeatsAt w lo hi (.slice (some ⟨b, 0, none⟩) 1 cap) (fs.take 1) := by
  obtain ⟨a, c, vs, e, z, r, o⟩ := h
  simp only [Value.slice.injEq, true_and] at e
  obtain ⟨rfl, rfl⟩ := e
  have e1 : (fs.take 1).length = 1 := by rw [List.length_take]; omega
  refine ⟨_, cap, vs, by rw [e1], (fun h => by cases h), fun hn => ?_, fun i hi => ?_⟩
  · obtain ⟨b2, off, e2, h1, h2, h3⟩ := r (by omega)
    refine ⟨b2, off, e2, h1, h2, fun i hi j u hu => h3 i (by omega) j u ?_⟩
    rw [e1] at hi
    dsimp only at hu ⊢
    rwa [ftAt_take hi] at hu
  · rw [e1] at hi
    rw [ftAt_take hi]
    exact o i (by omega)
/-- one option in a new block -/
theorem opt_one {w : World} (x y : Int) : OptsAt (w.alloc (.cells #[.int .i64 x, .int .i64 y] 41)) w.heap.size (w.heap.size + 1) (.slice (some ⟨w.heap.size, 0, none⟩) 1 1) [(x, y)] := by
  refine ⟨_, 1, rfl, (fun h => by cases h), fun _ => ⟨w.heap.size, 0, rfl, Nat.le_refl _, Nat.lt_succ_self _, fun i hi j u hu => ?_⟩⟩
  have hi0 : i = 0 := by simpa using hi
  subst hi0
  rw [cell_of_row _ _ _ _ _ _ (heap_alloc_new _ _)]
  have hj : j < 2 := by
    have := (List.getElem?_eq_some_iff.1 hu).1
    rwa [optV_len] at this
  revert hu
  rcases show j = 0 ∨ j = 1 by omega with rfl | rfl <;> exact id
end Go.Proofs.YtpcefaccoifejaaGreatDoor
