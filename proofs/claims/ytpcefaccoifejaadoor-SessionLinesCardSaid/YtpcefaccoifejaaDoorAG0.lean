/-
  Facts for the comparison of two sessions: acts done one by one, what stays true of them, blocks whose cells may change. Conditions: as each says.
-/
import Derived.Test.YtpcefaccoifejaaDoorL1
import Derived.Test.YtpcefaccoifejaaDoorK13
import Derived.Test.YtpcefaccoifejaaDoorK14
import Derived.Test.YtpcefaccoifejaaDoorK18
import Derived.Test.YtpcefaccoifejaaDoorK19
import Derived.Test.YtpcefaccoifejaaDoorR2
import Derived.Test.YtpcefaccoifejaaDoorR3
import Derived.Test.YtpcefaccoifejaaDoorR4
import Derived.Test.YtpcefaccoifejaaDoorR5
import Derived.Test.YtpcefaccoifejaaDoorR6
namespace Go.Proofs.YtpcefaccoifejaaDoor
open Go.RowKit
set_option linter.unusedSimpArgs false
set_option linter.unusedVariables false
set_option maxRecDepth 100000

theorem calls_named {P : Program} {f : FuncId} {args : Array Value} {w : World} {Q : Ending → World → Prop} (h : ∀ W, W = w → Calls P f args W Q) : Calls P f args w Q := h w rfl
/-- what is left of acts that are done one by one -/
def doneL (fs : List Ft) (acts : List Ac) : List Ac := acts.foldl (doA fs) []
theorem doneL_snoc (fs : List Ft) (l : List Ac) (a : Ac) : doneL fs (l ++ [a]) = doA fs (doneL fs l) a := by simp [doneL]
theorem wfA_kept {a : Ac} (h : wfA a) : wfA (kept a) := by
  unfold kept
  split
  · exact ⟨h.1, h.2.1, by show i64B 0; unfold i64B; omega⟩
  · exact h
theorem wfAs_doA {fs : List Ft} {acts : List Ac} {a : Ac} (h : wfAs acts) (ha : wfA a) : wfAs (doA fs acts a) := by
  unfold doA
  split
  · intro b hb
    rcases List.mem_append.1 hb with hb | hb
    · exact h b hb
    · simp only [List.mem_cons, List.not_mem_nil, or_false] at hb
      subst hb
      exact wfA_kept ha
  · exact h
theorem done_all (fs : List Ft) : ∀ (l d : List Ac), Acted fs d → wfAs d → wfAs l → Acted fs (l.foldl (doA fs) d) ∧ wfAs (l.foldl (doA fs) d)
  | [], d, h, k, _ => ⟨h, k⟩
  | a :: r, d, h, k, j => done_all fs r (doA fs d a) (h.doA a) (wfAs_doA k (j a (List.mem_cons_self ..))) (fun b hb => j b (List.mem_cons_of_mem _ hb))
theorem doneL_acted (fs : List Ft) {l : List Ac} (h : wfAs l) : Acted fs (doneL fs l) := (done_all fs l [] (Acted.nil fs) (fun _ h => by cases h) h).1
theorem doneL_wf (fs : List Ft) {l : List Ac} (h : wfAs l) : wfAs (doneL fs l) := (done_all fs l [] (Acted.nil fs) (fun _ h => by cases h) h).2
theorem doneL_len (fs : List Ft) : ∀ l : List Ac, ∀ d : List Ac, (l.foldl (doA fs) d).length ≤ d.length + l.length
  | [], d => by simp
  | a :: r, d => by
    have h1 := doneL_len fs r (doA fs d a)
    have h2 := doA_len fs d a
    simp only [List.foldl_cons, List.length_cons]
    omega
theorem play_all (fs : List Ft) : ∀ (l d lf : List Ac), Acted fs d → wfAs d → wfAs l → Acted fs (playGo fs d lf l).1 ∧ wfAs (playGo fs d lf l).1
  | [], d, lf, h, k, _ => by unfold playGo; exact ⟨h, k⟩
  | a :: r, d, lf, h, k, j => by
    rw [playGo_cons]
    exact play_all fs r _ _ (h.doA a) (wfAs_doA k (j a (List.mem_cons_self ..))) (fun b hb => j b (List.mem_cons_of_mem _ hb))
theorem play_len (fs : List Ft) : ∀ (l d lf : List Ac), (playGo fs d lf l).2.length ≤ lf.length + l.length
  | [], d, lf => by unfold playGo; simp
  | a :: r, d, lf => by
    rw [playGo_cons]
    have := play_len fs r (doA fs d a) (if doE fs d a = 0 then lf else lf ++ [a])
    simp only [List.length_cons]
    split at this
    · rename_i h; rw [if_pos h]; omega
    · rename_i h
      rw [if_neg h]
      simp only [List.length_append, List.length_cons, List.length_nil] at this
      omega
/-- features as they stand have options -/
theorem feats_some {fs : List Ft} {acts : List Ac} (h : Good fs) : ∀ f ∈ feats fs acts, f.2 ≠ [] := by
  intro f hf
  unfold feats at hf
  obtain ⟨g, hg, rfl⟩ := List.mem_map.1 hf
  split
  · simp
  · exact h.some g hg
theorem feats_len (fs : List Ft) (acts : List Ac) : (feats fs acts).length = fs.length := by simp [feats]

/-- a block of at least k cells of a type -/
def Soft (w : World) (b : Nat) (T : TypeId) (k : Nat) : Prop := ∃ c : Array Value, w.heap[b]? = some (.cells c T (0, 0)) ∧ k ≤ c.size
section
variable {w w' : World} {b k : Nat} {T : TypeId}
theorem Soft.lt (h : Soft w b T k) : b < w.heap.size := by
  obtain ⟨c, h, _⟩ := h
  exact (Array.getElem?_eq_some_iff.1 h).1
theorem Soft.cell (h : Soft w b T k) {j : Nat} (hj : j < k) : ∃ u, w.cell? ⟨b, j, none⟩ = some u := by
  obtain ⟨c, h, hk⟩ := h
  exact ⟨c[j]'(by omega), by rw [cell_of_row _ _ _ _ _ _ h]; exact Array.getElem?_eq_getElem (by omega)⟩
theorem Soft.free (h : Soft w b T k) (j : Nat) : w.frozen? ⟨b, j, none⟩ = false := by
  obtain ⟨c, h, hk⟩ := h
  exact frozen_of_row w b j _ _ h
theorem Soft.below (h : Soft w b T k) (hb : Below w.heap.size w w') : Soft w' b T k := by
  have hl := h.lt
  obtain ⟨c, h, hk⟩ := h
  exact ⟨c, (hb.block b hl).trans h, hk⟩
theorem Soft.mono (h : Soft w b T k) {j : Nat} (hj : j ≤ k) : Soft w b T j := by
  obtain ⟨c, h, hk⟩ := h
  exact ⟨c, h, by omega⟩
theorem Soft.set (h : Soft w b T k) (a o : Nat) (u : Value) : Soft (w.setCell ⟨a, o, none⟩ u) b T k := by
  by_cases e : b = a
  · subst e
    obtain ⟨c, h, hk⟩ := h
    exact ⟨_, heap_setCell_same w b o _ _ u h, by simpa using hk⟩
  · obtain ⟨c, h, hk⟩ := h
    exact ⟨c, (Below.heap_setCell w ⟨a, o, none⟩ u b e).trans h, hk⟩
theorem soft_own {lo k2 n : Nat} {v : Value} {ks : List Value} (h : w.ownsRow lo T k2 v n ks) (hn : 0 < n) : ∃ g cap, v = .slice (some ⟨g, 0, none⟩) n cap ∧ lo ≤ g ∧ Soft w g T (n * k2) := by
  have hl := h.1
  rcases h.2 with ⟨rfl, hn0⟩ | ⟨g, cap, cur, rfl, hb, hg, hcap, hm, hs, ht⟩
  · omega
  · refine ⟨g, cap, rfl, hb, cur, hg, ?_⟩
    have := congrArg List.length ht
    rw [List.length_take, hl] at this
    simp only [Array.length_toList] at this
    omega
end
/-- one feature of its own: the cell that leads to its options, and the block where they lie -/
theorem own_one {w : World} {lo i : Nat} {v : Value} {fs : List Ft} (h : OwnFeats w lo v fs) (hi : i < fs.length) (hne : (ftAt fs i).2 ≠ []) : ∃ g cap o n2 cap2, v = .slice (some ⟨g, 0, none⟩) fs.length cap ∧ (∃ c, w.heap[g]? = some (.cells c 54 (0, 0))) ∧
    w.cell? ⟨g, i * 6 + 5, none⟩ = some (.slice (some ⟨o, 0, none⟩) n2 cap2) ∧ lo ≤ o ∧ Soft w o 51 1 ∧ 0 < n2 := by
  obtain ⟨vs, hl, hrow, ho⟩ := h
  have hlen : 0 < (ftAt fs i).2.length := List.length_pos_iff.2 hne
  obtain ⟨o, cap2, hv, hlo, hs⟩ := soft_own (ho i hi) hlen
  obtain ⟨g, cap, rfl, hlg, c, hc, -⟩ := soft_own hrow (by omega)
  refine ⟨g, cap, o, _, cap2, rfl, ⟨c, hc⟩, ?_, hlo, hs.mono (by omega), hlen⟩
  rw [hrow.cellAt (i * 6 + 5) (by omega), ← hv]
  have hz : i < (fs.zip vs).length := by rw [List.length_zip]; omega
  have := flatMap_at (fun x : Ft × Value => ftV x.1.1 x.2) 6 (fun _ => rfl) (fs.zip vs) i 5 hz (vs.getD i default) (by
    rw [List.getElem_zip]
    show some vs[i] = _
    rw [List.getD_eq_getElem?_getD, List.getElem?_eq_getElem (by omega)]
    rfl)
  exact this
end Go.Proofs.YtpcefaccoifejaaDoor
