/-
  Equality of weights; what stands is of its type. Conditions: as each says.
-/
import Derived.Test.YtpcefaccoifejaaDoorAG0
import Derived.ChangeKeysEq
namespace Go.Proofs.YtpcefaccoifejaaDoor
open Go.RowKit
set_option linter.unusedSimpArgs false
set_option linter.unusedVariables false
set_option maxRecDepth 100000

theorem items_row (f : Nat → Int) (w : World) : ∀ is : List Nat, (∀ i ∈ is, i < 17) → (Op.eqItems 9999 3 1 (rowW f) (rowW f) is).run Tryd.prog w = .ok true w
  | [], _ => by simp [Op.eqItems]
  | i :: is, h => by
    have hi := h i (List.mem_cons_self ..)
    have ih := items_row f w is (fun j hj => h j (List.mem_cons_of_mem _ hj))
    have hp : (part 3 (rowW f) (i * 1)).run Tryd.prog w = .ok (.int .i64 (f i)) w := run_part_plain w (by kernel_rfl) (by rw [Nat.mul_one]; exact rowW_at f hi)
    have he : (Op.equalIn 9999 3 (.int .i64 (f i)) (.int .i64 (f i))).run Tryd.prog w = .ok (f i == f i) w := run_equalIn_int w 9998 3 .i64 .i64 _ _ Tryd.underlying3
    rw [Nat.mul_one] at hp
    simp [Op.eqItems, hp, he, ih]
theorem ein_row (f : Nat → Int) (w : World) : (Op.equalIn 10000 88 (.agg (rowW f)) (.agg (rowW f))).run Tryd.prog w = .ok true w := by
  obtain ⟨i, hi⟩ := info_of_underlying Tryd.underlying3
  rw [show (10000 : Nat) = 9999 + 1 from rfl, run_equalIn_array w 9999 _ _ Tryd.underlying88 hi, show Tryd.prog.cellsOf 3 = 1 by kernel_rfl]
  exact items_row f w _ (fun i h => List.mem_range.1 h)
theorem exec_load_row {P : Program} {ev : Operand → Value} {o : Oper} {w : World} (ty : TypeId) (x : Operand) (ho : o.op = .load ty x) (g : Nat) (hx : ev x = .pointer (some ⟨g, 0, none⟩)) (t : TypeId) (cs : Array Value) (fr : Nat × Nat) (d : TypeDesc) (hg : w.heap[g]? = some (.cells cs t fr))
    (hu : P.underlying ty = some d) (hd : (match d with | .struct _ | .array _ _ => true | _ => false) = true) (hi : (P.info? ty).map (·.size) = some cs.size) : (execOp ev o).run P w = .ok (.value (.agg cs)) w := by
  unfold execOp
  simp only [ho, hx, Instr.loadAt, Instr.sureAddr, Sem.run_bind, Sem.run_pure, Result.andThen_ok, run_loadVar_row w g t ty cs fr d hg hu hd hi]
/-- the present value is of its type -/
theorem bestGo_mem : ∀ (os : List Opt) (m : Opt), bestGo m os = m ∨ bestGo m os ∈ os
  | [], m => .inl rfl
  | o :: r, m => by
    unfold bestGo
    rcases bestGo_mem r (if o.2 < m.2 then o else m) with h | h
    · rw [h]
      split
      · exact .inr (List.mem_cons_self ..)
      · exact .inl rfl
    · exact .inr (List.mem_cons_of_mem _ h)
theorem best_wf {os : List Opt} (h : ∀ o ∈ os, wfO o) : i64B (best os) := by
  cases os with
  | nil => show i64B 0; unfold i64B; omega
  | cons o r =>
    show i64B (bestGo o r).1
    rcases bestGo_mem r o with e | e
    · rw [e]; exact (h o (List.mem_cons_self ..)).1
    · exact (h _ (List.mem_cons_of_mem _ e)).1
theorem corr_wf (p : Pl) : ∀ (l : List Ac) (v : Option Int), (∀ x, v = some x → i64B x) → wfAs l → ∀ x, l.foldl (fun v a => if a.2.1 = p ∧ a.1 = 1 then some a.2.2 else v) v = some x → i64B x
  | [], v, h, _ => h
  | a :: r, v, h, hw => corr_wf p r _ (fun x hx => by
    dsimp only at hx
    split at hx
    · injection hx with hx
      subst hx
      exact (hw a (List.mem_cons_self ..)).2.2
    · exact h x hx) (fun b hb => hw b (List.mem_cons_of_mem _ hb))
theorem pres_wf {acts : List Ac} {f : Ft} (hf : wfF f) (hw : wfAs acts) : i64B (pres acts f) := by
  unfold pres
  cases hc : corr acts f.1 with
  | none => exact best_wf hf.2.1
  | some x => exact corr_wf f.1 acts none (fun x h => by cases h) hw x hc
theorem feats_wf {fs : List Ft} {acts : List Ac} (hf : wfFs fs) (hw : wfAs acts) : wfFs (feats fs acts) := by
  intro f hm
  unfold feats at hm
  obtain ⟨g, hg, rfl⟩ := List.mem_map.1 hm
  split
  · refine ⟨(hf g hg).1, fun o ho => ?_, by simp⟩
    simp only [List.mem_cons, List.not_mem_nil, or_false] at ho
    subst ho
    exact ⟨pres_wf (hf g hg) hw, by show i64B 0; unfold i64B; omega⟩
  · exact hf g hg
end Go.Proofs.YtpcefaccoifejaaDoor
