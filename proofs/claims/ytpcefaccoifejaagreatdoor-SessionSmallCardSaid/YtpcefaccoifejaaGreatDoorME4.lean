/-
  The contract of Session.Merge. Conditions: both sessions lie in memory as the words say; the features are ones that a session may have; at most 4096 acts in all.
-/
import Derived.Test.YtpcefaccoifejaaGreatDoorME2
import Derived.Test.YtpcefaccoifejaaGreatDoorKC
namespace Go.Proofs.YtpcefaccoifejaaGreatDoor
open Go.RowKit Go.Maps
set_option linter.unusedSimpArgs false
set_option linter.unusedVariables false
set_option maxRecDepth 100000

theorem own_map {w : World} {lo k n b : Nat} {T : TypeId} {v : Value} {ks : List Value} {o : Obj} (h : w.ownsRow lo T k v n ks) (hb : w.heap[b]? = some o) (hw : o.isWalk = true) : v.ownBlock ≠ some b := by
  intro e
  rcases h.2 with ⟨rfl, _⟩ | ⟨g, cap, cur, rfl, _, hg, _⟩
  · cases e
  · simp only [Value.ownBlock, Option.some.injEq] at e
    subst e
    rw [hg] at hb
    injection hb with hb
    subst hb
    cases hw
/-- nothing but block p and the row that va leads to is changed -/
def Tx (p : Nat) (va : Value) (W w' : World) : Prop := ∃ va', Turn W w' p va va'
theorem Tx.drew (p : Nat) (va : Value) (W : World) : Tx p va W W.drew := ⟨va, rfl, rfl, rfl, Nat.le_refl _, fun _ _ _ _ => rfl, fun _ h => .inl h⟩
theorem Tx.cell {p b o : Nat} {va u : Value} {W w' : World} (h : Tx p va W w') (hc : W.cell? ⟨b, o, none⟩ = some u) (hb : b < W.heap.size) (h1 : b ≠ p) (h2 : some b ≠ va.ownBlock) : w'.cell? ⟨b, o, none⟩ = some u := by
  obtain ⟨va', h⟩ := h
  exact (World.cell?_of_block (h.block b hb h1 h2)).trans hc
theorem pair_at0 (a b : Addr) (w : World) : (Instr.index 124 (.agg #[.pointer (some a), .pointer (some b)]) (.int .i64 0)).run Tryz.prog w = .ok (.pointer (some a)) w := by
  have u := Tryz.underlying124
  have z := Tryz.sizeOf48
  have g := Tryz.isAgg48
  simp [Instr.index, Sem.run_bind, run_underlying u, asInt, asIntOf, z, part, g, Result.andThen, Sem.run_pure]
theorem pair_at1 (a b : Addr) (w : World) : (Instr.index 124 (.agg #[.pointer (some a), .pointer (some b)]) (.int .i64 1)).run Tryz.prog w = .ok (.pointer (some b)) w := by
  have u := Tryz.underlying124
  have z := Tryz.sizeOf48
  have g := Tryz.isAgg48
  simp [Instr.index, Sem.run_bind, run_underlying u, asInt, asIntOf, z, part, g, Result.andThen, Sem.run_pure]
def MrgRes (w : World) (fs gs : List Ft) (a1 a2 : List Ac) (e : Ending) (w' : World) : Prop :=
  Below w.heap.size w w' ∧ ((fs ≠ gs ∧ e = .returned (.tuple #[.pointer none, .slice none 0 0, .int .i64 81])) ∨
    (fs = gs ∧ ∃ p2 m2 flo2 fhi2 va2 vf2 cv, e = .returned (.tuple #[.pointer (some ⟨p2, 0, none⟩), cv, .int .i64 0]) ∧ SesAt w' w.heap.size p2 m2 flo2 fhi2 va2 vf2 fs (mergeA fs a1 a2) ∧ PlsAt w' w.heap.size w'.heap.size cv (clashL fs a1 a2)))
end Go.Proofs.YtpcefaccoifejaaGreatDoor
