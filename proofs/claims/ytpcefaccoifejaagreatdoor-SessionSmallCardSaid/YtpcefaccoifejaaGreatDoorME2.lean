/-
  Merging in plain Lean, and rows appended whole. Conditions: as each says.
-/
import Derived.Test.YtpcefaccoifejaaGreatDoorME1
import Derived.Test.YtpcefaccoifejaaGreatDoorR3
import Derived.Test.YtpcefaccoifejaaGreatDoorAW0
import Derived.Test.YtpcefaccoifejaaGreatDoorKC
namespace Go.Proofs.YtpcefaccoifejaaGreatDoor
open Go.RowKit
set_option linter.unusedSimpArgs false
set_option linter.unusedVariables false
set_option maxRecDepth 100000

/-- the places at which two lists of acts differ; the acts of other places -/
def clashB (a1 a2 : List Ac) (f : Ft) : Bool := touched a1 f.1 && touched a2 f.1 && decide (pres a1 f ≠ pres a2 f)
def clashL (fs : List Ft) (a1 a2 : List Ac) : List Pl := (fs.filter (clashB a1 a2)).map (·.1)
def keepA (cl : List Pl) (acts : List Ac) : List Ac := acts.filter fun a => decide (a.2.1 ∉ cl)
def mergeA (fs : List Ft) (a1 a2 : List Ac) : List Ac := keepA (clashL fs a1 a2) (a1 ++ a2)
theorem clash_step {fs : List Ft} {k : Nat} (h : k < fs.length) (a1 a2 : List Ac) : clashL (fs.take (k + 1)) a1 a2 = clashL (fs.take k) a1 a2 ++ (if clashB a1 a2 (ftAt fs k) = true then [(ftAt fs k).1] else []) := by
  unfold clashL
  rw [take_snoc h, ← ftAt_get h, List.filter_append, List.map_append]
  congr 1
  by_cases hc : clashB a1 a2 (ftAt fs k) = true
  · rw [if_pos hc, List.filter_cons_of_pos hc]; rfl
  · rw [if_neg hc, List.filter_cons_of_neg hc]; rfl
theorem keep_step {acts : List Ac} {k : Nat} (h : k < acts.length) (cl : List Pl) : keepA cl (acts.take (k + 1)) = keepA cl (acts.take k) ++ (if (acAt acts k).2.1 ∉ cl then [acAt acts k] else []) := by
  unfold keepA
  rw [take_snoc h, ← acAt_get h, List.filter_append]
  congr 1
  by_cases hc : (acAt acts k).2.1 ∉ cl
  · rw [if_pos hc]; simp [hc]
  · rw [if_neg hc]; simpa using hc
theorem keep_len (cl : List Pl) (acts : List Ac) : (keepA cl acts).length ≤ acts.length := List.length_filter_le _ _
theorem clash_len (fs : List Ft) (a1 a2 : List Ac) : (clashL fs a1 a2).length ≤ fs.length := by
  unfold clashL
  rw [List.length_map]
  exact List.length_filter_le _ _
theorem plAt_get {ps : List Pl} {i : Nat} (h : i < ps.length) : plAt ps i = ps[i] := by
  unfold plAt
  rw [List.getD_eq_getElem?_getD, List.getElem?_eq_getElem h]
  rfl
theorem notin_step {ps : List Pl} {k : Nat} (h : k < ps.length) (p : Pl) : p ∉ ps.take (k + 1) ↔ p ∉ ps.take k ∧ plAt ps k ≠ p := by
  rw [take_snoc h, ← plAt_get h, List.mem_append, not_or]
  simp only [List.mem_cons, List.not_mem_nil, or_false]
  exact and_congr_right fun _ => ⟨fun h e => h e.symm, fun h e => h e.symm⟩
theorem plV_one (l : List Pl) : ∀ u ∈ l.flatMap plV, u.oneCell' = true := by
  intro u hu
  obtain ⟨a, _, ha⟩ := List.mem_flatMap.1 hu
  simp only [plV, List.mem_cons, List.not_mem_nil, or_false] at ha
  rcases ha with rfl | rfl | rfl | rfl | rfl <;> rfl
theorem infoPl : Tryz.prog.info? 44 = some Tryz.t44 := by kernel_rfl
theorem PlsAt.wider {w : World} {lo hi lo' hi' : Nat} {v : Value} {ps : List Pl} (h : PlsAt w lo hi v ps) (h1 : lo' ≤ lo) (h2 : hi ≤ hi') : PlsAt w lo' hi' v ps := by
  obtain ⟨a, cap, e, z, r⟩ := h
  exact ⟨a, cap, e, z, r.wider h1 h2⟩
theorem own_apartT {w : World} {b1 s1 n1 b2 s2 n2 : Nat} {e1 e2 : TypeId} {v1 v2 : Value} {k1 k2 : List Value} (h1 : w.ownsRow b1 e1 s1 v1 n1 k1) (h2 : w.ownsRow b2 e2 s2 v2 n2 k2) (hne : e1 ≠ e2) : v1.ownBlock = none ∨ v1.ownBlock ≠ v2.ownBlock := own_apart h1 h2 hne
/-- nothing appended -/
theorem run_append_none (g : Option Addr) (n cap : Nat) (hc : n ≤ cap) (w : World) (ty : TypeId) : (Builtin.append_ #[22, 22] ty #[.slice g n cap, .slice none 0 0]).run Tryz.prog w = .ok (.slice g n cap) w := by
  have u := Tryz.underlying22
  have z := Tryz.sizeOf56
  unfold Builtin.append_
  cases g <;> simp [Sem.run_bind, run_underlying u, z, Builtin.lenOf, Builtin.firstCells, Result.andThen, Sem.run_pure, hc, storeCells]
theorem wpList_append_acts {ops : Array Oper} {rest : List Oper} {o : Oper} {a : Act} {w : World} {Q : Exit → Act → World → Prop} (hgd : o.guard = none) (s x : Operand)
    (ho : o.op = .call { callee := .builtin .append, args := #[s, x], argTypes := #[22, 22] }) (base : Nat) (v : Value) (n : Nat) (ks : List Value) (hs : a.eval s = v) (hown : w.ownsRow base 56 7 v n ks)
    (lo hi : Nat) (sv : Value) (l : List Ac) (hx : a.eval x = sv) (hsv : ActsAt w lo hi sv l) (h63 : n + l.length ≤ 100000) (hbase : base ≤ w.heap.size)
    (h : ∀ v' w', w'.ownsRow base 56 7 v' (n + l.length) (ks ++ l.flatMap acV) → w.grownBy w' v.ownBlock → wpList Tryz.prog ops Q rest (a.put o.dst v') w') : wpList Tryz.prog ops Q (o :: rest) a w := by
  obtain ⟨ad, cap, rfl, hz, hr⟩ := hsv
  cases ad with
  | none =>
    have hl0 : l = [] := by
      rcases Nat.eq_zero_or_pos l.length with h | h
      · exact List.eq_nil_of_length_eq_zero h
      · obtain ⟨_, _, e, _⟩ := hr h
        cases e
    subst hl0
    obtain rfl : cap = 0 := hz rfl
    obtain ⟨g, n2, c2, hv, hc⟩ := cap_of_own hown
    obtain ⟨g3, c3, hv3⟩ := own_shape hown
    have hn2 : n2 = n := by rw [hv] at hv3; simp only [Value.slice.injEq] at hv3; exact hv3.2.1
    subst hn2
    refine wpList_plain hgd fun _ hK => ?_
    have hrun := run_append_none g n2 c2 hc w o.type
    have hx' : a.eval x = .slice none 0 0 := hx
    rw [hv] at hs
    unfold Oper.wp execOp
    simp only [ho, resolve, invoke, builtin, Sem.run_bind, Sem.run_pure, Result.andThen_ok, List.map_toArray, List.map_cons, List.map_nil, hs, hx', hrun]
    have := h v w (by simpa using hown) ⟨rfl, rfl, rfl, Nat.le_refl _, fun _ _ _ => rfl⟩
    rw [hv] at this
    exact hK _ _ this
  | some ad =>
    have hne : ∀ j u, (l.flatMap acV)[j]? = some u → w.cell? (ad.add j) = some u := fun j u hu => by
      have hpos : 0 < l.length := by
        cases l with
        | nil => simp at hu
        | cons o r => simp
      obtain ⟨b, off, hb, _, _, h3⟩ := hr hpos
      injection hb with hb
      subst hb
      exact flat_cells acV_len (by decide) h3 j u hu
    exact wpList_append_own w hgd s x _ ho base 56 Tryz.t56 _ 7 56 Tryz.underlying22 infoRAct rfl rfl rfl rfl (by omega) v n ks hs hown ad l.length cap (l.flatMap acV) hx (flatMap_len acV 7 acV_len l) hne (acV_one l) (by simp only [maxLen]; omega) (by omega) hbase (fun v' w' h1 h2 _ => h v' w' h1 h2)
end Go.Proofs.YtpcefaccoifejaaGreatDoor
