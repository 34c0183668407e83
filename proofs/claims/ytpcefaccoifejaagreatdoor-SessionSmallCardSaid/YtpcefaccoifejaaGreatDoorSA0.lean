/-
  What the walk of custoslaw13.SessionSmall leans on: a session and one of the reference, step by step; the pair of features in memory; forty features of one kind; an append that leaves the old slice readable. Conditions: as each says.
-/
import Derived.Test.YtpcefaccoifejaaGreatDoorAW
import Derived.Test.YtpcefaccoifejaaGreatDoorR3
import Derived.Test.YtpcefaccoifejaaGreatDoorR5
import Derived.Test.YtpcefaccoifejaaGreatDoorZN2
import Derived.Test.YtpcefaccoifejaaGreatDoorZP2
import Derived.Test.YtpcefaccoifejaaGreatDoorME5
import Derived.Test.YtpcefaccoifejaaGreatDoorZT8
import Derived.Test.YtpcefaccoifejaaGreatDoorZT9
import Derived.ChangeKeysEq
namespace Go.Proofs.YtpcefaccoifejaaGreatDoor
open Go.RowKit
set_option linter.unusedSimpArgs false
set_option linter.unusedVariables false
set_option maxRecDepth 100000

/-- acts in memory, in one block that is none of those of P -/
def ActsIn (w : World) (v : Value) (acts : List Ac) (P : Nat → Prop) : Prop := (acts = [] ∧ v = .slice none 0 0) ∨ ∃ b, ActsAt w b (b + 1) v acts ∧ b < w.heap.size ∧ ¬ P b
theorem ActsIn.at {w : World} {v : Value} {acts : List Ac} {P : Nat → Prop} (h : ActsIn w v acts P) : ActsAt w 0 w.heap.size v acts := by
  rcases h with ⟨rfl, rfl⟩ | ⟨b, h, h2, -⟩
  · exact ⟨none, 0, rfl, fun _ => rfl, Row.none _ _ _ _ _ _⟩
  · exact h.wider (Nat.zero_le _) h2
theorem ActsIn.move {w w' : World} {v : Value} {acts : List Ac} {P P' : Nat → Prop} (h : ActsIn w v acts P) (hs : w.heap.size ≤ w'.heap.size) (hk : ∀ b, ¬ P b → b < w.heap.size → w'.heap[b]? = w.heap[b]?) (hp : ∀ b, b < w.heap.size → P' b → P b) : ActsIn w' v acts P' := by
  refine h.imp id fun ⟨b, h1, h2, h3⟩ => ⟨b, h1.move (fun c c1 c2 => ?_), Nat.lt_of_lt_of_le h2 hs, fun x => h3 (hp b h2 x)⟩
  obtain rfl : c = b := by omega
  exact hk c h3 h2
theorem ActsIn.of_at {w : World} {v : Value} {acts : List Ac} {lo hi : Nat} {P : Nat → Prop} (h : ActsAt w lo hi v acts) (hh : hi ≤ w.heap.size) (hn : acts ≠ []) (hP : ∀ b, lo ≤ b → b < hi → ¬ P b) : ActsIn w v acts P := by
  obtain ⟨a, cap, e, hz, hr⟩ := h
  obtain ⟨b, off, e1, h1, h2, h3⟩ := hr (List.length_pos_iff.2 hn)
  exact .inr ⟨b, ⟨a, cap, e, hz, fun _ => ⟨b, off, e1, Nat.le_refl _, Nat.lt_succ_self _, h3⟩⟩, by omega, hP b h1 h2⟩
theorem ActsIn.shape {w : World} {v : Value} {acts : List Ac} {P : Nat → Prop} (h : ActsIn w v acts P) : ∃ a cap, v = .slice a acts.length cap := by
  rcases h with ⟨rfl, rfl⟩ | ⟨b, ⟨a, cap, e, -⟩, -⟩
  · exact ⟨none, 0, rfl⟩
  · exact ⟨a, cap, e⟩
/-- what holds at the head of the loop: the session at p, the reference's in block b9, both from block B on -/
structure MkR (B : Nat) (w wr : World) (p m flo fhi tlo thi b9 : Nat) (va vf tf ta : Value) (fs : List Ft) (done : List Ac) : Prop where
  ses : SesAt wr B p m flo fhi va vf fs done
  box : wr.heap[b9]? = some (.cells #[tf, ta] 52 (0, 0))
  ref : ActsIn wr ta done (fun b => b < B ∨ b = p ∨ b = b9 ∨ va.ownBlock = some b)
  tfs : FeatsAt wr tlo thi tf fs
  own : ∀ g, va.ownBlock = some g → ¬ (tlo ≤ g ∧ g < thi) ∧ g ≠ b9
  bp : b9 ≠ p
  bm : b9 ≠ m
  bf : ¬ (flo ≤ b9 ∧ b9 < fhi)
  bt : ¬ (tlo ≤ b9 ∧ b9 < thi)
  pt : ¬ (tlo ≤ p ∧ p < thi)
  th : thi ≤ wr.heap.size
  lo : B ≤ b9
  lt : B ≤ tlo
  bel : Below B w wr
  le : B ≤ wr.heap.size
section
variable {B : Nat} {w wr w1 : World} {p m flo fhi tlo thi b9 : Nat} {va va' vf tf ta ta' : Value} {fs : List Ft} {done done' : List Ac}
theorem MkR.lt9 (h : MkR B w wr p m flo fhi tlo thi b9 va vf tf ta fs done) : b9 < wr.heap.size := (Array.getElem?_eq_some_iff.1 h.box).1
theorem MkR.ltp (h : MkR B w wr p m flo fhi tlo thi b9 va vf tf ta fs done) : p < wr.heap.size := (Array.getElem?_eq_some_iff.1 h.ses.cells).1
theorem MkR.ownlo (h : MkR B w wr p m flo fhi tlo thi b9 va vf tf ta fs done) : ∀ g, va.ownBlock = some g → B ≤ g ∧ g < wr.heap.size := fun g hg => h.ses.acts.lt g hg
theorem MkR.below (h : MkR B w wr p m flo fhi tlo thi b9 va vf tf ta fs done) (hb : Below wr.heap.size wr w1) : MkR B w w1 p m flo fhi tlo thi b9 va vf tf ta fs done :=
  ⟨h.ses.below hb, (hb.block _ h.lt9).trans h.box, h.ref.move hb.size (fun b _ hl => hb.block b hl) (fun b _ => id), h.tfs.move (Same.of_below (hb.mono h.th)), h.own, h.bp, h.bm, h.bf, h.bt, h.pt, Nat.le_trans h.th hb.size, h.lo, h.lt, h.bel.trans (hb.mono h.le), Nat.le_trans h.le hb.size⟩
/-- after the session's step: the reference's is not done yet -/
structure MkT (B : Nat) (w wr : World) (p m flo fhi tlo thi b9 : Nat) (va vf tf ta : Value) (fs : List Ft) (done done' : List Ac) : Prop where
  ses : SesAt wr B p m flo fhi va vf fs done'
  box : wr.heap[b9]? = some (.cells #[tf, ta] 52 (0, 0))
  ref : ActsIn wr ta done (fun b => b < B ∨ b = p ∨ b = b9 ∨ va.ownBlock = some b)
  tfs : FeatsAt wr tlo thi tf fs
  own : ∀ g, va.ownBlock = some g → ¬ (tlo ≤ g ∧ g < thi) ∧ g ≠ b9
  th : thi ≤ wr.heap.size
  bel : Below B w wr
  le : B ≤ wr.heap.size
theorem MkT.below (h : MkT B w wr p m flo fhi tlo thi b9 va vf tf ta fs done done') (hb : Below wr.heap.size wr w1) : MkT B w w1 p m flo fhi tlo thi b9 va vf tf ta fs done done' :=
  ⟨h.ses.below hb, (hb.block _ (Array.getElem?_eq_some_iff.1 h.box).1).trans h.box, h.ref.move hb.size (fun b _ hl => hb.block b hl) (fun b _ => id), h.tfs.move (Same.of_below (hb.mono h.th)), h.own, Nat.le_trans h.th hb.size, h.bel.trans (hb.mono h.le), Nat.le_trans h.le hb.size⟩
theorem MkR.turn (h : MkR B w wr p m flo fhi tlo thi b9 va vf tf ta fs done) (hs : SesAt w1 B p m flo fhi va' vf fs done') (ht : Turn wr w1 p va va') : MkT B w w1 p m flo fhi tlo thi b9 va' vf tf ta fs done done' := by
  have hl := h.lt9
  have hth := h.th
  have hp : p < wr.heap.size := h.ltp
  refine ⟨hs, (ht.block _ hl h.bp (fun e => (h.own _ e.symm).2 rfl)).trans h.box, h.ref.move ht.size (fun b hP hb => ht.block b hb (fun e => hP (.inr (.inl e))) (fun e => hP (.inr (.inr (.inr e.symm))))) (fun b hb hP => ?_), h.tfs.move (fun b h1 h2 => ht.block b (by omega) (fun e => h.pt (e ▸ ⟨h1, h2⟩)) (fun e => (h.own b e.symm).1 ⟨h1, h2⟩)), fun g hg => ?_, Nat.le_trans hth ht.size, h.bel.trans (ht.below h.le h.ses.lp (fun g hg => (h.ownlo g hg).1)), Nat.le_trans h.le ht.size⟩
  · rcases hP with e | e | e | e
    · exact .inl e
    · exact .inr (.inl e)
    · exact .inr (.inr (.inl e))
    · rcases ht.new b e with e2 | e2
      · exact .inr (.inr (.inr e2))
      · omega
  · rcases ht.new g hg with e | e
    · exact h.own g e
    · exact ⟨by omega, by omega⟩
theorem MkR.next {w2 : World} (h : MkR B w wr p m flo fhi tlo thi b9 va vf tf ta fs done) (j : MkT B w w1 p m flo fhi tlo thi b9 va' vf tf ta fs done done') (hk : Kg w1 (some b9) w2)
    (hbox : w2.heap[b9]? = some (.cells #[tf, ta'] 52 (0, 0)))
    (hr : ActsIn w2 ta' done' (fun b => b < B ∨ b = p ∨ b = b9 ∨ va'.ownBlock = some b)) : MkR B w w2 p m flo fhi tlo thi b9 va' vf tf ta' fs done' := by
  refine ⟨j.ses.grown hk h.bp h.bm h.bf (fun e => (j.own _ e).2 rfl), hbox, hr, j.tfs.move (fun b h1 h2 => hk.block b (by have := j.th; omega) (fun e => ?_)), j.own, h.bp, h.bm, h.bf, h.bt, h.pt, Nat.le_trans j.th hk.size, h.lo, h.lt, j.bel.grown hk j.le (fun k e => by injection e with e; subst e; exact h.lo), Nat.le_trans j.le hk.size⟩
  injection e with e
  exact h.bt (e ▸ ⟨h1, h2⟩)
end
theorem items_row (f : Nat → Int) (w : World) : ∀ is : List Nat, (∀ i ∈ is, i < 17) → (Op.eqItems 9999 3 1 (rowW f) (rowW f) is).run Tryz.prog w = .ok true w
  | [], _ => by simp [Op.eqItems]
  | i :: is, h => by
    have hi := h i (List.mem_cons_self ..)
    have ih := items_row f w is (fun j hj => h j (List.mem_cons_of_mem _ hj))
    have hp : (part 3 (rowW f) (i * 1)).run Tryz.prog w = .ok (.int .i64 (f i)) w := run_part_plain w (by kernel_rfl) (by rw [Nat.mul_one]; exact rowW_at f hi)
    have he : (Op.equalIn 9999 3 (.int .i64 (f i)) (.int .i64 (f i))).run Tryz.prog w = .ok (f i == f i) w := run_equalIn_int w 9998 3 .i64 .i64 _ _ Tryz.underlying3
    rw [Nat.mul_one] at hp
    simp [Op.eqItems, hp, he, ih]
theorem ein_row (f : Nat → Int) (w : World) : (Op.equalIn 10000 63 (.agg (rowW f)) (.agg (rowW f))).run Tryz.prog w = .ok true w := by
  obtain ⟨i, hi⟩ := info_of_underlying Tryz.underlying3
  rw [show (10000 : Nat) = 9999 + 1 from rfl, run_equalIn_array w 9999 _ _ Tryz.underlying63 hi, show Tryz.prog.cellsOf 3 = 1 by kernel_rfl]
  exact items_row f w _ (fun i h => List.mem_range.1 h)
theorem exec_load_row {P : Program} {ev : Operand → Value} {o : Oper} {w : World} (ty : TypeId) (x : Operand) (ho : o.op = .load ty x) (g : Nat) (hx : ev x = .pointer (some ⟨g, 0, none⟩)) (t : TypeId) (cs : Array Value) (fr : Nat × Nat) (d : TypeDesc) (hg : w.heap[g]? = some (.cells cs t fr))
    (hu : P.underlying ty = some d) (hd : (match d with | .struct _ | .array _ _ => true | _ => false) = true) (hi : (P.info? ty).map (·.size) = some cs.size) : (execOp ev o).run P w = .ok (.value (.agg cs)) w := by
  unfold execOp
  simp only [ho, hx, Instr.loadAt, Instr.sureAddr, Sem.run_bind, Sem.run_pure, Result.andThen_ok, run_loadVar_row w g t ty cs fr d hg hu hd hi]
theorem set_two {W : World} {b : Nat} {T : TypeId} {a c x y : Value} (h : W.heap[b]? = some (.cells #[a, c] T (0, 0))) : ((W.setCell ⟨b, 0, none⟩ x).setCell ⟨b, 1, none⟩ y).heap[b]? = some (.cells #[x, y] T (0, 0)) :=
  heap_setCell_same _ b 1 _ _ _ (heap_setCell_same W b 0 _ _ _ h)
theorem wfA_kept {a : Ac} (h : wfA a) : wfA (kept a) := by
  unfold kept
  split
  · exact ⟨h.1, h.2.1, by show i64B 0; unfold i64B; omega⟩
  · exact h
theorem wfAs_doA {fs : List Ft} {acts : List Ac} {a : Ac} (h : wfAs acts) (ha : wfA a) : wfAs (doA fs acts a) := by
  unfold doA
  split
  · intro b hb
    rcases List.mem_append.1 hb with hb | hb
    · exact h b hb
    · simp only [List.mem_cons, List.not_mem_nil, or_false] at hb
      subst hb
      exact wfA_kept ha
  · exact h

theorem b0 : i64B 0 := by unfold i64B; omega
theorem b1 : i64B 1 := by unfold i64B; omega
theorem b2 : i64B 2 := by unfold i64B; omega
theorem b3 : i64B 3 := by unfold i64B; omega
theorem b4 : i64B 4 := by unfold i64B; omega
theorem b7 : i64B 7 := by unfold i64B; omega
theorem b9 : i64B 9 := by unfold i64B; omega
theorem b13 : i64B 13 := by unfold i64B; omega
/-- the pair of features with another miss -/
def pairN (n : Int) : List Ft := [((0, 0, 3, 7, 4), [(1, 0), (2, 3)]), ((0, 0, 3, 13, 0), [(0, 2), (1, n)])]
def pairO1 : Array Value := #[.int .i64 1, .int .i64 0, .int .i64 2, .int .i64 3]
def pairO2 (n : Int) : Array Value := #[.int .i64 0, .int .i64 2, .int .i64 1, .int .i64 n]
def pairF (g : Nat) : Array Value := #[.int .i64 0, .int .i64 0, .int .i64 3, .int .i64 7, .int .i64 4, .slice (some ⟨g, 0, none⟩) 2 2, .int .i64 0, .int .i64 0, .int .i64 3, .int .i64 13, .int .i64 0, .slice (some ⟨g + 1, 0, none⟩) 2 2]
theorem pairX_c (w : World) : Calls Tryz.prog 12 #[] w fun e w' => e = .returned (.slice (some ⟨w.heap.size + 2, 0, none⟩) 2 2) ∧ w' = ((w.alloc (.cells pairO1 41)).alloc (.cells (pairO2 3) 41)).alloc (.cells (pairF w.heap.size) 47) := by
  go_enter Tryz.func12, Tryz.ntmps12
  go_wp2
  go_ret
  exact ⟨rfl, rfl⟩
theorem row2 {i : Nat} {P : Nat → Prop} (hi : i < 2) (h0 : P 0) (h1 : P 1) : P i := by
  rcases (by omega : i = 0 ∨ i = 1) with rfl | rfl
  · exact h0
  · exact h1
theorem pair_at {W : World} {g : Nat} {n : Int} (h1 : W.heap[g]? = some (.cells pairO1 41 (0, 0))) (h2 : W.heap[g + 1]? = some (.cells (pairO2 n) 41 (0, 0))) (h3 : W.heap[g + 2]? = some (.cells (pairF g) 47 (0, 0))) :
    FeatsAt W g (g + 3) (.slice (some ⟨g + 2, 0, none⟩) 2 2) (pairN n) := by
  refine ⟨some ⟨g + 2, 0, none⟩, 2, fun (i : Nat) => if i = 0 then .slice (some ⟨g, 0, none⟩) 2 2 else .slice (some ⟨g + 1, 0, none⟩) 2 2, rfl, (fun h => absurd h (by simp)), fun _ => ⟨g + 2, 0, rfl, by omega, by omega, fun i hi j u hu => ?_⟩, fun i hi => ?_⟩
  · rw [cell_of_row _ _ _ _ _ _ h3]
    have hj : j < 6 := by
      have := (List.getElem?_eq_some_iff.1 hu).1
      rwa [ftV_len] at this
    have hi2 : i = 0 ∨ i = 1 := by simp [pairN] at hi; omega
    revert hu
    rcases hi2 with rfl | rfl <;> rcases show j = 0 ∨ j = 1 ∨ j = 2 ∨ j = 3 ∨ j = 4 ∨ j = 5 by omega with rfl | rfl | rfl | rfl | rfl | rfl <;> exact id
  · have hi2 : i = 0 ∨ i = 1 := by simp [pairN] at hi; omega
    rcases hi2 with rfl | rfl
    · refine ⟨some ⟨g, 0, none⟩, 2, rfl, (fun h => absurd h (by simp)), fun _ => ⟨g, 0, rfl, Nat.le_refl _, by omega, fun k hk j u hu => ?_⟩⟩
      rw [cell_of_row _ _ _ _ _ _ h1]
      have hj : j < 2 := by
        have := (List.getElem?_eq_some_iff.1 hu).1
        rwa [optV_len] at this
      have hk2 : k = 0 ∨ k = 1 := by simp [pairN, ftAt] at hk; omega
      revert hu
      rcases hk2 with rfl | rfl <;> rcases show j = 0 ∨ j = 1 by omega with rfl | rfl <;> exact id
    · refine ⟨some ⟨g + 1, 0, none⟩, 2, rfl, (fun h => absurd h (by simp)), fun _ => ⟨g + 1, 0, rfl, by omega, by omega, fun k hk j u hu => ?_⟩⟩
      rw [cell_of_row _ _ _ _ _ _ h2]
      have hj : j < 2 := by
        have := (List.getElem?_eq_some_iff.1 hu).1
        rwa [optV_len] at this
      have hk2 : k = 0 ∨ k = 1 := by simp [pairN, ftAt] at hk; omega
      revert hu
      rcases hk2 with rfl | rfl <;> rcases show j = 0 ∨ j = 1 by omega with rfl | rfl <;> exact id
theorem pairN_wf {n : Int} (hn : i64B n) : wfFs (pairN n) := by
  intro f hf
  simp only [pairN, List.mem_cons, List.not_mem_nil, or_false] at hf
  rcases hf with rfl | rfl
  · refine ⟨⟨b0, b0, b3, b7, b4⟩, fun o ho => ?_, by simp⟩
    simp only [List.mem_cons, List.not_mem_nil, or_false] at ho
    rcases ho with rfl | rfl
    · exact ⟨b1, b0⟩
    · exact ⟨b2, b3⟩
  · refine ⟨⟨b0, b0, b3, b13, b0⟩, fun o ho => ?_, by simp⟩
    simp only [List.mem_cons, List.not_mem_nil, or_false] at ho
    rcases ho with rfl | rfl
    · exact ⟨b0, b2⟩
    · exact ⟨b1, hn⟩
/-- what New gives, in one shape -/
theorem new_shape {w : World} {fs : List Ft} {e : Ending} {w' : World} (h : NewRes w fs e w') : ∃ q, e = .returned (.tuple #[.pointer q, .int .i64 (newE fs)]) ∧ Below w.heap.size w w' := by
  rcases h with ⟨hb, ⟨hne, rfl⟩ | ⟨he0, p, m, flo, fhi, vf, rfl, -⟩⟩
  · exact ⟨none, rfl, hb⟩
  · exact ⟨some ⟨p, 0, none⟩, by rw [he0], hb⟩
theorem rnew_shape {w : World} {fs : List Ft} {e : Ending} {w' : World} (h : RNewRes w fs e w') : ∃ a n c, e = .returned (.tuple #[.agg #[.slice a n c, .slice none 0 0], .int .i64 (newE fs)]) ∧ Below w.heap.size w w' := by
  rcases h with ⟨hb, ⟨hne, rfl⟩ | ⟨he0, vf, rfl, hof⟩⟩
  · exact ⟨none, 0, 0, rfl, hb⟩
  · obtain ⟨vs, h1, h2, h3⟩ := hof
    obtain ⟨a, c, rfl⟩ := own_shape h2
    exact ⟨a, _, c, by rw [he0], hb⟩
/-- the features of one What -/
def dotF (i : Nat) : Ft := ((0, 0, (i : Int), 9, 0), [(0, 0), (1, 2)])
def dots (k : Nat) : List Ft := (List.range k).map dotF
theorem dots_succ (k : Nat) : dots (k + 1) = dots k ++ [dotF k] := by simp [dots, List.range_succ]
theorem dots_len (k : Nat) : (dots k).length = k := by simp [dots]
theorem dots_at {k i : Nat} (h : i < k) : ftAt (dots k) i = dotF i := by
  rw [ftAt_get (by rw [dots_len]; exact h)]
  simp [dots]
theorem dots_wf {k : Nat} (hk : k ≤ 40) : wfFs (dots k) := by
  intro f hf
  simp only [dots, List.mem_map, List.mem_range] at hf
  obtain ⟨i, hi, rfl⟩ := hf
  refine ⟨⟨b0, b0, ?_, b9, b0⟩, fun o ho => ?_, by simp [dotF]⟩
  · show i64B (i : Int)
    unfold i64B
    omega
  · simp only [dotF, List.mem_cons, List.not_mem_nil, or_false] at ho
    rcases ho with rfl | rfl
    · exact ⟨b0, b0⟩
    · exact ⟨b1, b2⟩
theorem dots_new : newE (dots 40) = 0 := by decide +kernel
/-- the acts that are done on them -/
def dotA (v : Int) (i : Nat) : Ac := (1, (0, 0, (i : Int), 9, 0), v)
def dotAs (v : Int) (k : Nat) : List Ac := (List.range k).map (dotA v)
theorem dotAs_succ (v : Int) (k : Nat) : dotAs v (k + 1) = dotAs v k ++ [dotA v k] := by simp [dotAs, List.range_succ]
theorem dotAs_len (v : Int) (k : Nat) : (dotAs v k).length = k := by simp [dotAs]
theorem dot_all : (List.range 2).all (fun v => (List.range 40).all fun k => decide (doE (dots 40) (dotAs (v : Int) k) (dotA (v : Int) k) = 0)) = true := by decide +kernel
theorem dot_do {v k : Nat} (hv : v < 2) (hk : k < 40) : doE (dots 40) (dotAs (v : Int) k) (dotA (v : Int) k) = 0 :=
  of_decide_eq_true (List.all_eq_true.1 (List.all_eq_true.1 dot_all v (List.mem_range.2 hv)) k (List.mem_range.2 hk))
theorem dot_doA {v k : Nat} (hv : v < 2) (hk : k < 40) : doA (dots 40) (dotAs (v : Int) k) (dotA (v : Int) k) = dotAs (v : Int) (k + 1) := by
  unfold doA
  rw [if_pos (dot_do hv hk), dotAs_succ]
  rfl
theorem dot_acted {v : Nat} (hv : v < 2) : ∀ k : Nat, k ≤ 40 → Acted (dots 40) (dotAs (v : Int) k)
  | 0, _ => Acted.nil _
  | k + 1, h => by
    rw [← dot_doA hv (by omega)]
    exact (dot_acted hv k (by omega)).doA _
theorem dotA_wf {v k : Nat} (hv : v < 2) (hk : k ≤ 40) : wfA (dotA (v : Int) k) := by
  refine ⟨b1, ⟨b0, b0, ?_, b9, b0⟩, ?_⟩
  · show i64B (k : Int)
    unfold i64B
    omega
  · show i64B (v : Int)
    unfold i64B
    omega
theorem dot_wf {v : Nat} (hv : v < 2) {k : Nat} (hk : k ≤ 40) : wfAs (dotAs (v : Int) k) := by
  intro a ha
  simp only [dotAs, List.mem_map, List.mem_range] at ha
  obtain ⟨i, hi, rfl⟩ := ha
  exact dotA_wf hv (by omega)
/-- an append to a slice of the call's own: the old slice is readable behind it -/
theorem wpList_append_keeps {P : Program} {w : World} {ops : Array Oper} {rest : List Oper} {o : Oper} {a : Act} {Q : Exit → Act → World → Prop} (hgd : o.guard = none) (s x : Operand) (t : TypeId)
    (ho : o.op = .call { callee := .builtin .append, args := #[s, x], argTypes := #[t, t] })
    (base : Nat) (e : TypeId) (i : TypeInfo) (z : Value) (bytes : Nat) (ht : P.underlying t = some (.slice e)) (hi : P.info? e = some i) (hz : i.zero = some z)
    (hby : i.bytes = bytes) (hzs : z.cells.size = i.size) (hsz : 0 < i.size)
    (g cap : Nat) (n : Nat) (xs : List Value) (hs : a.eval s = .slice (some ⟨g, 0, none⟩) n cap) (hown : w.ownsRow base e i.size (.slice (some ⟨g, 0, none⟩) n cap) n xs)
    (ad : Addr) (m c : Nat) (news : List Value) (hx : a.eval x = .slice (some ad) m c) (hl : news.length = m * i.size) (hnews : ∀ j u, news[j]? = some u → w.cell? (ad.add j) = some u) (h1 : ∀ u ∈ news, u.oneCell' = true)
    (hm : 0 < m) (h63 : n + m ≤ maxLen) (hbytes : (n + m) * bytes ≤ 140737488355328) (hbase : base ≤ w.heap.size)
    (h : ∀ v' w', w'.ownsRow base e i.size v' (n + m) (xs ++ news) → w'.ownsRow base e i.size (.slice (some ⟨g, 0, none⟩) n cap) n xs → w.grownBy w' (some g) → wpList P ops Q rest (a.put o.dst v') w') : wpList P ops Q (o :: rest) a w := by
  subst hby
  have key : ∃ v' w', (Builtin.append_ #[t, t] o.type #[.slice (some ⟨g, 0, none⟩) n cap, .slice (some ad) m c]).run P w = .ok v' w' ∧ w'.ownsRow base e i.size v' (n + m) (xs ++ news) ∧ w'.ownsRow base e i.size (.slice (some ⟨g, 0, none⟩) n cap) n xs ∧ w.grownBy w' (some g) := by
    have hsmall : n + m ≤ 9223372036854775807 := by simp only [maxLen] at h63; omega
    have hlen : (xs ++ news).length = (n + m) * i.size := by rw [List.length_append, hown.1, hl, Nat.add_mul]
    have hown' := hown
    rcases hown.2 with ⟨e1, _⟩ | ⟨g', cap', cur, e1, hbg, hg, hnc, hcm, hcs, htake⟩
    · cases e1
    · simp only [Value.slice.injEq, Option.some.injEq, Addr.mk.injEq, true_and, and_true] at e1
      obtain ⟨rfl, rfl⟩ := e1
      by_cases hroom : n + m ≤ cap
      · have hfit : n * i.size + news.length ≤ cur.size := by rw [hl, hcs, ← Nat.add_mul]; exact Nat.mul_le_mul_right _ hroom
        have hr := run_append_room (P := P) w t o.type e i ht hi g n cap cur hg ad m c news hl hnews h1 hroom hfit
        have hsz2 : (cur.toList.take (n * i.size) ++ news ++ cur.toList.drop (n * i.size + news.length)).toArray.size = cap * i.size := by
          simp only [List.size_toArray, List.length_append, List.length_take, List.length_drop, Array.length_toList]
          omega
        have hxl : xs.length = n * i.size := hown.1
        refine ⟨_, _, hr, ⟨hlen, .inr ⟨g, cap, _, rfl, hbg, setRow_heap w g cur _ e _ hg, hroom, hcm, hsz2, ?_⟩⟩, ⟨hown.1, .inr ⟨g, cap, _, rfl, hbg, setRow_heap w g cur _ e _ hg, hnc, hcm, hsz2, ?_⟩⟩, ⟨rfl, rfl, rfl, by simp, fun k _ hk => setRow_other w g k _ (fun e => hk (by rw [e]))⟩⟩
        · rw [htake, ← hlen]
          exact List.take_left
        · rw [htake, ← hxl, List.append_assoc]
          exact List.take_left
      · have holds : ∀ j u, xs[j]? = some u → w.cell? ((⟨g, 0, none⟩ : Addr).add j) = some u := hown.cells (g := g) rfl
        have hr := run_append_grow (P := P) w t o.type e i z ht hi hz ⟨g, 0, none⟩ n cap xs hown.1 holds ad m c news hl hnews (by omega) (by omega) (growslice_fits (by omega) hbytes)
        have hge := grownCap_ge w (n + m) cap e
        have hcm' : grownCap w (n + m) cap e ≤ maxLen := grownCap_le_maxLen w (n + m) cap e h63
        have hglt : g < w.heap.size := (Array.getElem?_eq_some_iff.1 hg).1
        refine ⟨_, _, hr, ⟨hlen, .inr ⟨w.heap.size, _, _, rfl, hbase, heap_alloc_new w.drew _, hge, hcm', ?_, ?_⟩⟩, ⟨hown.1, .inr ⟨g, cap, cur, rfl, hbg, (heap_alloc_old w.drew _ hglt).trans hg, hnc, hcm, hcs, htake⟩⟩, ⟨rfl, rfl, rfl, by simp, fun k hk _ => heap_alloc_old w.drew _ hk⟩⟩
        · simp only [Array.size_append, List.size_toArray, size_zeroCells, hzs, hown.1, hl, ← Nat.add_mul]
          congr 1
          omega
        · simp only [Array.toList_append, List.append_assoc]
          rw [← List.append_assoc, ← hlen]
          exact List.take_left
  refine wpList_plain hgd fun _ hK => ?_
  obtain ⟨v', w', hr, h2, h3, h4⟩ := key
  unfold Oper.wp execOp
  simp only [ho, resolve, invoke, builtin, Sem.run_bind, Sem.run_pure, Result.andThen_ok, List.map_toArray, List.map_cons, List.map_nil, hs, hx, hr]
  exact hK _ _ (h v' w' h2 h3 h4)
theorem repC_len (n : Nat) : ((List.replicate n actB).flatMap acV).length = n * 7 := flatMap_len acV 7 acV_len _ |>.trans (by simp)
theorem repC_at {n i : Nat} (h : i < n) : ((List.replicate n actB).flatMap acV)[i * 7 + 6]? = some (.int .i64 0) :=
  flatMap_at acV 7 acV_len (List.replicate n actB) i 6 (by simpa using h) _ (by rw [List.getElem_replicate]; rfl)
theorem formO_rep : formO (List.replicate 4096 actB) = (formatG (List.replicate 4096 actB), 0) :=
  formO_good (by simp) (fun a ha => by rw [(List.mem_replicate.1 ha).2]; decide)
theorem formO_rep1 (a : Ac) : formO (List.replicate 4096 actB ++ [a]) = ([], 4) := if_pos (by simp)
theorem wfA_C (v : Int) (hv : i64B v) : wfA (actC v) := ⟨b2, ⟨b0, b0, b3, b7, b4⟩, hv⟩
theorem wfAs_rep (n : Nat) : wfAs (List.replicate n actB) := fun a ha => by rw [(List.mem_replicate.1 ha).2]; exact wfA_B
theorem dot_opts (w : World) {lo : Nat} (hlo : lo ≤ w.heap.size) : (w.alloc (.cells #[.int .i64 0, .int .i64 0, .int .i64 1, .int .i64 2] 41)).ownsRow lo 41 2 (.slice (some ⟨w.heap.size, 0, none⟩) 2 2) 2 ([((0 : Int), (0 : Int)), (1, 2)].flatMap optV) :=
  World.ownsRow_lit w #[.int .i64 0, .int .i64 0, .int .i64 1, .int .i64 2] 2 hlo (by decide) rfl
def actCells : Array Value := #[.int .i64 2, .int .i64 0, .int .i64 0, .int .i64 3, .int .i64 7, .int .i64 4, .int .i64 9]
theorem infoSAct : Tryz.prog.info? 60 = some Tryz.t60 := by kernel_rfl
theorem rep_acts {w : World} {lo : Nat} {v : Value} {n : Nat} (h : w.ownsRow lo 60 7 v n ((List.replicate n actB).flatMap acV)) : ActsAt w lo w.heap.size v (List.replicate n actB) :=
  acts_of_own (by rw [List.length_replicate]; exact h)
theorem rep_acts1 {w : World} {lo : Nat} {v : Value} {n : Nat} {a : Ac} (h : w.ownsRow lo 60 7 v (n + 1) ((List.replicate n actB).flatMap acV ++ acV a)) : ActsAt w lo w.heap.size v (List.replicate n actB ++ [a]) :=
  acts_of_own (by rw [List.length_append, List.length_replicate, List.flatMap_append]; simpa using h)
theorem wfAs_rep1 {n : Nat} (v : Int) (hv : i64B v) : wfAs (List.replicate n actB ++ [actC v]) := fun a ha => by
  rcases List.mem_append.1 ha with h | h
  · exact wfAs_rep n a h
  · rw [List.mem_singleton.1 h]; exact wfA_C v hv
theorem merge_many {w : World} {e : Ending} {w' : World} (h : MrgResA w pairL pairL (List.replicate 4096 actB) (List.replicate 4096 actB) e w') : e = .returned (.tuple #[.pointer none, .slice none 0 0, .int .i64 4]) ∧ Below w.heap.size w w' := by
  rcases h with ⟨-, h⟩ | ⟨hb, -, -, e⟩
  · have := h rfl
    rw [merge_self] at this
    simp at this
  · exact ⟨e, hb⟩
def smallCells : Array Value := #[.string ⟨#[99, 111, 110, 102, 105, 114, 109, 32, 48, 32, 48, 32, 51, 32, 104, 101, 97, 100, 32, 52]⟩, .string ⟨#[99, 111, 110, 102, 105, 114, 109, 32, 48, 32, 48, 32, 51, 32, 104, 101, 97, 100, 32, 52, 32, 10]⟩, .string ⟨#[99, 111, 110, 102, 105, 114, 109, 32, 48, 32, 48, 32, 51, 32, 32, 52, 10]⟩, .string ⟨#[99, 111, 110, 102, 105, 114, 109, 32, 45, 49, 32, 48, 32, 51, 32, 104, 101, 97, 100, 32, 45, 49, 48, 48, 48, 48, 48, 48, 10]⟩, .string ⟨#[99, 111, 110, 102, 105, 114, 109, 32, 48, 32, 48, 32, 51, 32, 104, 101, 97, 100, 32, 49, 48, 48, 48, 48, 48, 49, 10]⟩, .string ⟨#[99, 111, 110, 102, 105, 114, 109, 32, 45, 48, 32, 48, 32, 51, 32, 104, 101, 97, 100, 32, 52, 10]⟩, .string ⟨#[99, 111, 110, 102, 105, 114, 109, 32, 48, 48, 32, 48, 32, 51, 32, 104, 101, 97, 100, 32, 52, 10]⟩, .string ⟨#[99, 111, 114, 114, 101, 99, 116, 32, 48, 32, 48, 32, 51, 32, 104, 101, 97, 100, 32, 52, 10]⟩, .string ⟨#[99, 111, 110, 102, 105, 114, 109, 32, 48, 32, 48, 32, 51, 32, 104, 101, 97, 100, 32, 52, 32, 49, 10]⟩, .string ⟨#[99, 111, 114, 114, 101, 99, 116, 32, 48, 32, 48, 32, 51, 32, 116, 101, 120, 116, 32, 52, 32, 45, 53, 10]⟩, .string ⟨#[10]⟩, .string ⟨#[99, 111, 114, 114, 101, 99, 116, 32, 48, 32, 48, 32, 51, 32, 110, 111, 116, 104, 105, 110, 103, 32, 52, 32, 53, 10]⟩, .string ⟨#[99, 111, 110, 102, 105, 114, 109, 32, 43, 49, 32, 48, 32, 51, 32, 104, 101, 97, 100, 32, 52, 10]⟩]
theorem small_at {W : World} {g j : Nat} (h : W.heap[g]? = some (.cells smallCells 9 (0, 0))) (hj : j < 13) : ∃ x : List UInt8, x.length ≤ 100 ∧ W.cell? ⟨g, j, none⟩ = some (.string ⟨x.toArray⟩) := by
  rw [cell_of_row _ _ _ _ _ _ h]
  rcases (by omega : j = 0 ∨ j = 1 ∨ j = 2 ∨ j = 3 ∨ j = 4 ∨ j = 5 ∨ j = 6 ∨ j = 7 ∨ j = 8 ∨ j = 9 ∨ j = 10 ∨ j = 11 ∨ j = 12) with rfl | rfl | rfl | rfl | rfl | rfl | rfl | rfl | rfl | rfl | rfl | rfl | rfl
  · exact ⟨[99, 111, 110, 102, 105, 114, 109, 32, 48, 32, 48, 32, 51, 32, 104, 101, 97, 100, 32, 52], by decide, rfl⟩
  · exact ⟨[99, 111, 110, 102, 105, 114, 109, 32, 48, 32, 48, 32, 51, 32, 104, 101, 97, 100, 32, 52, 32, 10], by decide, rfl⟩
  · exact ⟨[99, 111, 110, 102, 105, 114, 109, 32, 48, 32, 48, 32, 51, 32, 32, 52, 10], by decide, rfl⟩
  · exact ⟨[99, 111, 110, 102, 105, 114, 109, 32, 45, 49, 32, 48, 32, 51, 32, 104, 101, 97, 100, 32, 45, 49, 48, 48, 48, 48, 48, 48, 10], by decide, rfl⟩
  · exact ⟨[99, 111, 110, 102, 105, 114, 109, 32, 48, 32, 48, 32, 51, 32, 104, 101, 97, 100, 32, 49, 48, 48, 48, 48, 48, 49, 10], by decide, rfl⟩
  · exact ⟨[99, 111, 110, 102, 105, 114, 109, 32, 45, 48, 32, 48, 32, 51, 32, 104, 101, 97, 100, 32, 52, 10], by decide, rfl⟩
  · exact ⟨[99, 111, 110, 102, 105, 114, 109, 32, 48, 48, 32, 48, 32, 51, 32, 104, 101, 97, 100, 32, 52, 10], by decide, rfl⟩
  · exact ⟨[99, 111, 114, 114, 101, 99, 116, 32, 48, 32, 48, 32, 51, 32, 104, 101, 97, 100, 32, 52, 10], by decide, rfl⟩
  · exact ⟨[99, 111, 110, 102, 105, 114, 109, 32, 48, 32, 48, 32, 51, 32, 104, 101, 97, 100, 32, 52, 32, 49, 10], by decide, rfl⟩
  · exact ⟨[99, 111, 114, 114, 101, 99, 116, 32, 48, 32, 48, 32, 51, 32, 116, 101, 120, 116, 32, 52, 32, 45, 53, 10], by decide, rfl⟩
  · exact ⟨[10], by decide, rfl⟩
  · exact ⟨[99, 111, 114, 114, 101, 99, 116, 32, 48, 32, 48, 32, 51, 32, 110, 111, 116, 104, 105, 110, 103, 32, 52, 32, 53, 10], by decide, rfl⟩
  · exact ⟨[99, 111, 110, 102, 105, 114, 109, 32, 43, 49, 32, 48, 32, 51, 32, 104, 101, 97, 100, 32, 52, 10], by decide, rfl⟩
theorem parse_few (x : List UInt8) : (parseO x).1.length ≤ 4096 := by
  by_cases h : (parseO x).2.2 = 0
  · obtain ⟨l, e, -, -, hl⟩ := parse_ok h
    rw [e]
    exact hl
  · rw [parse_err h]
    simp
theorem ein_rowW (f : Nat → Int) (w : World) : (Op.equalIn 10000 64 (.agg (rowW f)) (.agg (rowW f))).run Tryz.prog w = .ok true w := by
  obtain ⟨i, hi⟩ := info_of_underlying Tryz.underlying3
  rw [show (10000 : Nat) = 9999 + 1 from rfl, run_equalIn_array w 9999 _ _ Tryz.underlying64 hi, show Tryz.prog.cellsOf 3 = 1 by kernel_rfl]
  exact items_row f w _ (fun i h => List.mem_range.1 h)
def zeroW : Value := .agg #[.int .i64 0, .int .i64 0, .int .i64 0, .int .i64 0, .int .i64 0, .int .i64 0, .int .i64 0, .int .i64 0, .int .i64 0, .int .i64 0, .int .i64 0, .int .i64 0, .int .i64 0, .int .i64 0, .int .i64 0, .int .i64 0, .int .i64 0]
theorem zeroW_row : zeroW = .agg (rowW (fun _ => 0)) := by kernel_rfl
theorem ein_zeroW (w : World) : (Op.equalIn 10000 64 (.agg #[.int .i64 0, .int .i64 0, .int .i64 0, .int .i64 0, .int .i64 0, .int .i64 0, .int .i64 0, .int .i64 0, .int .i64 0, .int .i64 0, .int .i64 0, .int .i64 0, .int .i64 0, .int .i64 0, .int .i64 0, .int .i64 0, .int .i64 0]) (.agg #[.int .i64 0, .int .i64 0, .int .i64 0, .int .i64 0, .int .i64 0, .int .i64 0, .int .i64 0, .int .i64 0, .int .i64 0, .int .i64 0, .int .i64 0, .int .i64 0, .int .i64 0, .int .i64 0, .int .i64 0, .int .i64 0, .int .i64 0])).run Tryz.prog w = .ok true w := by
  have := ein_rowW (fun _ => 0) w
  rw [← zeroW_row] at this
  exact this
end Go.Proofs.YtpcefaccoifejaaGreatDoor
