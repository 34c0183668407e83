/-
  Contracts of the methods none and add of a session. Conditions: the session lies in memory as K8 says; its log is not too long.
-/
import Derived.Test.YtpcefaccoifejaaGreatDoorK8
import Derived.Deep.AppendLies
import Derived.Deep.RegionLaw
namespace Go.Proofs.YtpcefaccoifejaaGreatDoor
open Go.RowKit Go.Maps
set_option linter.unusedSimpArgs false
set_option linter.unusedVariables false
set_option maxRecDepth 100000

/-- w' is w but for block p and the row that va leads to; va' leads to that row or to a new one -/
structure Turn (w w' : World) (p : Nat) (va va' : Value) : Prop where
  os : w'.os = w.os
  tape : w'.tape = w.tape
  output : w'.output = w.output
  size : w.heap.size ≤ w'.heap.size
  block : ∀ b, b < w.heap.size → b ≠ p → some b ≠ va.ownBlock → w'.heap[b]? = w.heap[b]?
  new : ∀ g, va'.ownBlock = some g → va.ownBlock = some g ∨ w.heap.size ≤ g
theorem Turn.of_below {w w' : World} (h : Below w.heap.size w w') (p : Nat) (va : Value) : Turn w w' p va va := ⟨h.os, h.tape, h.output, h.size, fun b hb _ _ => h.block b hb, fun g hg => .inl hg⟩
theorem Turn.trans {a b c : World} {p : Nat} {u v x : Value} (h : Turn a b p u v) (k : Turn b c p v x) : Turn a c p u x :=
  ⟨k.os.trans h.os, k.tape.trans h.tape, k.output.trans h.output, Nat.le_trans h.size k.size, fun i hi h1 h2 => (k.block i (Nat.lt_of_lt_of_le hi h.size) h1 (fun e => by
    rcases h.new i e.symm with h3 | h3
    · exact h2 h3.symm
    · omega)).trans (h.block i hi h1 h2), fun g hg => by
    rcases k.new g hg with h3 | h3
    · exact h.new g h3
    · exact .inr (Nat.le_trans h.size h3)⟩
theorem Turn.below {w w' : World} {p B : Nat} {va va' : Value} (h : Turn w w' p va va') (hB : B ≤ w.heap.size) (hp : B ≤ p) (hv : ∀ g, va.ownBlock = some g → B ≤ g) : Below B w w' :=
  ⟨h.os, h.tape, h.output, h.size, fun i hi => h.block i (by omega) (by omega) (fun e => by have := hv i e.symm; omega)⟩

theorem none_c (lo p m flo fhi : Nat) (va vf : Value) (fs : List Ft) (acts : List Ac) (w : World) (h : SesAt w lo p m flo fhi va vf fs acts) :
    Calls Tryz.prog 40 #[.pointer (some ⟨p, 0, none⟩)] w fun e w' => e = .returned (.bool false) ∧ w = w' := by
  have c2 : w.cell? ⟨p, 2, none⟩ = some (.map (some m)) := by rw [cell_of_row _ _ _ _ _ _ h.cells]; rfl
  have hm := run_eql_map_nil (P := Tryz.prog) w _ _ _ (some m) Tryz.underlying75
  clear h
  go_enter Tryz.func40, Tryz.ntmps40
  go_wp2
  go_ret
  exact ⟨rfl, rfl⟩
theorem add_end {w W2 w1 : World} {lo p g n cap : Nat} {va vf vm : Value} {ks : List Value} (hp : p < w.heap.size) (hBW : Below w.heap.size w W2) (hgrow : W2.grownBy w1 va.ownBlock) (hC1 : w1.heap[p]? = some (.cells #[va, vf, vm] 77 (0, 0)))
    (hown : w1.ownsRow lo 60 7 (.slice (some ⟨g, 0, none⟩) n cap) n ks) (hat : va.ownBlock = some g ∨ w.heap.size ≤ g) :
    ∃ va', (w1.setCell ⟨p, 0, none⟩ (.slice (some ⟨g, 0, none⟩) n cap)).heap[p]? = some (.cells #[va', vf, vm] 77 (0, 0)) ∧ (w1.setCell ⟨p, 0, none⟩ (.slice (some ⟨g, 0, none⟩) n cap)).ownsRow lo 60 7 va' n ks ∧ Turn w (w1.setCell ⟨p, 0, none⟩ (.slice (some ⟨g, 0, none⟩) n cap)) p va va' := by
  have hgs : w1.grownBy (w1.setCell ⟨p, 0, none⟩ (.slice (some ⟨g, 0, none⟩) n cap)) (some p) := ⟨rfl, rfl, rfl, by simp [World.setCell], fun i hi hn => Below.heap_setCell w1 ⟨p, 0, none⟩ _ i (fun e => hn (by rw [e]))⟩
  refine ⟨.slice (some ⟨g, 0, none⟩) n cap, ?_, hown.kept hgs (.inr fun x => ?_), ⟨?_, ?_, ?_, ?_, fun b hb h1 h2 => ?_, fun g' hg' => ?_⟩⟩
  · rw [heap_setCell_same w1 p 0 _ _ _ hC1]; rfl
  · simp only [Value.ownBlock, Option.some.injEq] at x
    subst x
    rcases hown.2 with ⟨h, _⟩ | ⟨g2, cap2, cur, h, -, hg, -⟩
    · cases h
    · simp only [Value.slice.injEq, Option.some.injEq, Addr.mk.injEq, and_true, true_and] at h
      obtain ⟨rfl, rfl⟩ := h
      rw [hC1] at hg
      injection hg with hg
      injection hg with _ h2
      exact absurd h2 (by decide)
  · exact hgs.os.trans (hgrow.os.trans hBW.os)
  · exact hgs.tape.trans (hgrow.tape.trans hBW.tape)
  · exact hgs.output.trans (hgrow.output.trans hBW.output)
  · exact Nat.le_trans hBW.size (Nat.le_trans hgrow.size hgs.size)
  · exact (hgs.block b (by have := hBW.size; have := hgrow.size; omega) (fun e => h1 (by injection e))).trans ((hgrow.block b (by have := hBW.size; omega) h2).trans (hBW.block b hb))
  · simp only [Value.ownBlock, Option.some.injEq] at hg'
    subst hg'
    exact hat
set_option maxHeartbeats 1000000 in
theorem add_c (lo p n : Nat) (va vf vm : Value) (ks : List Value) (k a b c d e v : Int) (w : World) (hc : w.heap[p]? = some (.cells #[va, vf, vm] 77 (0, 0))) (ho : w.ownsRow lo 60 7 va n ks) (hn : n ≤ 1000000) (hlo : lo ≤ w.heap.size) :
    Calls Tryz.prog 43 #[.pointer (some ⟨p, 0, none⟩), .agg #[.int .i64 k, .int .i64 a, .int .i64 b, .int .i64 c, .int .i64 d, .int .i64 e, .int .i64 v]] w fun r w' => r = .returned (.tuple #[]) ∧
      ∃ va', w'.heap[p]? = some (.cells #[va', vf, vm] 77 (0, 0)) ∧ w'.ownsRow lo 60 7 va' (n + 1) (ks ++ [.int .i64 k, .int .i64 a, .int .i64 b, .int .i64 c, .int .i64 d, .int .i64 e, .int .i64 v]) ∧ Turn w w' p va va' := by
  obtain ⟨pa, pc, rfl⟩ := own_shape ho
  have hp : p < w.heap.size := (Array.getElem?_eq_some_iff.1 hc).1
  have c0 : w.cell? ⟨p, 0, none⟩ = some (.slice pa n pc) := by rw [cell_of_row _ _ _ _ _ _ hc]; rfl
  have f0 : w.frozen? ⟨p, 0, none⟩ = false := frozen_of_row w p 0 _ _ hc
  have hpo : some p ≠ (Value.slice pa n pc).ownBlock := by
    intro x
    rcases ho.2 with ⟨h1, _⟩ | ⟨g, cap, cur, h1, -, hg, -⟩
    · rw [h1] at x; cases x
    · rw [h1] at x
      simp only [Value.ownBlock, Option.some.injEq] at x
      subst x
      rw [hc] at hg
      injection hg with hg
      injection hg with _ h2
      exact absurd h2 (by decide)
  have hI := Lib.hid infoAct
  have HO := Lib.hid ho
  have HC := Lib.hid hc
  have HP := Lib.hid hpo
  clear ho hc hpo
  go_enter Tryz.func43, Tryz.ntmps43
  go_wp2_with fail
  refine wp_named fun W hW => ?_
  have k0 : W.cell? ⟨w.heap.size, 0, none⟩ = some (.int .i64 k) := by rw [hW]; go_simp
  have k1 : W.cell? ⟨w.heap.size, 1, none⟩ = some (.int .i64 a) := by rw [hW]; go_simp
  have k2 : W.cell? ⟨w.heap.size, 2, none⟩ = some (.int .i64 b) := by rw [hW]; go_simp
  have k3 : W.cell? ⟨w.heap.size, 3, none⟩ = some (.int .i64 c) := by rw [hW]; go_simp
  have k4 : W.cell? ⟨w.heap.size, 4, none⟩ = some (.int .i64 d) := by rw [hW]; go_simp
  have k5 : W.cell? ⟨w.heap.size, 5, none⟩ = some (.int .i64 e) := by rw [hW]; go_simp
  have k6 : W.cell? ⟨w.heap.size, 6, none⟩ = some (.int .i64 v) := by rw [hW]; go_simp
  have hB : Below w.heap.size w W := by rw [hW]; go_grown
  have c0W : W.cell? ⟨p, 0, none⟩ = some (.slice pa n pc) := (hB.cell (p := ⟨p, 0, none⟩) hp).trans c0
  have hz : w.heap.size < W.heap.size := by rw [hW]; simp
  have HB := Lib.hid hB
  have HOW := Lib.hid (own_below HO.out hB)
  have HCW : Hid (W.heap[p]? = some (.cells #[.slice pa n pc, vf, vm] 77 (0, 0))) := (hB.block p hp).trans HC.out
  have hpW : p < W.heap.size := by omega
  clear hW hB c0 f0
  go_region_law (refine step_append_lies _ rfl (.tmp 8) (.tmp 10) _ rfl lo 60 Tryz.t60 _ 7 56 rfl hI.out rfl rfl rfl rfl (by omega) (.slice pa n pc) n ks rfl (own_below HOW.out (by go_grown)) ⟨W.heap.size, 0, none⟩ 1 1 [.int .i64 k, .int .i64 a, .int .i64 b, .int .i64 c, .int .i64 d, .int .i64 e, .int .i64 v] rfl rfl (newCells _ _ _) (by simp [Value.oneCell']) (by omega) (by simp only [maxLen]; omega) (by omega) (by simp; omega) _ rfl ?_; intro g cap w1 hown hgrow hat hlt; have hC1 := (hgrow.block p (by simp; omega) HP.out).trans (((by go_grown : Below W.heap.size W _).block p hpW).trans HCW.out); have c1 : w1.cell? ⟨p, 0, none⟩ = some (.slice pa n pc) := (by rw [cell_of_row _ _ _ _ _ _ hC1]; rfl); have f1 : w1.frozen? ⟨p, 0, none⟩ = false := frozen_of_row w1 p 0 _ _ hC1; have HC1 := Lib.hid hC1; clear hC1)
  all_goals
    go_wp2
    go_end0
    exact ⟨rfl, add_end hp (HB.out.trans ((by go_grown : Below W.heap.size W _).mono HB.out.size)) hgrow HC1.out hown (hat.imp id (fun x => by simp at x; omega))⟩
end Go.Proofs.YtpcefaccoifejaaGreatDoor
