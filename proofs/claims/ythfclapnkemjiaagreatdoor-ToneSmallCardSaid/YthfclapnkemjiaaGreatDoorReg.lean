/-
  For regions that draw their order and hold calls that make blocks: what is kept of the world W in which the region begins. No condition.
-/
import Derived.Test.YthfclapnkemjiaaGreatDoorLeaf
import Derived.Deep.RegionHeld3
namespace Go.Proofs.YthfclapnkemjiaaGreatDoor
open Go.RowKit

/-- a name for the world at hand -/
theorem wp_named {P : Program} {c : Code} {Q : Exit → Act → World → Prop} {a : Act} {w : World} (h : ∀ W, W = w → c.wp P Q a W) : c.wp P Q a w := h w rfl

/-- all old cells are as they were in W -/
abbrev Sk (W w' : World) : Prop := (∀ b o, b < W.heap.size → w'.cell? ⟨b, o, none⟩ = W.cell? ⟨b, o, none⟩) ∧ Below W.heap.size W w'
theorem Sk_of {W w' : World} (h : Below W.heap.size W w') : Sk W w' := ⟨fun b o hb => h.cell (p := ⟨b, o, none⟩) hb, h⟩
theorem Sk_drew (W : World) : Sk W W.drew := Sk_of (Below.refl _ _).drew
theorem Sk_call {W w2 w1 : World} (h : Sk W w2) (hb : Below w2.heap.size w2 w1) : Sk W w1 := Sk_of (h.2.trans (hb.mono h.2.size))
theorem Sk_alloc {W w2 : World} (h : Sk W w2) (o : Obj) : Sk W (w2.alloc o) := Sk_of (h.2.alloc h.2.size o)
theorem Sk_grown {W w2 w1 : World} (h : Sk W w2) {b : Nat} (hg : w2.grownBy w1 (some b)) (hb : W.heap.size ≤ b) : Sk W w1 :=
  Sk_of (h.2.trans ⟨hg.os, hg.tape, hg.output, hg.size, fun i hi => hg.block i (Nat.lt_of_lt_of_le hi h.2.size) (fun e => by injection e with e; omega)⟩)

theorem Sk_set {W w2 : World} (h : Sk W w2) {a : Addr} (ha : W.heap.size ≤ a.block) (u : Value) : Sk W (w2.setCell a u) := Sk_of (h.2.setCell ha u)
theorem Sk_set2 {W w2 : World} (h : Sk W w2) {a b : Addr} (ha : W.heap.size ≤ a.block) (hb : W.heap.size ≤ b.block) (u v : Value) : Sk W ((w2.setCell a u).setCell b v) := Sk_of ((h.2.setCell ha u).setCell hb v)
/-- all old cells but those of block B are as they were in W; B's first two cells are there -/
abbrev Sc (W : World) (B : Nat) (w' : World) : Prop :=
  (∀ b o, b < W.heap.size → b ≠ B → w'.cell? ⟨b, o, none⟩ = W.cell? ⟨b, o, none⟩) ∧ W.grownBy w' (some B) ∧
    ((w'.cell? ⟨B, 0, none⟩).isSome = true ∧ (w'.cell? ⟨B, 1, none⟩).isSome = true) ∧ w'.frozen? ⟨B, 0, none⟩ = false ∧ w'.frozen? ⟨B, 1, none⟩ = false
theorem Sc_of {W w' : World} {B : Nat} (h : W.grownBy w' (some B)) (h0 : (w'.cell? ⟨B, 0, none⟩).isSome = true) (h1 : (w'.cell? ⟨B, 1, none⟩).isSome = true) (f0 : w'.frozen? ⟨B, 0, none⟩ = false) (f1 : w'.frozen? ⟨B, 1, none⟩ = false) : Sc W B w' :=
  ⟨fun b o hb hn => World.cell?_of_block (a := ⟨b, o, none⟩) (h.block b hb (fun e => hn (by injection e))), h, ⟨h0, h1⟩, f0, f1⟩
theorem Sc_drew {W : World} {B : Nat} {u v : Value} (h0 : W.cell? ⟨B, 0, none⟩ = some u) (h1 : W.cell? ⟨B, 1, none⟩ = some v) (f0 : W.frozen? ⟨B, 0, none⟩ = false) (f1 : W.frozen? ⟨B, 1, none⟩ = false) : Sc W B W.drew :=
  Sc_of ⟨rfl, rfl, rfl, Nat.le_refl _, fun _ _ _ => rfl⟩ (by show (W.cell? _).isSome = true; rw [h0]; rfl) (by show (W.cell? _).isSome = true; rw [h1]; rfl) f0 f1
theorem Sc_call {W w2 w1 : World} {B : Nat} (h : Sc W B w2) (hB : B < W.heap.size) (hb : Below w2.heap.size w2 w1) : Sc W B w1 := by
  have hlt : B < w2.heap.size := Nat.lt_of_lt_of_le hB h.2.1.size
  have g : W.grownBy w1 (some B) := ⟨hb.os.trans h.2.1.os, hb.tape.trans h.2.1.tape, hb.output.trans h.2.1.output, Nat.le_trans h.2.1.size hb.size, fun i hi hn => (hb.block i (Nat.lt_of_lt_of_le hi h.2.1.size)).trans (h.2.1.block i hi hn)⟩
  exact Sc_of g (by rw [hb.cell (p := ⟨B, 0, none⟩) hlt]; exact h.2.2.1.1) (by rw [hb.cell (p := ⟨B, 1, none⟩) hlt]; exact h.2.2.1.2) ((hb.frozen (p := ⟨B, 0, none⟩) hlt).trans h.2.2.2.1) ((hb.frozen (p := ⟨B, 1, none⟩) hlt).trans h.2.2.2.2)
/-- what the store into B wants to see behind a call -/
theorem Sc_open {W w1 : World} {B : Nat} (h : Sc W B w1) : ∃ u v, w1.cell? ⟨B, 0, none⟩ = some u ∧ w1.cell? ⟨B, 1, none⟩ = some v ∧ w1.frozen? ⟨B, 0, none⟩ = false ∧ w1.frozen? ⟨B, 1, none⟩ = false := by
  obtain ⟨u, hu⟩ := Option.isSome_iff_exists.1 h.2.2.1.1
  obtain ⟨v, hv⟩ := Option.isSome_iff_exists.1 h.2.2.1.2
  exact ⟨u, v, hu, hv, h.2.2.2.1, h.2.2.2.2⟩
theorem cell_set_some {w : World} {a p : Addr} {u : Value} (h : (w.cell? a).isSome = true) : ((w.setCell p u).cell? a).isSome = true := by
  obtain ⟨x, hx⟩ := Option.isSome_iff_exists.1 h
  by_cases e : p = a
  · subst e; rw [World.cell?_setCell_same _ _ _ hx]; rfl
  · rw [World.cell?_setCell_other w p a u e, hx]; rfl
theorem Sc_set {W w1 : World} {B o : Nat} (h : Sc W B w1) (u : Value) : Sc W B (w1.setCell ⟨B, o, none⟩ u) := by
  have g : W.grownBy (w1.setCell ⟨B, o, none⟩ u) (some B) := ⟨h.2.1.os, h.2.1.tape, h.2.1.output, by simpa [World.setCell] using h.2.1.size, fun i hi hn =>
    (Below.heap_setCell w1 ⟨B, o, none⟩ u i (fun e => hn (by rw [e]))).trans (h.2.1.block i hi hn)⟩
  exact Sc_of g (cell_set_some h.2.2.1.1) (cell_set_some h.2.2.1.2) ((World.frozen?_setCell _ _ _ _).trans h.2.2.2.1) ((World.frozen?_setCell _ _ _ _).trans h.2.2.2.2)
/-- the end: all of it lies above -/
theorem Sc_below {w W w1 : World} {B : Nat} (h : Sc W B w1) (hW : Below w.heap.size w W) (hB : w.heap.size ≤ B) : Below w.heap.size w w1 :=
  hW.trans ⟨h.2.1.os, h.2.1.tape, h.2.1.output, h.2.1.size, fun i hi => h.2.1.block i (Nat.lt_of_lt_of_le hi hW.size) (fun e => by injection e with e; omega)⟩
theorem arr_at {l : List Oper} {i : Nat} {o : Oper} (h : l[i]? = some o) : l.toArray[i]? = some o := by simpa using h
/-- what a region keeps may be changed for more -/
theorem wpAnyH_mono {P : Program} {md : Region.Mode} {ops : Array Oper} {Q : Exit → Act → World → Prop} {S S' : World → Prop} (hS : ∀ w, S' w → S w) :
    ∀ (fuel : Nat) (listed : Array Bool) (a : Act) (w : World), wpAnyH P md ops Q S' fuel listed a w → wpAnyH P md ops Q S fuel listed a w
  | 0, _, _, _, h => h
  | fuel + 1, _, _, _, h => ⟨h.1, fun i hi => wpOp_mono (fun a' w' h' => ⟨hS _ h'.1, wpAnyH_mono hS fuel _ a' w' h'.2⟩) (h.2 i hi)⟩
theorem wpAnyH_switch {P : Program} {md : Region.Mode} {ops : Array Oper} {Q : Exit → Act → World → Prop} {S S' : World → Prop} {fuel : Nat} {listed : Array Bool} {a : Act} {w : World} (hS : ∀ w, S' w → S w)
    (h0 : S' w) (h : S' w → wpAnyH P md ops Q S' fuel listed a w) : wpAnyH P md ops Q S fuel listed a w := wpAnyH_mono hS _ _ _ _ (h h0)

end Go.Proofs.YthfclapnkemjiaaGreatDoor
