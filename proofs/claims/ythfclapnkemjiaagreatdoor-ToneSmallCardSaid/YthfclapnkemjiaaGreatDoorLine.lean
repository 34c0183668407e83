/-
  For walks over straight-line code with struct variables: a block of two integers, and how it is carried from world to world. No condition.
-/
import Derived.Test.YthfclapnkemjiaaGreatDoorReg
namespace Go.Proofs.YthfclapnkemjiaaGreatDoor
open Go.RowKit

theorem calls_named {P : Program} {f : FuncId} {args : Array Value} {w : World} {Q : Ending → World → Prop} (h : ∀ W, W = w → Calls P f args W Q) : Calls P f args w Q := h w rfl
theorem below_named {W w : World} {o : Obj} (h : W = w.alloc o) : Below w.heap.size w W := by rw [h]; exact (Below.refl _ _).alloc (Nat.le_refl _) _
/-- block b begins with these two integers, and may be written -/
structure Pair (W : World) (b : Nat) (x y : Int) : Prop where
  p0 : W.cell? ⟨b, 0, none⟩ = some (.int .i64 x)
  p1 : W.cell? ⟨b, 1, none⟩ = some (.int .i64 y)
  lt : b < W.heap.size
  f0 : W.frozen? ⟨b, 0, none⟩ = false
  f1 : W.frozen? ⟨b, 1, none⟩ = false
theorem Pair.next {W W' : World} {b : Nat} {x y : Int} (h : Pair W b x y) (hb : Below W.heap.size W W') : Pair W' b x y :=
  ⟨(hb.cell (p := ⟨b, 0, none⟩) h.lt).trans h.p0, (hb.cell (p := ⟨b, 1, none⟩) h.lt).trans h.p1, Nat.lt_of_lt_of_le h.lt hb.size, (hb.frozen (p := ⟨b, 0, none⟩) h.lt).trans h.f0, (hb.frozen (p := ⟨b, 1, none⟩) h.lt).trans h.f1⟩
theorem Pair.made {W w : World} {x y : Int} {T : TypeId} (h : W = w.alloc (.cells #[.int .i64 x, .int .i64 y] T)) : Pair W w.heap.size x y := by
  subst h
  exact ⟨by simp, by simp, by simp, by go_simp, by go_simp⟩
/-- a store into the block, or into another -/
theorem Pair.set1 {W u : World} {b : Nat} {x y v : Int} (h : Pair u b x y) (hW : W = u.setCell ⟨b, 1, none⟩ (.int .i64 v)) : Pair W b x v := by
  subst hW
  exact ⟨(World.cell?_setCell_other _ _ _ _ (by simp)).trans h.p0, World.cell?_setCell_same _ _ _ h.p1, by simpa [World.setCell] using h.lt, (World.frozen?_setCell _ _ _ _).trans h.f0, (World.frozen?_setCell _ _ _ _).trans h.f1⟩
theorem Pair.set0 {W u : World} {b : Nat} {x y v : Int} (h : Pair u b x y) (hW : W = u.setCell ⟨b, 0, none⟩ (.int .i64 v)) : Pair W b v y := by
  subst hW
  exact ⟨World.cell?_setCell_same _ _ _ h.p0, (World.cell?_setCell_other _ _ _ _ (by simp)).trans h.p1, by simpa [World.setCell] using h.lt, (World.frozen?_setCell _ _ _ _).trans h.f0, (World.frozen?_setCell _ _ _ _).trans h.f1⟩
theorem Pair.off1 {W u : World} {b c o : Nat} {x y : Int} {v : Value} (h : Pair u b x y) (hc : c ≠ b) (hW : W = u.setCell ⟨c, o, none⟩ v) : Pair W b x y := by
  subst hW
  exact ⟨(World.cell?_setCell_other _ _ _ _ (fun e => hc (by injection e))).trans h.p0, (World.cell?_setCell_other _ _ _ _ (fun e => hc (by injection e))).trans h.p1, by simpa [World.setCell] using h.lt, (World.frozen?_setCell _ _ _ _).trans h.f0, (World.frozen?_setCell _ _ _ _).trans h.f1⟩
theorem Pair.set01 {W u : World} {b : Nat} {x y x' y' : Int} (h : Pair u b x y) (hW : W = (u.setCell ⟨b, 0, none⟩ (.int .i64 x')).setCell ⟨b, 1, none⟩ (.int .i64 y')) : Pair W b x' y' :=
  Pair.set1 (Pair.set0 h rfl) hW
theorem Pair.off01 {W u : World} {b c : Nat} {x y : Int} {v v' : Value} (h : Pair u b x y) (hc : c ≠ b) (hW : W = (u.setCell ⟨c, 0, none⟩ v).setCell ⟨c, 1, none⟩ v') : Pair W b x y :=
  Pair.off1 (Pair.off1 h hc rfl) hc hW
theorem below_set1 {w W u : World} {c o : Nat} {v : Value} (h : Below w.heap.size w u) (hc : w.heap.size ≤ c) (hW : W = u.setCell ⟨c, o, none⟩ v) : Below w.heap.size w W := by
  subst hW; exact h.setCell hc _
theorem below_set01 {w W u : World} {c : Nat} {v v' : Value} (h : Below w.heap.size w u) (hc : w.heap.size ≤ c) (hW : W = (u.setCell ⟨c, 0, none⟩ v).setCell ⟨c, 1, none⟩ v') : Below w.heap.size w W :=
  below_set1 (below_set1 h hc rfl) hc hW
end Go.Proofs.YthfclapnkemjiaaGreatDoor
