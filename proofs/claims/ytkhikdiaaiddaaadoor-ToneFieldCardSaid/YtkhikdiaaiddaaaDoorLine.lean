/-
  For walks over straight-line code with struct variables: a block of two integers, and how it is carried from world to world. No condition.
-/
import Derived.Test.YtkhikdiaaiddaaaDoorReg
namespace Go.Proofs.YtkhikdiaaiddaaaDoor
open Go.RowKit

theorem calls_named {P : Program} {f : FuncId} {args : Array Value} {w : World} {Q : Ending → World → Prop} (h : ∀ W, W = w → Calls P f args W Q) : Calls P f args w Q := h w rfl
theorem below_named {W w : World} {o : Obj} (h : W = w.alloc o) : Below w.heap.size w W := by rw [h]; exact (Below.refl _ _).alloc (Nat.le_refl _) _
/-- block b begins with these two integers -/
structure Pair (W : World) (b : Nat) (x y : Int) : Prop where
  p0 : W.cell? ⟨b, 0, none⟩ = some (.int .i64 x)
  p1 : W.cell? ⟨b, 1, none⟩ = some (.int .i64 y)
  lt : b < W.heap.size
theorem Pair.next {W W' : World} {b : Nat} {x y : Int} (h : Pair W b x y) (hb : Below W.heap.size W W') : Pair W' b x y :=
  ⟨(hb.cell (p := ⟨b, 0, none⟩) h.lt).trans h.p0, (hb.cell (p := ⟨b, 1, none⟩) h.lt).trans h.p1, Nat.lt_of_lt_of_le h.lt hb.size⟩
theorem Pair.made {W w : World} {x y : Int} {T : TypeId} (h : W = w.alloc (.cells #[.int .i64 x, .int .i64 y] T)) : Pair W w.heap.size x y := by
  subst h
  exact ⟨by simp, by simp, by simp⟩
end Go.Proofs.YtkhikdiaaiddaaaDoor
