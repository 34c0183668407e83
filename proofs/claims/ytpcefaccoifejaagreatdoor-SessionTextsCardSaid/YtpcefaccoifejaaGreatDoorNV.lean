/-
  A world named, a goal hidden, in the middle of a list of operations. No conditions.
-/
import Derived.Test.YtpcefaccoifejaaGreatDoorSW
namespace Go.Proofs.YtpcefaccoifejaaGreatDoor
open Go.RowKit

theorem wpList_named {P : Program} {ops : Array Oper} {rest : List Oper} {Q : Exit → Act → World → Prop} {a : Act} {w : World} (h : ∀ W, W = w → wpList P ops Q rest a W) : wpList P ops Q rest a w := h w rfl
theorem wpList_veil {P : Program} {ops : Array Oper} {rest : List Oper} {Q : Exit → Act → World → Prop} {a : Act} {w : World} (h : Hid (wpList P ops Q rest a w)) : wpList P ops Q rest a w := h
theorem wpList_unveil {P : Program} {ops : Array Oper} {rest : List Oper} {Q : Exit → Act → World → Prop} {a : Act} {w : World} (h : wpList P ops Q rest a w) : Hid (wpList P ops Q rest a w) := h
end Go.Proofs.YtpcefaccoifejaaGreatDoor
