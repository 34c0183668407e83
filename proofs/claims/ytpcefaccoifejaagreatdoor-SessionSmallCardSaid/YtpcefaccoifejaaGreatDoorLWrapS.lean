/-
  From what a statement lists of the library's tables and variables to what the walks of texts lean on; a world in which all of it lies. Conditions: those of the given statement alone.
-/
import Derived.Test.YtpcefaccoifejaaGreatDoorSWrap
import Derived.Test.YtpcefaccoifejaaGreatDoorTX0
import Derived.Stop.LaidErr
import Derived.MakeChecks
import Derived.LaidMore
import Derived.LaidHandle
import Derived.Lib.LaidTab
import Derived.Shelf.Vars
namespace Go.Proofs.YtpcefaccoifejaaGreatDoor
open Go.ChangeShapes Go.WideShapes Go.ChangeAt Go.RowKit Go.Shelf
set_option linter.unusedSimpArgs false
set_option linter.unusedVariables false
set_option maxRecDepth 100000

theorem gES : Tryz.prog.globalNamed "strconv.ErrSyntax" = some 2 := by kernel_rfl
theorem gER : Tryz.prog.globalNamed "strconv.ErrRange" = some 3 := by kernel_rfl
theorem gEST : (Tryz.prog.globals[2]?).map (·.type) = some 94 := by kernel_rfl
theorem gERT : (Tryz.prog.globals[3]?).map (·.type) = some 94 := by kernel_rfl
theorem cellsES : Tryz.prog.cellsOf 196 = 1 := by kernel_rfl
theorem cellsStr : Tryz.prog.cellsOf 9 = 1 := by kernel_rfl
theorem starES : "*" ++ "errors.errorString" = "*errors.errorString" := by decide
theorem rowES (u : TypeId) (h : Tryz.prog.typeName? 3 u = some "*errors.errorString") : u = 194 :=
  typeName_ptr_named (nm := "errors.errorString") (by rw [starES]; kernel_rfl) (by kernel_rfl) (by decide) u (by rw [starES]; exact h)
theorem gPT : Tryz.prog.globalNamed "internal/strconv.uint64pow10" = some 1 := by kernel_rfl
theorem gPTT : (Tryz.prog.globals[1]?).map (·.type) = some 177 := by kernel_rfl
theorem cells64 : Tryz.prog.cellsOf 159 = 1 := by kernel_rfl
theorem cells20 : Tryz.prog.cellsOf 177 = 20 := by kernel_rfl
theorem max_of {W : World} (h : W.ShapedOpen Tryz.prog) : ∃ m, W.cell? ⟨0, 0, none⟩ = some (.int .i64 m) :=
  cell_of_shapedOpen_int (t := 3) (zero := #[.int .i64 0]) h (of_decide_eq_true (by kernel_rfl)) (by kernel_rfl) rfl (by kernel_rfl) (by kernel_rfl) Tryz.underlying3
/-- the library's tables and variables lie where a statement of texts begins -/
theorem env_of {W : World} (hL : laidMetH Tryz.prog Rows.sessionSmallRow.laid W) (hsh : W.ShapedOpen Tryz.prog) : Env W := by
  rw [MakeChecks.laidMetH_plain _ _ _ (by kernel_rfl)] at hL
  have h3 := hL.tail.tail
  have h5 := h3.tail.tail
  have h6 := h5.tail
  obtain ⟨a1, s1, hv1, -, -, -⟩ := laid_sentinel h5 gER gERT Tryz.underlying94 rowES Tryz.underlying194 Tryz.underlying196 rfl rfl Tryz.underlying9 cellsES cellsStr
  obtain ⟨a2, s2, hv2, -, -, -⟩ := laid_sentinel h6 gES gEST Tryz.underlying94 rowES Tryz.underlying194 Tryz.underlying196 rfl rfl Tryz.underlying9 cellsES cellsStr
  exact ⟨Lib.tabIs_of_head gPT gPTT Tryz.underlying177 Tryz.underlying159 cells64 cells20 h3, ⟨_, _, hv2⟩, ⟨_, _, hv1⟩, max_of hsh⟩
/-- a world for the witness: what the program's own laying of its variables leaves -/
noncomputable def laidWorldL (os : Os) : World := { World.doorLaid Tryz.prog 3000 os with heap := putAt (World.doorLaid Tryz.prog 3000 os).heap 4 Rows.laid_unicode_utf8_first }
set_option maxHeartbeats 4000000 in
theorem laidL_met (os : Os) (args : Array Value) : laidMetH Tryz.prog Rows.sessionSmallRow.laid ((laidWorldL os).forCall (fun _ _ => 0) ⟨#[], args, []⟩).memory := by
  rw [MakeChecks.laidMetH_plain _ _ _ (by kernel_rfl)]
  exact laidMet_of_run' 8 (by kernel_rfl) (by kernel_rfl)
end Go.Proofs.YtpcefaccoifejaaGreatDoor
