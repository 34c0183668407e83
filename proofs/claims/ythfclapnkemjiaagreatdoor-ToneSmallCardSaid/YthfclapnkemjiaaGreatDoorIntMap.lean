/-
  A map of integers to integers as a partial function: what a look-up, a store and 'clear' do to it; and the object State of package tone over it.
-/
import Derived.Test.YthfclapnkemjiaaGreatDoorAlt
import Derived.Maps.OwnSet
import Derived.Laws.Rows
namespace Go.Proofs.YthfclapnkemjiaaGreatDoor
open Go.RowKit Go.Maps

theorem zero_int (w : World) : (zeroValue 3).run Tryz.prog w = .ok (.int .i64 0) w := by kernel_rfl

/-- block b is a map of at most n entries that holds g -/
def IntMap (w : World) (b n : Nat) (g : Int → Option Int) : Prop :=
  ∃ D : DataW Unit, w.ownsMap Tryz.prog 3 (plainElem Tryz.prog 3) b n D ∧ ∀ s, (Lit.int .i64 s).wf = true → Maps.has D (.int .i64 s) = (g s).isSome ∧ D.atKey (.int .i64 s) (.lit (.int .i64 0)) = .lit (.int .i64 ((g s).getD 0))

theorem IntMap.lt {w : World} {b n : Nat} {g : Int → Option Int} (h : IntMap w b n g) : b < w.heap.size := by
  obtain ⟨D, h, _⟩ := h
  exact h.lt
theorem IntMap.kept {w w' : World} {b n : Nat} {g : Int → Option Int} (h : IntMap w b n g) {row : Option Nat} (hg : w.grownBy w' row) (hne : some b ≠ row) : IntMap w' b n g := by
  obtain ⟨D, h, hr⟩ := h
  exact ⟨D, h.kept hg hne, hr⟩
theorem IntMap.mono {w : World} {b n m : Nat} {g : Int → Option Int} (h : IntMap w b n g) (hn : n ≤ m) : IntMap w b m g := by
  obtain ⟨D, h, hr⟩ := h
  exact ⟨D, h.mono hn, hr⟩
theorem grown_of_below {w w' : World} (h : Below w.heap.size w w') (row : Option Nat) : w.grownBy w' row := ⟨h.os, h.tape, h.output, h.size, fun i hi _ => h.block i hi⟩
theorem IntMap.below {w w' : World} {b n : Nat} {g : Int → Option Int} (h : IntMap w b n g) (hb : Below w.heap.size w w') : IntMap w' b n g :=
  h.kept (grown_of_below hb none) (by simp)
theorem IntMap.drew {w : World} {b n : Nat} {g : Int → Option Int} (h : IntMap w b n g) : IntMap w.drew b n g := h
theorem IntMap.drewN {w : World} {b n : Nat} {g : Int → Option Int} (h : IntMap w b n g) (k : Nat) : IntMap (w.drewN k) b n g := h
theorem IntMap.made (w : World) : IntMap (w.alloc (.map #[] 0)) w.heap.size 0 (fun _ => none) :=
  ⟨.map [], World.ownsMap_made _ _ _ _, fun _ _ => ⟨rfl, rfl⟩⟩

/-- 'v, ok := m[s]' -/
theorem IntMap.look {w : World} {b n : Nat} {g : Int → Option Int} (h : IntMap w b n g) {s : Int} (hs : (Lit.int .i64 s).wf = true) :
    (Instr.lookup 102 (.map (some b)) (.int .i64 s) true).run Tryz.prog w = .ok (.tuple #[.int .i64 ((g s).getD 0), .bool (g s).isSome]) w := by
  obtain ⟨D, h, hr⟩ := h
  obtain ⟨v, ps, hrun, hv⟩ := h.look_ok (int_keyed Tryz.underlying3) Tryz.underlying102 (zero_int w) (plainElem_int Tryz.underlying3 (by decide)) (keyOf_int_mk Tryz.underlying3 hs)
  obtain ⟨c, rfl, hc, _⟩ := plainElem_int_inv Tryz.underlying3 hv
  have h1 := (hr s hs).1
  have h2 := (congrArg Prod.fst hc).symm.trans (hr s hs).2
  simp only [DataW.lit.injEq, Lit.int.injEq, true_and] at h2
  rw [hrun, h1, h2]

def upd (g : Int → Option Int) (s v : Int) : Int → Option Int := fun t => if t = s then some v else g t
/-- 'm[s] = v' -/
theorem IntMap.store {w : World} {b n : Nat} {g : Int → Option Int} (h : IntMap w b n g) {s v : Int} (hs : (Lit.int .i64 s).wf = true) (hv : (Lit.int .i64 v).wf = true) (hn : n < maxLen) :
    ∃ w', (Instr.mapUpdate 102 (.map (some b)) (.int .i64 s) (.int .i64 v)).run Tryz.prog w = .ok () w' ∧ IntMap w' b (n + 1) (upd g s v) ∧ w.grownBy w' (some b) := by
  obtain ⟨D, h, hr⟩ := h
  obtain ⟨w', hrun, hown, hg⟩ := h.update (int_keyed Tryz.underlying3) Tryz.underlying102 hn (keyOf_int_mk Tryz.underlying3 hs) (plainElem_int Tryz.underlying3 hv)
  refine ⟨w', hrun, ⟨_, hown, fun t ht => ?_⟩, hg⟩
  unfold upd
  by_cases e : t = s
  · subst e
    rw [if_pos rfl]
    exact ⟨has_put_same h.isMap (by simp [WideAt.IsKeyLit]) _, atKey_put_same h.isMap (by simp [WideAt.IsKeyLit]) _ _⟩
  · rw [if_neg e]
    have hne : Lit.int .i64 t ≠ .int .i64 s := fun x => e (by injection x)
    exact ⟨(has_put_other hne _).trans (hr t ht).1, (atKey_put_other hne _ _).trans (hr t ht).2⟩
/-- 'clear(m)' -/
theorem IntMap.cleared {w : World} {b n : Nat} {g : Int → Option Int} (h : IntMap w b n g) :
    ∃ w', (∀ ty, (Builtin.clear_ #[102] ty #[.map (some b)]).run Tryz.prog w = .ok (.tuple #[]) w') ∧ IntMap w' b 0 (fun _ => none) ∧ w.grownBy w' (some b) := by
  obtain ⟨D, ⟨es, clock, hb, F, hs, hD⟩, hr⟩ := h
  refine ⟨ChangeMaps.setBlock w b (.map #[] clock), fun ty => ?_, ⟨.map [], ⟨#[], clock, ChangeMaps.heap_setBlock_same hb _, ⟨by simp, MapKept.stamped_empty clock, by simp⟩, Nat.le_refl _, rfl⟩, fun _ _ => ⟨rfl, rfl⟩⟩,
    ⟨rfl, rfl, rfl, by simp [ChangeMaps.setBlock], fun i _ hi => ChangeMaps.heap_setBlock_other hb _ (fun e => hi (by rw [e]))⟩⟩
  simp [Builtin.clear_, run_underlying Tryz.underlying102, MapKept.run_getObj_map hb, MapKept.run_setObj_map _ hb, Result.andThen]
  rfl

/-- THE OBJECT State: block sb is the struct, block bm its map -/
structure St (w : World) (sb bm n : Nat) (key : Int) (g : Int → Option Int) : Prop where
  cells : w.heap[sb]? = some (.cells #[.int .i64 key, .map (some bm)] 104 (0, 0))
  map : IntMap w bm n g
/-- the alteration that holds -/
def cur (key : Int) (g : Int → Option Int) (s : Int) : Int := (g s).getD (keyAlt key s)
section
variable {w w' : World} {sb bm n : Nat} {key : Int} {g : Int → Option Int}
theorem St.lt (h : St w sb bm n key g) : sb < w.heap.size := (Array.getElem?_eq_some_iff.1 h.cells).1
theorem St.c0 (h : St w sb bm n key g) : w.cell? ⟨sb, 0, none⟩ = some (.int .i64 key) := by simp [World.cell?, h.cells]
theorem St.c1 (h : St w sb bm n key g) : w.cell? ⟨sb, 1, none⟩ = some (.map (some bm)) := by simp [World.cell?, h.cells]
theorem St.ne (h : St w sb bm n key g) : sb ≠ bm := by
  obtain ⟨D, ⟨es, clock, hb, _⟩, _⟩ := h.map
  rintro rfl
  have := h.cells
  rw [hb] at this
  cases this
theorem St.kept (h : St w sb bm n key g) {row : Option Nat} (hg : w.grownBy w' row) (h1 : some sb ≠ row) (h2 : some bm ≠ row) : St w' sb bm n key g :=
  ⟨(hg.block sb h.lt h1).trans h.cells, h.map.kept hg h2⟩
theorem St.below (h : St w sb bm n key g) (hb : Below w.heap.size w w') : St w' sb bm n key g := h.kept (grown_of_below hb none) (by simp) (by simp)
theorem St.mono (h : St w sb bm n key g) {m : Nat} (hn : n ≤ m) : St w sb bm m key g := ⟨h.cells, h.map.mono hn⟩
/-- the map of ANOTHER state is no block of this one -/
theorem St.sb_ne_map (h : St w sb bm n key g) {b m : Nat} {f : Int → Option Int} (k : IntMap w b m f) : sb ≠ b := by
  obtain ⟨D, ⟨es, clock, hb, _⟩, _⟩ := k
  rintro rfl
  have := h.cells
  rw [hb] at this
  cases this
end
end Go.Proofs.YthfclapnkemjiaaGreatDoor
