/-
  A map of integers to texts as a partial function; the contract of tone.qualities. No condition.
-/
import Derived.Test.YthfclapnkemjiaaGreatDoorName
import Derived.Maps.OwnSet
import Derived.Maps.StringElems
namespace Go.Proofs.YthfclapnkemjiaaGreatDoor
open Go.RowKit Go.Maps

theorem zero_str (w : World) : (zeroValue 9).run Tryz.prog w = .ok (.string ByteArray.empty) w := by kernel_rfl
/-- block b is a map of at most n entries that holds g -/
def StrMap (w : World) (b n : Nat) (g : Int → Option ByteArray) : Prop :=
  ∃ D : DataW Unit, w.ownsMap Tryz.prog 3 (plainElem Tryz.prog 9) b n D ∧ ∀ s, (Lit.int .i64 s).wf = true → Maps.has D (.int .i64 s) = (g s).isSome ∧ D.atKey (.int .i64 s) (.lit (.string [])) = .lit (.string ((g s).getD ByteArray.empty).data.toList)
theorem StrMap.kept {w w' : World} {b n : Nat} {g : Int → Option ByteArray} (h : StrMap w b n g) {row : Option Nat} (hg : w.grownBy w' row) (hne : some b ≠ row) : StrMap w' b n g := by
  obtain ⟨D, h, hr⟩ := h
  exact ⟨D, h.kept hg hne, hr⟩
theorem StrMap.below {w w' : World} {b n : Nat} {g : Int → Option ByteArray} (h : StrMap w b n g) (hb : Below w.heap.size w w') : StrMap w' b n g :=
  h.kept (row := none) ⟨hb.os, hb.tape, hb.output, hb.size, fun i hi _ => hb.block i hi⟩ (by simp)
theorem StrMap.lt {w : World} {b n : Nat} {g : Int → Option ByteArray} (h : StrMap w b n g) : b < w.heap.size := by
  obtain ⟨D, h, _⟩ := h
  exact h.lt
theorem StrMap.made (w : World) : StrMap (w.alloc (.map #[] 0)) w.heap.size 0 (fun _ => none) :=
  ⟨.map [], World.ownsMap_made _ _ _ _, fun _ _ => ⟨rfl, rfl⟩⟩
theorem StrMap.look {w : World} {b n : Nat} {g : Int → Option ByteArray} (h : StrMap w b n g) {s : Int} (hs : (Lit.int .i64 s).wf = true) :
    (Instr.lookup 113 (.map (some b)) (.int .i64 s) true).run Tryz.prog w = .ok (.tuple #[.string ((g s).getD ByteArray.empty), .bool (g s).isSome]) w := by
  obtain ⟨D, h, hr⟩ := h
  obtain ⟨v, ps, hrun, hv⟩ := h.look_ok (int_keyed Tryz.underlying3) Tryz.underlying113 (zero_str w) (plainElem_string Tryz.underlying9 (by decide)) (keyOf_int_mk Tryz.underlying3 hs)
  obtain ⟨c, rfl, hc, _⟩ := plainElem_string_inv Tryz.underlying9 hv
  have h1 := (hr s hs).1
  have h2 := (congrArg Prod.fst hc).symm.trans (hr s hs).2
  simp only [DataW.lit.injEq, Lit.string.injEq] at h2
  have h3 : c = (g s).getD ByteArray.empty := by
    have : c.data = ((g s).getD ByteArray.empty).data := Array.toList_inj.1 h2
    exact ByteArray.ext this
  rw [hrun, h1, h3]
def updS (g : Int → Option ByteArray) (s : Int) (v : ByteArray) : Int → Option ByteArray := fun t => if t = s then some v else g t
theorem StrMap.store {w : World} {b n : Nat} {g : Int → Option ByteArray} (h : StrMap w b n g) {s : Int} {v : ByteArray} (hs : (Lit.int .i64 s).wf = true) (hv : v.size ≤ maxLen) (hn : n < maxLen) :
    ∃ w', (Instr.mapUpdate 113 (.map (some b)) (.int .i64 s) (.string v)).run Tryz.prog w = .ok () w' ∧ StrMap w' b (n + 1) (updS g s v) ∧ w.grownBy w' (some b) := by
  obtain ⟨D, h, hr⟩ := h
  obtain ⟨w', hrun, hown, hg⟩ := h.update (int_keyed Tryz.underlying3) Tryz.underlying113 hn (keyOf_int_mk Tryz.underlying3 hs) (plainElem_string Tryz.underlying9 hv)
  refine ⟨w', hrun, ⟨_, hown, fun t ht => ?_⟩, hg⟩
  unfold updS
  by_cases e : t = s
  · subst e
    rw [if_pos rfl]
    exact ⟨has_put_same h.isMap (by simp [WideAt.IsKeyLit]) _, atKey_put_same h.isMap (by simp [WideAt.IsKeyLit]) _ _⟩
  · rw [if_neg e]
    have hne : Lit.int .i64 t ≠ .int .i64 s := fun x => e (by injection x)
    exact ⟨(has_put_other hne _).trans (hr t ht).1, (atKey_put_other hne _ _).trans (hr t ht).2⟩

/-- the quality of an interval -/
def qual (perfect : Bool) : Int → Option ByteArray :=
  if perfect then updS (updS (updS (fun _ => none) (-1) ⟨#[100]⟩) 0 ⟨#[80]⟩) 1 ⟨#[65]⟩
  else updS (updS (updS (updS (fun _ => none) (-2) ⟨#[100]⟩) (-1) ⟨#[109]⟩) 0 ⟨#[77]⟩) 1 ⟨#[65]⟩
def QualP (p : Bool) (w : World) (e : Ending) (w' : World) : Prop := ∃ b, e = .returned (.map (some b)) ∧ StrMap w' b 4 (qual p) ∧ Below w.heap.size w w'
theorem below_grownBy {w a b : World} {r : Nat} (h : Below w.heap.size w a) (g : a.grownBy b (some r)) (hr : w.heap.size ≤ r) : Below w.heap.size w b :=
  h.trans ⟨g.os, g.tape, g.output, g.size, fun i hi => g.block i (Nat.lt_of_lt_of_le hi h.size) (fun e => by injection e with e; omega)⟩
theorem StrMap.mono {w : World} {b n m : Nat} {g : Int → Option ByteArray} (h : StrMap w b n g) (hn : n ≤ m) : StrMap w b m g := by
  obtain ⟨D, h, hr⟩ := h
  exact ⟨D, h.mono hn, hr⟩
set_option maxRecDepth 100000 in
theorem qualities_c (p : Bool) (w : World) :
    Calls Tryz.prog 89 #[.bool p] w (QualP p w) := by
  have hmm := @run_makeMap Tryz.prog
  have h0 := StrMap.made w
  have b0 : Below w.heap.size w (w.alloc (.map #[] 0)) := by go_grown
  cases p with
  | true =>
    obtain ⟨w1, r1, h1, g1⟩ := h0.store (s := -1) (v := ⟨#[100]⟩) (by decide) (by decide) (by decide)
    obtain ⟨w2, r2, h2, g2⟩ := h1.store (s := 0) (v := ⟨#[80]⟩) (by decide) (by decide) (by decide)
    obtain ⟨w3, r3, h3, g3⟩ := h2.store (s := 1) (v := ⟨#[65]⟩) (by decide) (by decide) (by decide)
    have b3 := below_grownBy (below_grownBy (below_grownBy b0 g1 (Nat.le_refl _)) g2 (Nat.le_refl _)) g3 (Nat.le_refl _)
    have H3 := Lib.hid h3
    clear h0 h1 h2 h3 g1 g2 g3 b0
    go_enter Tryz.func89, Tryz.ntmps89
    go_wp2
    go_ret
    exact ⟨_, rfl, H3.out.mono (by omega), b3⟩
  | false =>
    obtain ⟨w1, r1, h1, g1⟩ := h0.store (s := -2) (v := ⟨#[100]⟩) (by decide) (by decide) (by decide)
    obtain ⟨w2, r2, h2, g2⟩ := h1.store (s := -1) (v := ⟨#[109]⟩) (by decide) (by decide) (by decide)
    obtain ⟨w3, r3, h3, g3⟩ := h2.store (s := 0) (v := ⟨#[77]⟩) (by decide) (by decide) (by decide)
    obtain ⟨w4, r4, h4, g4⟩ := h3.store (s := 1) (v := ⟨#[65]⟩) (by decide) (by decide) (by decide)
    have b4 := below_grownBy (below_grownBy (below_grownBy (below_grownBy b0 g1 (Nat.le_refl _)) g2 (Nat.le_refl _)) g3 (Nat.le_refl _)) g4 (Nat.le_refl _)
    have H4 := Lib.hid h4
    clear h0 h1 h2 h3 h4 g1 g2 g3 g4 b0
    go_enter Tryz.func89, Tryz.ntmps89
    go_wp2
    go_ret
    exact ⟨_, rfl, H4.out.mono (by omega), b4⟩
end Go.Proofs.YthfclapnkemjiaaGreatDoor
