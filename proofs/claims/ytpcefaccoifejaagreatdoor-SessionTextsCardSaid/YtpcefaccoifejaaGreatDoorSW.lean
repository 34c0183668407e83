/-
  Words for memory: rows of features, options and acts, maps keyed by places, a session. Conditions: numbers are of their type.
-/
import Derived.Test.YtpcefaccoifejaaGreatDoorSM
import Derived.Test.YtpcefaccoifejaaGreatDoorChecked
import Derived.WalkKit
import Derived.ProofKit
import Derived.OpenShut
import Derived.Handy
import Derived.BigQuiet
import Derived.Deep.QuietTactic
import Derived.Deep.RegionHeld3
import Derived.WalkSpells
import Derived.WalkLawsBesides
import Derived.Outline
import Derived.Lib.Hide
import Derived.Maps.OwnSet
import Derived.DeepKeys4
import Derived.Laws.Rows
import Derived.Laws.AppendOwn
import Derived.OwnWalk
import Derived.Lib.OthersKept
namespace Go.Proofs.YtpcefaccoifejaaGreatDoor
open Go.RowKit Go.Maps
set_option linter.unusedSimpArgs false
set_option linter.unusedVariables false
set_option maxRecDepth 100000

def plV (p : Pl) : List Value := [.int .i64 p.1, .int .i64 p.2.1, .int .i64 p.2.2.1, .int .i64 p.2.2.2.1, .int .i64 p.2.2.2.2]
def optV (o : Opt) : List Value := [.int .i64 o.1, .int .i64 o.2]
def ftV (p : Pl) (v : Value) : List Value := [.int .i64 p.1, .int .i64 p.2.1, .int .i64 p.2.2.1, .int .i64 p.2.2.2.1, .int .i64 p.2.2.2.2, v]
def acV (a : Ac) : List Value := [.int .i64 a.1, .int .i64 a.2.1.1, .int .i64 a.2.1.2.1, .int .i64 a.2.1.2.2.1, .int .i64 a.2.1.2.2.2.1, .int .i64 a.2.1.2.2.2.2, .int .i64 a.2.2]
def optAt (os : List Opt) (j : Nat) : Opt := os.getD j default
def ftAt (fs : List Ft) (i : Nat) : Ft := fs.getD i default
def acAt (acts : List Ac) (i : Nat) : Ac := acts.getD i default
def i64B (x : Int) : Prop := -9223372036854775808 ≤ x ∧ x ≤ 9223372036854775807
def wfP (p : Pl) : Prop := i64B p.1 ∧ i64B p.2.1 ∧ i64B p.2.2.1 ∧ i64B p.2.2.2.1 ∧ i64B p.2.2.2.2
def wfO (o : Opt) : Prop := i64B o.1 ∧ i64B o.2
def wfF (f : Ft) : Prop := wfP f.1 ∧ (∀ o ∈ f.2, wfO o) ∧ f.2.length ≤ 1000000
def wfA (a : Ac) : Prop := i64B a.1 ∧ wfP a.2.1 ∧ i64B a.2.2
def wfFs (fs : List Ft) : Prop := ∀ f ∈ fs, wfF f
def wfAs (acts : List Ac) : Prop := ∀ a ∈ acts, wfA a
theorem ftAt_mem {fs : List Ft} {i : Nat} (h : i < fs.length) : ftAt fs i ∈ fs := by
  unfold ftAt
  rw [List.getD_eq_getElem?_getD, List.getElem?_eq_getElem h]
  exact List.getElem_mem h
theorem ftAt_get {fs : List Ft} {i : Nat} (h : i < fs.length) : ftAt fs i = fs[i] := by
  unfold ftAt
  rw [List.getD_eq_getElem?_getD, List.getElem?_eq_getElem h]
  rfl
theorem acAt_mem {fs : List Ac} {i : Nat} (h : i < fs.length) : acAt fs i ∈ fs := by
  unfold acAt
  rw [List.getD_eq_getElem?_getD, List.getElem?_eq_getElem h]
  exact List.getElem_mem h
theorem acAt_get {fs : List Ac} {i : Nat} (h : i < fs.length) : acAt fs i = fs[i] := by
  unfold acAt
  rw [List.getD_eq_getElem?_getD, List.getElem?_eq_getElem h]
  rfl
theorem optAt_mem {fs : List Opt} {i : Nat} (h : i < fs.length) : optAt fs i ∈ fs := by
  unfold optAt
  rw [List.getD_eq_getElem?_getD, List.getElem?_eq_getElem h]
  exact List.getElem_mem h
theorem optAt_get {fs : List Opt} {i : Nat} (h : i < fs.length) : optAt fs i = fs[i] := by
  unfold optAt
  rw [List.getD_eq_getElem?_getD, List.getElem?_eq_getElem h]
  rfl

/-! ### rows -/
/-- n elements of k cells each lie behind a, in a block from lo on, below hi -/
def Row (w : World) (lo hi k : Nat) (a : Option Addr) (n : Nat) (enc : Nat → List Value) : Prop :=
  0 < n → ∃ b off, a = some ⟨b, off, none⟩ ∧ lo ≤ b ∧ b < hi ∧ ∀ i, i < n → ∀ j u, (enc i)[j]? = some u → w.cell? ⟨b, off + i * k + j, none⟩ = some u
/-- the blocks from lo on, below hi, are as they were -/
def Same (lo hi : Nat) (w w' : World) : Prop := ∀ b, lo ≤ b → b < hi → w'.heap[b]? = w.heap[b]?
theorem Same.of_below {lo hi : Nat} {w w' : World} (h : Below hi w w') : Same lo hi w w' := fun b _ hb => h.block b hb
theorem Row.move {w w' : World} {lo hi k n : Nat} {a : Option Addr} {enc : Nat → List Value} (h : Row w lo hi k a n enc) (hs : Same lo hi w w') : Row w' lo hi k a n enc := by
  intro hn
  obtain ⟨b, off, e, h1, h2, h3⟩ := h hn
  refine ⟨b, off, e, h1, h2, fun i hi j u hu => ?_⟩
  exact (World.cell?_of_block (hs b h1 h2)).trans (h3 i hi j u hu)
theorem Row.wider {w : World} {lo hi lo' hi' k n : Nat} {a : Option Addr} {enc : Nat → List Value} (h : Row w lo hi k a n enc) (h1 : lo' ≤ lo) (h2 : hi ≤ hi') : Row w lo' hi' k a n enc := by
  intro hn
  obtain ⟨b, off, e, g1, g2, h3⟩ := h hn
  exact ⟨b, off, e, by omega, by omega, h3⟩
theorem Row.congr {w : World} {lo hi k n : Nat} {a : Option Addr} {enc enc' : Nat → List Value} (h : Row w lo hi k a n enc) (he : ∀ i, i < n → enc i = enc' i) : Row w lo hi k a n enc' := by
  intro hn
  obtain ⟨b, off, e, h1, h2, h3⟩ := h hn
  exact ⟨b, off, e, h1, h2, fun i hi j u hu => h3 i hi j u (by rw [he i hi]; exact hu)⟩
theorem Row.none (w : World) (lo hi k : Nat) (a : Option Addr) (enc : Nat → List Value) : Row w lo hi k a 0 enc := fun h => absurd h (Nat.lt_irrefl 0)

theorem flatMap_at {α : Type} (enc : α → List Value) (k : Nat) (hk : ∀ x, (enc x).length = k) : ∀ (l : List α) (i j : Nat) (h : i < l.length) (u : Value), (enc l[i])[j]? = some u → (l.flatMap enc)[i * k + j]? = some u
  | [], i, j, h, u, _ => by simp at h
  | x :: r, 0, j, h, u, hu => by
    simp only [List.getElem_cons_zero] at hu
    have hj : j < k := by
      obtain ⟨hj, _⟩ := List.getElem?_eq_some_iff.1 hu
      rwa [hk] at hj
    simp only [List.flatMap_cons, Nat.zero_mul, Nat.zero_add]
    rw [List.getElem?_append_left (by rw [hk]; exact hj)]
    exact hu
  | x :: r, i + 1, j, h, u, hu => by
    simp only [List.getElem_cons_succ] at hu
    simp only [List.flatMap_cons]
    rw [List.getElem?_append_right (by rw [hk, Nat.succ_mul]; omega), hk, show (i + 1) * k + j - k = i * k + j by rw [Nat.succ_mul]; omega]
    exact flatMap_at enc k hk r i j (by simpa using h) u hu
theorem flatMap_len {α : Type} (enc : α → List Value) (k : Nat) (hk : ∀ x, (enc x).length = k) (l : List α) : (l.flatMap enc).length = l.length * k := by
  induction l with
  | nil => simp
  | cons x r ih => simp only [List.flatMap_cons, List.length_append, ih, hk, List.length_cons, Nat.succ_mul]; omega
/-- what the call owns can be read -/
theorem row_of_own {α : Type} [Inhabited α] {enc : α → List Value} {k : Nat} (hk : ∀ x, (enc x).length = k) {w : World} {lo : Nat} {e : TypeId} {v : Value} {l : List α} (h : w.ownsRow lo e k v l.length (l.flatMap enc)) :
    ∃ a cap, v = .slice a l.length cap ∧ (a = none → cap = 0) ∧ Row w lo w.heap.size k a l.length (fun i => enc (l.getD i default)) := by
  rcases h.2 with ⟨rfl, hn⟩ | ⟨g, cap, cur, rfl, hb, hg, hcap, hm, hs, ht⟩
  · refine ⟨Option.none, 0, by rw [hn], fun _ => rfl, ?_⟩
    rw [hn]
    exact Row.none _ _ _ _ _ _
  · refine ⟨some ⟨g, 0, Option.none⟩, cap, rfl, fun h => (by cases h), fun _ => ⟨g, 0, rfl, hb, (Array.getElem?_eq_some_iff.1 hg).1, fun i hi j u hu => ?_⟩⟩
    have e1 : l.getD i default = l[i] := by rw [List.getD_eq_getElem?_getD, List.getElem?_eq_getElem hi]; rfl
    have hu' : (enc l[i])[j]? = some u := by rw [← e1]; exact hu
    have := flatMap_at enc k hk l i j hi u hu'
    rw [Nat.zero_add, cell_of_row w _ _ _ _ _ hg]
    rw [← ht, List.getElem?_take] at this
    split at this
    · simpa using this
    · cases this

/-! ### options, features, acts -/
def OptsAt (w : World) (lo hi : Nat) (v : Value) (os : List Opt) : Prop := ∃ a cap, v = .slice a os.length cap ∧ (a = none → cap = 0) ∧ Row w lo hi 2 a os.length (fun j => optV (optAt os j))
def FeatsAt (w : World) (lo hi : Nat) (v : Value) (fs : List Ft) : Prop :=
  ∃ (a : Option Addr) (cap : Nat) (vs : Nat → Value), v = .slice a fs.length cap ∧ (a = none → cap = 0) ∧ Row w lo hi 6 a fs.length (fun i => ftV (ftAt fs i).1 (vs i)) ∧ ∀ i, i < fs.length → OptsAt w lo hi (vs i) (ftAt fs i).2
def ActsAt (w : World) (lo hi : Nat) (v : Value) (acts : List Ac) : Prop := ∃ a cap, v = .slice a acts.length cap ∧ (a = none → cap = 0) ∧ Row w lo hi 7 a acts.length (fun j => acV (acAt acts j))
theorem OptsAt.move {w w' : World} {lo hi : Nat} {v : Value} {os : List Opt} (h : OptsAt w lo hi v os) (hs : Same lo hi w w') : OptsAt w' lo hi v os := by
  obtain ⟨a, cap, e, z, r⟩ := h
  exact ⟨a, cap, e, z, r.move hs⟩
theorem FeatsAt.move {w w' : World} {lo hi : Nat} {v : Value} {fs : List Ft} (h : FeatsAt w lo hi v fs) (hs : Same lo hi w w') : FeatsAt w' lo hi v fs := by
  obtain ⟨a, cap, vs, e, z, r, o⟩ := h
  exact ⟨a, cap, vs, e, z, r.move hs, fun i hi => (o i hi).move hs⟩
theorem ActsAt.move {w w' : World} {lo hi : Nat} {v : Value} {acts : List Ac} (h : ActsAt w lo hi v acts) (hs : Same lo hi w w') : ActsAt w' lo hi v acts := by
  obtain ⟨a, cap, e, z, r⟩ := h
  exact ⟨a, cap, e, z, r.move hs⟩
theorem OptsAt.wider {w : World} {lo hi lo' hi' : Nat} {v : Value} {os : List Opt} (h : OptsAt w lo hi v os) (h1 : lo' ≤ lo) (h2 : hi ≤ hi') : OptsAt w lo' hi' v os := by
  obtain ⟨a, cap, e, z, r⟩ := h
  exact ⟨a, cap, e, z, r.wider h1 h2⟩
theorem FeatsAt.wider {w : World} {lo hi lo' hi' : Nat} {v : Value} {fs : List Ft} (h : FeatsAt w lo hi v fs) (h1 : lo' ≤ lo) (h2 : hi ≤ hi') : FeatsAt w lo' hi' v fs := by
  obtain ⟨a, cap, vs, e, z, r, o⟩ := h
  exact ⟨a, cap, vs, e, z, r.wider h1 h2, fun i hi => (o i hi).wider h1 h2⟩
theorem ActsAt.wider {w : World} {lo hi lo' hi' : Nat} {v : Value} {acts : List Ac} (h : ActsAt w lo hi v acts) (h1 : lo' ≤ lo) (h2 : hi ≤ hi') : ActsAt w lo' hi' v acts := by
  obtain ⟨a, cap, e, z, r⟩ := h
  exact ⟨a, cap, e, z, r.wider h1 h2⟩
theorem OptsAt.below {w w' : World} {lo : Nat} {v : Value} {os : List Opt} (h : OptsAt w lo w.heap.size v os) (hb : Below w.heap.size w w') : OptsAt w' lo w'.heap.size v os := (h.move (Same.of_below hb)).wider (Nat.le_refl _) hb.size
theorem FeatsAt.below {w w' : World} {lo : Nat} {v : Value} {fs : List Ft} (h : FeatsAt w lo w.heap.size v fs) (hb : Below w.heap.size w w') : FeatsAt w' lo w'.heap.size v fs := (h.move (Same.of_below hb)).wider (Nat.le_refl _) hb.size
theorem ActsAt.below {w w' : World} {lo : Nat} {v : Value} {acts : List Ac} (h : ActsAt w lo w.heap.size v acts) (hb : Below w.heap.size w w') : ActsAt w' lo w'.heap.size v acts := (h.move (Same.of_below hb)).wider (Nat.le_refl _) hb.size
theorem optV_len (o : Opt) : (optV o).length = 2 := rfl
theorem acV_len (a : Ac) : (acV a).length = 7 := rfl
theorem ftV_len (p : Pl) (v : Value) : (ftV p v).length = 6 := rfl
theorem opts_of_own {w : World} {lo : Nat} {e : TypeId} {v : Value} {os : List Opt} (h : w.ownsRow lo e 2 v os.length (os.flatMap optV)) : OptsAt w lo w.heap.size v os := row_of_own optV_len h
theorem acts_of_own {w : World} {lo : Nat} {e : TypeId} {v : Value} {acts : List Ac} (h : w.ownsRow lo e 7 v acts.length (acts.flatMap acV)) : ActsAt w lo w.heap.size v acts := row_of_own acV_len h

/-! ### maps keyed by places -/
def plA (p : Pl) : Value := .agg #[.int .i64 p.1, .int .i64 p.2.1, .int .i64 p.2.2.1, .int .i64 p.2.2.2.1, .int .i64 p.2.2.2.2]
theorem laidOutP : laidOutB Tryz.prog = true := by kernel_rfl
theorem rowPl : (44 : TypeId) < Tryz.prog.types.size := of_decide_eq_true (by kernel_rfl)
theorem widePl : (match Tryz.prog.underlying 44 with | some (.array _ _) | some (.struct _) => true | _ => false) = true := by rw [Tryz.underlying44]
set_option maxRecDepth 100000 in
theorem lawPl : Keyed Tryz.prog 44 := Keyed.of_law (deep_law_laid laidOutP (m := 3) (by decide) rowPl (by kernel_rfl) widePl)
theorem wf_of {x : Int} (h : i64B x) : (Lit.int .i64 x).wf = true := WalkArith.wf_i64 h
set_option maxRecDepth 100000 in
theorem sizePl : ∃ m, Tryz.prog.types.size = m + 1 := ⟨_, (Nat.succ_pred_eq_of_pos (Nat.lt_of_le_of_lt (Nat.zero_le _) rowPl)).symm⟩
set_option maxRecDepth 100000 in
theorem key_pl {p : Pl} (h : wfP p) : ∃ l, keyOf Tryz.prog 44 (plA p) = some l := by
  obtain ⟨h1, h2, h3, h4, h5⟩ := h
  have hk : Tryz.prog.keyType 44 = true := by kernel_rfl
  have hc : Tryz.prog.cellsOf 44 = 5 := by kernel_rfl
  have hi : Tryz.prog.cellsOf 3 = 1 := by kernel_rfl
  have hw : Tryz.prog.cellsOf 42 = 1 := by kernel_rfl
  have u1 := Tryz.underlying44
  have u2 := Tryz.underlying3
  have u3 := Tryz.underlying42
  obtain ⟨m, hm⟩ := sizePl
  generalize Tryz.prog = P at *
  have hf : (plA p).formed P 44 = true := by simp [Value.formed, plA, u1, hc]
  have w1 := wf_of h1
  have w2 := wf_of h2
  have w3 := wf_of h3
  have w4 := wf_of h4
  have w5 := wf_of h5
  have hl : P.keyLits (m + 1 + 1) 44 (plA p).cells.toList = some [.int .i64 p.1, .int .i64 p.2.1, .int .i64 p.2.2.1, .int .i64 p.2.2.2.1, .int .i64 p.2.2.2.2] := by
    simp [Program.keyLits, plA, Value.cells, u1, u2, u3, hc, hi, hw, w1, w2, w3, w4, w5]
  refine ⟨.string (keyBytes [.int .i64 p.1, .int .i64 p.2.1, .int .i64 p.2.2.1, .int .i64 p.2.2.2.1, .int .i64 p.2.2.2.2]), ?_⟩
  · unfold keyOf
    rw [u1]
    simp only []
    rw [hk, hf, hm, hl]
    rfl

theorem plA_inj {p q : Pl} (h : plA p = plA q) : p = q := by
  obtain ⟨a, b, c, d, e⟩ := p
  obtain ⟨a', b', c', d', e'⟩ := q
  simp only [plA, Value.agg.injEq, Array.mk.injEq, List.cons.injEq, Value.int.injEq, true_and, and_true] at h
  obtain ⟨rfl, rfl, rfl, rfl, rfl⟩ := h
  rfl
theorem zeroI (w : World) : (zeroValue 3).run Tryz.prog w = .ok (.int .i64 0) w := by kernel_rfl
theorem zeroB (w : World) : (zeroValue 4).run Tryz.prog w = .ok (.bool false) w := by kernel_rfl

/-- block b is a map of at most n entries from places to indices that holds g -/
def IdxMap (w : World) (b n : Nat) (g : Pl → Option Nat) : Prop :=
  ∃ D : DataW Unit, w.ownsMap Tryz.prog 44 (plainElem Tryz.prog 3) b n D ∧ ∀ p, wfP p → ∀ l, keyOf Tryz.prog 44 (plA p) = some l →
    Maps.has D l = (g p).isSome ∧ D.atKey l (.lit (.int .i64 0)) = .lit (.int .i64 (((g p).getD 0 : Nat) : Int))
/-- block b is a set of at most n places that holds g -/
def SetMap (w : World) (b n : Nat) (g : Pl → Bool) : Prop :=
  ∃ D : DataW Unit, w.ownsMap Tryz.prog 44 (plainElem Tryz.prog 4) b n D ∧ ∀ p, wfP p → ∀ l, keyOf Tryz.prog 44 (plA p) = some l → D.atKey l (.lit (.bool false)) = .lit (.bool (g p))
def updP {α : Type} (g : Pl → α) (p : Pl) (v : α) : Pl → α := fun q => if q = p then v else g q
section
variable {w w' : World} {b n m : Nat} {g : Pl → Option Nat} {s : Pl → Bool}
theorem IdxMap.lt (h : IdxMap w b n g) : b < w.heap.size := by
  obtain ⟨D, h, _⟩ := h
  exact h.lt
theorem IdxMap.obj (h : IdxMap w b n g) : ∃ es c, w.heap[b]? = some (.map es c) := by
  obtain ⟨D, ⟨es, clock, hb, r⟩, hr⟩ := h
  exact ⟨es, clock, hb⟩
theorem IdxMap.move (h : IdxMap w b n g) (hs : w'.heap[b]? = w.heap[b]?) : IdxMap w' b n g := by
  obtain ⟨D, ⟨es, clock, hb, r⟩, hr⟩ := h
  exact ⟨D, ⟨es, clock, hs.trans hb, r⟩, hr⟩
theorem IdxMap.mono (h : IdxMap w b n g) (hn : n ≤ m) : IdxMap w b m g := by
  obtain ⟨D, h, hr⟩ := h
  exact ⟨D, h.mono hn, hr⟩
theorem IdxMap.below (h : IdxMap w b n g) (hb : Below w.heap.size w w') : IdxMap w' b n g := h.move (hb.block b h.lt)
theorem IdxMap.made (w : World) : IdxMap (w.alloc (.map #[] 0)) w.heap.size 0 (fun _ => none) :=
  ⟨.map [], World.ownsMap_made _ _ _ _, fun _ _ _ _ => ⟨rfl, rfl⟩⟩
theorem IdxMap.look_ok (h : IdxMap w b n g) {p : Pl} (hp : wfP p) :
    (Instr.lookup 75 (.map (some b)) (plA p) true).run Tryz.prog w = .ok (.tuple #[.int .i64 (((g p).getD 0 : Nat) : Int), .bool (g p).isSome]) w := by
  obtain ⟨D, h, hr⟩ := h
  obtain ⟨l, hl⟩ := key_pl hp
  obtain ⟨v, ps, hrun, hv⟩ := h.look_ok lawPl Tryz.underlying75 (zeroI w) (plainElem_int Tryz.underlying3 (by decide)) hl
  obtain ⟨c, rfl, hc, _⟩ := plainElem_int_inv Tryz.underlying3 hv
  obtain ⟨h1, h2⟩ := hr p hp l hl
  have h3 := (congrArg Prod.fst hc).symm.trans h2
  simp only [DataW.lit.injEq, Lit.int.injEq, true_and] at h3
  rw [hrun, h1, h3]
theorem IdxMap.look (h : IdxMap w b n g) {p : Pl} (hp : wfP p) :
    (Instr.lookup 75 (.map (some b)) (plA p) false).run Tryz.prog w = .ok (.int .i64 (((g p).getD 0 : Nat) : Int)) w := by
  obtain ⟨D, h, hr⟩ := h
  obtain ⟨l, hl⟩ := key_pl hp
  obtain ⟨v, ps, hrun, hv⟩ := h.lookup lawPl Tryz.underlying75 (zeroI w) (plainElem_int Tryz.underlying3 (by decide)) hl
  obtain ⟨c, rfl, hc, _⟩ := plainElem_int_inv Tryz.underlying3 hv
  obtain ⟨h1, h2⟩ := hr p hp l hl
  have h3 := (congrArg Prod.fst hc).symm.trans h2
  simp only [DataW.lit.injEq, Lit.int.injEq, true_and] at h3
  rw [hrun, h3]
theorem IdxMap.store (h : IdxMap w b n g) {p : Pl} (hp : wfP p) {i : Nat} (hi : i ≤ 1000000) (hn : n < maxLen) :
    ∃ w', (Instr.mapUpdate 75 (.map (some b)) (plA p) (.int .i64 (i : Int))).run Tryz.prog w = .ok () w' ∧ IdxMap w' b (n + 1) (updP g p (some i)) ∧ w.grownBy w' (some b) := by
  obtain ⟨D, h, hr⟩ := h
  obtain ⟨l, hl⟩ := key_pl hp
  obtain ⟨w', hrun, hown, hg⟩ := h.update lawPl Tryz.underlying75 hn hl (plainElem_int Tryz.underlying3 (a := (i : Int)) (WalkArith.wf_i64 (by omega)))
  refine ⟨w', hrun, ⟨_, hown, fun q hq k hk => ?_⟩, hg⟩
  unfold updP
  by_cases e : q = p
  · subst e
    have : k = l := Option.some.inj (hk.symm.trans hl)
    subst this
    rw [if_pos rfl]
    exact ⟨has_put_same h.isMap (lawPl.key hl) _, atKey_put_same h.isMap (lawPl.key hl) _ _⟩
  · rw [if_neg e]
    have hne : k ≠ l := fun x => e (plA_inj (lawPl.inj (x ▸ hk) hl))
    exact ⟨(has_put_other hne _).trans (hr q hq k hk).1, (atKey_put_other hne _ _).trans (hr q hq k hk).2⟩
theorem SetMap.lt (h : SetMap w b n s) : b < w.heap.size := by
  obtain ⟨D, h, _⟩ := h
  exact h.lt
theorem SetMap.move (h : SetMap w b n s) (hs : w'.heap[b]? = w.heap[b]?) : SetMap w' b n s := by
  obtain ⟨D, ⟨es, clock, hb, r⟩, hr⟩ := h
  exact ⟨D, ⟨es, clock, hs.trans hb, r⟩, hr⟩
theorem SetMap.below (h : SetMap w b n s) (hb : Below w.heap.size w w') : SetMap w' b n s := h.move (hb.block b h.lt)
theorem SetMap.made (w : World) : SetMap (w.alloc (.map #[] 0)) w.heap.size 0 (fun _ => false) :=
  ⟨.map [], World.ownsMap_made _ _ _ _, fun _ _ _ _ => rfl⟩
theorem plainElem_bool_inv {v : Value} {z : DataW Unit × List MemPlace} (h : plainElem Tryz.prog 4 v = some z) : ∃ x, v = .bool x ∧ z = (.lit (.bool x), []) := by
  unfold plainElem at h
  rw [Tryz.underlying4] at h
  cases v <;> simp at h
  exact ⟨_, rfl, h.symm⟩
theorem SetMap.look (h : SetMap w b n s) {p : Pl} (hp : wfP p) :
    (Instr.lookup 122 (.map (some b)) (plA p) false).run Tryz.prog w = .ok (.bool (s p)) w := by
  obtain ⟨D, h, hr⟩ := h
  obtain ⟨l, hl⟩ := key_pl hp
  obtain ⟨v, ps, hrun, hv⟩ := h.lookup lawPl Tryz.underlying122 (zeroB w) (plainElem_bool Tryz.underlying4 false) hl
  obtain ⟨c, rfl, hc⟩ := plainElem_bool_inv hv
  have h3 := (congrArg Prod.fst hc).symm.trans (hr p hp l hl)
  simp only [DataW.lit.injEq, Lit.bool.injEq] at h3
  rw [hrun, h3]
theorem SetMap.store (h : SetMap w b n s) {p : Pl} (hp : wfP p) (hn : n < maxLen) :
    ∃ w', (Instr.mapUpdate 122 (.map (some b)) (plA p) (.bool true)).run Tryz.prog w = .ok () w' ∧ SetMap w' b (n + 1) (updP s p true) ∧ w.grownBy w' (some b) := by
  obtain ⟨D, h, hr⟩ := h
  obtain ⟨l, hl⟩ := key_pl hp
  obtain ⟨w', hrun, hown, hg⟩ := h.update lawPl Tryz.underlying122 hn hl (plainElem_bool Tryz.underlying4 true)
  refine ⟨w', hrun, ⟨_, hown, fun q hq k hk => ?_⟩, hg⟩
  unfold updP
  by_cases e : q = p
  · subst e
    have : k = l := Option.some.inj (hk.symm.trans hl)
    subst this
    rw [if_pos rfl]
    exact atKey_put_same h.isMap (lawPl.key hl) _ _
  · rw [if_neg e]
    have hne : k ≠ l := fun x => e (plA_inj (lawPl.inj (x ▸ hk) hl))
    exact (atKey_put_other hne _ _).trans (hr q hq k hk)
end
end Go.Proofs.YtpcefaccoifejaaGreatDoor
