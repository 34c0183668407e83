/-
  Contracts of the two closures over options, and of slices.IndexFunc and slices.ContainsFunc with them. Conditions: what is read lies in memory as SW says.
-/
import Derived.Below
import Derived.Test.YtpcefaccoifejaaGreatDoorChecked
import Derived.WalkKit
import Derived.ProofKit
import Derived.OpenShut
import Derived.Handy
import Derived.BigQuiet
import Derived.Deep.QuietTactic
import Derived.Deep.RegionHeld3
import Derived.WalkSpells
import Derived.WalkLawsBesides
import Derived.Outline
import Derived.Lib.Hide
import Derived.Maps.OwnSet
import Derived.DeepKeys4
import Derived.Laws.Rows
import Derived.Laws.AppendOwn
import Derived.OwnWalk
import Derived.Lib.OthersKept
import Derived.Laws.StructEq
namespace Go.Proofs.YtpcefaccoifejaaGreatDoor
open Go.RowKit

/-- a place: five numbers · an option: value and miss · a feature · an act: kind, place, value -/
abbrev Pl := Int × Int × Int × Int × Int
abbrev Opt := Int × Int
abbrev Ft := Pl × List Opt
abbrev Ac := Int × Pl × Int

/-- is there a miss out of its bounds -/
def badO (os : List Opt) : Bool := os.any fun o => decide (o.2 < 0) || decide (10000 < o.2)
/-- the error of one feature behind others -/
def newStep (seen : List Pl) (f : Ft) : Int := if f.2 = [] then 6 else if badO f.2 = true then 8 else if f.1 ∈ seen then 1 else 0
/-- the error of a list of features behind others -/
def newGo : List Pl → List Ft → Int
  | _, [] => 0
  | seen, f :: r => if newStep seen f = 0 then newGo (seen ++ [f.1]) r else newStep seen f
def newE (fs : List Ft) : Int := if 20000 < fs.length then 4 else newGo [] fs

/-- features that a session may have -/
structure Good (fs : List Ft) : Prop where
  len : fs.length ≤ 20000
  some : ∀ f ∈ fs, f.2 ≠ []
  miss : ∀ f ∈ fs, ∀ o ∈ f.2, 0 ≤ o.2 ∧ o.2 ≤ 10000
  apart : (fs.map (·.1)).Nodup

theorem badO_false {os : List Opt} (h : ¬ badO os = true) : ∀ o ∈ os, 0 ≤ o.2 ∧ o.2 ≤ 10000 := by
  intro o ho
  have h' : badO os = false := by simpa using h
  unfold badO at h'
  rw [List.any_eq_false] at h'
  have := h' o ho
  simp only [Bool.or_eq_true, decide_eq_true_eq, not_or, Int.not_lt] at this
  exact this
theorem newGo_good : ∀ (fs : List Ft) (seen : List Pl), newGo seen fs = 0 → seen.Nodup →
    (∀ f ∈ fs, f.2 ≠ []) ∧ (∀ f ∈ fs, ∀ o ∈ f.2, 0 ≤ o.2 ∧ o.2 ≤ 10000) ∧ (seen ++ fs.map (·.1)).Nodup
  | [], seen, _, hs => ⟨by simp, by simp, by simpa using hs⟩
  | f :: r, seen, h, hs => by
    unfold newGo at h
    have h0 : newStep seen f = 0 := by
      by_cases e : newStep seen f = 0
      · exact e
      · rw [if_neg e] at h; exact absurd h e
    rw [if_pos h0] at h
    unfold newStep at h0
    have n1 : f.2 ≠ [] := fun e => by rw [if_pos e] at h0; cases h0
    rw [if_neg n1] at h0
    have n2 : ¬ badO f.2 = true := fun e => by rw [if_pos e] at h0; cases h0
    rw [if_neg n2] at h0
    have n3 : f.1 ∉ seen := fun e => by rw [if_pos e] at h0; cases h0
    obtain ⟨a, b, c⟩ := newGo_good r (seen ++ [f.1]) h (List.nodup_append.2 ⟨hs, by simp, fun x hx y hy => by
      simp only [List.mem_cons, List.not_mem_nil, or_false] at hy
      subst hy
      exact fun e => n3 (e ▸ hx)⟩)
    refine ⟨?_, ?_, by simpa using c⟩
    · intro g hg
      rcases List.mem_cons.1 hg with rfl | hg
      · exact n1
      · exact a g hg
    · intro g hg
      rcases List.mem_cons.1 hg with rfl | hg
      · exact badO_false n2
      · exact b g hg
theorem good_of_newE {fs : List Ft} (h : newE fs = 0) : Good fs := by
  unfold newE at h
  by_cases hl : 20000 < fs.length
  · rw [if_pos hl] at h; cases h
  · rw [if_neg hl] at h
    obtain ⟨a, b, c⟩ := newGo_good fs [] h (by simp)
    exact ⟨by omega, a, b, by simpa using c⟩

/-- the index of the feature with a place -/
def atF : List Ft → Pl → Option Nat
  | [], _ => none
  | f :: r, p => if f.1 = p then some 0 else (atF r p).map (· + 1)
theorem atF_some {p : Pl} : ∀ {fs : List Ft} {i : Nat}, atF fs p = some i → ∃ h : i < fs.length, fs[i].1 = p
  | [], i, h => by cases h
  | f :: r, i, h => by
    unfold atF at h
    by_cases e : f.1 = p
    · rw [if_pos e] at h
      injection h with h
      subst h
      exact ⟨by simp, by simpa using e⟩
    · rw [if_neg e] at h
      cases hr : atF r p with
      | none => rw [hr] at h; cases h
      | some k =>
        rw [hr] at h
        injection h with h
        subst h
        obtain ⟨h1, h2⟩ := atF_some hr
        exact ⟨by simpa using h1, by simpa using h2⟩
theorem atF_none {p : Pl} : ∀ {fs : List Ft}, atF fs p = none ↔ p ∉ fs.map (·.1)
  | [] => by simp [atF]
  | f :: r => by
    unfold atF
    by_cases e : f.1 = p
    · rw [if_pos e]; simp [e]
    · rw [if_neg e]
      have := atF_none (p := p) (fs := r)
      simp only [Option.map_eq_none_iff, List.map_cons, List.mem_cons, not_or]
      exact ⟨fun h => ⟨fun x => e x.symm, this.1 h⟩, fun h => this.2 h.2⟩
theorem atF_at {fs : List Ft} (hg : (fs.map (·.1)).Nodup) {i : Nat} (h : i < fs.length) : atF fs fs[i].1 = some i := by
  induction fs generalizing i with
  | nil => simp at h
  | cons f r ih =>
    unfold atF
    simp only [List.map_cons, List.nodup_cons] at hg
    cases i with
    | zero => simp
    | succ k =>
      have hk : k < r.length := by simpa using h
      have : ¬ f.1 = r[k].1 := fun e => hg.1 (by rw [e]; exact List.mem_map_of_mem (List.getElem_mem hk))
      simp only [List.getElem_cons_succ]
      rw [if_neg this, ih hg.2 hk]
      rfl

/-- the best value: the first with the least miss -/
def bestGo : Opt → List Opt → Opt
  | m, [] => m
  | m, o :: r => bestGo (if o.2 < m.2 then o else m) r
def best : List Opt → Int
  | [] => 0
  | o :: r => (bestGo o r).1
/-- the last correction of a place; is there an act of it -/
def corr (acts : List Ac) (p : Pl) : Option Int := acts.foldl (fun v a => if a.2.1 = p ∧ a.1 = 1 then some a.2.2 else v) none
def touched (acts : List Ac) (p : Pl) : Bool := acts.any fun a => decide (a.2.1 = p)
/-- the present value of a feature -/
def pres (acts : List Ac) (f : Ft) : Int := (corr acts f.1).getD (best f.2)

/-- the error of an act; what is left of it when it is done -/
def doE (fs : List Ft) (acts : List Ac) (a : Ac) : Int :=
  if a.1 ≠ 1 ∧ a.1 ≠ 2 then 1
  else match atF fs a.2.1 with
    | none => 82
    | some i => if a.1 = 1 ∧ ((fs.getD i default).2.all fun o => decide (o.1 ≠ a.2.2)) = true then 8 else if 4096 ≤ acts.length then 4 else 0
def kept (a : Ac) : Ac := if a.1 = 2 then (a.1, a.2.1, 0) else a
def doA (fs : List Ft) (acts : List Ac) (a : Ac) : List Ac := if doE fs acts a = 0 then acts ++ [kept a] else acts
/-- the value at a place, with its error -/
def valE (fs : List Ft) (acts : List Ac) (p : Pl) : Int × Int :=
  match atF fs p with
  | none => (0, 82)
  | some i => (pres acts (fs.getD i default), 0)
/-- the features, settled or as they were given -/
def feats (fs : List Ft) (acts : List Ac) : List Ft := fs.map fun f => if touched acts f.1 = true then (f.1, [(pres acts f, 0)]) else f
/-- what a settled feature adds to the weight of number n -/
def wOne (acts : List Ac) (n : Nat) (f : Ft) : Int := if touched acts f.1 = true ∧ f.1.2.2.2.1 = (n : Int) then (if pres acts f = best f.2 then 1 else -1) else 0
def wSum (acts : List Ac) (n : Nat) (fs : List Ft) : Int := (fs.map (wOne acts n)).sum
def clamp (x : Int) : Int := min (max x 1) 16
def weight (fs : List Ft) (acts : List Ac) (n : Nat) : Int := clamp (if n = 0 then 4 else 4 + wSum acts n fs)
/-- the acts that can be done on features, and those that cannot -/
def playGo (fs : List Ft) : List Ac → List Ac → List Ac → List Ac × List Ac
  | done, left, [] => (done, left)
  | done, left, a :: r => if doE fs done a = 0 then playGo fs (done ++ [kept a]) left r else playGo fs done (left ++ [a]) r

theorem corr_snoc (acts : List Ac) (a : Ac) (p : Pl) : corr (acts ++ [a]) p = if a.2.1 = p ∧ a.1 = 1 then some a.2.2 else corr acts p := by simp [corr]
theorem touched_snoc (acts : List Ac) (a : Ac) (p : Pl) : touched (acts ++ [a]) p = (touched acts p || decide (a.2.1 = p)) := by simp [touched]
/-- acts that were done on features -/
structure Acted (fs : List Ft) (acts : List Ac) : Prop where
  len : acts.length ≤ 4096
  place : ∀ a ∈ acts, a.2.1 ∈ fs.map (·.1)
  kind : ∀ a ∈ acts, a.1 = 1 ∨ a.1 = 2
theorem Acted.nil (fs : List Ft) : Acted fs [] := ⟨by simp, by simp, by simp⟩
theorem kept_place (a : Ac) : (kept a).2.1 = a.2.1 ∧ (kept a).1 = a.1 := by
  unfold kept
  split <;> exact ⟨rfl, rfl⟩
theorem Acted.snoc {fs : List Ft} {acts : List Ac} (h : Acted fs acts) {a : Ac} (he : doE fs acts a = 0) : Acted fs (acts ++ [kept a]) := by
  unfold doE at he
  by_cases hk : a.1 ≠ 1 ∧ a.1 ≠ 2
  · rw [if_pos hk] at he; cases he
  · rw [if_neg hk] at he
    cases hf : atF fs a.2.1 with
    | none => rw [hf] at he; cases he
    | some i =>
      rw [hf] at he
      simp only [] at he
      split at he
      · cases he
      · split at he
        · cases he
        · rename_i hl
          have hp := kept_place a
          refine ⟨by simp only [List.length_append, List.length_cons, List.length_nil]; omega, ?_, ?_⟩
          · intro b hb
            rcases List.mem_append.1 hb with hb | hb
            · exact h.place b hb
            · simp only [List.mem_cons, List.not_mem_nil, or_false] at hb
              subst hb
              rw [hp.1]
              obtain ⟨h1, h2⟩ := atF_some hf
              rw [← h2]
              exact List.mem_map_of_mem (List.getElem_mem h1)
          · intro b hb
            rcases List.mem_append.1 hb with hb | hb
            · exact h.kind b hb
            · simp only [List.mem_cons, List.not_mem_nil, or_false] at hb
              subst hb
              rw [hp.2]
              omega
theorem Acted.doA {fs : List Ft} {acts : List Ac} (h : Acted fs acts) (a : Ac) : Acted fs (doA fs acts a) := by
  unfold Proofs.YtpcefaccoifejaaGreatDoor.doA
  split
  · rename_i he; exact h.snoc he
  · exact h
theorem Acted.drop {fs : List Ft} {acts : List Ac} (h : Acted fs acts) : Acted fs acts.dropLast :=
  ⟨by simp only [List.length_dropLast]; have := h.len; omega, fun a ha => h.place a (List.dropLast_subset _ ha), fun a ha => h.kind a (List.dropLast_subset _ ha)⟩
end Go.Proofs.YtpcefaccoifejaaGreatDoor

namespace Go.Proofs.YtpcefaccoifejaaGreatDoor
open Go.RowKit Go.Maps
set_option linter.unusedSimpArgs false
set_option linter.unusedVariables false
set_option maxRecDepth 100000

def plV (p : Pl) : List Value := [.int .i64 p.1, .int .i64 p.2.1, .int .i64 p.2.2.1, .int .i64 p.2.2.2.1, .int .i64 p.2.2.2.2]
def optV (o : Opt) : List Value := [.int .i64 o.1, .int .i64 o.2]
def ftV (p : Pl) (v : Value) : List Value := [.int .i64 p.1, .int .i64 p.2.1, .int .i64 p.2.2.1, .int .i64 p.2.2.2.1, .int .i64 p.2.2.2.2, v]
def acV (a : Ac) : List Value := [.int .i64 a.1, .int .i64 a.2.1.1, .int .i64 a.2.1.2.1, .int .i64 a.2.1.2.2.1, .int .i64 a.2.1.2.2.2.1, .int .i64 a.2.1.2.2.2.2, .int .i64 a.2.2]
def optAt (os : List Opt) (j : Nat) : Opt := os.getD j default
def ftAt (fs : List Ft) (i : Nat) : Ft := fs.getD i default
def acAt (acts : List Ac) (i : Nat) : Ac := acts.getD i default
def i64B (x : Int) : Prop := -9223372036854775808 ≤ x ∧ x ≤ 9223372036854775807
def wfP (p : Pl) : Prop := i64B p.1 ∧ i64B p.2.1 ∧ i64B p.2.2.1 ∧ i64B p.2.2.2.1 ∧ i64B p.2.2.2.2
def wfO (o : Opt) : Prop := i64B o.1 ∧ i64B o.2
def wfF (f : Ft) : Prop := wfP f.1 ∧ (∀ o ∈ f.2, wfO o) ∧ f.2.length ≤ 1000000
def wfA (a : Ac) : Prop := i64B a.1 ∧ wfP a.2.1 ∧ i64B a.2.2
def wfFs (fs : List Ft) : Prop := ∀ f ∈ fs, wfF f
def wfAs (acts : List Ac) : Prop := ∀ a ∈ acts, wfA a
theorem ftAt_mem {fs : List Ft} {i : Nat} (h : i < fs.length) : ftAt fs i ∈ fs := by
  unfold ftAt
  rw [List.getD_eq_getElem?_getD, List.getElem?_eq_getElem h]
  exact List.getElem_mem h
theorem ftAt_get {fs : List Ft} {i : Nat} (h : i < fs.length) : ftAt fs i = fs[i] := by
  unfold ftAt
  rw [List.getD_eq_getElem?_getD, List.getElem?_eq_getElem h]
  rfl
theorem acAt_mem {fs : List Ac} {i : Nat} (h : i < fs.length) : acAt fs i ∈ fs := by
  unfold acAt
  rw [List.getD_eq_getElem?_getD, List.getElem?_eq_getElem h]
  exact List.getElem_mem h
theorem acAt_get {fs : List Ac} {i : Nat} (h : i < fs.length) : acAt fs i = fs[i] := by
  unfold acAt
  rw [List.getD_eq_getElem?_getD, List.getElem?_eq_getElem h]
  rfl
theorem optAt_mem {fs : List Opt} {i : Nat} (h : i < fs.length) : optAt fs i ∈ fs := by
  unfold optAt
  rw [List.getD_eq_getElem?_getD, List.getElem?_eq_getElem h]
  exact List.getElem_mem h
theorem optAt_get {fs : List Opt} {i : Nat} (h : i < fs.length) : optAt fs i = fs[i] := by
  unfold optAt
  rw [List.getD_eq_getElem?_getD, List.getElem?_eq_getElem h]
  rfl

/-! ### rows -/
/-- n elements of k cells each lie behind a, in a block from lo on, below hi -/
def Row (w : World) (lo hi k : Nat) (a : Option Addr) (n : Nat) (enc : Nat → List Value) : Prop :=
  0 < n → ∃ b off, a = some ⟨b, off, none⟩ ∧ lo ≤ b ∧ b < hi ∧ ∀ i, i < n → ∀ j u, (enc i)[j]? = some u → w.cell? ⟨b, off + i * k + j, none⟩ = some u
/-- the blocks from lo on, below hi, are as they were -/
def Same (lo hi : Nat) (w w' : World) : Prop := ∀ b, lo ≤ b → b < hi → w'.heap[b]? = w.heap[b]?
theorem Same.of_below {lo hi : Nat} {w w' : World} (h : Below hi w w') : Same lo hi w w' := fun b _ hb => h.block b hb
theorem Row.move {w w' : World} {lo hi k n : Nat} {a : Option Addr} {enc : Nat → List Value} (h : Row w lo hi k a n enc) (hs : Same lo hi w w') : Row w' lo hi k a n enc := by
  intro hn
  obtain ⟨b, off, e, h1, h2, h3⟩ := h hn
  refine ⟨b, off, e, h1, h2, fun i hi j u hu => ?_⟩
  exact (World.cell?_of_block (hs b h1 h2)).trans (h3 i hi j u hu)
theorem Row.wider {w : World} {lo hi lo' hi' k n : Nat} {a : Option Addr} {enc : Nat → List Value} (h : Row w lo hi k a n enc) (h1 : lo' ≤ lo) (h2 : hi ≤ hi') : Row w lo' hi' k a n enc := by
  intro hn
  obtain ⟨b, off, e, g1, g2, h3⟩ := h hn
  exact ⟨b, off, e, by omega, by omega, h3⟩
theorem Row.congr {w : World} {lo hi k n : Nat} {a : Option Addr} {enc enc' : Nat → List Value} (h : Row w lo hi k a n enc) (he : ∀ i, i < n → enc i = enc' i) : Row w lo hi k a n enc' := by
  intro hn
  obtain ⟨b, off, e, h1, h2, h3⟩ := h hn
  exact ⟨b, off, e, h1, h2, fun i hi j u hu => h3 i hi j u (by rw [he i hi]; exact hu)⟩
theorem Row.none (w : World) (lo hi k : Nat) (a : Option Addr) (enc : Nat → List Value) : Row w lo hi k a 0 enc := fun h => absurd h (Nat.lt_irrefl 0)

theorem flatMap_at {α : Type} (enc : α → List Value) (k : Nat) (hk : ∀ x, (enc x).length = k) : ∀ (l : List α) (i j : Nat) (h : i < l.length) (u : Value), (enc l[i])[j]? = some u → (l.flatMap enc)[i * k + j]? = some u
  | [], i, j, h, u, _ => by simp at h
  | x :: r, 0, j, h, u, hu => by
    simp only [List.getElem_cons_zero] at hu
    have hj : j < k := by
      obtain ⟨hj, _⟩ := List.getElem?_eq_some_iff.1 hu
      rwa [hk] at hj
    simp only [List.flatMap_cons, Nat.zero_mul, Nat.zero_add]
    rw [List.getElem?_append_left (by rw [hk]; exact hj)]
    exact hu
  | x :: r, i + 1, j, h, u, hu => by
    simp only [List.getElem_cons_succ] at hu
    simp only [List.flatMap_cons]
    rw [List.getElem?_append_right (by rw [hk, Nat.succ_mul]; omega), hk, show (i + 1) * k + j - k = i * k + j by rw [Nat.succ_mul]; omega]
    exact flatMap_at enc k hk r i j (by simpa using h) u hu
theorem flatMap_len {α : Type} (enc : α → List Value) (k : Nat) (hk : ∀ x, (enc x).length = k) (l : List α) : (l.flatMap enc).length = l.length * k := by
  induction l with
  | nil => simp
  | cons x r ih => simp only [List.flatMap_cons, List.length_append, ih, hk, List.length_cons, Nat.succ_mul]; omega
/-- what the call owns can be read -/
theorem row_of_own {α : Type} [Inhabited α] {enc : α → List Value} {k : Nat} (hk : ∀ x, (enc x).length = k) {w : World} {lo : Nat} {e : TypeId} {v : Value} {l : List α} (h : w.ownsRow lo e k v l.length (l.flatMap enc)) :
    ∃ a cap, v = .slice a l.length cap ∧ (a = none → cap = 0) ∧ Row w lo w.heap.size k a l.length (fun i => enc (l.getD i default)) := by
  rcases h.2 with ⟨rfl, hn⟩ | ⟨g, cap, cur, rfl, hb, hg, hcap, hm, hs, ht⟩
  · refine ⟨Option.none, 0, by rw [hn], fun _ => rfl, ?_⟩
    rw [hn]
    exact Row.none _ _ _ _ _ _
  · refine ⟨some ⟨g, 0, Option.none⟩, cap, rfl, fun h => (by cases h), fun _ => ⟨g, 0, rfl, hb, (Array.getElem?_eq_some_iff.1 hg).1, fun i hi j u hu => ?_⟩⟩
    have e1 : l.getD i default = l[i] := by rw [List.getD_eq_getElem?_getD, List.getElem?_eq_getElem hi]; rfl
    have hu' : (enc l[i])[j]? = some u := by rw [← e1]; exact hu
    have := flatMap_at enc k hk l i j hi u hu'
    rw [Nat.zero_add, cell_of_row w _ _ _ _ _ hg]
    rw [← ht, List.getElem?_take] at this
    split at this
    · simpa using this
    · cases this

/-! ### options, features, acts -/
def OptsAt (w : World) (lo hi : Nat) (v : Value) (os : List Opt) : Prop := ∃ a cap, v = .slice a os.length cap ∧ (a = none → cap = 0) ∧ Row w lo hi 2 a os.length (fun j => optV (optAt os j))
def FeatsAt (w : World) (lo hi : Nat) (v : Value) (fs : List Ft) : Prop :=
  ∃ (a : Option Addr) (cap : Nat) (vs : Nat → Value), v = .slice a fs.length cap ∧ (a = none → cap = 0) ∧ Row w lo hi 6 a fs.length (fun i => ftV (ftAt fs i).1 (vs i)) ∧ ∀ i, i < fs.length → OptsAt w lo hi (vs i) (ftAt fs i).2
def ActsAt (w : World) (lo hi : Nat) (v : Value) (acts : List Ac) : Prop := ∃ a cap, v = .slice a acts.length cap ∧ (a = none → cap = 0) ∧ Row w lo hi 7 a acts.length (fun j => acV (acAt acts j))
theorem OptsAt.move {w w' : World} {lo hi : Nat} {v : Value} {os : List Opt} (h : OptsAt w lo hi v os) (hs : Same lo hi w w') : OptsAt w' lo hi v os := by
  obtain ⟨a, cap, e, z, r⟩ := h
  exact ⟨a, cap, e, z, r.move hs⟩
theorem FeatsAt.move {w w' : World} {lo hi : Nat} {v : Value} {fs : List Ft} (h : FeatsAt w lo hi v fs) (hs : Same lo hi w w') : FeatsAt w' lo hi v fs := by
  obtain ⟨a, cap, vs, e, z, r, o⟩ := h
  exact ⟨a, cap, vs, e, z, r.move hs, fun i hi => (o i hi).move hs⟩
theorem ActsAt.move {w w' : World} {lo hi : Nat} {v : Value} {acts : List Ac} (h : ActsAt w lo hi v acts) (hs : Same lo hi w w') : ActsAt w' lo hi v acts := by
  obtain ⟨a, cap, e, z, r⟩ := h
  exact ⟨a, cap, e, z, r.move hs⟩
theorem OptsAt.wider {w : World} {lo hi lo' hi' : Nat} {v : Value} {os : List Opt} (h : OptsAt w lo hi v os) (h1 : lo' ≤ lo) (h2 : hi ≤ hi') : OptsAt w lo' hi' v os := by
  obtain ⟨a, cap, e, z, r⟩ := h
  exact ⟨a, cap, e, z, r.wider h1 h2⟩
theorem FeatsAt.wider {w : World} {lo hi lo' hi' : Nat} {v : Value} {fs : List Ft} (h : FeatsAt w lo hi v fs) (h1 : lo' ≤ lo) (h2 : hi ≤ hi') : FeatsAt w lo' hi' v fs := by
  obtain ⟨a, cap, vs, e, z, r, o⟩ := h
  exact ⟨a, cap, vs, e, z, r.wider h1 h2, fun i hi => (o i hi).wider h1 h2⟩
theorem ActsAt.wider {w : World} {lo hi lo' hi' : Nat} {v : Value} {acts : List Ac} (h : ActsAt w lo hi v acts) (h1 : lo' ≤ lo) (h2 : hi ≤ hi') : ActsAt w lo' hi' v acts := by
  obtain ⟨a, cap, e, z, r⟩ := h
  exact ⟨a, cap, e, z, r.wider h1 h2⟩
theorem OptsAt.below {w w' : World} {lo : Nat} {v : Value} {os : List Opt} (h : OptsAt w lo w.heap.size v os) (hb : Below w.heap.size w w') : OptsAt w' lo w'.heap.size v os := (h.move (Same.of_below hb)).wider (Nat.le_refl _) hb.size
theorem FeatsAt.below {w w' : World} {lo : Nat} {v : Value} {fs : List Ft} (h : FeatsAt w lo w.heap.size v fs) (hb : Below w.heap.size w w') : FeatsAt w' lo w'.heap.size v fs := (h.move (Same.of_below hb)).wider (Nat.le_refl _) hb.size
theorem ActsAt.below {w w' : World} {lo : Nat} {v : Value} {acts : List Ac} (h : ActsAt w lo w.heap.size v acts) (hb : Below w.heap.size w w') : ActsAt w' lo w'.heap.size v acts := (h.move (Same.of_below hb)).wider (Nat.le_refl _) hb.size
theorem optV_len (o : Opt) : (optV o).length = 2 := rfl
theorem acV_len (a : Ac) : (acV a).length = 7 := rfl
theorem ftV_len (p : Pl) (v : Value) : (ftV p v).length = 6 := rfl
theorem opts_of_own {w : World} {lo : Nat} {e : TypeId} {v : Value} {os : List Opt} (h : w.ownsRow lo e 2 v os.length (os.flatMap optV)) : OptsAt w lo w.heap.size v os := row_of_own optV_len h
theorem acts_of_own {w : World} {lo : Nat} {e : TypeId} {v : Value} {acts : List Ac} (h : w.ownsRow lo e 7 v acts.length (acts.flatMap acV)) : ActsAt w lo w.heap.size v acts := row_of_own acV_len h

/-! ### maps keyed by places -/
def plA (p : Pl) : Value := .agg #[.int .i64 p.1, .int .i64 p.2.1, .int .i64 p.2.2.1, .int .i64 p.2.2.2.1, .int .i64 p.2.2.2.2]
theorem laidOutP : laidOutB Tryz.prog = true := by kernel_rfl
theorem rowPl : (44 : TypeId) < Tryz.prog.types.size := of_decide_eq_true (by kernel_rfl)
theorem widePl : (match Tryz.prog.underlying 44 with | some (.array _ _) | some (.struct _) => true | _ => false) = true := by rw [Tryz.underlying44]
set_option maxRecDepth 100000 in
theorem lawPl : Keyed Tryz.prog 44 := Keyed.of_law (deep_law_laid laidOutP (m := 3) (by decide) rowPl (by kernel_rfl) widePl)
theorem wf_of {x : Int} (h : i64B x) : (Lit.int .i64 x).wf = true := WalkArith.wf_i64 h
set_option maxRecDepth 100000 in
theorem sizePl : ∃ m, Tryz.prog.types.size = m + 1 := ⟨_, (Nat.succ_pred_eq_of_pos (Nat.lt_of_le_of_lt (Nat.zero_le _) rowPl)).symm⟩
set_option maxRecDepth 100000 in
theorem key_pl {p : Pl} (h : wfP p) : ∃ l, keyOf Tryz.prog 44 (plA p) = some l := by
  obtain ⟨h1, h2, h3, h4, h5⟩ := h
  have hk : Tryz.prog.keyType 44 = true := by kernel_rfl
  have hc : Tryz.prog.cellsOf 44 = 5 := by kernel_rfl
  have hi : Tryz.prog.cellsOf 3 = 1 := by kernel_rfl
  have hw : Tryz.prog.cellsOf 42 = 1 := by kernel_rfl
  have u1 := Tryz.underlying44
  have u2 := Tryz.underlying3
  have u3 := Tryz.underlying42
  obtain ⟨m, hm⟩ := sizePl
  generalize Tryz.prog = P at *
  have hf : (plA p).formed P 44 = true := by simp [Value.formed, plA, u1, hc]
  have w1 := wf_of h1
  have w2 := wf_of h2
  have w3 := wf_of h3
  have w4 := wf_of h4
  have w5 := wf_of h5
  have hl : P.keyLits (m + 1 + 1) 44 (plA p).cells.toList = some [.int .i64 p.1, .int .i64 p.2.1, .int .i64 p.2.2.1, .int .i64 p.2.2.2.1, .int .i64 p.2.2.2.2] := by
    simp [Program.keyLits, plA, Value.cells, u1, u2, u3, hc, hi, hw, w1, w2, w3, w4, w5]
  refine ⟨.string (keyBytes [.int .i64 p.1, .int .i64 p.2.1, .int .i64 p.2.2.1, .int .i64 p.2.2.2.1, .int .i64 p.2.2.2.2]), ?_⟩
  · unfold keyOf
    rw [u1]
    simp only []
    rw [hk, hf, hm, hl]
    rfl

theorem plA_inj {p q : Pl} (h : plA p = plA q) : p = q := by
  obtain ⟨a, b, c, d, e⟩ := p
  obtain ⟨a', b', c', d', e'⟩ := q
  simp only [plA, Value.agg.injEq, Array.mk.injEq, List.cons.injEq, Value.int.injEq, true_and, and_true] at h
  obtain ⟨rfl, rfl, rfl, rfl, rfl⟩ := h
  rfl
theorem zeroI (w : World) : (zeroValue 3).run Tryz.prog w = .ok (.int .i64 0) w := by kernel_rfl
theorem zeroB (w : World) : (zeroValue 4).run Tryz.prog w = .ok (.bool false) w := by kernel_rfl

/-- block b is a map of at most n entries from places to indices that holds g -/
def IdxMap (w : World) (b n : Nat) (g : Pl → Option Nat) : Prop :=
  ∃ D : DataW Unit, w.ownsMap Tryz.prog 44 (plainElem Tryz.prog 3) b n D ∧ ∀ p, wfP p → ∀ l, keyOf Tryz.prog 44 (plA p) = some l →
    Maps.has D l = (g p).isSome ∧ D.atKey l (.lit (.int .i64 0)) = .lit (.int .i64 (((g p).getD 0 : Nat) : Int))
/-- block b is a set of at most n places that holds g -/
def SetMap (w : World) (b n : Nat) (g : Pl → Bool) : Prop :=
  ∃ D : DataW Unit, w.ownsMap Tryz.prog 44 (plainElem Tryz.prog 4) b n D ∧ ∀ p, wfP p → ∀ l, keyOf Tryz.prog 44 (plA p) = some l → D.atKey l (.lit (.bool false)) = .lit (.bool (g p))
def updP {α : Type} (g : Pl → α) (p : Pl) (v : α) : Pl → α := fun q => if q = p then v else g q
section
variable {w w' : World} {b n m : Nat} {g : Pl → Option Nat} {s : Pl → Bool}
theorem IdxMap.lt (h : IdxMap w b n g) : b < w.heap.size := by
  obtain ⟨D, h, _⟩ := h
  exact h.lt
theorem IdxMap.obj (h : IdxMap w b n g) : ∃ es c, w.heap[b]? = some (.map es c) := by
  obtain ⟨D, ⟨es, clock, hb, r⟩, hr⟩ := h
  exact ⟨es, clock, hb⟩
theorem IdxMap.move (h : IdxMap w b n g) (hs : w'.heap[b]? = w.heap[b]?) : IdxMap w' b n g := by
  obtain ⟨D, ⟨es, clock, hb, r⟩, hr⟩ := h
  exact ⟨D, ⟨es, clock, hs.trans hb, r⟩, hr⟩
theorem IdxMap.mono (h : IdxMap w b n g) (hn : n ≤ m) : IdxMap w b m g := by
  obtain ⟨D, h, hr⟩ := h
  exact ⟨D, h.mono hn, hr⟩
theorem IdxMap.below (h : IdxMap w b n g) (hb : Below w.heap.size w w') : IdxMap w' b n g := h.move (hb.block b h.lt)
theorem IdxMap.made (w : World) : IdxMap (w.alloc (.map #[] 0)) w.heap.size 0 (fun _ => none) :=
  ⟨.map [], World.ownsMap_made _ _ _ _, fun _ _ _ _ => ⟨rfl, rfl⟩⟩
theorem IdxMap.look_ok (h : IdxMap w b n g) {p : Pl} (hp : wfP p) :
    (Instr.lookup 75 (.map (some b)) (plA p) true).run Tryz.prog w = .ok (.tuple #[.int .i64 (((g p).getD 0 : Nat) : Int), .bool (g p).isSome]) w := by
  obtain ⟨D, h, hr⟩ := h
  obtain ⟨l, hl⟩ := key_pl hp
  obtain ⟨v, ps, hrun, hv⟩ := h.look_ok lawPl Tryz.underlying75 (zeroI w) (plainElem_int Tryz.underlying3 (by decide)) hl
  obtain ⟨c, rfl, hc, _⟩ := plainElem_int_inv Tryz.underlying3 hv
  obtain ⟨h1, h2⟩ := hr p hp l hl
  have h3 := (congrArg Prod.fst hc).symm.trans h2
  simp only [DataW.lit.injEq, Lit.int.injEq, true_and] at h3
  rw [hrun, h1, h3]
theorem IdxMap.look (h : IdxMap w b n g) {p : Pl} (hp : wfP p) :
    (Instr.lookup 75 (.map (some b)) (plA p) false).run Tryz.prog w = .ok (.int .i64 (((g p).getD 0 : Nat) : Int)) w := by
  obtain ⟨D, h, hr⟩ := h
  obtain ⟨l, hl⟩ := key_pl hp
  obtain ⟨v, ps, hrun, hv⟩ := h.lookup lawPl Tryz.underlying75 (zeroI w) (plainElem_int Tryz.underlying3 (by decide)) hl
  obtain ⟨c, rfl, hc, _⟩ := plainElem_int_inv Tryz.underlying3 hv
  obtain ⟨h1, h2⟩ := hr p hp l hl
  have h3 := (congrArg Prod.fst hc).symm.trans h2
  simp only [DataW.lit.injEq, Lit.int.injEq, true_and] at h3
  rw [hrun, h3]
theorem IdxMap.store (h : IdxMap w b n g) {p : Pl} (hp : wfP p) {i : Nat} (hi : i ≤ 1000000) (hn : n < maxLen) :
    ∃ w', (Instr.mapUpdate 75 (.map (some b)) (plA p) (.int .i64 (i : Int))).run Tryz.prog w = .ok () w' ∧ IdxMap w' b (n + 1) (updP g p (some i)) ∧ w.grownBy w' (some b) := by
  obtain ⟨D, h, hr⟩ := h
  obtain ⟨l, hl⟩ := key_pl hp
  obtain ⟨w', hrun, hown, hg⟩ := h.update lawPl Tryz.underlying75 hn hl (plainElem_int Tryz.underlying3 (a := (i : Int)) (WalkArith.wf_i64 (by omega)))
  refine ⟨w', hrun, ⟨_, hown, fun q hq k hk => ?_⟩, hg⟩
  unfold updP
  by_cases e : q = p
  · subst e
    have : k = l := Option.some.inj (hk.symm.trans hl)
    subst this
    rw [if_pos rfl]
    exact ⟨has_put_same h.isMap (lawPl.key hl) _, atKey_put_same h.isMap (lawPl.key hl) _ _⟩
  · rw [if_neg e]
    have hne : k ≠ l := fun x => e (plA_inj (lawPl.inj (x ▸ hk) hl))
    exact ⟨(has_put_other hne _).trans (hr q hq k hk).1, (atKey_put_other hne _ _).trans (hr q hq k hk).2⟩
theorem SetMap.lt (h : SetMap w b n s) : b < w.heap.size := by
  obtain ⟨D, h, _⟩ := h
  exact h.lt
theorem SetMap.move (h : SetMap w b n s) (hs : w'.heap[b]? = w.heap[b]?) : SetMap w' b n s := by
  obtain ⟨D, ⟨es, clock, hb, r⟩, hr⟩ := h
  exact ⟨D, ⟨es, clock, hs.trans hb, r⟩, hr⟩
theorem SetMap.below (h : SetMap w b n s) (hb : Below w.heap.size w w') : SetMap w' b n s := h.move (hb.block b h.lt)
theorem SetMap.made (w : World) : SetMap (w.alloc (.map #[] 0)) w.heap.size 0 (fun _ => false) :=
  ⟨.map [], World.ownsMap_made _ _ _ _, fun _ _ _ _ => rfl⟩
theorem plainElem_bool_inv {v : Value} {z : DataW Unit × List MemPlace} (h : plainElem Tryz.prog 4 v = some z) : ∃ x, v = .bool x ∧ z = (.lit (.bool x), []) := by
  unfold plainElem at h
  rw [Tryz.underlying4] at h
  cases v <;> simp at h
  exact ⟨_, rfl, h.symm⟩
theorem SetMap.look (h : SetMap w b n s) {p : Pl} (hp : wfP p) :
    (Instr.lookup 122 (.map (some b)) (plA p) false).run Tryz.prog w = .ok (.bool (s p)) w := by
  obtain ⟨D, h, hr⟩ := h
  obtain ⟨l, hl⟩ := key_pl hp
  obtain ⟨v, ps, hrun, hv⟩ := h.lookup lawPl Tryz.underlying122 (zeroB w) (plainElem_bool Tryz.underlying4 false) hl
  obtain ⟨c, rfl, hc⟩ := plainElem_bool_inv hv
  have h3 := (congrArg Prod.fst hc).symm.trans (hr p hp l hl)
  simp only [DataW.lit.injEq, Lit.bool.injEq] at h3
  rw [hrun, h3]
theorem SetMap.store (h : SetMap w b n s) {p : Pl} (hp : wfP p) (hn : n < maxLen) :
    ∃ w', (Instr.mapUpdate 122 (.map (some b)) (plA p) (.bool true)).run Tryz.prog w = .ok () w' ∧ SetMap w' b (n + 1) (updP s p true) ∧ w.grownBy w' (some b) := by
  obtain ⟨D, h, hr⟩ := h
  obtain ⟨l, hl⟩ := key_pl hp
  obtain ⟨w', hrun, hown, hg⟩ := h.update lawPl Tryz.underlying122 hn hl (plainElem_bool Tryz.underlying4 true)
  refine ⟨w', hrun, ⟨_, hown, fun q hq k hk => ?_⟩, hg⟩
  unfold updP
  by_cases e : q = p
  · subst e
    have : k = l := Option.some.inj (hk.symm.trans hl)
    subst this
    rw [if_pos rfl]
    exact atKey_put_same h.isMap (lawPl.key hl) _ _
  · rw [if_neg e]
    have hne : k ≠ l := fun x => e (plA_inj (lawPl.inj (x ▸ hk) hl))
    exact (atKey_put_other hne _ _).trans (hr q hq k hk)
end
end Go.Proofs.YtpcefaccoifejaaGreatDoor

namespace Go.Proofs.YtpcefaccoifejaaGreatDoor
open Go.RowKit Go.Maps
set_option linter.unusedSimpArgs false
set_option linter.unusedVariables false
set_option maxRecDepth 100000

theorem ein_opt (x y x' y' : Int) (w : World) : (Op.equalIn 10000 41 (.agg #[.int .i64 x, .int .i64 y]) (.agg #[.int .i64 x', .int .i64 y'])).run Tryz.prog w = .ok (decide ((x, y) = (x', y'))) w := by
  have u3 := Tryz.underlying3
  have a3 := Tryz.isAgg3
  have z3 := Tryz.sizeOf3
  have hS : Tryz.prog.underlying 41 = some (.struct (Tryz.prog.fieldsOf 41)) := by kernel_rfl
  have hp : Tryz.prog.stoodInHeld 41 = false := by kernel_rfl
  rw [show (10000 : Nat) = 9999 + 1 from rfl, run_equalIn_agg w 9999 41 _ _ hS hp]
  simp only [Program.fieldsOf, Tryz.underlying41]
  go_simp
  by_cases h1 : x = x' <;> by_cases h2 : y = y' <;> simp [h1, h2]
theorem ein_pl (a b c d e a' b' c' d' e' : Int) (w : World) : (Op.equalIn 10000 44 (.agg #[.int .i64 a, .int .i64 b, .int .i64 c, .int .i64 d, .int .i64 e]) (.agg #[.int .i64 a', .int .i64 b', .int .i64 c', .int .i64 d', .int .i64 e'])).run Tryz.prog w = .ok (decide ((a, b, c, d, e) = (a', b', c', d', e'))) w := by
  have u3 := Tryz.underlying3
  have a3 := Tryz.isAgg3
  have z3 := Tryz.sizeOf3
  have u4 := Tryz.underlying42
  have a4 := Tryz.isAgg42
  have z4 := Tryz.sizeOf42
  have hS : Tryz.prog.underlying 44 = some (.struct (Tryz.prog.fieldsOf 44)) := by kernel_rfl
  have hp : Tryz.prog.stoodInHeld 44 = false := by kernel_rfl
  rw [show (10000 : Nat) = 9999 + 1 from rfl, run_equalIn_agg w 9999 44 _ _ hS hp]
  simp only [Program.fieldsOf, Tryz.underlying44]
  go_simp
  by_cases h1 : a = a' <;> by_cases h2 : b = b' <;> by_cases h3 : c = c' <;> by_cases h4 : d = d' <;> by_cases h5 : e = e' <;> simp [h1, h2, h3, h4, h5]
theorem ein_act (k a b c d e v k' a' b' c' d' e' v' : Int) (w : World) : (Op.equalIn 10000 60 (.agg #[.int .i64 k, .int .i64 a, .int .i64 b, .int .i64 c, .int .i64 d, .int .i64 e, .int .i64 v]) (.agg #[.int .i64 k', .int .i64 a', .int .i64 b', .int .i64 c', .int .i64 d', .int .i64 e', .int .i64 v'])).run Tryz.prog w = .ok (decide ((k, (a, b, c, d, e), v) = (k', (a', b', c', d', e'), v'))) w := by
  have u3 := Tryz.underlying3
  have a3 := Tryz.isAgg3
  have z3 := Tryz.sizeOf3
  have u4 := Tryz.underlying42
  have a4 := Tryz.isAgg42
  have z4 := Tryz.sizeOf42
  have u5 := Tryz.underlying58
  have a5 := Tryz.isAgg58
  have z5 := Tryz.sizeOf58
  have a6 := Tryz.isAgg44
  have z6 := Tryz.sizeOf44
  have hS : Tryz.prog.underlying 60 = some (.struct (Tryz.prog.fieldsOf 60)) := by kernel_rfl
  have hp : Tryz.prog.stoodInHeld 60 = false := by kernel_rfl
  have hS2 : Tryz.prog.underlying 44 = some (.struct (Tryz.prog.fieldsOf 44)) := by kernel_rfl
  have hp2 : Tryz.prog.stoodInHeld 44 = false := by kernel_rfl
  have hi : ∀ w, (Op.equalIn 9999 44 (.agg #[.int .i64 a, .int .i64 b, .int .i64 c, .int .i64 d, .int .i64 e]) (.agg #[.int .i64 a', .int .i64 b', .int .i64 c', .int .i64 d', .int .i64 e'])).run Tryz.prog w = .ok (decide ((a, b, c, d, e) = (a', b', c', d', e'))) w := fun w => by
    rw [show (9999 : Nat) = 9998 + 1 from rfl, run_equalIn_agg w 9998 44 _ _ hS2 hp2]
    simp only [Program.fieldsOf, Tryz.underlying44]
    go_simp
    by_cases h1 : a = a' <;> by_cases h2 : b = b' <;> by_cases h3 : c = c' <;> by_cases h4 : d = d' <;> by_cases h5 : e = e' <;> simp [h1, h2, h3, h4, h5]
  rw [show (10000 : Nat) = 9999 + 1 from rfl, run_equalIn_agg w 9999 60 _ _ hS hp]
  simp only [Program.fieldsOf, Tryz.underlying60]
  go_simp
  by_cases h1 : k = k' <;> by_cases h2 : (a, b, c, d, e) = (a', b', c', d', e') <;> by_cases h3 : v = v' <;> simp_all
end Go.Proofs.YtpcefaccoifejaaGreatDoor

namespace Go.Proofs.YtpcefaccoifejaaGreatDoor
open Go.RowKit Go.Maps
set_option linter.unusedSimpArgs false
set_option linter.unusedVariables false
set_option maxRecDepth 100000

theorem infoOpt : Tryz.prog.info? 41 = some Tryz.t41 := by kernel_rfl
/-- the cells behind a row's start, as one list -/
theorem flat_cells {α : Type} [Inhabited α] {enc : α → List Value} {k : Nat} (hk : ∀ x, (enc x).length = k) (h0 : 0 < k) {w : World} {b off : Nat} {l : List α}
    (h : ∀ i, i < l.length → ∀ j u, (enc (l.getD i default))[j]? = some u → w.cell? ⟨b, off + i * k + j, none⟩ = some u) : ∀ j u, (l.flatMap enc)[j]? = some u → w.cell? ((⟨b, off, none⟩ : Addr).add j) = some u := by
  intro j u hu
  have hl := flatMap_len enc k hk l
  have hj : j < l.length * k := by
    obtain ⟨hj, _⟩ := List.getElem?_eq_some_iff.1 hu
    omega
  have hi : j / k < l.length := (Nat.div_lt_iff_lt_mul h0).2 hj
  have hm : j % k < k := Nat.mod_lt _ h0
  have he : j = j / k * k + j % k := by rw [Nat.mul_comm]; exact (Nat.div_add_mod j k).symm
  have hg : l.getD (j / k) default = l[j / k] := by rw [List.getD_eq_getElem?_getD, List.getElem?_eq_getElem hi]; rfl
  have hlt : j % k < (enc l[j / k]).length := by rw [hk]; exact hm
  have h1 := flatMap_at enc k hk l (j / k) (j % k) hi _ (List.getElem?_eq_getElem hlt)
  rw [← he, hu] at h1
  have h2 := h (j / k) hi (j % k) u (by rw [hg, List.getElem?_eq_getElem hlt]; exact h1.symm)
  rw [Go.WideShapes.add_plain]
  rw [show off + j = off + j / k * k + j % k by omega]
  exact h2
theorem optV_one (os : List Opt) : ∀ u ∈ os.flatMap optV, u.oneCell' = true := by
  intro u hu
  obtain ⟨o, _, ho⟩ := List.mem_flatMap.1 hu
  simp only [optV, List.mem_cons, List.not_mem_nil, or_false] at ho
  rcases ho with rfl | rfl <;> rfl
theorem CopyOptions_c (v : Value) (os : List Opt) (lo hi : Nat) (w : World) (h : OptsAt w lo hi v os) (hl : os.length ≤ 1000000) :
    Calls Tryz.prog 82 #[v] w fun e w' => ∃ v', e = .returned v' ∧ w'.ownsRow w.heap.size 41 2 v' os.length (os.flatMap optV) ∧ Below w.heap.size w w' := by
  obtain ⟨a, cap, rfl, hz, hr⟩ := h
  cases a with
  | none =>
    have hn : os = [] := by
      cases os with
      | nil => rfl
      | cons o r =>
        obtain ⟨b, off, hb, _⟩ := hr (by simp)
        cases hb
    obtain rfl := hz rfl
    subst hn
    have ha := fun w => run_append_owned_none (P := Tryz.prog) w 0 45 45 41 Tryz.t41 2 Tryz.underlying45 infoOpt (.slice none 0 0) 0 [] (World.ownsRow_nil w 0 _ _)
    clear hr hz
    go_enter Tryz.func82, Tryz.ntmps82
    go_wp2
    go_ret
    exact ⟨_, rfl, World.ownsRow_nil _ _ _ _, Below.refl _ _⟩
  | some ad =>
    have hc : Hid (∀ j u, (os.flatMap optV)[j]? = some u → w.cell? (ad.add j) = some u) := by
      intro j u hu
      cases os with
      | nil => simp at hu
      | cons o r =>
        obtain ⟨b, off, hb, _, _, h3⟩ := hr (by simp)
        injection hb with hb
        subst hb
        exact flat_cells optV_len (by decide) h3 j u hu
    have hf := flatMap_len optV 2 optV_len os
    have h1 := Lib.hid (optV_one os)
    have hI := Lib.hid infoOpt
    generalize os.flatMap optV = ks at *
    generalize os.length = n at *
    clear hr hz
    go_enter Tryz.func82, Tryz.ntmps82
    go_wp2_with (at_builtin; go_loud (refine wpList_append_own _ rfl (.tmp 4) (.tmp 5) _ rfl w.heap.size 41 Tryz.t41 _ 2 16 rfl hI.out rfl rfl rfl rfl (by omega) (.slice none 0 0) 0 [] rfl (World.ownsRow_nil _ _ _ _) ad n cap ks rfl hf hc.out h1.out (by simp only [maxLen]; omega) (by omega) (Nat.le_refl _) ?_); intro v' w' ho hg hn)
    go_ret
    rw [Nat.zero_add, List.nil_append] at ho
    exact ⟨_, rfl, ho, (Below.refl _ _).grown hg (Nat.le_refl _) (fun j hj => by cases hj)⟩
end Go.Proofs.YtpcefaccoifejaaGreatDoor

namespace Go.Proofs.YtpcefaccoifejaaGreatDoor
open Go.RowKit Go.Maps
set_option linter.unusedSimpArgs false
set_option linter.unusedVariables false
set_option maxRecDepth 100000

/-- all old cells are as they were in W -/
abbrev Sk (W w' : World) : Prop := (∀ b o, b < W.heap.size → w'.cell? ⟨b, o, none⟩ = W.cell? ⟨b, o, none⟩) ∧ Below W.heap.size W w'
theorem Sk_of {W w' : World} (h : Below W.heap.size W w') : Sk W w' := ⟨fun b o hb => h.cell (p := ⟨b, o, none⟩) hb, h⟩
theorem Sk_drew (W : World) : Sk W W.drew := Sk_of (Below.refl _ _).drew
theorem Sk_call {W w2 w1 : World} (h : Sk W w2) (hb : Below w2.heap.size w2 w1) : Sk W w1 := Sk_of (h.2.trans (hb.mono h.2.size))
theorem Sk_alloc {W w2 : World} (h : Sk W w2) (o : Obj) : Sk W (w2.alloc o) := Sk_of (h.2.alloc h.2.size o)
theorem Sk_grown {W w2 w1 : World} (h : Sk W w2) {b : Nat} (hg : w2.grownBy w1 (some b)) (hb : W.heap.size ≤ b) : Sk W w1 :=
  Sk_of (h.2.trans ⟨hg.os, hg.tape, hg.output, hg.size, fun i hi => hg.block i (Nat.lt_of_lt_of_le hi h.2.size) (fun e => by injection e with e; omega)⟩)
theorem below_step {w w1 w2 : World} (h : Below w.heap.size w w1) (k : Below w1.heap.size w1 w2) : Below w.heap.size w w2 := h.trans (k.mono h.size)
/-- block B has k cells, none frozen -/
def Hold (w : World) (B k : Nat) : Prop := ∃ cs T, w.heap[B]? = some (.cells cs T (0, 0)) ∧ cs.size = k
theorem Hold.below {w w' : World} {B k : Nat} (h : Hold w B k) (hb : Below w.heap.size w w') : Hold w' B k := by
  obtain ⟨cs, T, e, s⟩ := h
  exact ⟨cs, T, (hb.block B (Array.getElem?_eq_some_iff.1 e).1).trans e, s⟩
theorem Hold.frozen {w : World} {B k : Nat} (h : Hold w B k) (i : Nat) : w.frozen? ⟨B, i, none⟩ = false := by
  obtain ⟨cs, T, e, s⟩ := h
  exact frozen_of_row w B i cs T e
theorem Hold.cell {w : World} {B k : Nat} (h : Hold w B k) {i : Nat} (hi : i < k) : ∃ u, w.cell? ⟨B, i, none⟩ = some u := by
  obtain ⟨cs, T, e, s⟩ := h
  exact ⟨cs[i], by rw [cell_of_row w B i cs T _ e]; simp [s, hi]⟩
theorem Hold.set {w : World} {B k : Nat} (h : Hold w B k) (b o : Nat) (u : Value) : Hold (w.setCell ⟨b, o, none⟩ u) B k := by
  obtain ⟨cs, T, e, s⟩ := h
  by_cases hb : b = B
  · subst hb
    exact ⟨_, T, heap_setCell_same w b o cs T u e, by simpa using s⟩
  · exact ⟨cs, T, (Below.heap_setCell w ⟨b, o, none⟩ u B (fun x => hb x.symm)).trans e, s⟩
theorem Hold.made (w : World) (cs : Array Value) (T : TypeId) : Hold (w.alloc (.cells cs T)) w.heap.size cs.size := ⟨cs, T, heap_alloc_new w _, rfl⟩
theorem Hold.drew {w : World} {B k : Nat} (h : Hold w B k) : Hold w.drew B k := h
/-- all old cells but those of block B are as they were in W; B has k cells -/
abbrev Sb (W : World) (B k : Nat) (w' : World) : Prop := (∀ b o, b < W.heap.size → b ≠ B → w'.cell? ⟨b, o, none⟩ = W.cell? ⟨b, o, none⟩) ∧ W.grownBy w' (some B) ∧ Hold w' B k
theorem Sb_of {W w' : World} {B k : Nat} (h : W.grownBy w' (some B)) (hh : Hold w' B k) : Sb W B k w' :=
  ⟨fun b o hb hn => World.cell?_of_block (a := ⟨b, o, none⟩) (h.block b hb (fun e => hn (by injection e))), h, hh⟩
theorem Sb_drew {W : World} {B k : Nat} (hh : Hold W B k) : Sb W B k W.drew := Sb_of ⟨rfl, rfl, rfl, Nat.le_refl _, fun _ _ _ => rfl⟩ hh
theorem Sb_call {W w2 w1 : World} {B k : Nat} (h : Sb W B k w2) (hb : Below w2.heap.size w2 w1) : Sb W B k w1 :=
  Sb_of ⟨hb.os.trans h.2.1.os, hb.tape.trans h.2.1.tape, hb.output.trans h.2.1.output, Nat.le_trans h.2.1.size hb.size, fun i hi hn => (hb.block i (Nat.lt_of_lt_of_le hi h.2.1.size)).trans (h.2.1.block i hi hn)⟩ (h.2.2.below hb)
theorem Sb_set {W w1 : World} {B k : Nat} (h : Sb W B k w1) (o : Nat) (u : Value) : Sb W B k (w1.setCell ⟨B, o, none⟩ u) :=
  Sb_of ⟨h.2.1.os, h.2.1.tape, h.2.1.output, by simpa [World.setCell] using h.2.1.size, fun i hi hn => (Below.heap_setCell w1 ⟨B, o, none⟩ u i (fun e => hn (by rw [e]))).trans (h.2.1.block i hi hn)⟩ (h.2.2.set B o u)
theorem Sb_below {w W w1 : World} {B k : Nat} (h : Sb W B k w1) (hW : Below w.heap.size w W) (hB : w.heap.size ≤ B) : Below w.heap.size w w1 :=
  hW.trans ⟨h.2.1.os, h.2.1.tape, h.2.1.output, h.2.1.size, fun i hi => h.2.1.block i (Nat.lt_of_lt_of_le hi hW.size) (fun e => by injection e with e; omega)⟩
/-- all old blocks but B are as they were in W; B has k cells -/
def Kp (W : World) (B k : Nat) (w' : World) : Prop := W.grownBy w' (some B) ∧ Hold w' B k
section
variable {W w1 w2 : World} {B k : Nat}
theorem Kp.cell (h : Kp W B k w1) {b o : Nat} {u : Value} (hc : W.cell? ⟨b, o, none⟩ = some u) (hn : b ≠ B) : w1.cell? ⟨b, o, none⟩ = some u := h.1.cell hc (fun e => hn (by injection e))
theorem Kp.drew (hh : Hold W B k) : Kp W B k W.drew := ⟨⟨rfl, rfl, rfl, Nat.le_refl _, fun _ _ _ => rfl⟩, hh⟩
theorem Kp.call (h : Kp W B k w2) (hb : Below w2.heap.size w2 w1) : Kp W B k w1 := (fun x : Sb W B k w1 => ⟨x.2.1, x.2.2⟩) (Sb_call (Sb_of h.1 h.2) hb)
theorem Kp.set (h : Kp W B k w1) (o : Nat) (u : Value) : Kp W B k (w1.setCell ⟨B, o, none⟩ u) := (fun x : Sb W B k _ => ⟨x.2.1, x.2.2⟩) (Sb_set (Sb_of h.1 h.2) o u)
theorem Kp.below {w : World} (h : Kp W B k w1) (hW : Below w.heap.size w W) (hB : w.heap.size ≤ B) : Below w.heap.size w w1 := Sb_below (Sb_of h.1 h.2) hW hB
end
theorem Hold.open6 {w : World} {B : Nat} (h : Hold w B 6) : (∃ u0 u1 u2 u3 u4 u5, w.cell? ⟨B, 0, none⟩ = some u0 ∧ w.cell? ⟨B, 1, none⟩ = some u1 ∧ w.cell? ⟨B, 2, none⟩ = some u2 ∧ w.cell? ⟨B, 3, none⟩ = some u3 ∧ w.cell? ⟨B, 4, none⟩ = some u4 ∧ w.cell? ⟨B, 5, none⟩ = some u5) ∧ ∀ i, w.frozen? ⟨B, i, none⟩ = false := by
  obtain ⟨u0, h0⟩ := h.cell (i := 0) (by decide)
  obtain ⟨u1, h1⟩ := h.cell (i := 1) (by decide)
  obtain ⟨u2, h2⟩ := h.cell (i := 2) (by decide)
  obtain ⟨u3, h3⟩ := h.cell (i := 3) (by decide)
  obtain ⟨u4, h4⟩ := h.cell (i := 4) (by decide)
  obtain ⟨u5, h5⟩ := h.cell (i := 5) (by decide)
  exact ⟨⟨u0, u1, u2, u3, u4, u5, h0, h1, h2, h3, h4, h5⟩, h.frozen⟩
/-- what is owned stays owned while other blocks are written -/
theorem own_off {w : World} {base size n : Nat} {e : TypeId} {v : Value} {ks : List Value} (h : w.ownsRow base e size v n ks) {b : Nat} (hb : b < base) (o : Nat) (u : Value) : (w.setCell ⟨b, o, none⟩ u).ownsRow base e size v n ks :=
  ownsRow_setCell_below h (a := ⟨b, o, none⟩) hb u
theorem own_low {w : World} {base base' size n : Nat} {e : TypeId} {v : Value} {ks : List Value} (h : w.ownsRow base e size v n ks) (hb : base' ≤ base) : w.ownsRow base' e size v n ks := by
  obtain ⟨h1, h2⟩ := h
  exact ⟨h1, h2.imp id fun ⟨g, cap, cur, e1, e2, r⟩ => ⟨g, cap, cur, e1, Nat.le_trans hb e2, r⟩⟩
/-- the shape of what is owned -/
theorem own_shape {w : World} {base size n : Nat} {e : TypeId} {v : Value} {ks : List Value} (h : w.ownsRow base e size v n ks) : ∃ a cap, v = .slice a n cap := by
  rcases h.2 with ⟨rfl, rfl⟩ | ⟨g, cap, cur, rfl, -⟩
  · exact ⟨_, _, rfl⟩
  · exact ⟨_, _, rfl⟩

theorem wp_named {P : Program} {c : Code} {Q : Exit → Act → World → Prop} {a : Act} {w : World} (h : ∀ W, W = w → c.wp P Q a W) : c.wp P Q a w := h w rfl
set_option maxHeartbeats 400000 in
theorem CopyFeature_c (a b c d e : Int) (v : Value) (os : List Opt) (lo hi : Nat) (w : World) (h : OptsAt w lo hi v os) (hh : hi ≤ w.heap.size) (hl : os.length ≤ 1000000) :
    Calls Tryz.prog 67 #[.agg #[.int .i64 a, .int .i64 b, .int .i64 c, .int .i64 d, .int .i64 e, v]] w fun r w' => ∃ v', r = .returned (.agg #[.int .i64 a, .int .i64 b, .int .i64 c, .int .i64 d, .int .i64 e, v']) ∧ w'.ownsRow w.heap.size 41 2 v' os.length (os.flatMap optV) ∧ Below w.heap.size w w' := by
  have HC := Lib.hid fun W (hb : Below w.heap.size w W) => CopyOptions_c v os lo hi W (h.move (Same.of_below (hb.mono hh))) hl
  obtain ⟨av, cap, rfl, -⟩ := h
  generalize os.flatMap optV = ks at *
  generalize os.length = n at *
  clear hl
  go_enter Tryz.func67, Tryz.ntmps67
  go_wp2_with fail
  refine wp_named fun W hW => ?_
  have k0 : W.cell? ⟨w.heap.size, 0, none⟩ = some (.int .i64 a) := by rw [hW]; go_simp
  have k1 : W.cell? ⟨w.heap.size, 1, none⟩ = some (.int .i64 b) := by rw [hW]; go_simp
  have k2 : W.cell? ⟨w.heap.size, 2, none⟩ = some (.int .i64 c) := by rw [hW]; go_simp
  have k3 : W.cell? ⟨w.heap.size, 3, none⟩ = some (.int .i64 d) := by rw [hW]; go_simp
  have k4 : W.cell? ⟨w.heap.size, 4, none⟩ = some (.int .i64 e) := by rw [hW]; go_simp
  have k5 : W.cell? ⟨w.heap.size, 5, none⟩ = some (.slice av n cap) := by rw [hW]; go_simp
  have hH : Hid (Hold W (w.heap.size + 1) 6) := by
    rw [hW]
    have := Hold.made (w.alloc (.cells #[.int .i64 a, .int .i64 b, .int .i64 c, .int .i64 d, .int .i64 e, .slice av n cap] 47)) #[.int .i64 0, .int .i64 0, .int .i64 0, .int .i64 0, .int .i64 0, .slice none 0 0] 47
    rwa [World.size_alloc] at this
  have hB : Below w.heap.size w W := by rw [hW]; go_grown
  have hz : w.heap.size + 1 < W.heap.size := by rw [hW]; simp
  have y0 : w.heap.size < W.heap.size := by omega
  clear hW
  have HS : Hid (∀ w', Kp W (w.heap.size + 1) 6 w' → (w'.cell? ⟨w.heap.size, 0, none⟩ = some (.int .i64 a) ∧ w'.cell? ⟨w.heap.size, 1, none⟩ = some (.int .i64 b) ∧ w'.cell? ⟨w.heap.size, 2, none⟩ = some (.int .i64 c) ∧ w'.cell? ⟨w.heap.size, 3, none⟩ = some (.int .i64 d) ∧ w'.cell? ⟨w.heap.size, 4, none⟩ = some (.int .i64 e) ∧ w'.cell? ⟨w.heap.size, 5, none⟩ = some (.slice av n cap) ∧ Kp W (w.heap.size + 1) 6 w')) :=
    fun w' K => ⟨K.cell k0 (by omega), K.cell k1 (by omega), K.cell k2 (by omega), K.cell k3 (by omega), K.cell k4 (by omega), K.cell k5 (by omega), K⟩
  clear k0 k1 k2 k3 k4 k5
  go_region_held3 (fun w' => w'.cell? ⟨w.heap.size, 0, none⟩ = some (.int .i64 a) ∧ w'.cell? ⟨w.heap.size, 1, none⟩ = some (.int .i64 b) ∧ w'.cell? ⟨w.heap.size, 2, none⟩ = some (.int .i64 c) ∧ w'.cell? ⟨w.heap.size, 3, none⟩ = some (.int .i64 d) ∧ w'.cell? ⟨w.heap.size, 4, none⟩ = some (.int .i64 e) ∧ w'.cell? ⟨w.heap.size, 5, none⟩ = some (.slice av n cap) ∧ Kp W (w.heap.size + 1) 6 w')
    ((refine HS.out _ ?_; with_reducible (first | exact Kp.drew hH.out | assumption | exact (((((Kp.set (by assumption) _ _).set _ _).set _ _).set _ _).set _ _).set _ _)))
    ((go_at_call 82; have hK2 := (by assumption : _ ∧ _ ∧ _ ∧ _ ∧ _ ∧ _ ∧ Kp W (w.heap.size + 1) 6 _).2.2.2.2.2.2; refine (HC.out _ (hK2.below hB (by omega))).mono ?_; rintro r w3 ⟨v', rfl, ho, hb3⟩; obtain ⟨pa, pc, rfl⟩ := own_shape ho; have hoH := Lib.hid ho; have hK3 := hK2.call hb3; have hs2 := hK2.1.size; clear ho hK2; obtain ⟨⟨u0, u1, u2, u3, u4, u5, c0, c1, c2, c3, c4, c5⟩, cf⟩ := hK3.2.open6; have f0 := cf 0; have f1 := cf 1; have f2 := cf 2; have f3 := cf 3; have f4 := cf 4; have f5 := cf 5; clear cf))
  go_wp2
  (try simp only [Exit.inBlock, Exit.then]); refine bodyPost_ret (by simp [results, Tryz.results67, go_sem, *]; try rfl) rfl ?_
  refine ⟨_, rfl, own_low (own_off (own_off (own_off (own_off (own_off (own_off hoH.out ?_ _ _) ?_ _ _) ?_ _ _) ?_ _ _) ?_ _ _) ?_ _ _) ?_, (by assumption : _ ∧ _ ∧ _ ∧ _ ∧ _ ∧ _ ∧ Kp W (w.heap.size + 1) 6 _).2.2.2.2.2.2.below hB (by omega)⟩
  all_goals (first | omega | (have := hB.size; omega))
end Go.Proofs.YtpcefaccoifejaaGreatDoor

namespace Go.Proofs.YtpcefaccoifejaaGreatDoor
open Go.RowKit Go.Maps
set_option linter.unusedSimpArgs false
set_option linter.unusedVariables false
set_option maxRecDepth 100000

theorem grown_of_below {w w' : World} (h : Below w.heap.size w w') (row : Option Nat) : w.grownBy w' row := ⟨h.os, h.tape, h.output, h.size, fun i hi _ => h.block i hi⟩
theorem own_below {w w' : World} {base size n : Nat} {e : TypeId} {v : Value} {ks : List Value} (h : w.ownsRow base e size v n ks) (hb : Below w.heap.size w w') : w'.ownsRow base e size v n ks :=
  h.kept (grown_of_below hb none) (by cases v.ownBlock <;> simp)
/-- rows of two types lie in two blocks -/
theorem own_apart {w : World} {b1 s1 n1 b2 s2 n2 : Nat} {e1 e2 : TypeId} {v1 v2 : Value} {k1 k2 : List Value} (h1 : w.ownsRow b1 e1 s1 v1 n1 k1) (h2 : w.ownsRow b2 e2 s2 v2 n2 k2) (hne : e1 ≠ e2) : v1.ownBlock = none ∨ v1.ownBlock ≠ v2.ownBlock := by
  rcases h1.2 with ⟨rfl, _⟩ | ⟨g, cap, cur, rfl, -, hg, -⟩
  · exact .inl rfl
  · rcases h2.2 with ⟨rfl, _⟩ | ⟨g2, cap2, cur2, rfl, -, hg2, -⟩
    · exact .inr (by simp [Value.ownBlock])
    · refine .inr fun e => ?_
      simp only [Value.ownBlock, Option.some.injEq] at e
      subst e
      rw [hg] at hg2
      injection hg2 with hg2
      injection hg2 with _ x
      exact hne x
theorem newCells (w : World) (l : List Value) (T : TypeId) : ∀ j u, l[j]? = some u → (w.alloc (.cells l.toArray T)).cell? ((⟨w.heap.size, 0, none⟩ : Addr).add j) = some u := by
  intro j u hu
  have hadd : (⟨w.heap.size, 0, none⟩ : Addr).add j = ⟨w.heap.size, j, none⟩ := by unfold Addr.add; split <;> simp_all
  rw [hadd, cell_of_row _ _ _ _ _ _ (heap_alloc_new w _)]
  simpa using hu

def ftFlat (fs : List Ft) (vs : List Value) : List Value := (fs.zip vs).flatMap fun x => ftV x.1.1 x.2
theorem ftFlat_snoc {fs : List Ft} {vs : List Value} (f : Ft) (v : Value) (h : vs.length = fs.length) : ftFlat (fs ++ [f]) (vs ++ [v]) = ftFlat fs vs ++ ftV f.1 v := by
  unfold ftFlat
  rw [List.zip_append h.symm]
  simp
/-- features in memory of the call's own, from block lo on -/
def OwnFeats (w : World) (lo : Nat) (v : Value) (fs : List Ft) : Prop :=
  ∃ vs : List Value, vs.length = fs.length ∧ w.ownsRow lo 47 6 v fs.length (ftFlat fs vs) ∧
    ∀ i, i < fs.length → w.ownsRow lo 41 2 (vs.getD i default) (ftAt fs i).2.length ((ftAt fs i).2.flatMap optV)
theorem OwnFeats.nil (w : World) (lo : Nat) : OwnFeats w lo (.slice none 0 0) [] := ⟨[], rfl, World.ownsRow_nil _ _ _ _, fun i hi => by cases hi⟩
theorem OwnFeats.below {w w' : World} {lo : Nat} {v : Value} {fs : List Ft} (h : OwnFeats w lo v fs) (hb : Below w.heap.size w w') : OwnFeats w' lo v fs := by
  obtain ⟨vs, h1, h2, h3⟩ := h
  exact ⟨vs, h1, own_below h2 hb, fun i hi => own_below (h3 i hi) hb⟩
theorem OwnFeats.low {w : World} {lo lo' : Nat} {v : Value} {fs : List Ft} (h : OwnFeats w lo v fs) (hl : lo' ≤ lo) : OwnFeats w lo' v fs := by
  obtain ⟨vs, h1, h2, h3⟩ := h
  exact ⟨vs, h1, own_low h2 hl, fun i hi => own_low (h3 i hi) hl⟩
/-- one more -/
theorem OwnFeats.snoc {w w' : World} {lo : Nat} {v v' ov : Value} {fs : List Ft} {vs : List Value} {f : Ft} (hl : vs.length = fs.length)
    (h3 : ∀ i, i < fs.length → w.ownsRow lo 41 2 (vs.getD i default) (ftAt fs i).2.length ((ftAt fs i).2.flatMap optV)) (ho : w.ownsRow lo 41 2 ov f.2.length (f.2.flatMap optV))
    {n : Nat} {ks : List Value} (hv : w.ownsRow lo 47 6 v n ks) (hg : w.grownBy w' v.ownBlock) (hv' : w'.ownsRow lo 47 6 v' (fs.length + 1) (ftFlat fs vs ++ ftV f.1 ov)) : OwnFeats w' lo v' (fs ++ [f]) := by
  have hk : ∀ {ov : Value} {n : Nat} {ks : List Value}, w.ownsRow lo 41 2 ov n ks → w'.ownsRow lo 41 2 ov n ks := fun h => h.kept hg (own_apart h hv (by decide))
  refine ⟨vs ++ [ov], by simp [hl], ?_, fun i hi => ?_⟩
  · rw [ftFlat_snoc f ov hl, List.length_append]
    exact hv'
  · simp only [List.length_append, List.length_cons, List.length_nil] at hi
    by_cases h : i < fs.length
    · have e1 : (vs ++ [ov]).getD i default = vs.getD i default := by
        rw [List.getD_eq_getElem?_getD, List.getElem?_append_left (by omega), ← List.getD_eq_getElem?_getD]
      have e2 : ftAt (fs ++ [f]) i = ftAt fs i := by
        unfold ftAt
        rw [List.getD_eq_getElem?_getD, List.getElem?_append_left h, ← List.getD_eq_getElem?_getD]
      rw [e1, e2]
      exact hk (h3 i h)
    · have hi' : i = fs.length := by omega
      subst hi'
      have e1 : (vs ++ [ov]).getD fs.length default = ov := by
        rw [List.getD_eq_getElem?_getD, ← hl]
        simp
      have e2 : ftAt (fs ++ [f]) fs.length = f := by
        unfold ftAt
        rw [List.getD_eq_getElem?_getD]
        simp
      rw [e1, e2]
      exact hk ho
/-- what is owned can be read -/
theorem OwnFeats.feats {w : World} {lo : Nat} {v : Value} {fs : List Ft} (h : OwnFeats w lo v fs) : FeatsAt w lo w.heap.size v fs := by
  obtain ⟨vs, h1, h2, h3⟩ := h
  have hz : (fs.zip vs).length = fs.length := by rw [List.length_zip, h1, Nat.min_self]
  have h2' : w.ownsRow lo 47 6 v (fs.zip vs).length ((fs.zip vs).flatMap fun x => ftV x.1.1 x.2) := by rw [hz]; exact h2
  obtain ⟨a, cap, e, z, r⟩ := row_of_own (enc := fun x : Ft × Value => ftV x.1.1 x.2) (fun _ => rfl) h2'
  rw [hz] at e r
  refine ⟨a, cap, fun i => vs.getD i default, e, z, r.congr fun i hi => ?_, fun i hi => opts_of_own (h3 i hi)⟩
  have e1 : (fs.zip vs).getD i default = (ftAt fs i, vs.getD i default) := by
    unfold ftAt
    rw [List.getD_eq_getElem?_getD, List.getElem?_eq_getElem (by omega), List.getD_eq_getElem?_getD, List.getD_eq_getElem?_getD, List.getElem?_eq_getElem hi, List.getElem?_eq_getElem (by omega)]
    simp
  rw [e1]
theorem infoFt : Tryz.prog.info? 47 = some Tryz.t47 := by kernel_rfl
theorem take_snoc {α : Type} {l : List α} {k : Nat} (h : k < l.length) : l.take (k + 1) = l.take k ++ [l[k]] := by
  rw [List.take_add_one, List.getElem?_eq_getElem h]
  rfl
theorem ftAt_take {fs : List Ft} {k i : Nat} (h : i < k) : ftAt (fs.take k) i = ftAt fs i := by
  unfold ftAt
  rw [List.getD_eq_getElem?_getD, List.getElem?_take, if_pos h, ← List.getD_eq_getElem?_getD]

set_option maxHeartbeats 1000000 in
theorem CopyFeatures_c (v : Value) (fs : List Ft) (lo hi : Nat) (w : World) (h : FeatsAt w lo hi v fs) (hh : hi ≤ w.heap.size) (hl : fs.length ≤ 20000) (hw : wfFs fs) :
    Calls Tryz.prog 39 #[v] w fun e w' => ∃ v', e = .returned v' ∧ OwnFeats w' w.heap.size v' fs ∧ Below w.heap.size w w' := by
  obtain ⟨a, cap, vs, rfl, -, hr, ho⟩ := h
  have HR := Lib.hid hr
  have HO := Lib.hid ho
  have HW := Lib.hid hw
  have hI := Lib.hid infoFt
  obtain ⟨n, hn⟩ : ∃ n, fs.length = n := ⟨_, rfl⟩
  have HN := Lib.hid hn
  rw [hn] at hl ⊢
  clear hr ho hw hn
  go_enter Tryz.func39, Tryz.ntmps39
  go_wp2
  go_loopw [3, 4] (fun o i wr => ∃ (k : Nat) (pa : Option Addr) (pc : Nat), k ≤ n ∧ i = .int .i64 (k : Int) ∧ o = .slice pa k pc ∧ OwnFeats wr w.heap.size (.slice pa k pc) (fs.take k) ∧ Below w.heap.size w wr)
    (fun o i wr => n - (intOf i).toNat)
  case atStart => exact ⟨0, none, 0, Nat.zero_le _, rfl, rfl, by rw [List.take_zero]; exact OwnFeats.nil _ _, Below.refl _ _⟩
  case round =>
    obtain ⟨k, pa, pc, hkn, rfl, rfl, hof, hB⟩ := hrel
    by_cases hk : k < n
    · have hkf : k < fs.length := by rw [HN.out]; exact hk
      obtain ⟨b, off, rfl, hb1, hb2, hc⟩ := HR.out (by rw [HN.out]; omega)
      have hcw : ∀ j u, (ftV (ftAt fs k).1 (vs k))[j]? = some u → wr.cell? ⟨b, off + k * 6 + j, none⟩ = some u := fun j u hu => (hB.cell (p := ⟨b, off + k * 6 + j, none⟩) (show b < w.heap.size by omega)).trans (hc k hkf j u hu)
      have HOk := HO.out k hkf
      have hwk := HW.out _ (ftAt_mem hkf)
      have hft : fs.take (k + 1) = fs.take k ++ [ftAt fs k] := by rw [take_snoc hkf, ftAt_get hkf]
      have HFT := Lib.hid hft
      generalize ftAt fs k = f at *
      obtain ⟨⟨p1, p2, p3, p4, p5⟩, os⟩ := f
      have HC := Lib.hid fun W (hb : Below w.heap.size w W) => CopyFeature_c p1 p2 p3 p4 p5 (vs k) os lo hi W (HOk.move (Same.of_below (hb.mono hh))) (Nat.le_trans hh hb.size) hwk.2.2
      generalize vs k = vk at *
      have c0 := hcw 0 _ rfl
      have c1 := hcw 1 _ rfl
      have c2 := hcw 2 _ rfl
      have c3 := hcw 3 _ rfl
      have c4 := hcw 4 _ rfl
      have c5 := hcw 5 _ rfl
      simp only [Nat.add_zero] at c0
      have hk0 : (0 : Int) ≤ k := by omega
      have hk1 : (k : Int) < n := by omega
      obtain ⟨ws, hwl, hrow, hopt⟩ := hof
      have hlen : (fs.take k).length = k := by rw [List.length_take]; omega
      rw [hlen] at hwl hrow
      have hs := hB.size
      have HB := Lib.hid hB
      clear hcw hft HOk hwk hB
      go_wp2_with fail
      refine (HC.out _ HB.out).mono ?_
      rintro r w3 ⟨v', rfl, hov, hb3⟩
      obtain ⟨oa, oc, rfl⟩ := own_shape hov
      have hs3 := hb3.size
      have HO3 := Lib.hid (own_below hrow hb3)
      have HP3 := Lib.hid fun i hi => own_below (hopt i hi) hb3
      have HV3 := Lib.hid (own_low hov hs)
      have HB3 := Lib.hid (below_step HB.out hb3)
      clear hrow hopt hov hb3 c0 c1 c2 c3 c4 c5 hs
      have hs3' : w.heap.size ≤ w3.heap.size := HB3.out.size
      go_wp2_with (at_builtin; go_loud (refine wpList_append_own _ rfl (.tmp 11) (.tmp 17) _ rfl w.heap.size 47 Tryz.t47 _ 6 64 rfl hI.out rfl rfl rfl rfl (by omega) (.slice pa k pc) k _ rfl (HO3.out.alloc _) ⟨w3.heap.size, 0, none⟩ 1 1 (ftV (p1, p2, p3, p4, p5) (.slice oa os.length oc)) rfl rfl (newCells _ _ _) (by simp [ftV, Value.oneCell']) (by simp only [maxLen]; omega) (by omega) (by simp; omega) ?_); intro v' w' hao hag hn)
      obtain ⟨ga, gc, rfl⟩ := own_shape hao
      have HF' := Lib.hid (OwnFeats.snoc (f := ((p1, p2, p3, p4, p5), os)) (by rw [hlen]; exact hwl) (fun i hi => (HP3.out i hi).alloc _) (HV3.out.alloc _) (HO3.out.alloc _) hag (by rw [hlen]; exact hao))
      have HB' := Lib.hid (((HB3.out.alloc hs3' _).grown hag (by simp; omega) (fun j hj => (HO3.out.lt j hj).1)))
      clear hao hag hn
      go_wp2_with fail
      go_roundw
      case rel => exact ⟨k + 1, ga, gc, by omega, by go_num, rfl, by rw [HFT.out]; exact HF'.out, HB'.out⟩
      case measure => simp [intOf]; omega
    · have hk' : k = n := by omega
      subst hk'
      go_wp2
      go_ret
      rw [← HN.out, List.take_length] at hof
      exact ⟨_, rfl, by rw [HN.out] at hof; exact hof, hB⟩
end Go.Proofs.YtpcefaccoifejaaGreatDoor

namespace Go.Proofs.YtpcefaccoifejaaGreatDoor
open Go.RowKit Go.Maps
set_option linter.unusedSimpArgs false
set_option linter.unusedVariables false
set_option maxRecDepth 100000

theorem below_drewN {w w' : World} (h : Below w.heap.size w w') (q : Nat) : Below w.heap.size w (w'.drewN q) := ⟨h.os, h.tape, h.output, h.size, h.block⟩
theorem list_ext_at {α : Type} [Inhabited α] {xs ys : List α} (hl : xs.length = ys.length) (h : ∀ i, i < xs.length → xs.getD i default = ys.getD i default) : xs = ys := by
  apply List.ext_getElem hl
  intro i h1 h2
  have := h i h1
  rw [List.getD_eq_getElem?_getD, List.getD_eq_getElem?_getD, List.getElem?_eq_getElem h1, List.getElem?_eq_getElem h2] at this
  exact this
set_option maxHeartbeats 1000000 in
theorem SameOptions_c (va vb : Value) (xs ys : List Opt) (lo hi lo2 hi2 : Nat) (w : World) (ha : OptsAt w lo hi va xs) (hb : OptsAt w lo2 hi2 vb ys) (hh : hi ≤ w.heap.size) (hh2 : hi2 ≤ w.heap.size) (hlx : xs.length ≤ 1000000) :
    Calls Tryz.prog 27 #[va, vb] w fun e w' => e = .returned (.bool (decide (xs = ys))) ∧ Below w.heap.size w w' := by
  obtain ⟨a, ca, rfl, -, ra⟩ := ha
  obtain ⟨b, cb, rfl, -, rb⟩ := hb
  by_cases hl : xs.length = ys.length
  · have HL := Lib.hid hl
    have RA := Lib.hid ra
    have RB := Lib.hid rb
    rw [← hl]
    obtain ⟨n, hn⟩ : ∃ n, xs.length = n := ⟨_, rfl⟩
    have HN := Lib.hid hn
    rw [hn] at hlx ⊢
    clear ra rb hl hn
    go_enter Tryz.func27, Tryz.ntmps27
    go_wp2
    go_loopw [5] (fun i wr => ∃ (k : Nat), k ≤ n ∧ i = .int .i64 (k : Int) ∧ (∀ j, j < k → optAt xs j = optAt ys j) ∧ Below w.heap.size w wr) (fun i wr => n - (intOf i).toNat)
    case atStart => exact ⟨0, Nat.zero_le _, rfl, fun j hj => absurd hj (Nat.not_lt_zero _), Below.refl _ _⟩
    case round =>
      obtain ⟨k, hkn, rfl, heq, hB⟩ := hrel
      have HE := Lib.hid heq
      clear heq
      by_cases hk : k < n
      · obtain ⟨ba, oa, rfl, ha1, ha2, hca⟩ := RA.out (by rw [HN.out]; omega)
        obtain ⟨bb, ob, rfl, hb1, hb2, hcb⟩ := RB.out (by rw [← HL.out, HN.out]; omega)
        have c0 : wr.cell? ⟨ba, oa + k * 2, none⟩ = some (.int .i64 (optAt xs k).1) := (hB.cell (p := ⟨ba, _, none⟩) (show ba < _ by omega)).trans (hca k (by rw [HN.out]; exact hk) 0 _ rfl)
        have c1 : wr.cell? ⟨ba, oa + k * 2 + 1, none⟩ = some (.int .i64 (optAt xs k).2) := (hB.cell (p := ⟨ba, _, none⟩) (show ba < _ by omega)).trans (hca k (by rw [HN.out]; exact hk) 1 _ rfl)
        have d0 : wr.cell? ⟨bb, ob + k * 2, none⟩ = some (.int .i64 (optAt ys k).1) := (hB.cell (p := ⟨bb, _, none⟩) (show bb < _ by omega)).trans (hcb k (by rw [← HL.out, HN.out]; exact hk) 0 _ rfl)
        have d1 : wr.cell? ⟨bb, ob + k * 2 + 1, none⟩ = some (.int .i64 (optAt ys k).2) := (hB.cell (p := ⟨bb, _, none⟩) (show bb < _ by omega)).trans (hcb k (by rw [← HL.out, HN.out]; exact hk) 1 _ rfl)
        have hk0 : (0 : Int) ≤ k := by omega
        have hk1 : (k : Int) < n := by omega
        have HB := Lib.hid hB
        have HX : Hid (optAt xs k = ((optAt xs k).1, (optAt xs k).2) ∧ optAt ys k = ((optAt ys k).1, (optAt ys k).2)) := ⟨rfl, rfl⟩
        clear hca hcb hB
        generalize (optAt xs k).1 = x1 at *
        generalize (optAt xs k).2 = x2 at *
        generalize (optAt ys k).1 = y1 at *
        generalize (optAt ys k).2 = y2 at *
        by_cases hxy : (x1, x2) = (y1, y2)
        · have he : ∀ w, (Op.equalIn 10000 41 (.agg #[.int .i64 x1, .int .i64 x2]) (.agg #[.int .i64 y1, .int .i64 y2])).run Tryz.prog w = .ok true w := fun w => by rw [ein_opt, decide_eq_true hxy]
          have HXY := Lib.hid hxy
          clear hxy
          go_wp2_with fail
          go_quiet (fail)
          go_wp2
          go_roundw
          case rel => exact ⟨k + 1, by omega, by go_num, fun j hj => by
            rcases Nat.lt_succ_iff_lt_or_eq.1 hj with h | rfl
            · exact HE.out j h
            · rw [HX.out.1, HX.out.2]; exact HXY.out, below_drewN HB.out _⟩
          case measure => simp [intOf]; omega
        · have he : ∀ w, (Op.equalIn 10000 41 (.agg #[.int .i64 x1, .int .i64 x2]) (.agg #[.int .i64 y1, .int .i64 y2])).run Tryz.prog w = .ok false w := fun w => by rw [ein_opt, decide_eq_false hxy]
          have HXY := Lib.hid hxy
          clear hxy
          go_wp2_with fail
          go_quiet (fail)
          go_wp2
          go_ret
          refine ⟨?_, below_drewN HB.out _⟩
          rw [decide_eq_false (fun e => HXY.out (HX.out.1.symm.trans ((congrArg (optAt · k) e).trans HX.out.2)))]
          rfl
      · have hk' : k = n := by omega
        subst hk'
        go_wp2
        go_ret
        refine ⟨?_, hB⟩
        rw [decide_eq_true (list_ext_at HL.out (fun i hi => HE.out i (by rw [← HN.out]; exact hi)))]
        rfl
  · have hne : ¬ ((xs.length : Int) = (ys.length : Int)) := by omega
    have hd : decide (xs = ys) = false := decide_eq_false (fun e => hl (by rw [e]))
    rw [hd]
    clear hd hl ra rb
    generalize xs.length = n at *
    generalize ys.length = m at *
    go_enter Tryz.func27, Tryz.ntmps27
    go_wp2
    go_ret
    exact ⟨rfl, Below.refl _ _⟩
end Go.Proofs.YtpcefaccoifejaaGreatDoor

namespace Go.Proofs.YtpcefaccoifejaaGreatDoor
open Go.RowKit Go.Maps
set_option linter.unusedSimpArgs false
set_option linter.unusedVariables false
set_option maxRecDepth 100000

theorem infoAct : Tryz.prog.info? 60 = some Tryz.t60 := by kernel_rfl
theorem acV_one (l : List Ac) : ∀ u ∈ l.flatMap acV, u.oneCell' = true := by
  intro u hu
  obtain ⟨o, _, ho⟩ := List.mem_flatMap.1 hu
  simp only [acV, List.mem_cons, List.not_mem_nil, or_false] at ho
  rcases ho with rfl | rfl | rfl | rfl | rfl | rfl | rfl <;> rfl
theorem CloneO_c (v : Value) (os : List Opt) (lo hi : Nat) (w : World) (h : OptsAt w lo hi v os) (hl : os.length ≤ 1000000) :
    Calls Tryz.prog 65 #[v] w fun e w' => ∃ v', e = .returned v' ∧ w'.ownsRow w.heap.size 41 2 v' os.length (os.flatMap optV) ∧ Below w.heap.size w w' := by
  obtain ⟨a, cap, rfl, hz, hr⟩ := h
  have q22 : ∀ (w : World) (a : Option Addr) (n c n' c' : Nat), (binOp .eql 45 (.slice a n c) (.slice none n' c')).run Tryz.prog w = .ok (.bool a.isNone) w := fun w a n c n' c' => Lib.run_eql_slice_nil w _ _ a n c n' c' Tryz.underlying45
  cases a with
  | none =>
    have hn : os = [] := by
      cases os with
      | nil => rfl
      | cons o r =>
        obtain ⟨b, off, hb, _⟩ := hr (by simp)
        cases hb
    obtain rfl := hz rfl
    subst hn
    clear hr hz
    go_enter Tryz.func65, Tryz.ntmps65
    go_wp2
    go_ret
    exact ⟨_, rfl, World.ownsRow_nil _ _ _ _, Below.refl _ _⟩
  | some ad =>
    have hc : Hid (∀ j u, (os.flatMap optV)[j]? = some u → w.cell? (ad.add j) = some u) := by
      intro j u hu
      cases os with
      | nil => simp at hu
      | cons o r =>
        obtain ⟨b, off, hb, _, _, h3⟩ := hr (by simp)
        injection hb with hb
        subst hb
        exact flat_cells optV_len (by decide) h3 j u hu
    have hca : Hid (∀ (W : World), Below w.heap.size w W → ∀ j u, (os.flatMap optV)[j]? = some u → W.cell? (ad.add j) = some u) := fun W hb j u hu => by
      have hx := hc.out j u hu
      exact (hb.cell (World.block_lt_of_cell? w _ hx)).trans hx
    have hf := flatMap_len optV 2 optV_len os
    have h1 := Lib.hid (optV_one os)
    have hI := Lib.hid infoOpt
    generalize os.flatMap optV = ks at *
    generalize os.length = n at *
    clear hr hz hc
    go_enter Tryz.func65, Tryz.ntmps65
    go_wp2_with (at_builtin; go_loud (refine wpList_append_own _ rfl (.tmp 5) (.tmp 6) _ rfl w.heap.size 41 Tryz.t41 _ 2 16 rfl hI.out rfl rfl rfl rfl (by omega) (.slice (some ⟨w.heap.size, 0, none⟩) 0 0) 0 [] rfl (World.ownsRow_made w #[] 0 (Nat.le_refl _) (Nat.zero_le _) (by simp)) ad n cap ks rfl hf (hca.out _ (by go_grown)) h1.out (by simp only [maxLen]; omega) (by omega) (by simp) ?_); intro v' w' ho hg hn)
    go_ret
    rw [Nat.zero_add, List.nil_append] at ho
    exact ⟨_, rfl, ho, ((Below.refl _ _).alloc (Nat.le_refl _) _).grown hg (by simp) (fun j hj => by simp [Value.ownBlock] at hj; omega)⟩
theorem CloneA_c (v : Value) (os : List Ac) (lo hi : Nat) (w : World) (h : ActsAt w lo hi v os) (hl : os.length ≤ 1000000) :
    Calls Tryz.prog 50 #[v] w fun e w' => ∃ v', e = .returned v' ∧ w'.ownsRow w.heap.size 60 7 v' os.length (os.flatMap acV) ∧ Below w.heap.size w w' := by
  obtain ⟨a, cap, rfl, hz, hr⟩ := h
  have q22 : ∀ (w : World) (a : Option Addr) (n c n' c' : Nat), (binOp .eql 27 (.slice a n c) (.slice none n' c')).run Tryz.prog w = .ok (.bool a.isNone) w := fun w a n c n' c' => Lib.run_eql_slice_nil w _ _ a n c n' c' Tryz.underlying27
  cases a with
  | none =>
    have hn : os = [] := by
      cases os with
      | nil => rfl
      | cons o r =>
        obtain ⟨b, off, hb, _⟩ := hr (by simp)
        cases hb
    obtain rfl := hz rfl
    subst hn
    clear hr hz
    go_enter Tryz.func50, Tryz.ntmps50
    go_wp2
    go_ret
    exact ⟨_, rfl, World.ownsRow_nil _ _ _ _, Below.refl _ _⟩
  | some ad =>
    have hc : Hid (∀ j u, (os.flatMap acV)[j]? = some u → w.cell? (ad.add j) = some u) := by
      intro j u hu
      cases os with
      | nil => simp at hu
      | cons o r =>
        obtain ⟨b, off, hb, _, _, h3⟩ := hr (by simp)
        injection hb with hb
        subst hb
        exact flat_cells acV_len (by decide) h3 j u hu
    have hca : Hid (∀ (W : World), Below w.heap.size w W → ∀ j u, (os.flatMap acV)[j]? = some u → W.cell? (ad.add j) = some u) := fun W hb j u hu => by
      have hx := hc.out j u hu
      exact (hb.cell (World.block_lt_of_cell? w _ hx)).trans hx
    have hf := flatMap_len acV 7 acV_len os
    have h1 := Lib.hid (acV_one os)
    have hI := Lib.hid infoAct
    generalize os.flatMap acV = ks at *
    generalize os.length = n at *
    clear hr hz hc
    go_enter Tryz.func50, Tryz.ntmps50
    go_wp2_with (at_builtin; go_loud (refine wpList_append_own _ rfl (.tmp 5) (.tmp 6) _ rfl w.heap.size 60 Tryz.t60 _ 7 56 rfl hI.out rfl rfl rfl rfl (by omega) (.slice (some ⟨w.heap.size, 0, none⟩) 0 0) 0 [] rfl (World.ownsRow_made w #[] 0 (Nat.le_refl _) (Nat.zero_le _) (by simp)) ad n cap ks rfl hf (hca.out _ (by go_grown)) h1.out (by simp only [maxLen]; omega) (by omega) (by simp) ?_); intro v' w' ho hg hn)
    go_ret
    rw [Nat.zero_add, List.nil_append] at ho
    exact ⟨_, rfl, ho, ((Below.refl _ _).alloc (Nat.le_refl _) _).grown hg (by simp) (fun j hj => by simp [Value.ownBlock] at hj; omega)⟩
/-- all old blocks but the one that may be appended to are as they were in W -/
def Kg (W : World) (row : Option Nat) (w' : World) : Prop := W.grownBy w' row
section
variable {W w1 w2 : World} {row : Option Nat}
theorem Kg.cell (h : Kg W row w1) {b o : Nat} {u : Value} (hc : W.cell? ⟨b, o, none⟩ = some u) (hn : some b ≠ row) : w1.cell? ⟨b, o, none⟩ = some u := World.grownBy.cell h hc hn
theorem Kg.drew (W : World) (row : Option Nat) : Kg W row W.drew := ⟨rfl, rfl, rfl, Nat.le_refl _, fun _ _ _ => rfl⟩
theorem Kg.call (h : Kg W row w2) (hb : Below w2.heap.size w2 w1) : Kg W row w1 :=
  ⟨hb.os.trans h.os, hb.tape.trans h.tape, hb.output.trans h.output, Nat.le_trans h.size hb.size, fun i hi hn => (hb.block i (Nat.lt_of_lt_of_le hi h.size)).trans (h.block i hi hn)⟩
theorem Kg.alloc (h : Kg W row w2) (o : Obj) : Kg W row (w2.alloc o) := h.call ((Below.refl _ _).alloc (Nat.le_refl _) o)
theorem Kg.grown (h : Kg W row w2) (hg : w2.grownBy w1 row) : Kg W row w1 :=
  ⟨hg.os.trans h.os, hg.tape.trans h.tape, hg.output.trans h.output, Nat.le_trans h.size hg.size, fun i hi hn => (hg.block i (Nat.lt_of_lt_of_le hi h.size) hn).trans (h.block i hi hn)⟩
end
set_option maxHeartbeats 1000000 in
theorem copied_c (v : Value) (fs : List Ft) (lo hi : Nat) (w : World) (h : FeatsAt w lo hi v fs) (hh : hi ≤ w.heap.size) (hl : fs.length ≤ 20000) (hw : wfFs fs) :
    Calls Tryz.prog 36 #[v] w fun e w' => ∃ v', e = .returned v' ∧ OwnFeats w' w.heap.size v' fs ∧ Below w.heap.size w w' := by
  obtain ⟨a, cap, vs, rfl, -, hr, ho⟩ := h
  have HR := Lib.hid hr
  have HO := Lib.hid ho
  have HW := Lib.hid hw
  have hI := Lib.hid infoFt
  obtain ⟨n, hn⟩ : ∃ n, fs.length = n := ⟨_, rfl⟩
  have HN := Lib.hid hn
  rw [hn] at hl ⊢
  clear hr ho hw hn
  go_enter Tryz.func36, Tryz.ntmps36
  go_wp2
  go_loopw [3, 8] (fun o i wr => ∃ (k : Nat) (pa : Option Addr) (pc : Nat), k ≤ n ∧ i = .int .i64 (k : Int) ∧ o = .slice pa k pc ∧ OwnFeats wr w.heap.size (.slice pa k pc) (fs.take k) ∧ Below w.heap.size w wr)
    (fun o i wr => n - (intOf i).toNat)
  case atStart => exact ⟨0, none, 0, Nat.zero_le _, rfl, rfl, by rw [List.take_zero]; exact OwnFeats.nil _ _, Below.refl _ _⟩
  case round =>
    obtain ⟨k, pa, pc, hkn, rfl, rfl, hof, hB⟩ := hrel
    by_cases hk : k < n
    · have hkf : k < fs.length := by rw [HN.out]; exact hk
      obtain ⟨b, off, rfl, hb1, hb2, hc⟩ := HR.out (by rw [HN.out]; omega)
      have hcw : ∀ j u, (ftV (ftAt fs k).1 (vs k))[j]? = some u → wr.cell? ⟨b, off + k * 6 + j, none⟩ = some u := fun j u hu => (hB.cell (p := ⟨b, off + k * 6 + j, none⟩) (show b < w.heap.size by omega)).trans (hc k hkf j u hu)
      have HOk := HO.out k hkf
      have hwk := HW.out _ (ftAt_mem hkf)
      have hft : fs.take (k + 1) = fs.take k ++ [ftAt fs k] := by rw [take_snoc hkf, ftAt_get hkf]
      have HFT := Lib.hid hft
      generalize ftAt fs k = f at *
      obtain ⟨⟨p1, p2, p3, p4, p5⟩, os⟩ := f
      have HC := Lib.hid fun W (hb : Below w.heap.size w W) => CloneO_c (vs k) os lo hi W (HOk.move (Same.of_below (hb.mono hh))) hwk.2.2
      obtain ⟨va, vc, hv, -⟩ := HOk
      rw [hv] at HC hcw
      have c0 := hcw 0 _ rfl
      have c1 := hcw 1 _ rfl
      have c2 := hcw 2 _ rfl
      have c3 := hcw 3 _ rfl
      have c4 := hcw 4 _ rfl
      have c5 := hcw 5 _ rfl
      simp only [Nat.add_zero] at c0
      have hk0 : (0 : Int) ≤ k := by omega
      have hk1 : (k : Int) < n := by omega
      obtain ⟨ws, hwl, hrow, hopt⟩ := hof
      have hlen : (fs.take k).length = k := by rw [List.length_take]; omega
      rw [hlen] at hwl hrow
      have hs := hB.size
      have HB := Lib.hid hB
      have HRW := Lib.hid hrow
      have HOP := Lib.hid hopt
      clear hcw hft hwk hB hrow hopt hv
      go_wp2_with fail
      refine wp_named fun W hW => ?_
      have k0 : W.cell? ⟨wr.heap.size, 0, none⟩ = some (.int .i64 p1) := by rw [hW]; go_simp
      have k1 : W.cell? ⟨wr.heap.size, 1, none⟩ = some (.int .i64 p2) := by rw [hW]; go_simp
      have k2 : W.cell? ⟨wr.heap.size, 2, none⟩ = some (.int .i64 p3) := by rw [hW]; go_simp
      have k3 : W.cell? ⟨wr.heap.size, 3, none⟩ = some (.int .i64 p4) := by rw [hW]; go_simp
      have k4 : W.cell? ⟨wr.heap.size, 4, none⟩ = some (.int .i64 p5) := by rw [hW]; go_simp
      have k5 : W.cell? ⟨wr.heap.size, 5, none⟩ = some (.slice va os.length vc) := by rw [hW]; go_simp
      have hBW : Below wr.heap.size wr W := by rw [hW]; go_grown
      have hne : some wr.heap.size ≠ (Value.slice pa k pc).ownBlock := fun e => by have := (HRW.out.lt _ e.symm).2; omega
      have hzW : wr.heap.size < W.heap.size := by rw [hW]; simp
      clear hW
      have HROW := Lib.hid (own_below HRW.out hBW)
      have HOPT := Lib.hid fun i hi => own_below (HOP.out i hi) hBW
      obtain ⟨row, hrow⟩ : ∃ row, (Value.slice pa k pc).ownBlock = row := ⟨_, rfl⟩
      have HRI := Lib.hid hrow
      rw [hrow] at hne
      clear hrow
      have HS : Hid (∀ w', Kg W row w' → (w'.cell? ⟨wr.heap.size, 0, none⟩ = some (.int .i64 p1) ∧ w'.cell? ⟨wr.heap.size, 1, none⟩ = some (.int .i64 p2) ∧ w'.cell? ⟨wr.heap.size, 2, none⟩ = some (.int .i64 p3) ∧ w'.cell? ⟨wr.heap.size, 3, none⟩ = some (.int .i64 p4) ∧ w'.cell? ⟨wr.heap.size, 4, none⟩ = some (.int .i64 p5) ∧ w'.cell? ⟨wr.heap.size, 5, none⟩ = some (.slice va os.length vc) ∧ Kg W row w')) :=
        fun w' K => ⟨K.cell k0 hne, K.cell k1 hne, K.cell k2 hne, K.cell k3 hne, K.cell k4 hne, K.cell k5 hne, K⟩
      clear k0 k1 k2 k3 k4 k5
      have HBW := Lib.hid (HB.out.trans (hBW.mono hs))
      have hs2 : w.heap.size ≤ W.heap.size := HBW.out.size
      clear hBW
      go_region_held3 (fun w' => w'.cell? ⟨wr.heap.size, 0, none⟩ = some (.int .i64 p1) ∧ w'.cell? ⟨wr.heap.size, 1, none⟩ = some (.int .i64 p2) ∧ w'.cell? ⟨wr.heap.size, 2, none⟩ = some (.int .i64 p3) ∧ w'.cell? ⟨wr.heap.size, 3, none⟩ = some (.int .i64 p4) ∧ w'.cell? ⟨wr.heap.size, 4, none⟩ = some (.int .i64 p5) ∧ w'.cell? ⟨wr.heap.size, 5, none⟩ = some (.slice va os.length vc) ∧ Kg W row w')
        ((refine HS.out _ ?_; with_reducible (first | exact Kg.drew _ _ | assumption | exact Kg.alloc (by assumption) _)))
        (first
          | (go_at_call 65; refine (HC.out _ HBW.out.drew).mono ?_; rintro r w3 ⟨v', rfl, hov, hb3⟩; obtain ⟨oa, oc, rfl⟩ := own_shape hov; have hK3 := (Kg.drew W row).call hb3; have hs3 := hb3.size; have HO3 := Lib.hid (own_below (w := W.drew) HROW.out hb3); have HP3 := Lib.hid fun i hi => own_below (w := W.drew) (HOPT.out i hi) hb3; have HV3 := Lib.hid (own_low hov hs2); have HB3 := Lib.hid (HBW.out.drew.trans (hb3.mono hs2)); clear hov hb3)
          | (rw [if_pos (by rfl)]; (refine wp_append_own _ (.tmp 12) (.tmp 19) _ rfl w.heap.size 47 Tryz.t47 _ 6 64 rfl hI.out rfl rfl rfl rfl (by omega) (.slice pa k pc) k _ rfl (HO3.out.alloc _) ⟨w3.heap.size, 0, none⟩ 1 1 (ftV (p1, p2, p3, p4, p5) (.slice oa os.length oc)) rfl rfl (newCells _ _ _) (by simp [ftV, Value.oneCell']) (by simp only [maxLen]; omega) (by omega) (by simp at hs3 ⊢; omega) ?_); intro v' w' hao hag hn; have hK4 : Kg W row w' := Kg.grown (Kg.alloc hK3 _) (by rw [← HRI.out]; exact hag); obtain ⟨ga, gc, rfl⟩ := own_shape hao))
      have HF' := Lib.hid (OwnFeats.snoc (f := ((p1, p2, p3, p4, p5), os)) (by rw [hlen]; exact hwl) (fun i hi => (HP3.out i hi).alloc _) (HV3.out.alloc _) (HO3.out.alloc _) hag (by rw [hlen]; exact hao))
      have HB' := Lib.hid ((HB3.out.alloc (by simp at hs3; omega) _).grown hag (by simp at hs3 ⊢; omega) (fun j hj => (HO3.out.lt j hj).1))
      clear hao hag hn
      go_wp2_with fail
      go_roundw
      case rel => exact ⟨k + 1, ga, gc, by omega, by go_num, rfl, by rw [HFT.out]; exact HF'.out, HB'.out⟩
      case measure => simp [intOf]; omega
    · have hk' : k = n := by omega
      subst hk'
      go_wp2
      go_ret
      rw [← HN.out, List.take_length] at hof
      exact ⟨_, rfl, by rw [HN.out] at hof; exact hof, hB⟩
end Go.Proofs.YtpcefaccoifejaaGreatDoor

namespace Go.Proofs.YtpcefaccoifejaaGreatDoor
open Go.RowKit Go.Maps
set_option linter.unusedSimpArgs false
set_option linter.unusedVariables false
set_option maxRecDepth 100000

theorem any_no {p : Opt → Bool} {os : List Opt} (h : ∀ j, j < os.length → p (optAt os j) = false) : os.any p = false := by
  rw [List.any_eq_false]
  intro o ho
  obtain ⟨i, hi, rfl⟩ := List.getElem_of_mem ho
  have := h i hi
  rw [optAt_get hi] at this
  simp [this]
theorem any_yes {p : Opt → Bool} {os : List Opt} {j : Nat} (hj : j < os.length) (h : p (optAt os j) = true) : os.any p = true := List.any_eq_true.2 ⟨_, optAt_mem hj, h⟩
def badB (o : Opt) : Bool := decide (o.2 < 0) || decide (10000 < o.2)
theorem New1_c (x y : Int) (w : World) : Calls Tryz.prog 38 #[.agg #[.int .i64 x, .int .i64 y]] w fun e w' => e = .returned (.bool (badB (x, y))) ∧ Below w.heap.size w w' := by
  unfold badB
  simp only
  by_cases h1 : y < 0
  · rw [decide_eq_true h1, Bool.true_or]
    go_enter Tryz.func38, Tryz.ntmps38
    go_wp2
    go_ret
    exact ⟨rfl, by go_grown⟩
  · rw [decide_eq_false h1, Bool.false_or]
    have h1' : 0 ≤ y := by omega
    by_cases h2 : 10000 < y
    · rw [decide_eq_true h2]
      go_enter Tryz.func38, Tryz.ntmps38
      go_wp2
      go_ret
      exact ⟨rfl, by go_grown⟩
    · rw [decide_eq_false h2]
      have h2' : y ≤ 10000 := by omega
      go_enter Tryz.func38, Tryz.ntmps38
      go_wp2
      go_ret
      exact ⟨rfl, by go_grown⟩
theorem mayC1_c (x y v : Int) (B : Nat) (w : World) (hB : w.cell? ⟨B, 0, none⟩ = some (.int .i64 v)) (hb : B < w.heap.size) : Calls Tryz.prog 68 #[.agg #[.int .i64 x, .int .i64 y], .pointer (some ⟨B, 0, none⟩)] w fun e w' => e = .returned (.bool (decide (x = v))) ∧ Below w.heap.size w w' := by
  by_cases h1 : x = v
  · rw [decide_eq_true h1]
    go_enter Tryz.func68, Tryz.ntmps68
    go_wp2
    go_ret
    exact ⟨by simp [h1], by go_grown⟩
  · rw [decide_eq_false h1]
    go_enter Tryz.func68, Tryz.ntmps68
    go_wp2
    go_ret
    exact ⟨by simp [h1], by go_grown⟩

set_option maxHeartbeats 1000000 in
theorem IndexNew_c (v : Value) (os : List Opt) (lo hi : Nat) (w : World) (h : OptsAt w lo hi v os) (hh : hi ≤ w.heap.size) (hl : os.length ≤ 1000000) :
    Calls Tryz.prog 66 #[v, .func (.func 38) #[] #[]] w fun e w' => (∃ r : Int, e = .returned (.int .i64 r) ∧ ((0 ≤ r ∧ os.any badB = true) ∨ (r = -1 ∧ os.any badB = false))) ∧ Below w.heap.size w w' := by
  obtain ⟨a, cap, rfl, -, hr⟩ := h
  have HR := Lib.hid hr
  have HP : Hid (∀ (x y : Int) (W : World), Below w.heap.size w W → Calls Tryz.prog 38 (#[.agg #[.int .i64 x, .int .i64 y]] ++ #[]) W fun e w' => e = .returned (.bool (badB (x, y))) ∧ Below W.heap.size W w') := fun x y W hb => New1_c x y W
  obtain ⟨p, hp⟩ : ∃ p : Opt → Bool, badB = p := ⟨_, rfl⟩
  rw [hp] at HP
  simp only [hp]
  clear hp
  obtain ⟨n, hn⟩ : ∃ n, os.length = n := ⟨_, rfl⟩
  have HN := Lib.hid hn
  rw [hn] at hl ⊢
  clear hr hn 
  go_enter Tryz.func66, Tryz.ntmps66
  go_wp2
  go_loopw [8] (fun i wr => ∃ (k : Nat), k ≤ n ∧ i = .int .i64 (k : Int) ∧ (∀ j, j < k → p (optAt os j) = false) ∧ Below w.heap.size w wr) (fun i wr => n - (intOf i).toNat)
  case atStart => exact ⟨0, Nat.zero_le _, rfl, fun j hj => absurd hj (Nat.not_lt_zero _), Below.refl _ _⟩
  case round =>
    obtain ⟨k, hkn, rfl, heq, hB⟩ := hrel
    have HE := Lib.hid heq
    clear heq
    by_cases hk : k < n
    · have hkx : k < os.length := by rw [HN.out]; exact hk
      obtain ⟨b, off, rfl, h1, h2, hc⟩ := HR.out (by omega)
      have c0 : wr.cell? ⟨b, off + k * 2, none⟩ = some (.int .i64 (optAt os k).1) := (hB.cell (p := ⟨b, _, none⟩) (show b < _ by omega)).trans (hc k hkx 0 _ rfl)
      have c1 : wr.cell? ⟨b, off + k * 2 + 1, none⟩ = some (.int .i64 (optAt os k).2) := (hB.cell (p := ⟨b, _, none⟩) (show b < _ by omega)).trans (hc k hkx 1 _ rfl)
      have HX : Hid (p (optAt os k) = p ((optAt os k).1, (optAt os k).2)) := rfl
      have HC := Lib.hid (HP.out (optAt os k).1 (optAt os k).2 wr hB)
      generalize (optAt os k).1 = x at *
      generalize (optAt os k).2 = y at *
      have hk0 : (0 : Int) ≤ k := by omega
      have hk1 : (k : Int) < n := by omega
      have HB := Lib.hid hB
      clear hc hB
      generalize hpx : p (x, y) = r at *
      go_wp2_with fail
      refine HC.out.mono ?_
      rintro e w3 ⟨rfl, hb3⟩
      have HB3 := Lib.hid (below_step HB.out hb3)
      clear hb3 c0 c1
      cases r
      · go_wp2
        go_roundw
        case rel => exact ⟨k + 1, by omega, by go_num, fun j hj => by
          rcases Nat.lt_succ_iff_lt_or_eq.1 hj with h | rfl
          · exact HE.out j h
          · exact HX.out, HB3.out⟩
        case measure => simp [intOf]; omega
      · go_wp2
        go_ret
        exact ⟨⟨(k : Int), rfl, .inl ⟨hk0, any_yes hkx HX.out⟩⟩, HB3.out⟩
    · have hk' : k = n := by omega
      subst hk'
      go_wp2
      go_ret
      exact ⟨⟨-1, rfl, .inr ⟨rfl, any_no (fun j hj => HE.out j (by rw [← HN.out]; exact hj))⟩⟩, hB⟩
theorem ContainsNew_c (v : Value) (os : List Opt) (lo hi : Nat) (w : World) (h : OptsAt w lo hi v os) (hh : hi ≤ w.heap.size) (hl : os.length ≤ 1000000) :
    Calls Tryz.prog 37 #[v, .func (.func 38) #[] #[]] w fun e w' => e = .returned (.bool (os.any badB)) ∧ Below w.heap.size w w' := by
  have HC := Lib.hid (IndexNew_c v os lo hi w h hh hl)
  obtain ⟨a, cap, rfl, -, -⟩ := h
  generalize os.any badB = r at *
  generalize os.length = n at *
  go_enter Tryz.func37, Tryz.ntmps37
  go_wp2_with fail
  refine HC.out.mono ?_
  rintro e w3 ⟨⟨i, rfl, hi⟩, hb3⟩
  rcases hi with ⟨h0, rfl⟩ | ⟨rfl, rfl⟩
  · go_wp2
    go_ret
    exact ⟨rfl, hb3⟩
  · go_wp2
    go_ret
    exact ⟨rfl, hb3⟩

set_option maxHeartbeats 1000000 in
theorem IndexMay_c (val : Int) (B : Nat) (v : Value) (os : List Opt) (lo hi : Nat) (w : World) (h : OptsAt w lo hi v os) (hh : hi ≤ w.heap.size) (hl : os.length ≤ 1000000) (hB : w.cell? ⟨B, 0, none⟩ = some (.int .i64 val)) (hBs : B < w.heap.size) :
    Calls Tryz.prog 66 #[v, .func (.func 68) #[] #[.pointer (some ⟨B, 0, none⟩)]] w fun e w' => (∃ r : Int, e = .returned (.int .i64 r) ∧ ((0 ≤ r ∧ os.any (fun o : Opt => decide (o.1 = val)) = true) ∨ (r = -1 ∧ os.any (fun o : Opt => decide (o.1 = val)) = false))) ∧ Below w.heap.size w w' := by
  obtain ⟨a, cap, rfl, -, hr⟩ := h
  have HR := Lib.hid hr
  have HP : Hid (∀ (x y : Int) (W : World), Below w.heap.size w W → Calls Tryz.prog 68 (#[.agg #[.int .i64 x, .int .i64 y]] ++ #[.pointer (some ⟨B, 0, none⟩)]) W fun e w' => e = .returned (.bool ((fun o : Opt => decide (o.1 = val)) (x, y))) ∧ Below W.heap.size W w') := fun x y W hb => mayC1_c x y val B W ((hb.cell (p := ⟨B, 0, none⟩) hBs).trans hB) (Nat.lt_of_lt_of_le hBs hb.size)
  obtain ⟨p, hp⟩ : ∃ p : Opt → Bool, (fun o : Opt => decide (o.1 = val)) = p := ⟨_, rfl⟩
  rw [hp] at HP
  simp only [hp]
  clear hp
  obtain ⟨n, hn⟩ : ∃ n, os.length = n := ⟨_, rfl⟩
  have HN := Lib.hid hn
  rw [hn] at hl ⊢
  clear hr hn hB
  go_enter Tryz.func66, Tryz.ntmps66
  go_wp2
  go_loopw [8] (fun i wr => ∃ (k : Nat), k ≤ n ∧ i = .int .i64 (k : Int) ∧ (∀ j, j < k → p (optAt os j) = false) ∧ Below w.heap.size w wr) (fun i wr => n - (intOf i).toNat)
  case atStart => exact ⟨0, Nat.zero_le _, rfl, fun j hj => absurd hj (Nat.not_lt_zero _), Below.refl _ _⟩
  case round =>
    obtain ⟨k, hkn, rfl, heq, hB⟩ := hrel
    have HE := Lib.hid heq
    clear heq
    by_cases hk : k < n
    · have hkx : k < os.length := by rw [HN.out]; exact hk
      obtain ⟨b, off, rfl, h1, h2, hc⟩ := HR.out (by omega)
      have c0 : wr.cell? ⟨b, off + k * 2, none⟩ = some (.int .i64 (optAt os k).1) := (hB.cell (p := ⟨b, _, none⟩) (show b < _ by omega)).trans (hc k hkx 0 _ rfl)
      have c1 : wr.cell? ⟨b, off + k * 2 + 1, none⟩ = some (.int .i64 (optAt os k).2) := (hB.cell (p := ⟨b, _, none⟩) (show b < _ by omega)).trans (hc k hkx 1 _ rfl)
      have HX : Hid (p (optAt os k) = p ((optAt os k).1, (optAt os k).2)) := rfl
      have HC := Lib.hid (HP.out (optAt os k).1 (optAt os k).2 wr hB)
      generalize (optAt os k).1 = x at *
      generalize (optAt os k).2 = y at *
      have hk0 : (0 : Int) ≤ k := by omega
      have hk1 : (k : Int) < n := by omega
      have HB := Lib.hid hB
      clear hc hB
      generalize hpx : p (x, y) = r at *
      go_wp2_with fail
      refine HC.out.mono ?_
      rintro e w3 ⟨rfl, hb3⟩
      have HB3 := Lib.hid (below_step HB.out hb3)
      clear hb3 c0 c1
      cases r
      · go_wp2
        go_roundw
        case rel => exact ⟨k + 1, by omega, by go_num, fun j hj => by
          rcases Nat.lt_succ_iff_lt_or_eq.1 hj with h | rfl
          · exact HE.out j h
          · exact HX.out, HB3.out⟩
        case measure => simp [intOf]; omega
      · go_wp2
        go_ret
        exact ⟨⟨(k : Int), rfl, .inl ⟨hk0, any_yes hkx HX.out⟩⟩, HB3.out⟩
    · have hk' : k = n := by omega
      subst hk'
      go_wp2
      go_ret
      exact ⟨⟨-1, rfl, .inr ⟨rfl, any_no (fun j hj => HE.out j (by rw [← HN.out]; exact hj))⟩⟩, hB⟩
theorem ContainsMay_c (val : Int) (B : Nat) (v : Value) (os : List Opt) (lo hi : Nat) (w : World) (h : OptsAt w lo hi v os) (hh : hi ≤ w.heap.size) (hl : os.length ≤ 1000000) (hB : w.cell? ⟨B, 0, none⟩ = some (.int .i64 val)) (hBs : B < w.heap.size) :
    Calls Tryz.prog 37 #[v, .func (.func 68) #[] #[.pointer (some ⟨B, 0, none⟩)]] w fun e w' => e = .returned (.bool (os.any (fun o : Opt => decide (o.1 = val)))) ∧ Below w.heap.size w w' := by
  have HC := Lib.hid (IndexMay_c val B v os lo hi w h hh hl hB hBs)
  obtain ⟨a, cap, rfl, -, -⟩ := h
  generalize os.any (fun o : Opt => decide (o.1 = val)) = r at *
  generalize os.length = n at *
  go_enter Tryz.func37, Tryz.ntmps37
  go_wp2_with fail
  refine HC.out.mono ?_
  rintro e w3 ⟨⟨i, rfl, hi⟩, hb3⟩
  rcases hi with ⟨h0, rfl⟩ | ⟨rfl, rfl⟩
  · go_wp2
    go_ret
    exact ⟨rfl, hb3⟩
  · go_wp2
    go_ret
    exact ⟨rfl, hb3⟩
end Go.Proofs.YtpcefaccoifejaaGreatDoor
