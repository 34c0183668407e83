/-
  Sessions in plain Lean: features, acts, what is present, and what each operation does. No program in sight; no conditions.
-/
import Derived.Below
namespace Go.Proofs.YtpcefaccoifejaaGreatDoor
open Go.RowKit

/-- a place: five numbers · an option: value and miss · a feature · an act: kind, place, value -/
abbrev Pl := Int × Int × Int × Int × Int
abbrev Opt := Int × Int
abbrev Ft := Pl × List Opt
abbrev Ac := Int × Pl × Int

/-- is there a miss out of its bounds -/
def badO (os : List Opt) : Bool := os.any fun o => decide (o.2 < 0) || decide (10000 < o.2)
/-- the error of one feature behind others -/
def newStep (seen : List Pl) (f : Ft) : Int := if f.2 = [] then 6 else if badO f.2 = true then 8 else if f.1 ∈ seen then 1 else 0
/-- the error of a list of features behind others -/
def newGo : List Pl → List Ft → Int
  | _, [] => 0
  | seen, f :: r => if newStep seen f = 0 then newGo (seen ++ [f.1]) r else newStep seen f
def newE (fs : List Ft) : Int := if 20000 < fs.length then 4 else newGo [] fs

/-- features that a session may have -/
structure Good (fs : List Ft) : Prop where
  len : fs.length ≤ 20000
  some : ∀ f ∈ fs, f.2 ≠ []
  miss : ∀ f ∈ fs, ∀ o ∈ f.2, 0 ≤ o.2 ∧ o.2 ≤ 10000
  apart : (fs.map (·.1)).Nodup

theorem badO_false {os : List Opt} (h : ¬ badO os = true) : ∀ o ∈ os, 0 ≤ o.2 ∧ o.2 ≤ 10000 := by
  intro o ho
  have h' : badO os = false := by simpa using h
  unfold badO at h'
  rw [List.any_eq_false] at h'
  have := h' o ho
  simp only [Bool.or_eq_true, decide_eq_true_eq, not_or, Int.not_lt] at this
  exact this
theorem newGo_good : ∀ (fs : List Ft) (seen : List Pl), newGo seen fs = 0 → seen.Nodup →
    (∀ f ∈ fs, f.2 ≠ []) ∧ (∀ f ∈ fs, ∀ o ∈ f.2, 0 ≤ o.2 ∧ o.2 ≤ 10000) ∧ (seen ++ fs.map (·.1)).Nodup
  | [], seen, _, hs => ⟨by simp, by simp, by simpa using hs⟩
  | f :: r, seen, h, hs => by
    unfold newGo at h
    have h0 : newStep seen f = 0 := by
      by_cases e : newStep seen f = 0
      · exact e
      · rw [if_neg e] at h; exact absurd h e
    rw [if_pos h0] at h
    unfold newStep at h0
    have n1 : f.2 ≠ [] := fun e => by rw [if_pos e] at h0; cases h0
    rw [if_neg n1] at h0
    have n2 : ¬ badO f.2 = true := fun e => by rw [if_pos e] at h0; cases h0
    rw [if_neg n2] at h0
    have n3 : f.1 ∉ seen := fun e => by rw [if_pos e] at h0; cases h0
    obtain ⟨a, b, c⟩ := newGo_good r (seen ++ [f.1]) h (List.nodup_append.2 ⟨hs, by simp, fun x hx y hy => by
      simp only [List.mem_cons, List.not_mem_nil, or_false] at hy
      subst hy
      exact fun e => n3 (e ▸ hx)⟩)
    refine ⟨?_, ?_, by simpa using c⟩
    · intro g hg
      rcases List.mem_cons.1 hg with rfl | hg
      · exact n1
      · exact a g hg
    · intro g hg
      rcases List.mem_cons.1 hg with rfl | hg
      · exact badO_false n2
      · exact b g hg
theorem good_of_newE {fs : List Ft} (h : newE fs = 0) : Good fs := by
  unfold newE at h
  by_cases hl : 20000 < fs.length
  · rw [if_pos hl] at h; cases h
  · rw [if_neg hl] at h
    obtain ⟨a, b, c⟩ := newGo_good fs [] h (by simp)
    exact ⟨by omega, a, b, by simpa using c⟩

/-- the index of the feature with a place -/
def atF : List Ft → Pl → Option Nat
  | [], _ => none
  | f :: r, p => if f.1 = p then some 0 else (atF r p).map (· + 1)
theorem atF_some {p : Pl} : ∀ {fs : List Ft} {i : Nat}, atF fs p = some i → ∃ h : i < fs.length, fs[i].1 = p
  | [], i, h => by cases h
  | f :: r, i, h => by
    unfold atF at h
    by_cases e : f.1 = p
    · rw [if_pos e] at h
      injection h with h
      subst h
      exact ⟨by simp, by simpa using e⟩
    · rw [if_neg e] at h
      cases hr : atF r p with
      | none => rw [hr] at h; cases h
      | some k =>
        rw [hr] at h
        injection h with h
        subst h
        obtain ⟨h1, h2⟩ := atF_some hr
        exact ⟨by simpa using h1, by simpa using h2⟩
theorem atF_none {p : Pl} : ∀ {fs : List Ft}, atF fs p = none ↔ p ∉ fs.map (·.1)
  | [] => by simp [atF]
  | f :: r => by
    unfold atF
    by_cases e : f.1 = p
    · rw [if_pos e]; simp [e]
    · rw [if_neg e]
      have := atF_none (p := p) (fs := r)
      simp only [Option.map_eq_none_iff, List.map_cons, List.mem_cons, not_or]
      exact ⟨fun h => ⟨fun x => e x.symm, this.1 h⟩, fun h => this.2 h.2⟩
theorem atF_at {fs : List Ft} (hg : (fs.map (·.1)).Nodup) {i : Nat} (h : i < fs.length) : atF fs fs[i].1 = some i := by
  induction fs generalizing i with
  | nil => simp at h
  | cons f r ih =>
    unfold atF
    simp only [List.map_cons, List.nodup_cons] at hg
    cases i with
    | zero => simp
    | succ k =>
      have hk : k < r.length := by simpa using h
      have : ¬ f.1 = r[k].1 := fun e => hg.1 (by rw [e]; exact List.mem_map_of_mem (List.getElem_mem hk))
      simp only [List.getElem_cons_succ]
      rw [if_neg this, ih hg.2 hk]
      rfl

/-- the best value: the first with the least miss -/
def bestGo : Opt → List Opt → Opt
  | m, [] => m
  | m, o :: r => bestGo (if o.2 < m.2 then o else m) r
def best : List Opt → Int
  | [] => 0
  | o :: r => (bestGo o r).1
/-- the last correction of a place; is there an act of it -/
def corr (acts : List Ac) (p : Pl) : Option Int := acts.foldl (fun v a => if a.2.1 = p ∧ a.1 = 1 then some a.2.2 else v) none
def touched (acts : List Ac) (p : Pl) : Bool := acts.any fun a => decide (a.2.1 = p)
/-- the present value of a feature -/
def pres (acts : List Ac) (f : Ft) : Int := (corr acts f.1).getD (best f.2)

/-- the error of an act; what is left of it when it is done -/
def doE (fs : List Ft) (acts : List Ac) (a : Ac) : Int :=
  if a.1 ≠ 1 ∧ a.1 ≠ 2 then 1
  else match atF fs a.2.1 with
    | none => 82
    | some i => if a.1 = 1 ∧ ((fs.getD i default).2.all fun o => decide (o.1 ≠ a.2.2)) = true then 8 else if 4096 ≤ acts.length then 4 else 0
def kept (a : Ac) : Ac := if a.1 = 2 then (a.1, a.2.1, 0) else a
def doA (fs : List Ft) (acts : List Ac) (a : Ac) : List Ac := if doE fs acts a = 0 then acts ++ [kept a] else acts
/-- the value at a place, with its error -/
def valE (fs : List Ft) (acts : List Ac) (p : Pl) : Int × Int :=
  match atF fs p with
  | none => (0, 82)
  | some i => (pres acts (fs.getD i default), 0)
/-- the features, settled or as they were given -/
def feats (fs : List Ft) (acts : List Ac) : List Ft := fs.map fun f => if touched acts f.1 = true then (f.1, [(pres acts f, 0)]) else f
/-- what a settled feature adds to the weight of number n -/
def wOne (acts : List Ac) (n : Nat) (f : Ft) : Int := if touched acts f.1 = true ∧ f.1.2.2.2.1 = (n : Int) then (if pres acts f = best f.2 then 1 else -1) else 0
def wSum (acts : List Ac) (n : Nat) (fs : List Ft) : Int := (fs.map (wOne acts n)).sum
def clamp (x : Int) : Int := min (max x 1) 16
def weight (fs : List Ft) (acts : List Ac) (n : Nat) : Int := clamp (if n = 0 then 4 else 4 + wSum acts n fs)
/-- the acts that can be done on features, and those that cannot -/
def playGo (fs : List Ft) : List Ac → List Ac → List Ac → List Ac × List Ac
  | done, left, [] => (done, left)
  | done, left, a :: r => if doE fs done a = 0 then playGo fs (done ++ [kept a]) left r else playGo fs done (left ++ [a]) r

theorem corr_snoc (acts : List Ac) (a : Ac) (p : Pl) : corr (acts ++ [a]) p = if a.2.1 = p ∧ a.1 = 1 then some a.2.2 else corr acts p := by simp [corr]
theorem touched_snoc (acts : List Ac) (a : Ac) (p : Pl) : touched (acts ++ [a]) p = (touched acts p || decide (a.2.1 = p)) := by simp [touched]
/-- acts that were done on features -/
structure Acted (fs : List Ft) (acts : List Ac) : Prop where
  len : acts.length ≤ 4096
  place : ∀ a ∈ acts, a.2.1 ∈ fs.map (·.1)
  kind : ∀ a ∈ acts, a.1 = 1 ∨ a.1 = 2
theorem Acted.nil (fs : List Ft) : Acted fs [] := ⟨by simp, by simp, by simp⟩
theorem kept_place (a : Ac) : (kept a).2.1 = a.2.1 ∧ (kept a).1 = a.1 := by
  unfold kept
  split <;> exact ⟨rfl, rfl⟩
theorem Acted.snoc {fs : List Ft} {acts : List Ac} (h : Acted fs acts) {a : Ac} (he : doE fs acts a = 0) : Acted fs (acts ++ [kept a]) := by
  unfold doE at he
  by_cases hk : a.1 ≠ 1 ∧ a.1 ≠ 2
  · rw [if_pos hk] at he; cases he
  · rw [if_neg hk] at he
    cases hf : atF fs a.2.1 with
    | none => rw [hf] at he; cases he
    | some i =>
      rw [hf] at he
      simp only [] at he
      split at he
      · cases he
      · split at he
        · cases he
        · rename_i hl
          have hp := kept_place a
          refine ⟨by simp only [List.length_append, List.length_cons, List.length_nil]; omega, ?_, ?_⟩
          · intro b hb
            rcases List.mem_append.1 hb with hb | hb
            · exact h.place b hb
            · simp only [List.mem_cons, List.not_mem_nil, or_false] at hb
              subst hb
              rw [hp.1]
              obtain ⟨h1, h2⟩ := atF_some hf
              rw [← h2]
              exact List.mem_map_of_mem (List.getElem_mem h1)
          · intro b hb
            rcases List.mem_append.1 hb with hb | hb
            · exact h.kind b hb
            · simp only [List.mem_cons, List.not_mem_nil, or_false] at hb
              subst hb
              rw [hp.2]
              omega
theorem Acted.doA {fs : List Ft} {acts : List Ac} (h : Acted fs acts) (a : Ac) : Acted fs (doA fs acts a) := by
  unfold Proofs.YtpcefaccoifejaaGreatDoor.doA
  split
  · rename_i he; exact h.snoc he
  · exact h
theorem Acted.drop {fs : List Ft} {acts : List Ac} (h : Acted fs acts) : Acted fs acts.dropLast :=
  ⟨by simp only [List.length_dropLast]; have := h.len; omega, fun a ha => h.place a (List.dropLast_subset _ ha), fun a ha => h.kind a (List.dropLast_subset _ ha)⟩
end Go.Proofs.YtpcefaccoifejaaGreatDoor
