/-
  How the arguments of the session laws read: features with their options, acts, a place. Conditions: the values can be read as the given statement says.
-/
import Derived.Test.YtpcefaccoifejaaGreatDoorSW
import Derived.Deep.Slices
import Derived.OpenShut
import Derived.Lib.SmallJoins
namespace Go.Proofs.YtpcefaccoifejaaGreatDoor
open Go.RowKit
set_option linter.unusedSimpArgs false
set_option linter.unusedVariables false

theorem i64_wf {n : Int} (h : (Lit.int .i64 n).wf = true) : i64B n := by
  simp only [Lit.wf, Bool.and_eq_true, decide_eq_true_eq] at h
  exact h
theorem row_lt {w : World} {b o : Nat} {u : Value} (h : w.cell? ⟨b, o, none⟩ = some u) : b < w.heap.size := by
  rcases Nat.lt_or_ge b w.heap.size with hb | hb
  · exact hb
  · have : w.heap[b]? = Option.none := by simpa using hb
    simp [World.cell?, this] at h
/-- elements of k cells at an address are a row -/
theorem row_read {w : World} {a : Addr} {k n : Nat} {enc : Nat → List Value} (hk : 0 < k) (he : ∀ i, (enc i).length = k) (h : ∀ i, i < n → ∀ j, j < k → w.cell? ((a.add (i * k)).add j) = (enc i)[j]?) : Row w 0 w.heap.size k (some a) n enc := by
  intro hn
  obtain ⟨b, off, spot⟩ := a
  have h0 := h 0 hn 0 hk
  have hx : ∃ u, (enc 0)[0]? = some u := ⟨_, List.getElem?_eq_getElem (by rw [he]; exact hk)⟩
  obtain ⟨u, hu⟩ := hx
  rw [hu] at h0
  have hspot : spot = none := by simpa [Addr.add] using World.cell?_spot h0
  subst hspot
  rw [Go.WideShapes.add_plain, Go.WideShapes.add_plain] at h0
  refine ⟨b, off, rfl, Nat.zero_le _, row_lt h0, fun i hi j u hu => ?_⟩
  have hj : j < k := by
    have := (List.getElem?_eq_some_iff.1 hu).1
    rwa [he] at this
  have := h i hi j hj
  rw [Go.WideShapes.add_plain, Go.WideShapes.add_plain, hu] at this
  exact this
theorem getD_range {α : Type} [Inhabited α] (f : Nat → α) {n i : Nat} (h : i < n) : ((List.range n).map f).getD i default = f i := by
  rw [List.getD_eq_getElem?_getD, List.getElem?_map, List.getElem?_range h]
  rfl

section
variable {H : Type} {enc : TypeId × Value → H} {w : World} {sp : Nat → Bool} {held : Bool} {fuel : Nat} {cs : List Value} {x : DataW H × List MemPlace} {base : Nat}
set_option maxRecDepth 100000 in
theorem place_open (h : DataW.trod enc Tryz.prog w base sp held fuel 44 cs = some x) : ∃ p : Pl, cs = plV p ∧ wfP p := by
  have hc : Tryz.prog.cellsOf 44 = 5 := by kernel_rfl
  have hi : Tryz.prog.cellsOf 3 = 1 := by kernel_rfl
  have hw : Tryz.prog.cellsOf 42 = 1 := by kernel_rfl
  obtain ⟨ys, n', _, _, hcl, hyl, hf⟩ := DataW.trod_struct Tryz.underlying44 h
  have hyl5 : ys.length = 5 := hyl
  rw [hc] at hcl
  clear hyl h
  match cs, hcl, ys, hyl5 with
  | [c0, c1, c2, c3, c4], _, [y0, y1, y2, y3, y4], _ =>
    have f0 := hf 0 _ rfl
    have f1 := hf 1 _ rfl
    have f2 := hf 2 _ rfl
    have f3 := hf 3 _ rfl
    have f4 := hf 4 _ rfl
    change DataW.trod enc Tryz.prog w base sp held n' 3 (([c0, c1, c2, c3, c4].drop 0).take (Tryz.prog.cellsOf 3)) = some y0 at f0
    change DataW.trod enc Tryz.prog w base sp held n' 3 (([c0, c1, c2, c3, c4].drop 1).take (Tryz.prog.cellsOf 3)) = some y1 at f1
    change DataW.trod enc Tryz.prog w base sp held n' 3 (([c0, c1, c2, c3, c4].drop 2).take (Tryz.prog.cellsOf 3)) = some y2 at f2
    change DataW.trod enc Tryz.prog w base sp held n' 42 (([c0, c1, c2, c3, c4].drop 3).take (Tryz.prog.cellsOf 42)) = some y3 at f3
    change DataW.trod enc Tryz.prog w base sp held n' 3 (([c0, c1, c2, c3, c4].drop 4).take (Tryz.prog.cellsOf 3)) = some y4 at f4
    rw [hi] at f0 f1 f2 f4
    rw [hw] at f3
    obtain ⟨p0, e0, _, w0⟩ := DataW.trod_int Tryz.underlying3 f0
    obtain ⟨p1, e1, _, w1⟩ := DataW.trod_int Tryz.underlying3 f1
    obtain ⟨p2, e2, _, w2⟩ := DataW.trod_int Tryz.underlying3 f2
    obtain ⟨p3, e3, _, w3⟩ := DataW.trod_int Tryz.underlying42 f3
    obtain ⟨p4, e4, _, w4⟩ := DataW.trod_int Tryz.underlying3 f4
    simp at e0 e1 e2 e3 e4
    subst e0 e1 e2 e3 e4
    exact ⟨(p0, p1, p2, p3, p4), rfl, i64_wf w0, i64_wf w1, i64_wf w2, i64_wf w3, i64_wf w4⟩
set_option maxRecDepth 100000 in
theorem opts_open (h : DataW.trod enc Tryz.prog w base sp held fuel 45 cs = some x) : ∃ (v : Value) (os : List Opt), cs = [v] ∧ OptsAt w 0 w.heap.size v os ∧ (∀ o ∈ os, wfO o) ∧ os.length ≤ maxLen := by
  have hc : Tryz.prog.cellsOf 41 = 2 := by kernel_rfl
  have hi : Tryz.prog.cellsOf 3 = 1 := by kernel_rfl
  rcases Deep.open_slice Tryz.underlying45 h with h0 | ⟨a, len, cap, m, n, D, Pl, rfl, _, hl, hm, hmm, _, hel⟩
  · exact ⟨_, [], h0.1, ⟨none, 0, rfl, fun _ => rfl, Row.none _ _ _ _ _ _⟩, by simp, Nat.zero_le _⟩
  · have hall : ∀ i, i < len → ∃ o : Opt, wfO o ∧ ∀ j, j < 2 → w.cell? ((a.add (i * 2)).add j) = (optV o)[j]? := fun i hlt => by
      obtain ⟨l, hcl, ht⟩ := hel i (by rw [hmm]; split <;> omega)
      rw [hc] at hcl
      obtain ⟨_, hlen, hat⟩ := World.cells?_some hcl
      obtain ⟨ys, n', _, _, _, hyl, hf⟩ := DataW.trod_struct Tryz.underlying41 ht
      have hyl2 : ys.length = 2 := hyl
      clear hyl
      match l, hlen, ys, hyl2 with
      | [c0, c1], _, [y0, y1], _ =>
        have f0 := hf 0 _ rfl
        have f1 := hf 1 _ rfl
        change DataW.trod enc Tryz.prog w base sp held n' 3 (([c0, c1].drop 0).take (Tryz.prog.cellsOf 3)) = some y0 at f0
        change DataW.trod enc Tryz.prog w base sp held n' 3 (([c0, c1].drop 1).take (Tryz.prog.cellsOf 3)) = some y1 at f1
        rw [hi] at f0 f1
        obtain ⟨p0, e0, _, w0⟩ := DataW.trod_int Tryz.underlying3 f0
        obtain ⟨p1, e1, _, w1⟩ := DataW.trod_int Tryz.underlying3 f1
        simp at e0 e1
        subst e0 e1
        exact ⟨(p0, p1), ⟨i64_wf w0, i64_wf w1⟩, fun j hj => hat j hj⟩
    obtain ⟨T, hT⟩ := Deep.choose_lt hall
    refine ⟨_, (List.range len).map T, rfl, ⟨some a, cap, by simp, (fun h => by cases h), ?_⟩, ?_, by simp; omega⟩
    · rw [List.length_map, List.length_range]
      exact row_read (by decide) (fun _ => rfl) (fun i hi j hj => by
        show _ = (optV (optAt ((List.range len).map T) i))[j]?
        rw [show optAt ((List.range len).map T) i = T i from getD_range T hi]
        exact (hT i hi).2 j hj)
    · intro o ho
      obtain ⟨i, hi, rfl⟩ := List.mem_map.1 ho
      exact (hT i (List.mem_range.1 hi)).1
set_option maxRecDepth 100000 in
theorem feats_open (h : DataW.trod enc Tryz.prog w base sp held fuel 38 cs = some x) : ∃ (v : Value) (fs : List Ft), cs = [v] ∧ FeatsAt w 0 w.heap.size v fs ∧ (∀ f ∈ fs, wfP f.1 ∧ ∀ o ∈ f.2, wfO o) ∧ fs.length ≤ maxLen := by
  have hc : Tryz.prog.cellsOf 47 = 6 := by kernel_rfl
  have hp : Tryz.prog.cellsOf 44 = 5 := by kernel_rfl
  have ho : Tryz.prog.cellsOf 45 = 1 := by kernel_rfl
  rcases Deep.open_slice Tryz.underlying38 h with h0 | ⟨a, len, cap, m, n, D, Pl, rfl, _, hl, hm, hmm, _, hel⟩
  · exact ⟨_, [], h0.1, ⟨none, 0, fun _ => default, rfl, fun _ => rfl, Row.none _ _ _ _ _ _, fun i hi => by cases hi⟩, by simp, Nat.zero_le _⟩
  · have hall : ∀ i, i < len → ∃ z : Ft × Value, (wfP z.1.1 ∧ ∀ o ∈ z.1.2, wfO o) ∧ OptsAt w 0 w.heap.size z.2 z.1.2 ∧ ∀ j, j < 6 → w.cell? ((a.add (i * 6)).add j) = (ftV z.1.1 z.2)[j]? := fun i hlt => by
      obtain ⟨l, hcl, ht⟩ := hel i (by rw [hmm]; split <;> omega)
      rw [hc] at hcl
      obtain ⟨_, hlen, hat⟩ := World.cells?_some hcl
      obtain ⟨ys, n', _, _, _, hyl, hf⟩ := DataW.trod_struct Tryz.underlying47 ht
      have hyl2 : ys.length = 2 := hyl
      clear hyl
      match l, hlen, ys, hyl2 with
      | [c0, c1, c2, c3, c4, c5], _, [y0, y1], _ =>
        have f0 := hf 0 _ rfl
        have f1 := hf 1 _ rfl
        change DataW.trod enc Tryz.prog w base sp held n' 44 (([c0, c1, c2, c3, c4, c5].drop 0).take (Tryz.prog.cellsOf 44)) = some y0 at f0
        change DataW.trod enc Tryz.prog w base sp held n' 45 (([c0, c1, c2, c3, c4, c5].drop 5).take (Tryz.prog.cellsOf 45)) = some y1 at f1
        rw [hp] at f0
        rw [ho] at f1
        obtain ⟨p, e0, w0⟩ := place_open f0
        obtain ⟨v, os, e1, hos, wos, _⟩ := opts_open f1
        obtain ⟨p0, p1, p2, p3, p4⟩ := p
        simp [plV] at e0 e1
        obtain ⟨rfl, rfl, rfl, rfl, rfl⟩ := e0
        subst e1
        exact ⟨(((p0, p1, p2, p3, p4), os), c5), ⟨w0, wos⟩, hos, fun j hj => hat j hj⟩
    obtain ⟨T, hT⟩ := Deep.choose_lt hall
    refine ⟨_, (List.range len).map fun i => (T i).1, rfl, ⟨some a, cap, fun i => (T i).2, by simp, (fun h => by cases h), ?_, fun i hi => ?_⟩, ?_, by simp; omega⟩
    · rw [List.length_map, List.length_range]
      exact row_read (by decide) (fun _ => rfl) (fun i hi j hj => by
        show _ = (ftV (ftAt ((List.range len).map fun i => (T i).1) i).1 (T i).2)[j]?
        rw [show ftAt ((List.range len).map fun i => (T i).1) i = (T i).1 from getD_range (fun i => (T i).1) hi]
        exact (hT i hi).2.2 j hj)
    · rw [List.length_map, List.length_range] at hi
      rw [show ftAt ((List.range len).map fun i => (T i).1) i = (T i).1 from getD_range (fun i => (T i).1) hi]
      exact (hT i hi).2.1
    · intro f hf
      obtain ⟨i, hi, rfl⟩ := List.mem_map.1 hf
      exact (hT i (List.mem_range.1 hi)).1
set_option maxRecDepth 100000 in
theorem acts_open (h : DataW.trod enc Tryz.prog w base sp held fuel 22 cs = some x) : ∃ (v : Value) (acts : List Ac), cs = [v] ∧ ActsAt w 0 w.heap.size v acts ∧ (∀ a ∈ acts, wfA a) ∧ acts.length ≤ maxLen := by
  have hc : Tryz.prog.cellsOf 56 = 7 := by kernel_rfl
  have hp : Tryz.prog.cellsOf 44 = 5 := by kernel_rfl
  have hi : Tryz.prog.cellsOf 3 = 1 := by kernel_rfl
  rcases Deep.open_slice Tryz.underlying22 h with h0 | ⟨a, len, cap, m, n, D, Pl, rfl, _, hl, hm, hmm, _, hel⟩
  · exact ⟨_, [], h0.1, ⟨none, 0, rfl, fun _ => rfl, Row.none _ _ _ _ _ _⟩, by simp, Nat.zero_le _⟩
  · have hall : ∀ i, i < len → ∃ o : Ac, wfA o ∧ ∀ j, j < 7 → w.cell? ((a.add (i * 7)).add j) = (acV o)[j]? := fun i hlt => by
      obtain ⟨l, hcl, ht⟩ := hel i (by rw [hmm]; split <;> omega)
      rw [hc] at hcl
      obtain ⟨_, hlen, hat⟩ := World.cells?_some hcl
      obtain ⟨ys, n', _, _, _, hyl, hf⟩ := DataW.trod_struct Tryz.underlying56 ht
      have hyl3 : ys.length = 3 := hyl
      clear hyl
      match l, hlen, ys, hyl3 with
      | [c0, c1, c2, c3, c4, c5, c6], _, [y0, y1, y2], _ =>
        have f0 := hf 0 _ rfl
        have f1 := hf 1 _ rfl
        have f2 := hf 2 _ rfl
        change DataW.trod enc Tryz.prog w base sp held n' 3 (([c0, c1, c2, c3, c4, c5, c6].drop 0).take (Tryz.prog.cellsOf 3)) = some y0 at f0
        change DataW.trod enc Tryz.prog w base sp held n' 44 (([c0, c1, c2, c3, c4, c5, c6].drop 1).take (Tryz.prog.cellsOf 44)) = some y1 at f1
        change DataW.trod enc Tryz.prog w base sp held n' 3 (([c0, c1, c2, c3, c4, c5, c6].drop 6).take (Tryz.prog.cellsOf 3)) = some y2 at f2
        rw [hi] at f0 f2
        rw [hp] at f1
        obtain ⟨k0, e0, _, w0⟩ := DataW.trod_int Tryz.underlying3 f0
        obtain ⟨p, e1, w1⟩ := place_open f1
        obtain ⟨k2, e2, _, w2⟩ := DataW.trod_int Tryz.underlying3 f2
        obtain ⟨p0, p1, p2, p3, p4⟩ := p
        simp [plV] at e0 e1 e2
        obtain ⟨rfl, rfl, rfl, rfl, rfl⟩ := e1
        subst e0 e2
        exact ⟨(k0, (p0, p1, p2, p3, p4), k2), ⟨i64_wf w0, w1, i64_wf w2⟩, fun j hj => hat j hj⟩
    obtain ⟨T, hT⟩ := Deep.choose_lt hall
    refine ⟨_, (List.range len).map T, rfl, ⟨some a, cap, by simp, (fun h => by cases h), ?_⟩, ?_, by simp; omega⟩
    · rw [List.length_map, List.length_range]
      exact row_read (by decide) (fun _ => rfl) (fun i hi j hj => by
        show _ = (acV (acAt ((List.range len).map T) i))[j]?
        rw [show acAt ((List.range len).map T) i = T i from getD_range T hi]
        exact (hT i hi).2 j hj)
    · intro o ho
      obtain ⟨i, hi, rfl⟩ := List.mem_map.1 ho
      exact (hT i (List.mem_range.1 hi)).1
end
end Go.Proofs.YtpcefaccoifejaaGreatDoor
