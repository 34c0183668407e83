/-
  How steps of a script read, and what is asked of two sessions between steps. Conditions: the values can be read as the given statement says.
-/
import Derived.Test.YtpcefaccoifejaaDoorAR
import Derived.Test.YtpcefaccoifejaaDoorRU0
import Derived.Test.YtpcefaccoifejaaDoorAG2
namespace Go.Proofs.YtpcefaccoifejaaDoor
open Go.RowKit
set_option linter.unusedSimpArgs false
set_option linter.unusedVariables false

abbrev St := Int × Ac
def stV (s : St) : List Value := [.int .i64 s.1, .int .i64 s.2.1, .int .i64 s.2.2.1.1, .int .i64 s.2.2.1.2.1, .int .i64 s.2.2.1.2.2.1, .int .i64 s.2.2.1.2.2.2.1, .int .i64 s.2.2.1.2.2.2.2, .int .i64 s.2.2.2]
def stAt (l : List St) (i : Nat) : St := l.getD i default
def wfS (s : St) : Prop := i64B s.1 ∧ wfA s.2
theorem stAt_mem {l : List St} {i : Nat} (h : i < l.length) : stAt l i ∈ l := by
  unfold stAt
  rw [List.getD_eq_getElem?_getD, List.getElem?_eq_getElem h]
  exact List.getElem_mem h
def StepsAt (w : World) (lo hi : Nat) (v : Value) (l : List St) : Prop := ∃ a cap, v = .slice a l.length cap ∧ (a = none → cap = 0) ∧ Row w lo hi 8 a l.length (fun j => stV (stAt l j))
section
variable {H : Type} {enc : TypeId × Value → H} {w : World} {sp : Nat → Bool} {held : Bool} {fuel : Nat} {cs : List Value} {x : DataW H × List MemPlace} {base : Nat}
set_option maxRecDepth 100000 in
theorem act_open (h : DataW.trod enc Tryd.prog w base sp held fuel 57 cs = some x) : ∃ a : Ac, cs = acV a ∧ wfA a := by
  have hc : Tryd.prog.cellsOf 57 = 7 := by kernel_rfl
  have hp : Tryd.prog.cellsOf 26 = 5 := by kernel_rfl
  have hi : Tryd.prog.cellsOf 3 = 1 := by kernel_rfl
  obtain ⟨ys, n', _, _, hcl, hyl, hf⟩ := DataW.trod_struct Tryd.underlying57 h
  have hyl3 : ys.length = 3 := hyl
  rw [hc] at hcl
  clear hyl h
  match cs, hcl, ys, hyl3 with
  | [c0, c1, c2, c3, c4, c5, c6], _, [y0, y1, y2], _ =>
    have f0 := hf 0 _ rfl
    have f1 := hf 1 _ rfl
    have f2 := hf 2 _ rfl
    change DataW.trod enc Tryd.prog w base sp held n' 3 (([c0, c1, c2, c3, c4, c5, c6].drop 0).take (Tryd.prog.cellsOf 3)) = some y0 at f0
    change DataW.trod enc Tryd.prog w base sp held n' 26 (([c0, c1, c2, c3, c4, c5, c6].drop 1).take (Tryd.prog.cellsOf 26)) = some y1 at f1
    change DataW.trod enc Tryd.prog w base sp held n' 3 (([c0, c1, c2, c3, c4, c5, c6].drop 6).take (Tryd.prog.cellsOf 3)) = some y2 at f2
    rw [hi] at f0 f2
    rw [hp] at f1
    obtain ⟨k0, e0, _, w0⟩ := DataW.trod_int Tryd.underlying3 f0
    obtain ⟨p, e1, w1⟩ := place_open f1
    obtain ⟨k2, e2, _, w2⟩ := DataW.trod_int Tryd.underlying3 f2
    obtain ⟨p0, p1, p2, p3, p4⟩ := p
    simp [plV] at e0 e1 e2
    obtain ⟨rfl, rfl, rfl, rfl, rfl⟩ := e1
    subst e0 e2
    exact ⟨(k0, (p0, p1, p2, p3, p4), k2), rfl, i64_wf w0, w1, i64_wf w2⟩
set_option maxRecDepth 100000 in
theorem steps_open (h : DataW.trod enc Tryd.prog w base sp held fuel 43 cs = some x) : ∃ (v : Value) (l : List St), cs = [v] ∧ StepsAt w 0 w.heap.size v l ∧ (∀ s ∈ l, wfS s) ∧ l.length ≤ maxLen := by
  have hc : Tryd.prog.cellsOf 59 = 8 := by kernel_rfl
  have ha : Tryd.prog.cellsOf 57 = 7 := by kernel_rfl
  have hi : Tryd.prog.cellsOf 3 = 1 := by kernel_rfl
  rcases Deep.open_slice Tryd.underlying43 h with h0 | ⟨a, len, cap, m, n, D, Pl, rfl, _, hl, hm, hmm, _, hel⟩
  · exact ⟨_, [], h0.1, ⟨none, 0, rfl, fun _ => rfl, Row.none _ _ _ _ _ _⟩, by simp, Nat.zero_le _⟩
  · have hall : ∀ i, i < len → ∃ o : St, wfS o ∧ ∀ j, j < 8 → w.cell? ((a.add (i * 8)).add j) = (stV o)[j]? := fun i hlt => by
      obtain ⟨l, hcl, ht⟩ := hel i (by rw [hmm]; split <;> omega)
      rw [hc] at hcl
      obtain ⟨_, hlen, hat⟩ := World.cells?_some hcl
      obtain ⟨ys, n', _, _, _, hyl, hf⟩ := DataW.trod_struct Tryd.underlying59 ht
      have hyl2 : ys.length = 2 := hyl
      clear hyl
      match l, hlen, ys, hyl2 with
      | [c0, c1, c2, c3, c4, c5, c6, c7], _, [y0, y1], _ =>
        have f0 := hf 0 _ rfl
        have f1 := hf 1 _ rfl
        change DataW.trod enc Tryd.prog w base sp held n' 3 (([c0, c1, c2, c3, c4, c5, c6, c7].drop 0).take (Tryd.prog.cellsOf 3)) = some y0 at f0
        change DataW.trod enc Tryd.prog w base sp held n' 57 (([c0, c1, c2, c3, c4, c5, c6, c7].drop 1).take (Tryd.prog.cellsOf 57)) = some y1 at f1
        rw [hi] at f0
        rw [ha] at f1
        obtain ⟨k0, e0, _, w0⟩ := DataW.trod_int Tryd.underlying3 f0
        obtain ⟨A, e1, w1⟩ := act_open f1
        obtain ⟨k1, ⟨p0, p1, p2, p3, p4⟩, v1⟩ := A
        simp [acV] at e0 e1
        obtain ⟨rfl, rfl, rfl, rfl, rfl, rfl, rfl⟩ := e1
        subst e0
        exact ⟨(k0, (k1, (p0, p1, p2, p3, p4), v1)), ⟨i64_wf w0, w1⟩, fun j hj => hat j hj⟩
    obtain ⟨T, hT⟩ := Deep.choose_lt hall
    refine ⟨_, (List.range len).map T, rfl, ⟨some a, cap, by simp, (fun h => by cases h), ?_⟩, ?_, by simp; omega⟩
    · rw [List.length_map, List.length_range]
      exact row_read (by decide) (fun _ => rfl) (fun i hi j hj => by
        show _ = (stV (stAt ((List.range len).map T) i))[j]?
        rw [show stAt ((List.range len).map T) i = T i from getD_range T hi]
        exact (hT i hi).2 j hj)
    · intro o ho
      obtain ⟨i, hi, rfl⟩ := List.mem_map.1 ho
      exact (hT i (List.mem_range.1 hi)).1
end
theorem MkR.kept {B : Nat} {w wr w1 : World} {p m flo fhi tlo thi b9 : Nat} {va vf tf ta : Value} {fs : List Ft} {done : List Ac} (h : MkR B w wr p m flo fhi tlo thi b9 va vf tf ta fs done) (hk : ∀ b, B ≤ b → w1.heap[b]? = wr.heap[b]?) (hs : wr.heap.size ≤ w1.heap.size) :
    MkR B w1 w1 p m flo fhi tlo thi b9 va vf tf ta fs done := by
  have h1 := h.ses.lp
  have h2 := h.ses.lm
  have h3 := h.ses.lf
  refine ⟨h.ses.kept (Bs := p) (fun b hb => hk b ?_) hs, (hk _ h.lo).trans h.box, h.ref.move hs (fun b hP _ => hk b (Nat.le_of_not_lt fun e => hP (.inl e))) (fun b _ => id), h.tfs.move (fun b b1 _ => hk b (Nat.le_trans h.lt b1)), h.own, h.bp, h.bm, h.bf, h.bt, h.pt, Nat.le_trans h.th hs, h.lo, h.lt, Below.refl _ _, Nat.le_trans h.le hs⟩
  rcases hb with rfl | rfl | ⟨b1, _⟩ | b1 | rfl
  · exact h1
  · exact h2
  · omega
  · exact (h.ownlo b b1).1
  · exact h1
theorem MkR.agree {B : Nat} {w wr : World} {p m flo fhi tlo thi b9 : Nat} {va vf tf ta : Value} {fs : List Ft} {done : List Ac} (h : MkR B w wr p m flo fhi tlo thi b9 va vf tf ta fs done) (he : newE fs = 0) (ha : Acted fs done) (hw : wfFs fs) (hwa : wfAs done) {q1 q2 q3 q4 q5 : Int} (hq : wfP (q1, q2, q3, q4, q5)) :
    Calls Tryd.prog 13 #[.pointer (some ⟨p, 0, none⟩), .agg #[tf, ta], .agg #[.int .i64 q1, .int .i64 q2, .int .i64 q3, .int .i64 q4, .int .i64 q5]] wr fun e w' => e = .returned (.bool true) ∧ Below wr.heap.size wr w' :=
  agree_c B p m flo fhi va vf fs done tf ta tlo thi 0 wr.heap.size q1 q2 q3 q4 q5 wr h.ses h.tfs h.th h.ref.at (Nat.le_refl _) (good_of_newE he) ha hw hwa hq
end Go.Proofs.YtpcefaccoifejaaDoor
