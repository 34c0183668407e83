/-
  What the walk of session.act leans on: the words of a line in memory, a map of pointers into one block. Conditions: as each says.
-/
import Derived.Test.YtpcefaccoifejaaGreatDoorTX1
import Derived.Test.YtpcefaccoifejaaGreatDoorK18
import Derived.Maps.RangeWalk
import Derived.Maps.Ext
namespace Go.Proofs.YtpcefaccoifejaaGreatDoor
open Go.RowKit Go.Maps
set_option linter.unusedSimpArgs false
set_option linter.unusedVariables false
set_option maxRecDepth 100000

theorem set_seven {W : World} {b : Nat} {T : TypeId} {a0 a1 a2 a3 a4 a5 a6 x0 x1 x2 x3 x4 x5 x6 : Value} (h : W.heap[b]? = some (.cells #[a0, a1, a2, a3, a4, a5, a6] T (0, 0))) :
    (((((((W.setCell ⟨b, 0, none⟩ x0).setCell ⟨b, 1, none⟩ x1).setCell ⟨b, 2, none⟩ x2).setCell ⟨b, 3, none⟩ x3).setCell ⟨b, 4, none⟩ x4).setCell ⟨b, 5, none⟩ x5).setCell ⟨b, 6, none⟩ x6).heap[b]? = some (.cells #[x0, x1, x2, x3, x4, x5, x6] T (0, 0)) := by
  have h0 : (W.setCell ⟨b, 0, none⟩ x0).heap[b]? = some (.cells #[x0, a1, a2, a3, a4, a5, a6] T (0, 0)) := heap_setCell_same _ b 0 _ _ _ h
  have h1 : ((W.setCell ⟨b, 0, none⟩ x0).setCell ⟨b, 1, none⟩ x1).heap[b]? = some (.cells #[x0, x1, a2, a3, a4, a5, a6] T (0, 0)) := heap_setCell_same _ b 1 _ _ _ h0
  have h2 : (((W.setCell ⟨b, 0, none⟩ x0).setCell ⟨b, 1, none⟩ x1).setCell ⟨b, 2, none⟩ x2).heap[b]? = some (.cells #[x0, x1, x2, a3, a4, a5, a6] T (0, 0)) := heap_setCell_same _ b 2 _ _ _ h1
  have h3 : ((((W.setCell ⟨b, 0, none⟩ x0).setCell ⟨b, 1, none⟩ x1).setCell ⟨b, 2, none⟩ x2).setCell ⟨b, 3, none⟩ x3).heap[b]? = some (.cells #[x0, x1, x2, x3, a4, a5, a6] T (0, 0)) := heap_setCell_same _ b 3 _ _ _ h2
  have h4 : (((((W.setCell ⟨b, 0, none⟩ x0).setCell ⟨b, 1, none⟩ x1).setCell ⟨b, 2, none⟩ x2).setCell ⟨b, 3, none⟩ x3).setCell ⟨b, 4, none⟩ x4).heap[b]? = some (.cells #[x0, x1, x2, x3, x4, a5, a6] T (0, 0)) := heap_setCell_same _ b 4 _ _ _ h3
  have h5 : ((((((W.setCell ⟨b, 0, none⟩ x0).setCell ⟨b, 1, none⟩ x1).setCell ⟨b, 2, none⟩ x2).setCell ⟨b, 3, none⟩ x3).setCell ⟨b, 4, none⟩ x4).setCell ⟨b, 5, none⟩ x5).heap[b]? = some (.cells #[x0, x1, x2, x3, x4, x5, a6] T (0, 0)) := heap_setCell_same _ b 5 _ _ _ h4
  have h6 : (((((((W.setCell ⟨b, 0, none⟩ x0).setCell ⟨b, 1, none⟩ x1).setCell ⟨b, 2, none⟩ x2).setCell ⟨b, 3, none⟩ x3).setCell ⟨b, 4, none⟩ x4).setCell ⟨b, 5, none⟩ x5).setCell ⟨b, 6, none⟩ x6).heap[b]? = some (.cells #[x0, x1, x2, x3, x4, x5, x6] T (0, 0)) := heap_setCell_same _ b 6 _ _ _ h5
  exact h6
theorem below_seven {w W : World} {b : Nat} (h : Below w.heap.size w W) (hb : w.heap.size ≤ b) (x0 x1 x2 x3 x4 x5 x6 : Value) : Below w.heap.size w (((((((W.setCell ⟨b, 0, none⟩ x0).setCell ⟨b, 1, none⟩ x1).setCell ⟨b, 2, none⟩ x2).setCell ⟨b, 3, none⟩ x3).setCell ⟨b, 4, none⟩ x4).setCell ⟨b, 5, none⟩ x5).setCell ⟨b, 6, none⟩ x6) := (Below.setCell (Below.setCell (Below.setCell (Below.setCell (Below.setCell (Below.setCell (Below.setCell h (p := ⟨b, 0, none⟩) hb x0) (p := ⟨b, 1, none⟩) hb x1) (p := ⟨b, 2, none⟩) hb x2) (p := ⟨b, 3, none⟩) hb x3) (p := ⟨b, 4, none⟩) hb x4) (p := ⟨b, 5, none⟩) hb x5) (p := ⟨b, 6, none⟩) hb x6)
theorem kg_seven {w W : World} {b : Nat} (h : Kg w (some b) W) (x0 x1 x2 x3 x4 x5 x6 : Value) : Kg w (some b) (((((((W.setCell ⟨b, 0, none⟩ x0).setCell ⟨b, 1, none⟩ x1).setCell ⟨b, 2, none⟩ x2).setCell ⟨b, 3, none⟩ x3).setCell ⟨b, 4, none⟩ x4).setCell ⟨b, 5, none⟩ x5).setCell ⟨b, 6, none⟩ x6) := (Kg.setg (Kg.setg (Kg.setg (Kg.setg (Kg.setg (Kg.setg (Kg.setg h 0 x0) 1 x1) 2 x2) 3 x3) 4 x4) 5 x5) 6 x6)
theorem alloc2_first (w : World) (A B : Obj) : ((w.alloc A).alloc B).heap[w.heap.size]? = some A := by
  rw [heap_alloc_old _ _ (by simp)]
  exact heap_alloc_new w A
theorem alloc2_second (w : World) (A B : Obj) : ((w.alloc A).alloc B).heap[w.heap.size + 1]? = some B := by
  have := heap_alloc_new (w.alloc A) B
  have e : (w.alloc A).heap.size = w.heap.size + 1 := by simp
  rw [e] at this
  exact this
theorem cellAct {W : World} {g : Nat} {T : TypeId} {x0 x1 x2 x3 x4 x5 x6 : Value} (h : W.heap[g]? = some (.cells #[x0, x1, x2, x3, x4, x5, x6] T (0, 0))) :
    W.cell? ⟨g, 0, none⟩ = some x0 ∧ W.cell? ⟨g, 1, none⟩ = some x1 ∧ W.cell? ⟨g, 2, none⟩ = some x2 ∧ W.cell? ⟨g, 3, none⟩ = some x3 ∧ W.cell? ⟨g, 4, none⟩ = some x4 ∧ W.cell? ⟨g, 5, none⟩ = some x5 ∧ W.cell? ⟨g, 6, none⟩ = some x6 := by
  refine ⟨?_, ?_, ?_, ?_, ?_, ?_, ?_⟩ <;> (rw [cell_of_row _ _ _ _ _ _ h]; rfl)
theorem cellAct4 {W : World} {g : Nat} {T : TypeId} {x0 x1 x2 x3 x4 x5 x6 : Value} (h : W.heap[g]? = some (.cells #[x0, x1, x2, x3, x4, x5, x6] T (0, 0))) : W.cell? ⟨g, 4, none⟩ = some x4 ∧ W.frozen? ⟨g, 4, none⟩ = false :=
  ⟨(cellAct h).2.2.2.2.1, frozen_of_row _ _ _ _ _ h⟩
theorem max_name (l : List UInt8) : max (if l ∈ nameT then (nameT.idxOf l : Int) else -1) 0 = (nameIx l : Int) := by
  unfold nameIx
  by_cases h : l ∈ nameT
  · rw [if_pos h, if_pos h]; omega
  · rw [if_neg h, if_neg h]; rfl
theorem app_list (s : List UInt8) : ((⟨s.toArray⟩ : ByteArray) ++ ⟨#[10]⟩).toList = s ++ [10] := by
  rw [ByteArray.toList_eq]
  simp
theorem line_eq {s : List UInt8} {a : Ac} {O : Option Ac} (h : O = if lineG a = s ++ [10] then some a else none) : ((lineG a == ((⟨s.toArray⟩ : ByteArray) ++ ⟨#[10]⟩).toList) = O.isSome) ∧ (∀ b, O = some b → a = b) := by
  rw [app_list]
  by_cases e : lineG a = s ++ [10]
  · rw [if_pos e] at h
    subst h
    exact ⟨beq_iff_eq.2 e, fun b hb => Option.some.inj hb⟩
  · rw [if_neg e] at h
    subst h
    exact ⟨beq_eq_false_iff_ne.2 e, fun b hb => nomatch hb⟩
theorem bytes_list (l : List ByteArray) : (l.map (·.data.toList)).map (fun x => (⟨x.toArray⟩ : ByteArray)) = l := by
  rw [List.map_map]
  exact (List.map_congr_left (fun x _ => rfl)).trans (List.map_id l)
theorem splitB_words (s : List UInt8) : Lib.splitB ⟨#[32]⟩ 0 (Lib.countB ⟨s.toArray⟩ ⟨#[32]⟩) ⟨s.toArray⟩ = (wordsOf s).map fun l => (⟨l.toArray⟩ : ByteArray) := by
  have h := Lib.splitB_data ⟨#[32]⟩ 0 (Lib.countB ⟨s.toArray⟩ ⟨#[32]⟩) ⟨s.toArray⟩
  have e : Lib.splitK (⟨#[32]⟩ : ByteArray).data.toList 0 (Lib.countB ⟨s.toArray⟩ ⟨#[32]⟩) (⟨s.toArray⟩ : ByteArray).data.toList = wordsOf s := rfl
  rw [e] at h
  rw [← h, bytes_list]
theorem words_count (s : List UInt8) : Lib.countB ⟨s.toArray⟩ ⟨#[32]⟩ + 1 = (wordsOf s).length := by
  have h := congrArg List.length (splitB_words s)
  rw [Lib.splitB_all _ (by decide) 0 _ _ rfl, List.length_map] at h
  exact h
theorem splitK_short (sep : List UInt8) : ∀ (k : Nat) (s : List UInt8), ∀ x ∈ Lib.splitK sep 0 k s, x.length ≤ s.length
  | 0, s, x, hx => by
    simp only [Lib.splitK, List.mem_cons, List.not_mem_nil, or_false] at hx
    rw [hx]
    exact Nat.le_refl _
  | k + 1, s, x, hx => by
    unfold Lib.splitK at hx
    split at hx
    · simp only [List.mem_cons, List.not_mem_nil, or_false] at hx
      rw [hx]
      exact Nat.le_refl _
    · rcases List.mem_cons.1 hx with rfl | hx
      · rw [List.length_take]; omega
      · have := splitK_short sep k _ x hx
        rw [List.length_drop] at this
        omega
theorem words_short (s : List UInt8) : ∀ x ∈ wordsOf s, x.length ≤ s.length := splitK_short _ _ s
def strCells (ws : List (List UInt8)) : Array Value := (ws.map fun l => Value.string ⟨l.toArray⟩).toArray
theorem Split_w (s : List UInt8) (w : World) (hs : s.length ≤ 1000000) (he : Env w) :
    Calls Tryz.prog 60 #[.string ⟨s.toArray⟩, .string ⟨#[32]⟩] w fun e w' => e = .returned (.slice (some ⟨w.heap.size, 0, none⟩) (wordsOf s).length (wordsOf s).length) ∧ w' = w.alloc (.cells (strCells (wordsOf s)) 9) := by
  have h := Split_c ⟨s.toArray⟩ ⟨#[32]⟩ w (by simp [ByteArray.size]; omega) (by decide) he
  rw [words_count, splitB_words, List.map_map] at h
  exact h
theorem strCells_at {ws : List (List UInt8)} {i : Nat} {l : List UInt8} (h : ws[i]? = some l) : (strCells ws)[i]? = some (.string ⟨l.toArray⟩) := by
  unfold strCells
  rw [List.getElem?_toArray, List.getElem?_map, h]
  rfl

theorem names_at {j : Nat} {l : List UInt8} (h : nameT[j]? = some l) : nameCells[0 + j]? = some (.string ⟨l.toArray⟩) := by
  rw [Nat.zero_add]
  unfold nameCells
  rw [List.getElem?_toArray, List.getElem?_map, h]
  rfl
/-! ### a map of pointers into one block -/
/-- how a pointer into block sb reads: as its offset -/
def ptrR (sb : Nat) (v : Value) : Option (DataW Unit × List MemPlace) :=
  match v with
  | .pointer (some ⟨b, o, none⟩) => if b = sb then some (.lit (.int .i64 (o : Int)), []) else none
  | _ => none
theorem ptrR_mk (sb o : Nat) : ptrR sb (.pointer (some ⟨sb, o, none⟩)) = some (.lit (.int .i64 (o : Int)), []) := by simp [ptrR]
theorem ptrR_inv {sb : Nat} {v : Value} {y : DataW Unit × List MemPlace} (h : ptrR sb v = some y) : ∃ o : Nat, v = .pointer (some ⟨sb, o, none⟩) ∧ y = (.lit (.int .i64 (o : Int)), []) := by
  unfold ptrR at h
  split at h
  · split at h
    · rename_i hb
      subst hb
      injection h with h
      exact ⟨_, rfl, h.symm⟩
    · cases h
  · cases h
theorem wpList_insert_own {H : Type} {P : Program} (w : World) {ops : Array Oper} {rest : List Oper} {o : Oper} {a : Act} {Q : Exit → Act → World → Prop}
    (hg : o.guard = none) (m x v : Operand) (t : TypeId) (hop : o.op = Op.insert t m x v)
    (k e : TypeId) (K : Keyed P k) (ht : P.underlying t = some (.map k e)) (R : Value → Option (DataW H × List MemPlace)) (b n : Nat) (D : DataW H)
    (hm : a.eval m = .map (some b)) (hown : w.ownsMap P k R b n D) (hn : n < maxLen) (key val : Value) (kl : Lit) (hx : a.eval x = key) (hv : a.eval v = val) (hkey : keyOf P k key = some kl)
    (d : DataW H) (ps : List MemPlace) (hval : R val = some (d, ps))
    (hK : ∀ w', w'.ownsMap P k R b (n + 1) (D.put kl d) → w.grownBy w' (some b) → wpList P ops Q rest (a.put o.dst undef) w') :
    wpList P ops Q (o :: rest) a w := by
  refine wpList_plain hg fun K' hK' => ?_
  obtain ⟨w', hrun, r1, r2⟩ := hown.update K ht hn hkey hval
  unfold Oper.wp
  simp [execOp, hop, hm, hx, hv, hrun, Result.andThen]
  exact hK' _ _ (hK w' r1 r2)
theorem lawInt : Keyed Tryz.prog 3 := int_keyed Tryz.underlying3
/-- the datum of act's map: each number of a word to the same number -/
def D1 : DataW Unit := (DataW.map []).put (.int .i64 1) (.lit (.int .i64 1))
def D2 : DataW Unit := D1.put (.int .i64 2) (.lit (.int .i64 2))
def D3 : DataW Unit := D2.put (.int .i64 3) (.lit (.int .i64 3))
def D5 : DataW Unit := D3.put (.int .i64 5) (.lit (.int .i64 5))
def D6 : DataW Unit := D5.put (.int .i64 6) (.lit (.int .i64 6))
theorem D6_inv {x : Int} {c : Nat} (h : ∀ zd : DataW Unit, D6.atKey (.int .i64 x) zd = .lit (.int .i64 (c : Int))) : (x = 1 ∧ c = 1) ∨ (x = 2 ∧ c = 2) ∨ (x = 3 ∧ c = 3) ∨ (x = 5 ∧ c = 5) ∨ (x = 6 ∧ c = 6) := by
  have key : ∀ (z : DataW Unit), D6.atKey (.int .i64 x) z = if x = 6 then .lit (.int .i64 6) else if x = 5 then .lit (.int .i64 5) else if x = 3 then .lit (.int .i64 3) else if x = 2 then .lit (.int .i64 2) else if x = 1 then .lit (.int .i64 1) else z := by
    intro z
    by_cases h6 : x = 6
    · subst h6; rfl
    by_cases h5 : x = 5
    · subst h5; rfl
    by_cases h3 : x = 3
    · subst h3; rfl
    by_cases h2 : x = 2
    · subst h2; rfl
    by_cases h1 : x = 1
    · subst h1; rfl
    rw [if_neg h6, if_neg h5, if_neg h3, if_neg h2, if_neg h1]
    unfold D6 D5 D3 D2 D1
    rw [atKey_put_other (by simpa using h6), atKey_put_other (by simpa using h5), atKey_put_other (by simpa using h3), atKey_put_other (by simpa using h2), atKey_put_other (by simpa using h1)]
    rfl
  have a := h (.lit (.bool true))
  rw [key] at a
  by_cases h6 : x = 6
  · rw [if_pos h6] at a; simp at a; omega
  rw [if_neg h6] at a
  by_cases h5 : x = 5
  · rw [if_pos h5] at a; simp at a; omega
  rw [if_neg h5] at a
  by_cases h3 : x = 3
  · rw [if_pos h3] at a; simp at a; omega
  rw [if_neg h3] at a
  by_cases h2 : x = 2
  · rw [if_pos h2] at a; simp at a; omega
  rw [if_neg h2] at a
  by_cases h1 : x = 1
  · rw [if_pos h1] at a; simp at a; omega
  rw [if_neg h1] at a
  cases a
/-- have the words that have been come to a number each -/
def okOf (left : Lit → Bool) (ws : List (List UInt8)) : Bool := (left (.int .i64 1) || (numAt ws 1).isSome) && (left (.int .i64 2) || (numAt ws 2).isSome) && (left (.int .i64 3) || (numAt ws 3).isSome) && (left (.int .i64 5) || (numAt ws 5).isSome) && (left (.int .i64 6) || (numAt ws 6).isSome)
/-- what has come of a word -/
def Cell (left : Lit → Bool) (ws : List (List UInt8)) (i : Nat) (g : Int) : Prop := (left (.int .i64 (i : Int)) = true → g = 0) ∧ (left (.int .i64 (i : Int)) = false → ∀ v, numAt ws i = some v → g = v)
theorem okOf_start (ws : List (List UInt8)) : okOf (Maps.has D6) ws = true := by
  have h : Maps.has D6 (.int .i64 1) = true ∧ Maps.has D6 (.int .i64 2) = true ∧ Maps.has D6 (.int .i64 3) = true ∧ Maps.has D6 (.int .i64 5) = true ∧ Maps.has D6 (.int .i64 6) = true := by decide
  unfold okOf
  rw [h.1, h.2.1, h.2.2.1, h.2.2.2.1, h.2.2.2.2]
  rfl
theorem Cell_start (ws : List (List UInt8)) (i : Nat) (hi : i = 1 ∨ i = 2 ∨ i = 3 ∨ i = 5 ∨ i = 6) : Cell (Maps.has D6) ws i 0 := by
  refine ⟨fun _ => rfl, fun h => ?_⟩
  have : Maps.has D6 (.int .i64 (i : Int)) = true := by rcases hi with rfl | rfl | rfl | rfl | rfl <;> decide
  rw [this] at h
  cases h
theorem strike_at (left : Lit → Bool) (i : Int) (x : Int) : (left (.int .i64 i) && !(Lit.int .i64 i).sameKey (.int .i64 x)) = if i = x then false else left (.int .i64 i) := by
  by_cases h : i = x
  · subst h
    rw [if_pos rfl]
    simp [Lit.sameKey]
  · rw [if_neg h]
    simp [Lit.sameKey, h]
theorem okOf_step {left : Lit → Bool} {ws : List (List UInt8)} {x : Nat} (hx : x = 1 ∨ x = 2 ∨ x = 3 ∨ x = 5 ∨ x = 6) (hl : left (.int .i64 (x : Int)) = true) :
    okOf (fun z => left z && !z.sameKey (.int .i64 (x : Int))) ws = (okOf left ws && (numAt ws x).isSome) := by
  unfold okOf
  simp only [strike_at]
  rcases hx with rfl | rfl | rfl | rfl | rfl <;> simp at hl <;> simp [hl] <;> ac_rfl
theorem Cell_other {left : Lit → Bool} {ws : List (List UInt8)} {i x : Nat} {g : Int} (h : Cell left ws i g) (hne : i ≠ x) : Cell (fun z => left z && !z.sameKey (.int .i64 (x : Int))) ws i g := by
  unfold Cell
  simp only [strike_at]
  rw [if_neg (by omega)]
  exact h
theorem Cell_same {left : Lit → Bool} {ws : List (List UInt8)} {x : Nat} {g : Int} (h : ∀ v, numAt ws x = some v → g = v) : Cell (fun z => left z && !z.sameKey (.int .i64 (x : Int))) ws x g := by
  unfold Cell
  simp only [strike_at]
  rw [if_pos trivial]
  exact ⟨fun h => (by cases h), fun _ => h⟩
theorem okOf_end {left : Lit → Bool} {ws : List (List UInt8)} (h : ∀ kl, left kl = false) : okOf left ws = true ↔ numsOk ws := by
  unfold okOf numsOk
  simp only [h, Bool.false_or, Bool.and_eq_true, and_assoc]
theorem Cell_end {left : Lit → Bool} {ws : List (List UInt8)} {i : Nat} {g : Int} (hc : Cell left ws i g) (h : ∀ kl, left kl = false) (hs : (numAt ws i).isSome = true) : g = (numAt ws i).getD 0 := by
  obtain ⟨v, hv⟩ := Option.isSome_iff_exists.1 hs
  rw [hc.2 (h _) v hv, hv]
  rfl
theorem numAt_word {ws : List (List UInt8)} {i : Nat} {l : List UInt8} (h : ws[i]? = some l) : numAt ws i = numOf l := by
  unfold numAt
  rw [if_pos (List.getElem?_eq_some_iff.1 h).1, List.getD_eq_getElem?_getD, h]
  rfl
end Go.Proofs.YtpcefaccoifejaaGreatDoor
