/-
  Texts of acts in plain Lean: a line read back is its act; what is read is the text of the acts. No program in sight; no conditions.
-/
import Derived.Test.YtpcefaccoifejaaGreatDoorLineG
import Derived.Lib.AtoiTie
import Derived.Lib.Split
import Derived.Lib.SplitLaws
import Derived.Lib.SlicesS
namespace Go.Proofs.YtpcefaccoifejaaGreatDoor
open Go.RowKit
set_option linter.unusedSimpArgs false
set_option linter.unusedVariables false

/-! ### pieces -/
theorem index_none (c : UInt8) : ∀ (x : List UInt8), c ∉ x → Lib.index x [c] = -1
  | [], _ => rfl
  | b :: l, h => by
    simp only [List.mem_cons, not_or] at h
    have hp : ([c] : List UInt8).isPrefixOf (b :: l) = false := by simp [List.isPrefixOf, h.1]
    rw [Lib.index, hp, index_none c l h.2]
    rfl
theorem index_word (c : UInt8) (r : List UInt8) : ∀ (x : List UInt8), c ∉ x → Lib.index (x ++ c :: r) [c] = x.length
  | [], _ => by simp [Lib.index, List.isPrefixOf]
  | b :: l, h => by
    simp only [List.mem_cons, not_or] at h
    have hp : ([c] : List UInt8).isPrefixOf (b :: (l ++ c :: r)) = false := by simp [List.isPrefixOf, h.1]
    rw [List.cons_append, Lib.index, hp, index_word c r l h.2]
    simp only [Bool.false_eq_true, if_false, beq_iff_eq, List.length_cons]
    rw [if_neg (by omega)]
    omega
theorem drop_word (c : UInt8) (x r : List UInt8) : (x ++ c :: r).drop (x.length + (0 + 1)) = r := by
  rw [show x ++ c :: r = (x ++ [c]) ++ r by simp, show x.length + (0 + 1) = (x ++ [c]).length by simp]
  exact List.drop_left
theorem cut_word (c : UInt8) (x r : List UInt8) (h : c ∉ x) : Lib.cut (x ++ c :: r) [c] = (x, r, true) := by
  unfold Lib.cut
  rw [index_word c r x h, if_pos (by omega)]
  simp only [Int.toNat_natCast, List.length_cons, List.length_nil, Prod.mk.injEq, and_true]
  refine ⟨by simp, ?_⟩
  exact drop_word c x r
theorem first_of (c : UInt8) : ∀ (t : List UInt8), c ∈ t → ∃ x r, t = x ++ c :: r ∧ c ∉ x
  | [], h => by cases h
  | b :: l, h => by
    by_cases e : b = c
    · exact ⟨[], l, by rw [e]; rfl, by simp⟩
    · have : c ∈ l := by
        rcases List.mem_cons.1 h with h | h
        · exact absurd h.symm e
        · exact h
      obtain ⟨x, r, h1, h2⟩ := first_of c l this
      exact ⟨b :: x, r, by rw [h1]; rfl, by simp only [List.mem_cons, not_or]; exact ⟨fun h => e h.symm, h2⟩⟩
/-- a text cut where there is a c -/
theorem cut_hit {c : UInt8} {t : List UInt8} (h : (Lib.cut t [c]).2.2 = true) : t = (Lib.cut t [c]).1 ++ c :: (Lib.cut t [c]).2.1 ∧ (Lib.cut t [c]).2.1.length < t.length := by
  by_cases hm : c ∈ t
  · obtain ⟨x, r, rfl, hx⟩ := first_of c t hm
    rw [cut_word c x r hx]
    exact ⟨rfl, by simp; omega⟩
  · unfold Lib.cut at h
    rw [index_none c t hm, if_neg (by omega)] at h
    cases h
theorem join_two (c : UInt8) (x y : List UInt8) (r : List (List UInt8)) : Lib.join (x :: y :: r) [c] = x ++ c :: Lib.join (y :: r) [c] := by
  rw [Lib.join_cons, Lib.join_cons]
  simp [Lib.joinTail]
theorem count_join (c : UInt8) : ∀ (ws : List (List UInt8)), ws ≠ [] → (∀ x ∈ ws, c ∉ x) → Lib.count (Lib.join ws [c]) [c] = ws.length - 1
  | [], h, _ => absurd rfl h
  | [x], _, h => by
    rw [Lib.join_one, Lib.count_miss (index_none c x (h x (by simp)))]
    rfl
  | x :: y :: r, _, h => by
    rw [join_two, Lib.count_hit (by simp) (index_word c _ x (h x (by simp)))]
    rw [show x ++ c :: Lib.join (y :: r) [c] = (x ++ [c]) ++ Lib.join (y :: r) [c] by simp, show x.length + [c].length = (x ++ [c]).length by simp, List.drop_left,
      count_join c (y :: r) (by simp) (fun z hz => h z (by simp only [List.mem_cons] at hz ⊢; exact Or.inr hz))]
    simp only [List.length_cons]
    omega
theorem splitK_join (c : UInt8) : ∀ (ws : List (List UInt8)), ws ≠ [] → (∀ x ∈ ws, c ∉ x) → Lib.splitK [c] 0 (ws.length - 1) (Lib.join ws [c]) = ws
  | [], h, _ => absurd rfl h
  | [x], _, h => by rw [Lib.join_one]; rfl
  | x :: y :: r, _, h => by
    have hi := index_word c (Lib.join (y :: r) [c]) x (h x (by simp))
    rw [join_two]
    show Lib.splitK [c] 0 (r.length + 1) _ = _
    unfold Lib.splitK
    rw [hi, if_neg (by simp only [beq_iff_eq]; omega)]
    simp only [Int.toNat_natCast, Nat.add_zero, List.take_left]
    rw [show x ++ c :: Lib.join (y :: r) [c] = (x ++ [c]) ++ Lib.join (y :: r) [c] by simp, show x.length + [c].length = (x ++ [c]).length by simp, List.drop_left]
    have := splitK_join c (y :: r) (by simp) (fun z hz => h z (by simp only [List.mem_cons] at hz ⊢; exact Or.inr hz))
    rw [show (y :: r).length - 1 = r.length by simp] at this
    rw [this]
/-- the words of a line -/
def wordsOf (s : List UInt8) : List (List UInt8) := Lib.split s [32]
theorem wordsOf_join {ws : List (List UInt8)} (h0 : ws ≠ []) (h : ∀ x ∈ ws, (32 : UInt8) ∉ x) : wordsOf (Lib.join ws [32]) = ws := by
  unfold wordsOf Lib.split
  rw [count_join 32 ws h0 h, splitK_join 32 ws h0 h]

/-! ### numbers -/
theorem decFrom_snoc (b : UInt8) : ∀ (l : List UInt8) (acc m : Nat), Lib.decFrom acc l = some m → ∀ d, Lib.digitVal b = some d → Lib.decFrom acc (l ++ [b]) = some (m * 10 + d)
  | [], acc, m, h, d, hd => by
    simp only [Lib.decFrom, Option.some.injEq] at h
    simp only [List.nil_append, Lib.decFrom, hd, h]
  | x :: l, acc, m, h, d, hd => by
    simp only [Lib.decFrom] at h
    rw [List.cons_append, Lib.decFrom]
    cases hx : Lib.digitVal x with
    | none => rw [hx] at h; cases h
    | some k =>
      rw [hx] at h
      exact decFrom_snoc b l _ m h d hd
theorem digitVal_of (d : Nat) (h : d < 10) : Lib.digitVal (UInt8.ofNat (48 + d)) = some d := by
  have : ∀ d, d < 10 → Lib.digitVal (UInt8.ofNat (48 + d)) = some d := by decide
  exact this d h
theorem decFrom_digits (u : Nat) : Lib.decFrom 0 (Lib.decDigits u) = some u := by
  induction u using Nat.strongRecOn with
  | _ u ih =>
    unfold Lib.decDigits
    by_cases h : u < 10
    · rw [dif_pos h]
      simp only [Lib.decFrom, digitVal_of u h, Nat.zero_mul, Nat.zero_add]
    · rw [dif_neg h, decFrom_snoc _ _ 0 (u / 10) (ih (u / 10) (by omega)) (u % 10) (digitVal_of _ (by omega))]
      congr 1
      omega
theorem digits_ne (u : Nat) : Lib.decDigits u ≠ [] := by
  unfold Lib.decDigits
  split
  · simp
  · simp
theorem digits_mem (u : Nat) : ∀ b ∈ Lib.decDigits u, 48 ≤ b.toNat ∧ b.toNat ≤ 57 := by
  intro b hb
  obtain ⟨k, hk, hb⟩ := List.getElem_of_mem hb
  obtain ⟨d, hd⟩ := Lib.digit_of_decFrom _ _ _ (decFrom_digits u) k b (by rw [← hb]; exact List.getElem?_eq_getElem hk)
  have := Lib.digitVal_eq hd
  omega
theorem nDigits_le7 (u : Nat) (h : u ≤ 1000000) : (Lib.decDigits u).length ≤ 7 := by
  rw [Lib.decDigits_length]
  by_cases h0 : u < 10
  · rw [Lib.nDigits_small h0]; omega
  rw [Lib.nDigits_big h0]
  by_cases h1 : u / 10 < 10
  · rw [Lib.nDigits_small h1]; omega
  rw [Lib.nDigits_big h1]
  by_cases h2 : u / 10 / 10 < 10
  · rw [Lib.nDigits_small h2]; omega
  rw [Lib.nDigits_big h2]
  by_cases h3 : u / 10 / 10 / 10 < 10
  · rw [Lib.nDigits_small h3]; omega
  rw [Lib.nDigits_big h3]
  by_cases h4 : u / 10 / 10 / 10 / 10 < 10
  · rw [Lib.nDigits_small h4]; omega
  rw [Lib.nDigits_big h4]
  by_cases h5 : u / 10 / 10 / 10 / 10 / 10 < 10
  · rw [Lib.nDigits_small h5]; omega
  rw [Lib.nDigits_big h5]
  rw [Lib.nDigits_small (by omega)]
  omega
/-- the number of a word -/
def numOf (l : List UInt8) : Option Int := match Lib.atoiAll l with | .ok v => if -1000000 ≤ v ∧ v ≤ 1000000 then some v else none | _ => none
theorem atoi_digits (u : Nat) : Lib.atoi (Lib.decDigits u) = some (u : Int) := by
  have h := decFrom_digits u
  have hm := digits_mem u
  have hn : Lib.decNat (Lib.decDigits u) = some u := by
    unfold Lib.decNat
    rw [if_neg (by simp [digits_ne u]), h]
  cases e : Lib.decDigits u with
  | nil => exact absurd e (digits_ne u)
  | cons b r =>
    rw [e] at hm hn
    have hb := hm b (by simp)
    have h1 : ¬ (b == 45) = true := fun x => by have := beq_iff_eq.1 x; subst this; exact absurd hb.1 (by decide)
    have h2 : ¬ (b == 43) = true := fun x => by have := beq_iff_eq.1 x; subst this; exact absurd hb.1 (by decide)
    rw [Lib.atoi, if_neg h1, if_neg h2, hn]
    rfl
theorem num_itoa {n : Int} (h1 : -1000000 ≤ n) (h2 : n ≤ 1000000) : numOf (itS n) = some n := by
  have hl : (itS n).length ≤ 18 := by
    unfold itS Lib.itoa
    split
    · have := nDigits_le7 n.natAbs (by omega)
      simp only [List.length_cons]; omega
    · have := nDigits_le7 n.toNat (by omega)
      omega
  have ha : Lib.atoi (itS n) = some n := by
    unfold itS Lib.itoa
    split
    · rename_i hneg
      have hd := decFrom_digits n.natAbs
      rw [Lib.atoi, if_pos (by rfl)]
      unfold Lib.decNat
      rw [if_neg (by simp [digits_ne n.natAbs]), hd]
      simp only [Option.map_some, Option.some.injEq]
      omega
    · rw [atoi_digits]
      congr 1
      omega
  unfold numOf
  rw [Lib.atoiAll_short _ hl, ha]
  show (if _ then _ else _) = _
  rw [if_pos ⟨h1, h2⟩]
theorem itS_plain (n : Int) : (32 : UInt8) ∉ itS n ∧ (10 : UInt8) ∉ itS n := by
  have key : ∀ c : UInt8, c.toNat < 45 → c ∉ itS n := by
    intro c hc hm
    unfold itS Lib.itoa at hm
    split at hm
    · rcases List.mem_cons.1 hm with h | h
      · subst h; exact absurd hc (by decide)
      · have := digits_mem _ _ h; omega
    · have := digits_mem _ _ hm; omega
  exact ⟨key 32 (by decide), key 10 (by decide)⟩
theorem nameOf_plain (m : Nat) : (32 : UInt8) ∉ nameOf m ∧ (10 : UInt8) ∉ nameOf m := by
  by_cases h : m < 17
  · have : ∀ m, m < 17 → (32 : UInt8) ∉ nameOf m ∧ (10 : UInt8) ∉ nameOf m := by decide
    exact this m h
  · unfold nameOf
    rw [List.getD_eq_getElem?_getD, List.getElem?_eq_none (by simp [nameT]; omega)]
    simp
theorem kindOf_plain (k : Int) : (32 : UInt8) ∉ kindOf k ∧ (10 : UInt8) ∉ kindOf k := by unfold kindOf; split <;> decide
theorem words_plain (a : Ac) : ∀ x ∈ lineWordsG a, (32 : UInt8) ∉ x ∧ (10 : UInt8) ∉ x := by
  intro x hx
  unfold lineWordsG at hx
  simp only [List.mem_append, List.mem_cons, List.not_mem_nil, or_false] at hx
  rcases hx with (rfl | rfl | rfl | rfl | rfl | rfl) | hx
  · exact kindOf_plain _
  · exact itS_plain _
  · exact itS_plain _
  · exact itS_plain _
  · exact nameOf_plain _
  · exact itS_plain _
  · split at hx
    · simp only [List.mem_cons, List.not_mem_nil, or_false] at hx
      rw [hx]; exact itS_plain _
    · cases hx
theorem join_plain (c : UInt8) (h32 : c ≠ 32) : ∀ (ws : List (List UInt8)), (∀ x ∈ ws, c ∉ x) → c ∉ Lib.join ws [32]
  | [], _ => by simp [Lib.join_nil]
  | [x], h => by rw [Lib.join_one]; exact h x (by simp)
  | x :: y :: r, h => by
    rw [join_two]
    intro hm
    rcases List.mem_append.1 hm with hm | hm
    · exact h x (by simp) hm
    · rcases List.mem_cons.1 hm with hm | hm
      · exact h32 hm
      · exact join_plain c h32 (y :: r) (fun z hz => h z (by simp only [List.mem_cons] at hz ⊢; exact Or.inr hz)) hm

/-! ### acts -/
/-- the number of a name; 0: there is none -/
def nameIx (l : List UInt8) : Nat := if l ∈ nameT then nameT.idxOf l else 0
theorem nameIx_lt (l : List UInt8) : nameIx l < 17 := by
  unfold nameIx
  split
  · rename_i h
    exact List.idxOf_lt_length_of_mem h
  · omega
theorem nameIx_name {m : Nat} (h : m < 17) : nameIx (nameOf m) = m := by
  have : ∀ m, m < 17 → nameIx (nameOf m) = m := by decide
  exact this m h
/-- an act that can be written, with numbers of a line -/
structure FitN (a : Ac) : Prop extends Fit a where
  n1 : -1000000 ≤ a.2.1.1 ∧ a.2.1.1 ≤ 1000000
  n2 : -1000000 ≤ a.2.1.2.1 ∧ a.2.1.2.1 ≤ 1000000
  n3 : -1000000 ≤ a.2.1.2.2.1 ∧ a.2.1.2.2.1 ≤ 1000000
  n5 : -1000000 ≤ a.2.1.2.2.2.2 ∧ a.2.1.2.2.2.2 ≤ 1000000
  nv : -1000000 ≤ a.2.2 ∧ a.2.2 ≤ 1000000
  v0 : a.1 = 2 → a.2.2 = 0
theorem FitN.wf {a : Ac} (h : FitN a) : wfA a := by
  obtain ⟨k, ⟨x1, x2, x3, x4, x5⟩, v⟩ := a
  have h1 := h.n1
  have h2 := h.n2
  have h3 := h.n3
  have h5 := h.n5
  have hv := h.nv
  have hk := h.kind
  have hw := h.what
  simp only at h1 h2 h3 h5 hv hk hw
  refine ⟨?_, ⟨?_, ?_, ?_, ?_, ?_⟩, ?_⟩ <;> (unfold i64B; simp only; omega)
/-- what the words of a line say: a number each, a name, at most one more -/
def numAt (ws : List (List UInt8)) (i : Nat) : Option Int := if i < ws.length then numOf (ws.getD i []) else some 0
def actW (ws : List (List UInt8)) : Ac :=
  (if ws.length = 7 then 1 else 2, ((numAt ws 1).getD 0, (numAt ws 2).getD 0, (numAt ws 3).getD 0, (nameIx (ws.getD 4 []) : Nat), (numAt ws 5).getD 0), (numAt ws 6).getD 0)
def numsOk (ws : List (List UInt8)) : Prop := (numAt ws 1).isSome = true ∧ (numAt ws 2).isSome = true ∧ (numAt ws 3).isSome = true ∧ (numAt ws 5).isSome = true ∧ (numAt ws 6).isSome = true
instance (ws : List (List UInt8)) : Decidable (numsOk ws) := by unfold numsOk; exact inferInstance
/-- the act of a line -/
def actO (s : List UInt8) : Option Ac :=
  if (wordsOf s).length = 6 ∨ (wordsOf s).length = 7 then
    if numsOk (wordsOf s) ∧ 0 < nameIx ((wordsOf s).getD 4 []) ∧ lineG (actW (wordsOf s)) = s ++ [10] then some (actW (wordsOf s)) else none
  else none
theorem numAt_ok {ws : List (List UInt8)} {i : Nat} (h : (numAt ws i).isSome = true) : -1000000 ≤ (numAt ws i).getD 0 ∧ (numAt ws i).getD 0 ≤ 1000000 := by
  unfold numAt at h ⊢
  split
  · rename_i hi
    rw [if_pos hi] at h
    unfold numOf at h ⊢
    split
    · rename_i v hv
      rw [hv] at h
      simp only at h
      split
      · rename_i hb
        simpa using hb
      · rename_i hb
        rw [if_neg hb] at h
        cases h
    · simp
  · simp
theorem actW_fit {ws : List (List UInt8)} (hl : ws.length = 6 ∨ ws.length = 7) (h : numsOk ws) (hn : 0 < nameIx (ws.getD 4 [])) : FitN (actW ws) := by
  obtain ⟨a, b, c, d, e⟩ := h
  have hx := nameIx_lt (ws.getD 4 [])
  refine ⟨⟨?_, ?_⟩, numAt_ok a, numAt_ok b, numAt_ok c, numAt_ok d, numAt_ok e, ?_⟩
  · unfold actW; simp only
    split <;> omega
  · unfold actW; simp only
    omega
  · intro hk
    unfold actW at hk ⊢
    simp only at hk ⊢
    have : ¬ ws.length = 7 := fun x => by rw [if_pos x] at hk; cases hk
    unfold numAt
    rw [if_neg (by omega)]
    rfl
theorem actO_some {s : List UInt8} {a : Ac} (h : actO s = some a) : FitN a ∧ lineG a = s ++ [10] := by
  unfold actO at h
  split at h
  · rename_i hl
    split at h
    · rename_i hc
      injection h with h
      subst h
      exact ⟨actW_fit hl hc.1 hc.2.1, hc.2.2⟩
    · cases h
  · cases h
theorem actO_line {s : List UInt8} {a : Ac} (hf : FitN a) (h : lineG a = s ++ [10]) : actO s = some a := by
  have hs : s = Lib.join (lineWordsG a) [32] := by
    unfold lineG at h
    exact (List.append_inj_left' h rfl).symm
  have hne : lineWordsG a ≠ [] := by unfold lineWordsG; simp
  have hw : wordsOf s = lineWordsG a := by rw [hs]; exact wordsOf_join hne (fun x hx => (words_plain a x hx).1)
  obtain ⟨k, ⟨x1, x2, x3, x4, x5⟩, v⟩ := a
  have e1 := num_itoa hf.n1.1 hf.n1.2
  have e2 := num_itoa hf.n2.1 hf.n2.2
  have e3 := num_itoa hf.n3.1 hf.n3.2
  have e5 := num_itoa hf.n5.1 hf.n5.2
  have ev := num_itoa hf.nv.1 hf.nv.2
  have hk := hf.kind
  obtain ⟨w1, w2⟩ := hf.what
  have v0 := hf.v0
  simp only at e1 e2 e3 e5 ev hk w1 w2 v0
  obtain ⟨m, rfl⟩ : ∃ m : Nat, x4 = m := ⟨x4.toNat, by omega⟩
  have em := nameIx_name (m := m) (by omega)
  have hW : actW (wordsOf s) = (k, (x1, x2, x3, (m : Int), x5), v) ∧ ((wordsOf s).length = 6 ∨ (wordsOf s).length = 7) ∧ numsOk (wordsOf s) ∧ nameIx ((wordsOf s).getD 4 []) = m := by
    rw [hw]
    rcases hk with rfl | rfl
    · have hL : lineWordsG (1, (x1, x2, x3, (m : Int), x5), v) = [kindOf 1, itS x1, itS x2, itS x3, nameOf m, itS x5, itS v] := by unfold lineWordsG; simp
      rw [hL]
      unfold actW numsOk numAt
      simp [e1, e2, e3, e5, ev, em]
    · have hL : lineWordsG (2, (x1, x2, x3, (m : Int), x5), v) = [kindOf 2, itS x1, itS x2, itS x3, nameOf m, itS x5] := by unfold lineWordsG; simp
      rw [hL]
      unfold actW numsOk numAt
      simp [e1, e2, e3, e5, em, v0 rfl]
  obtain ⟨h1, h2, h3, h4⟩ := hW
  unfold actO
  rw [if_pos h2, h1, h4, if_pos ⟨h3, by omega, h⟩]

/-! ### texts -/
def formatG (acts : List Ac) : List UInt8 := acts.flatMap lineG
def parseGo : Nat → List Ac → List UInt8 → List Ac × Nat × Int
  | 0, acc, t => if t = [] then (acc, 0, 0) else ([], acc.length, 5)
  | f + 1, acc, t => if t = [] then (acc, 0, 0) else
    match actO (Lib.cut t [10]).1 with
    | none => ([], acc.length, 5)
    | some a => if (Lib.cut t [10]).2.2 = false then ([], acc.length, 5) else if 4096 ≤ acc.length then ([], acc.length, 4) else parseGo f (acc ++ [a]) (Lib.cut t [10]).2.1
/-- the acts of a text, the line of a fault, the error -/
def parseO (t : List UInt8) : List Ac × Nat × Int := if 131072 < t.length then ([], 0, 4) else parseGo t.length [] t
theorem line_plain (a : Ac) : (10 : UInt8) ∉ Lib.join (lineWordsG a) [32] := join_plain 10 (by decide) _ (fun x hx => (words_plain a x hx).2)
theorem lineG_pos (a : Ac) : 0 < (lineG a).length := by unfold lineG; simp
theorem parseGo_fmt : ∀ (acts : List Ac) (f : Nat) (acc : List Ac), (∀ a ∈ acts, FitN a) → acc.length + acts.length ≤ 4096 → (formatG acts).length ≤ f → parseGo f acc (formatG acts) = (acc ++ acts, 0, 0)
  | [], f, acc, _, _, _ => by
    cases f with
    | zero => simp [formatG, parseGo]
    | succ f => simp [formatG, parseGo]
  | a :: r, f, acc, h, hl, hf => by
    have hF : formatG (a :: r) = Lib.join (lineWordsG a) [32] ++ 10 :: formatG r := by
      show (a :: r).flatMap lineG = _
      rw [List.flatMap_cons]
      show lineG a ++ formatG r = _
      unfold lineG
      simp
    rw [hF] at hf ⊢
    simp only [List.length_append, List.length_cons] at hf
    cases f with
    | zero => omega
    | succ f =>
      unfold parseGo
      rw [if_neg (by simp), cut_word 10 _ _ (line_plain a), actO_line (h a (by simp)) rfl]
      simp only [List.length_cons] at hl
      simp only [Bool.true_eq_false, if_false]
      rw [if_neg (by omega), parseGo_fmt r f (acc ++ [a]) (fun x hx => h x (by simp [hx])) (by simp; omega) (by omega)]
      simp
theorem parseGo_ok : ∀ (f : Nat) (acc : List Ac) (t : List UInt8), (parseGo f acc t).2.2 = 0 → acc.length ≤ 4096 → ∃ rest, parseGo f acc t = (acc ++ rest, 0, 0) ∧ formatG rest = t ∧ (∀ a ∈ rest, FitN a) ∧ acc.length + rest.length ≤ 4096
  | 0, acc, t, h, hl => by
    unfold parseGo at h ⊢
    split at h
    · rename_i ht
      rw [if_pos ht]
      exact ⟨[], by simp, by rw [ht]; rfl, by simp, by simpa using hl⟩
    · cases h
  | f + 1, acc, t, h, hl => by
    unfold parseGo at h ⊢
    by_cases ht : t = []
    · rw [if_pos ht]
      exact ⟨[], by simp, by rw [ht]; rfl, by simp, by simpa using hl⟩
    · rw [if_neg ht] at h ⊢
      cases ha : actO (Lib.cut t [10]).1 with
      | none => rw [ha] at h; cases h
      | some a =>
        rw [ha] at h
        simp only at h ⊢
        by_cases h1 : (Lib.cut t [10]).2.2 = false
        · rw [if_pos h1] at h; cases h
        · rw [if_neg h1] at h ⊢
          by_cases h2 : 4096 ≤ acc.length
          · rw [if_pos h2] at h; cases h
          · rw [if_neg h2] at h ⊢
            obtain ⟨rest, e, hr, hfit, hlen⟩ := parseGo_ok f (acc ++ [a]) _ h (by simp; omega)
            have hc := (cut_hit (c := 10) (t := t) (by simpa using h1)).1
            obtain ⟨hfa, hla⟩ := actO_some ha
            refine ⟨a :: rest, by rw [e]; simp, ?_, ?_, by simp at hlen ⊢; omega⟩
            · have : formatG (a :: rest) = lineG a ++ formatG rest := rfl
              rw [this, hr, hla]
              conv => rhs; rw [hc]
              simp
            · intro x hx
              rcases List.mem_cons.1 hx with rfl | hx
              · exact hfa
              · exact hfit x hx
theorem parseGo_err : ∀ (f : Nat) (acc : List Ac) (t : List UInt8), (parseGo f acc t).2.2 ≠ 0 → (parseGo f acc t).1 = []
  | 0, acc, t, h => by
    unfold parseGo at h ⊢
    split
    · rename_i ht; rw [if_pos ht] at h; exact absurd rfl h
    · rfl
  | f + 1, acc, t, h => by
    unfold parseGo at h ⊢
    by_cases ht : t = []
    · rw [if_pos ht] at h; exact absurd rfl h
    · rw [if_neg ht] at h ⊢
      cases ha : actO (Lib.cut t [10]).1 with
      | none => rfl
      | some a =>
        rw [ha] at h
        simp only at h ⊢
        by_cases h1 : (Lib.cut t [10]).2.2 = false
        · rw [if_pos h1]
        · rw [if_neg h1] at h ⊢
          by_cases h2 : 4096 ≤ acc.length
          · rw [if_pos h2]
          · rw [if_neg h2] at h ⊢
            exact parseGo_err f _ _ h
theorem parse_fmt {acts : List Ac} (h : ∀ a ∈ acts, FitN a) (hl : acts.length ≤ 4096) (ht : (formatG acts).length ≤ 131072) : parseO (formatG acts) = (acts, 0, 0) := by
  unfold parseO
  rw [if_neg (by omega), parseGo_fmt acts _ [] h (by simpa using hl) (Nat.le_refl _)]
  rfl
theorem parse_ok {t : List UInt8} (h : (parseO t).2.2 = 0) : ∃ acts, parseO t = (acts, 0, 0) ∧ formatG acts = t ∧ (∀ a ∈ acts, FitN a) ∧ acts.length ≤ 4096 := by
  unfold parseO at h ⊢
  split at h
  · cases h
  · rename_i ht
    rw [if_neg ht]
    obtain ⟨r, e, a, b, c⟩ := parseGo_ok _ [] t h (by simp)
    exact ⟨r, by simpa using e, a, b, by simpa using c⟩
theorem parse_err {t : List UInt8} (h : (parseO t).2.2 ≠ 0) : (parseO t).1 = [] := by
  unfold parseO at h ⊢
  split
  · rfl
  · rename_i ht
    rw [if_neg ht] at h
    exact parseGo_err _ _ _ h
/-- a text of acts with numbers of a line is short -/
theorem line_short {a : Ac} (h : FitN a) : (lineG a).length ≤ 1001 := by
  have := join_lenG h.wf
  unfold lineG
  simp only [List.length_append, List.length_cons, List.length_nil]
  omega
end Go.Proofs.YtpcefaccoifejaaGreatDoor
