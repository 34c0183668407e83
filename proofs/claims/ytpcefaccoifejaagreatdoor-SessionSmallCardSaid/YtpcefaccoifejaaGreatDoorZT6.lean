/-
  The contract of custosref13.act. Conditions: the line is at most 200000 bytes long.
-/
import Derived.Test.YtpcefaccoifejaaGreatDoorZT6a
import Derived.Test.YtpcefaccoifejaaGreatDoorTX3
import Derived.Test.YtpcefaccoifejaaGreatDoorAW0
namespace Go.Proofs.YtpcefaccoifejaaGreatDoor
open Go.RowKit
set_option linter.unusedSimpArgs false
set_option linter.unusedVariables false
set_option maxRecDepth 100000

theorem set_five {W : World} {b : Nat} {T : TypeId} {a0 a1 a2 a3 a4 a5 a6 x1 x2 x3 x4 x5 : Value} (h : W.heap[b]? = some (.cells #[a0, a1, a2, a3, a4, a5, a6] T (0, 0))) :
    (((((W.setCell ⟨b, 1, none⟩ x1).setCell ⟨b, 2, none⟩ x2).setCell ⟨b, 3, none⟩ x3).setCell ⟨b, 4, none⟩ x4).setCell ⟨b, 5, none⟩ x5).heap[b]? = some (.cells #[a0, x1, x2, x3, x4, x5, a6] T (0, 0)) :=
  heap_setCell_same _ b 5 _ _ _ (heap_setCell_same _ b 4 _ _ _ (heap_setCell_same _ b 3 _ _ _ (heap_setCell_same _ b 2 _ _ _ (heap_setCell_same _ b 1 _ _ _ h))))
theorem kg_five {w W : World} {b : Nat} (h : Kg w (some b) W) (x1 x2 x3 x4 x5 : Value) : Kg w (some b) (((((W.setCell ⟨b, 1, none⟩ x1).setCell ⟨b, 2, none⟩ x2).setCell ⟨b, 3, none⟩ x3).setCell ⟨b, 4, none⟩ x4).setCell ⟨b, 5, none⟩ x5) := (Kg.setg (Kg.setg (Kg.setg (Kg.setg (Kg.setg h 1 x1) 2 x2) 3 x3) 4 x4) 5 x5)
theorem own_set {w : World} {base n b z : Nat} {T : TypeId} {k : Nat} {v : Value} {ks : List Value} (h : w.ownsRow base T k v n ks) (hb : ∀ j, v.ownBlock = some j → j < b) (x : Value) : (w.setCell ⟨b, z, none⟩ x).ownsRow base T k v n ks :=
  World.ownsRow.kept (row := some b) h (Kg.setg (Kg.refl w _) z x) (by
    cases hv : v.ownBlock with
    | none => exact .inl rfl
    | some j =>
      refine .inr fun e => ?_
      have := hb j hv
      injection e with e
      omega)
theorem own_pos {w : World} {base k n : Nat} {e : TypeId} {v : Value} {ks : List Value} (hn : 0 < n) (h : w.ownsRow base e k v n ks) : ∃ g cap, v = .slice (some ⟨g, 0, none⟩) n cap := by
  rcases h.2 with ⟨rfl, h0⟩ | ⟨g, cap, cur, rfl, -⟩
  · omega
  · exact ⟨g, cap, rfl⟩
theorem newCellsT (w : World) (O : Obj) (p : Addr) (x : Value) (l : List Value) (T : TypeId) : ∀ j u, l[j]? = some u → (((w.alloc O).setCell p x).alloc (.cells l.toArray T)).cell? ((⟨w.heap.size + 1, 0, none⟩ : Addr).add j) = some u := by
  have h := newCells ((w.alloc O).setCell p x) l T
  rwa [show ((w.alloc O).setCell p x).heap.size = w.heap.size + 1 by simp [World.setCell]] at h
theorem rline_eq {s : List UInt8} {a : Ac} {O : Option Ac} (h : O = if lineR a = s then some a else none) : ((lineR a == s) = O.isSome) ∧ (∀ b, O = some b → a = b) := by
  by_cases e : lineR a = s
  · rw [if_pos e] at h
    subst h
    exact ⟨beq_iff_eq.2 e, fun b hb => Option.some.inj hb⟩
  · rw [if_neg e] at h
    subst h
    exact ⟨beq_eq_false_iff_ne.2 e, fun b hb => nomatch hb⟩
/-- what holds from the words on: the result's block, the act's block, the words -/
structure Ja (w : World) (y g cap : Nat) (ks : List Value) (cs : Array Value) (W : World) : Prop where
  res : W.heap[w.heap.size]? = some (.cells #[.int .i64 0, .int .i64 0, .int .i64 0, .int .i64 0, .int .i64 0, .int .i64 0, .int .i64 0] 56 (0, 0))
  act : W.heap[y]? = some (.cells cs 56 (0, 0))
  row : W.ownsRow (w.heap.size + 1) 9 1 (.slice (some ⟨g, 0, none⟩) 7 cap) 7 ks
  bel : Below w.heap.size w W
  hy : w.heap.size < y
  hgy : g ≠ y
theorem Ja.hg {w : World} {y g cap : Nat} {ks : List Value} {cs : Array Value} {W : World} (h : Ja w y g cap ks cs W) : w.heap.size < g ∧ g < W.heap.size := by
  have := h.row.lt g rfl
  omega
theorem Ja.below {w : World} {y g cap : Nat} {ks : List Value} {cs : Array Value} {W W' : World} (h : Ja w y g cap ks cs W) (hb : Below W.heap.size W W') : Ja w y g cap ks cs W' :=
  ⟨(hb.block _ (Array.getElem?_eq_some_iff.1 h.res).1).trans h.res, (hb.block _ (Array.getElem?_eq_some_iff.1 h.act).1).trans h.act, own_below h.row hb, h.bel.trans (hb.mono h.bel.size), h.hy, h.hgy⟩
theorem Ja.kg {w : World} {y g cap : Nat} {ks : List Value} {cs cs' : Array Value} {W W' : World} (h : Ja w y g cap ks cs W) (hk : Kg W (some y) W') (ha : W'.heap[y]? = some (.cells cs' 56 (0, 0))) : Ja w y g cap ks cs' W' := by
  have hy := h.hy
  have hgy := h.hgy
  have hy2 : y < W.heap.size := (Array.getElem?_eq_some_iff.1 h.act).1
  refine ⟨(hk.block _ (Array.getElem?_eq_some_iff.1 h.res).1 (fun e => by injection e with e; omega)).trans h.res, ha, World.ownsRow.kept (row := some y) h.row hk (.inr (fun e => hgy (by injection e))), h.bel.grown hk h.bel.size (fun j hj => by cases hj; omega), hy, hgy⟩
theorem Ja.word {w : World} {y g cap : Nat} {ks : List Value} {cs : Array Value} {W : World} (h : Ja w y g cap ks cs W) {i : Nat} {u : Value} (hi : i < 7) (hu : ks[i]? = some u) : W.cell? ⟨g, i, none⟩ = some u := by
  rw [h.row.cellAt i (by omega)]
  exact hu
set_option maxHeartbeats 16000000 in
theorem ract_miss (s : List UInt8) (w : World) (hs : s.length ≤ 200000) (h6 : ¬ (wordsOf s).length = 6) (h7 : ¬ (wordsOf s).length = 7) :
    Calls Tryz.prog 35 #[.string ⟨s.toArray⟩] w fun e w' => ∃ a : Ac, e = .returned (.tuple #[acA a, .bool (actO s).isSome]) ∧ (∀ b, actO s = some b → a = b) ∧ Below w.heap.size w w' := by
  have HWD := Lib.hid fun W => words_c s W hs
  have HSH := Lib.hid fun l (hl : l ∈ wordsOf s) => Nat.le_trans (words_short s l hl) hs
  have HNU := Lib.hid fun (l : List UInt8) (hl : l.length ≤ 200000) W => rnumber_c l W hl
  have hI := Lib.hid infoStr
  have hn := actO_short (s := s) (by omega)
  obtain ⟨ws, hws⟩ : ∃ ws, wordsOf s = ws := ⟨_, rfl⟩
  rw [hws] at HWD HSH h6 h7
  generalize actO s = AO at *
  subst hn
  obtain ⟨n, hn⟩ : ∃ n, ws.length = n := ⟨_, rfl⟩
  have hc : n < 6 ∨ 7 < n := by omega
  rw [hn] at HWD
  clear h6 h7 hn hws HSH
  rcases hc with hc | hc
  · have hcI : (n : Int) < 6 := by omega
    go_enter Tryz.func35, Tryz.ntmps35
    go_wp2_with fail
    refine (HWD.out _).mono ?_
    rintro e W1 ⟨v, rfl, hown, hb1⟩
    rw [show (w.alloc (.cells #[.int .i64 0, .int .i64 0, .int .i64 0, .int .i64 0, .int .i64 0, .int .i64 0, .int .i64 0] 56)).heap.size = w.heap.size + 1 by simp] at hown hb1
    have hX1 : W1.heap[w.heap.size]? = some (.cells #[.int .i64 0, .int .i64 0, .int .i64 0, .int .i64 0, .int .i64 0, .int .i64 0, .int .i64 0] 56 (0, 0)) := (hb1.block _ (by omega)).trans (heap_alloc_new w _)
    have hB1 : Below w.heap.size w W1 := ((Below.refl _ _).alloc (Nat.le_refl _) _).trans (hb1.mono (Nat.le_succ _))
    have hs1 : w.heap.size + 1 ≤ W1.heap.size := by have := hb1.size; simpa using this
    clear hb1
    obtain ⟨a, c, rfl⟩ := own_shape hown
    obtain ⟨z0, z1, z2, z3, z4, z5, z6⟩ := cellAct hX1
    have zf0 : W1.frozen? ⟨w.heap.size, 0, none⟩ = false := frozen_of_row _ _ _ _ _ hX1
    have zf1 : W1.frozen? ⟨w.heap.size, 1, none⟩ = false := frozen_of_row _ _ _ _ _ hX1
    have zf2 : W1.frozen? ⟨w.heap.size, 2, none⟩ = false := frozen_of_row _ _ _ _ _ hX1
    have zf3 : W1.frozen? ⟨w.heap.size, 3, none⟩ = false := frozen_of_row _ _ _ _ _ hX1
    have zf4 : W1.frozen? ⟨w.heap.size, 4, none⟩ = false := frozen_of_row _ _ _ _ _ hX1
    have zf5 : W1.frozen? ⟨w.heap.size, 5, none⟩ = false := frozen_of_row _ _ _ _ _ hX1
    have zf6 : W1.frozen? ⟨w.heap.size, 6, none⟩ = false := frozen_of_row _ _ _ _ _ hX1
    have HX := Lib.hid hX1
    have HB := Lib.hid hB1
    clear hX1 hB1 hown
    go_wp2_with fail
    exact bodyPost_ret (v := .tuple #[.agg #[.int .i64 0, .int .i64 0, .int .i64 0, .int .i64 0, .int .i64 0, .int .i64 0, .int .i64 0], .bool false]) (results_row2 Tryz.results35 _ _ w.heap.size 56 _ (0, 0) _ _ rfl rfl (set_seven HX.out) Tryz.underlying56 rfl rfl) rfl
      ⟨(0, (0, 0, 0, 0, 0), 0), rfl, (fun _ h => nomatch h), below_seven HB.out (Nat.le_refl _) _ _ _ _ _ _ _⟩
  · have hcI : ¬ (n : Int) < 6 := by omega
    have hcJ : (7 : Int) < (n : Int) := by omega
    go_enter Tryz.func35, Tryz.ntmps35
    go_wp2_with fail
    refine (HWD.out _).mono ?_
    rintro e W1 ⟨v, rfl, hown, hb1⟩
    rw [show (w.alloc (.cells #[.int .i64 0, .int .i64 0, .int .i64 0, .int .i64 0, .int .i64 0, .int .i64 0, .int .i64 0] 56)).heap.size = w.heap.size + 1 by simp] at hown hb1
    have hX1 : W1.heap[w.heap.size]? = some (.cells #[.int .i64 0, .int .i64 0, .int .i64 0, .int .i64 0, .int .i64 0, .int .i64 0, .int .i64 0] 56 (0, 0)) := (hb1.block _ (by omega)).trans (heap_alloc_new w _)
    have hB1 : Below w.heap.size w W1 := ((Below.refl _ _).alloc (Nat.le_refl _) _).trans (hb1.mono (Nat.le_succ _))
    have hs1 : w.heap.size + 1 ≤ W1.heap.size := by have := hb1.size; simpa using this
    clear hb1
    obtain ⟨a, c, rfl⟩ := own_shape hown
    obtain ⟨z0, z1, z2, z3, z4, z5, z6⟩ := cellAct hX1
    have zf0 : W1.frozen? ⟨w.heap.size, 0, none⟩ = false := frozen_of_row _ _ _ _ _ hX1
    have zf1 : W1.frozen? ⟨w.heap.size, 1, none⟩ = false := frozen_of_row _ _ _ _ _ hX1
    have zf2 : W1.frozen? ⟨w.heap.size, 2, none⟩ = false := frozen_of_row _ _ _ _ _ hX1
    have zf3 : W1.frozen? ⟨w.heap.size, 3, none⟩ = false := frozen_of_row _ _ _ _ _ hX1
    have zf4 : W1.frozen? ⟨w.heap.size, 4, none⟩ = false := frozen_of_row _ _ _ _ _ hX1
    have zf5 : W1.frozen? ⟨w.heap.size, 5, none⟩ = false := frozen_of_row _ _ _ _ _ hX1
    have zf6 : W1.frozen? ⟨w.heap.size, 6, none⟩ = false := frozen_of_row _ _ _ _ _ hX1
    have HX := Lib.hid hX1
    have HB := Lib.hid hB1
    clear hX1 hB1 hown
    go_wp2_with fail
    exact bodyPost_ret (v := .tuple #[.agg #[.int .i64 0, .int .i64 0, .int .i64 0, .int .i64 0, .int .i64 0, .int .i64 0, .int .i64 0], .bool false]) (results_row2 Tryz.results35 _ _ w.heap.size 56 _ (0, 0) _ _ rfl rfl (set_seven HX.out) Tryz.underlying56 rfl rfl) rfl
      ⟨(0, (0, 0, 0, 0, 0), 0), rfl, (fun _ h => nomatch h), below_seven HB.out (Nat.le_refl _) _ _ _ _ _ _ _⟩
set_option maxHeartbeats 16000000 in
theorem ract_six (s : List UInt8) (w : World) (hs : s.length ≤ 200000) (w0 w1 w2 w3 w4 w5 : List UInt8) (hws : wordsOf s = [w0, w1, w2, w3, w4, w5]) :
    Calls Tryz.prog 35 #[.string ⟨s.toArray⟩] w fun e w' => ∃ a : Ac, e = .returned (.tuple #[acA a, .bool (actO s).isSome]) ∧ (∀ b, actO s = some b → a = b) ∧ Below w.heap.size w w' := by
  have HWD := Lib.hid fun W => words_c s W hs
  have HSH := Lib.hid fun l (hl : l ∈ wordsOf s) => Nat.le_trans (words_short s l hl) hs
  have HNU := Lib.hid fun (l : List UInt8) (hl : l.length ≤ 200000) W => rnumber_c l W hl
  have hI := Lib.hid infoStr
  have H6 := Lib.hid fun (x1 x2 x3 x5 xv : Int) (n1 : NumR w1 x1) (n2 : NumR w2 x2) (n3 : NumR w3 x3) (n5 : NumR w5 x5) (nv : NumR [48] xv) => ract6 hws n1 n2 n3 n5 nv
  rw [hws] at HWD HSH
  generalize actO s = AO at *
  clear hws
  go_enter Tryz.func35, Tryz.ntmps35
  go_wp2_with fail
  refine (HWD.out _).mono ?_
  rintro e W1 ⟨v, rfl, hown, hb1⟩
  rw [show (w.alloc (.cells #[.int .i64 0, .int .i64 0, .int .i64 0, .int .i64 0, .int .i64 0, .int .i64 0, .int .i64 0] 56)).heap.size = w.heap.size + 1 by simp] at hown hb1
  have hX1 : W1.heap[w.heap.size]? = some (.cells #[.int .i64 0, .int .i64 0, .int .i64 0, .int .i64 0, .int .i64 0, .int .i64 0, .int .i64 0] 56 (0, 0)) := (hb1.block _ (by omega)).trans (heap_alloc_new w _)
  have hB1 : Below w.heap.size w W1 := ((Below.refl _ _).alloc (Nat.le_refl _) _).trans (hb1.mono (Nat.le_succ _))
  have hs1 : w.heap.size + 1 ≤ W1.heap.size := by have := hb1.size; simpa using this
  clear hb1
  simp only [List.map_cons, List.map_nil, List.length_cons, List.length_nil, Nat.zero_add, Nat.reduceAdd] at hown
  obtain ⟨g1, cap1, rfl⟩ := own_pos (by decide) hown
  have hg1 := hown.lt g1 rfl
  have HO1 := Lib.hid hown
  have HX1 := Lib.hid hX1
  have HB1 := Lib.hid hB1
  clear hown hX1 hB1
  go_wp2_with (at_builtin; refine Hid.out ?_)
  refine Lib.hid ?_
  (refine wpList_append_own _ rfl (.tmp 25) (.tmp 26) _ rfl (w.heap.size + 1) 9 Tryz.t9 _ 1 16 rfl hI.out rfl rfl rfl rfl (by omega) (.slice (some ⟨g1, 0, none⟩) 6 cap1) 6 _ rfl ((HO1.out.alloc _).alloc _) ⟨W1.heap.size + 1, 0, none⟩ 1 1 [strV [48]] rfl rfl (newCells2 _ _ _ _) (by simp [strV, Value.oneCell']) (by simp only [maxLen]; omega) (by omega) (by simp [World.setCell]; omega) ?_); intro v3 w3' hao hag hn3
  simp only [Nat.reduceAdd, List.cons_append, List.nil_append] at hao
  obtain ⟨g2, cap2, rfl⟩ := own_pos (by decide) hao
  have hq2 := hao.lt g2 rfl
  have hB3 : Below w.heap.size w w3' := ((HB1.out.alloc (by omega) _).alloc (by simp; omega) _).grown hag (by simp; omega) (fun j hj => by have := (HO1.out.lt j hj).1; omega)
  have hX3 : w3'.heap[w.heap.size]? = some (.cells #[.int .i64 0, .int .i64 0, .int .i64 0, .int .i64 0, .int .i64 0, .int .i64 0, .int .i64 0] 56 (0, 0)) := (hag.block _ (by simp; omega) (fun e => by have := (HO1.out.lt _ e.symm).1; omega)).trans ((heap_alloc_old _ _ (by simp; omega)).trans ((heap_alloc_old _ _ (by omega)).trans HX1.out))
  have hY3 : w3'.heap[W1.heap.size]? = some (.cells #[.int .i64 2, .int .i64 0, .int .i64 0, .int .i64 0, .int .i64 0, .int .i64 0, .int .i64 0] 56 (0, 0)) := (hag.block _ (by simp; omega) (fun e => by have := (HO1.out.lt _ e.symm).2; omega)).trans ((heap_alloc_old _ _ (by simp)).trans (heap_alloc_new _ _))
  have hJ2 : Ja w W1.heap.size g2 cap2 [strV w0, strV w1, strV w2, strV w3, strV w4, strV w5, strV [48]] #[.int .i64 2, .int .i64 0, .int .i64 0, .int .i64 0, .int .i64 0, .int .i64 0, .int .i64 0] w3' := ⟨hX3, hY3, hao, hB3, by omega, fun e => own_ne hao hY3 (by decide) (by rw [e]; rfl)⟩
  have HJ2 := Lib.hid hJ2
  clear hJ2 hX3 hY3 hB3 hao hag hn3 HO1 HX1 HB1
  go_wp2_with fail
  obtain ⟨W2, rfl⟩ : ∃ W2 : World, W2 = w3' := ⟨_, rfl⟩
  refine (rnames_c _).mono ?_
  rintro e W3 ⟨rfl, hW3⟩
  have hJ3 : Ja w W1.heap.size g2 cap2 [strV w0, strV w1, strV w2, strV w3, strV w4, strV w5, strV [48]] #[.int .i64 2, .int .i64 0, .int .i64 0, .int .i64 0, .int .i64 0, .int .i64 0, .int .i64 0] W3 := by rw [hW3]; exact HJ2.out.below ((Below.refl _ _).alloc (Nat.le_refl _) _)
  have hN3 : W3.heap[W2.heap.size]? = some (.cells rnameCells 9 (0, 0)) := by rw [hW3]; exact heap_alloc_new _ _
  have HJ3 := Lib.hid hJ3
  have HN3 := Lib.hid hN3
  have hz3 : W2.heap.size < W3.heap.size := (Array.getElem?_eq_some_iff.1 hN3).1
  clear hW3 hJ3 hN3 HJ2
  go_wp2_with fail
  go_loopw [6, 8] (fun wv i wr => ∃ (j m : Nat), j ≤ 16 ∧ i = .int .i64 (j : Int) ∧ wv = .int .i64 (m : Int) ∧ m = whatN w4 j ∧ Below W3.heap.size W3 wr)
    (fun _ i wr => 16 - (intOf i).toNat)
  case atStart => exact ⟨0, 0, Nat.zero_le _, rfl, rfl, rfl, by go_grown⟩
  case round =>
    obtain ⟨j, m, hj, rfl, rfl, hm, hB⟩ := hrel
    have HB := Lib.hid hB
    have hJr := HJ3.out.below hB
    have HJ := Lib.hid hJr
    have hj0 : (0 : Int) ≤ j := by omega
    by_cases hjl : j < 16
    · have hc1 : wr.cell? ⟨W2.heap.size, j, none⟩ = some (.string ⟨(nameOf (j + 1)).toArray⟩) := by
        rw [cell_of_row _ _ _ _ _ _ ((hB.block _ hz3).trans HN3.out)]
        exact rnameCells_at hjl
      have hc2 : wr.cell? ⟨g2, 4, none⟩ = some (.string ⟨w4.toArray⟩) := hJr.word (by decide) rfl
      have hD : ∀ q, Below W3.heap.size W3 (wr.drewN q) := fun q => hB.trans ⟨rfl, rfl, rfl, Nat.le_refl _, fun _ _ => rfl⟩
      have hjI : (j : Int) < 16 := by omega
      by_cases he : nameOf (j + 1) = w4
      · have hm2 : j + 1 = whatN w4 (j + 1) := by rw [whatN, if_pos he]
        have HM2 := Lib.hid hm2
        rw [he] at hc1
        clear hm hm2 he hB hJr
        go_wp2_with fail
        go_quiet (fail)
        go_wp2
        go_roundw
        case rel => first | exact ⟨j + 1, j + 1, by omega, by go_num, by go_num, HM2.out, hD _⟩ | ((repeat apply Exists.intro); exact ⟨⟨j + 1, j + 1, by omega, by go_num, by go_num, HM2.out, hD _⟩, rfl⟩)
        case measure => simp [intOf]; omega
      · have hm2 : m = whatN w4 (j + 1) := by rw [whatN, if_neg he]; exact hm
        have HM2 := Lib.hid hm2
        have hne : (nameOf (j + 1) == w4) = false := by simpa using he
        clear hm hm2 he hB hJr
        generalize nameOf (j + 1) = NJ at *
        go_wp2_with fail
        go_quiet (fail)
        go_wp2
        go_roundw
        case rel => first | exact ⟨j + 1, m, by omega, by go_num, rfl, HM2.out, hD _⟩ | ((repeat apply Exists.intro); exact ⟨⟨j + 1, m, by omega, by go_num, rfl, HM2.out, hD _⟩, rfl⟩)
        case measure => simp [intOf]; omega
    · obtain rfl : j = 16 := by omega
      rw [whatN_all] at hm
      obtain ⟨wo, rfl⟩ : ∃ wo : World, wo = wr := ⟨_, rfl⟩
      have hm17 : m < 17 := by rw [hm]; exact nameIx_lt _
      have HMI := Lib.hid hm
      clear hm hB hJr hjl hj hj0 HB HJ3 HN3
      have hya : W1.heap.size < wo.heap.size := (Array.getElem?_eq_some_iff.1 HJ.out.act).1
      have HSC : Hid (∀ w', Bw wo w' ∨ Kg wo (some W1.heap.size) w' → (w'.cell? ⟨g2, 1, none⟩ = some (.string ⟨w1.toArray⟩) ∧ w'.cell? ⟨g2, 2, none⟩ = some (.string ⟨w2.toArray⟩) ∧ w'.cell? ⟨g2, 3, none⟩ = some (.string ⟨w3.toArray⟩) ∧ w'.cell? ⟨g2, 5, none⟩ = some (.string ⟨w5.toArray⟩) ∧ Kg wo (some W1.heap.size) w')) := Lib.hid fun w' hk => by
        have hk : Kg wo (some W1.heap.size) w' := hk.elim (fun h => (Kg.refl wo _).call h) id
        exact ⟨hk.cell (HJ.out.word (by decide) rfl) (fun e => by injection e with e; exact HJ.out.hgy e), hk.cell (HJ.out.word (by decide) rfl) (fun e => by injection e with e; exact HJ.out.hgy e), hk.cell (HJ.out.word (by decide) rfl) (fun e => by injection e with e; exact HJ.out.hgy e), hk.cell (HJ.out.word (by decide) rfl) (fun e => by injection e with e; exact HJ.out.hgy e), hk⟩
      go_wp2_with fail
      refine wp_region_noPanic ?_
      refine wp_region_held_drew (S := fun w' => w'.cell? ⟨g2, 1, none⟩ = some (.string ⟨w1.toArray⟩) ∧ w'.cell? ⟨g2, 2, none⟩ = some (.string ⟨w2.toArray⟩) ∧ w'.cell? ⟨g2, 3, none⟩ = some (.string ⟨w3.toArray⟩) ∧ w'.cell? ⟨g2, 5, none⟩ = some (.string ⟨w5.toArray⟩) ∧ Kg wo (some W1.heap.size) w') (by kernel_rfl) (HSC.out _ (.inl (Bw.drew _))) (fun hHeld => ?_)
      refine wpAnyH_take (i := 0) (v := ?v1) (arr_at rfl) (by kernel_rfl) (by kernel_rfl) (by kernel_rfl) (fun _ _ _ h => h) (Or.inl ⟨by rfl, ?hy1⟩) (by assumption) ?_
      case hy1 => (intro w hSw; (try dsimp only at hSw); go_simp <;> with_reducible rfl)
      try simp only [Act.put, List.setIfInBounds_toArray, List.set_cons_zero, List.set_cons_succ]
      refine wpAnyH_take (i := 1) (v := ?v2) (arr_at rfl) (by kernel_rfl) (by kernel_rfl) (by kernel_rfl) (fun _ _ _ h => h) (Or.inl ⟨by rfl, ?hy2⟩) (by assumption) ?_
      case hy2 => (intro w hSw; (try dsimp only at hSw); go_simp <;> with_reducible rfl)
      try simp only [Act.put, List.setIfInBounds_toArray, List.set_cons_zero, List.set_cons_succ]
      refine wpAnyH_take (i := 2) (v := ?v3) (arr_at rfl) (by kernel_rfl) (by kernel_rfl) (by kernel_rfl) (fun _ _ _ h => h) (Or.inl ⟨by rfl, ?hy3⟩) (by assumption) ?_
      case hy3 => (intro w hSw; (try dsimp only at hSw); go_simp <;> with_reducible rfl)
      try simp only [Act.put, List.setIfInBounds_toArray, List.set_cons_zero, List.set_cons_succ]
      refine wpAnyH_take (i := 4) (v := ?v4) (arr_at rfl) (by kernel_rfl) (by kernel_rfl) (by kernel_rfl) (fun _ _ _ h => h) (Or.inl ⟨by rfl, ?hy4⟩) (by assumption) ?_
      case hy4 => (intro w hSw; (try dsimp only at hSw); go_simp <;> with_reducible rfl)
      try simp only [Act.put, List.setIfInBounds_toArray, List.set_cons_zero, List.set_cons_succ]
      refine wpAnyH_take (i := 5) (v := ?v5) (arr_at rfl) (by kernel_rfl) (by kernel_rfl) (by kernel_rfl) (fun _ _ _ h => h) (Or.inl ⟨by rfl, ?hy5⟩) (by assumption) ?_
      case hy5 => (intro w hSw; (try dsimp only at hSw); go_simp <;> with_reducible rfl)
      try simp only [Act.put, List.setIfInBounds_toArray, List.set_cons_zero, List.set_cons_succ]
      refine wpAnyH_take (i := 6) (v := ?v6) (arr_at rfl) (by kernel_rfl) (by kernel_rfl) (by kernel_rfl) (fun _ _ _ h => h) (Or.inl ⟨by rfl, ?hy6⟩) (by assumption) ?_
      case hy6 => (intro w hSw; (try dsimp only at hSw); go_simp <;> with_reducible rfl)
      try simp only [Act.put, List.setIfInBounds_toArray, List.set_cons_zero, List.set_cons_succ]
      refine wpAnyH_take (i := 8) (v := ?v7) (arr_at rfl) (by kernel_rfl) (by kernel_rfl) (by kernel_rfl) (fun _ _ _ h => h) (Or.inl ⟨by rfl, ?hy7⟩) (by assumption) ?_
      case hy7 => (intro w hSw; (try dsimp only at hSw); go_simp <;> with_reducible rfl)
      try simp only [Act.put, List.setIfInBounds_toArray, List.set_cons_zero, List.set_cons_succ]
      refine wpAnyH_take (i := 9) (v := ?v8) (arr_at rfl) (by kernel_rfl) (by kernel_rfl) (by kernel_rfl) (fun _ _ _ h => h) (Or.inl ⟨by rfl, ?hy8⟩) (by assumption) ?_
      case hy8 => (intro w hSw; (try dsimp only at hSw); go_simp <;> with_reducible rfl)
      try simp only [Act.put, List.setIfInBounds_toArray, List.set_cons_zero, List.set_cons_succ]
      refine wpAnyH_take (i := 10) (v := ?v9) (arr_at rfl) (by kernel_rfl) (by kernel_rfl) (by kernel_rfl) (fun _ _ _ h => h) (Or.inl ⟨by rfl, ?hy9⟩) (by assumption) ?_
      case hy9 => (intro w hSw; (try dsimp only at hSw); go_simp <;> with_reducible rfl)
      try simp only [Act.put, List.setIfInBounds_toArray, List.set_cons_zero, List.set_cons_succ]
      refine wpAnyH_take (i := 12) (v := ?v10) (arr_at rfl) (by kernel_rfl) (by kernel_rfl) (by kernel_rfl) (fun _ _ _ h => h) (Or.inl ⟨by rfl, ?hy10⟩) (by assumption) ?_
      case hy10 => (intro w hSw; (try dsimp only at hSw); go_simp <;> with_reducible rfl)
      try simp only [Act.put, List.setIfInBounds_toArray, List.set_cons_zero, List.set_cons_succ]
      refine wpAnyH_take (i := 13) (v := ?v11) (arr_at rfl) (by kernel_rfl) (by kernel_rfl) (by kernel_rfl) (fun _ _ _ h => h) (Or.inl ⟨by rfl, ?hy11⟩) (by assumption) ?_
      case hy11 => (intro w hSw; (try dsimp only at hSw); go_simp <;> with_reducible rfl)
      try simp only [Act.put, List.setIfInBounds_toArray, List.set_cons_zero, List.set_cons_succ]
      refine wpAnyH_take (i := 14) (v := ?v12) (arr_at rfl) (by kernel_rfl) (by kernel_rfl) (by kernel_rfl) (fun _ _ _ h => h) (Or.inl ⟨by rfl, ?hy12⟩) (by assumption) ?_
      case hy12 => (intro w hSw; (try dsimp only at hSw); go_simp <;> with_reducible rfl)
      try simp only [Act.put, List.setIfInBounds_toArray, List.set_cons_zero, List.set_cons_succ]
      refine wpAnyH_take (i := 15) (v := ?v13) (arr_at rfl) (by kernel_rfl) (by kernel_rfl) (by kernel_rfl) (fun _ _ _ h => h) (Or.inl ⟨by rfl, ?hy13⟩) (by assumption) ?_
      case hy13 => (intro w hSw; (try dsimp only at hSw); go_simp <;> with_reducible rfl)
      try simp only [Act.put, List.setIfInBounds_toArray, List.set_cons_zero, List.set_cons_succ]
      refine wpAnyH_ready (rs := [3]) (by kernel_rfl) (by simp) ?_
      refine AllReadyH.cons (arr_at rfl) (fun K hK => ?_) ?_
      · go_simp; refine (HNU.out w1 (HSH.out w1 (by simp)) _).mono ?_; rintro rr v3 ⟨x1, rfl, hn1, hb3⟩
        have HI3 : Bw wo v3 := Bw.tr (Bw.drew _) hb3
        refine hK.out _ _ ?_ (fun hHeld => ?_)
        · exact HSC.out _ (.inl HI3)
        clear hK K
        try simp only [Act.put, List.setIfInBounds_toArray, List.set_cons_zero, List.set_cons_succ]
        refine wpAnyH_ready (rs := [7]) (by kernel_rfl) (by simp) ?_
        refine AllReadyH.cons (arr_at rfl) (fun K hK => ?_) ?_
        · go_simp; refine (HNU.out w2 (HSH.out w2 (by simp)) _).mono ?_; rintro rr v7 ⟨x2, rfl, hn2, hb7⟩
          have HI7 : Bw wo v7 := Bw.tr HI3 hb7
          refine hK.out _ _ ?_ (fun hHeld => ?_)
          · exact HSC.out _ (.inl HI7)
          clear hK K
          try simp only [Act.put, List.setIfInBounds_toArray, List.set_cons_zero, List.set_cons_succ]
          refine wpAnyH_ready (rs := [11]) (by kernel_rfl) (by simp) ?_
          refine AllReadyH.cons (arr_at rfl) (fun K hK => ?_) ?_
          · go_simp; refine (HNU.out w3 (HSH.out w3 (by simp)) _).mono ?_; rintro rr v11 ⟨x3, rfl, hn3, hb11⟩
            have HI11 : Bw wo v11 := Bw.tr HI7 hb11
            refine hK.out _ _ ?_ (fun hHeld => ?_)
            · exact HSC.out _ (.inl HI11)
            clear hK K
            try simp only [Act.put, List.setIfInBounds_toArray, List.set_cons_zero, List.set_cons_succ]
            refine wpAnyH_ready (rs := [16]) (by kernel_rfl) (by simp) ?_
            refine AllReadyH.cons (arr_at rfl) (fun K hK => ?_) ?_
            · go_simp; refine (HNU.out w5 (HSH.out w5 (by simp)) _).mono ?_; rintro rr v16 ⟨x5, rfl, hn5, hb16⟩
              have HI16 : Bw wo v16 := Bw.tr HI11 hb16
              refine hK.out _ _ ?_ (fun hHeld => ?_)
              · exact HSC.out _ (.inl HI16)
              have hJ16 := HJ.out.below HI16
              obtain ⟨-, y1, y2, y3, y4, y5, -⟩ := cellAct hJ16.act
              have yf1 : v16.frozen? ⟨W1.heap.size, 1, none⟩ = false := frozen_of_row _ _ _ _ _ hJ16.act
              have yf2 : v16.frozen? ⟨W1.heap.size, 2, none⟩ = false := frozen_of_row _ _ _ _ _ hJ16.act
              have yf3 : v16.frozen? ⟨W1.heap.size, 3, none⟩ = false := frozen_of_row _ _ _ _ _ hJ16.act
              have yf4 : v16.frozen? ⟨W1.heap.size, 4, none⟩ = false := frozen_of_row _ _ _ _ _ hJ16.act
              have yf5 : v16.frozen? ⟨W1.heap.size, 5, none⟩ = false := frozen_of_row _ _ _ _ _ hJ16.act
              clear hK K
              try simp only [Act.put, List.setIfInBounds_toArray, List.set_cons_zero, List.set_cons_succ]
              refine wpAnyH_take (i := 17) (v := ?v14) (arr_at rfl) (by kernel_rfl) (by kernel_rfl) (by kernel_rfl) (fun _ _ _ h => h) (Or.inl ⟨by rfl, ?hy14⟩) (by assumption) ?_
              case hy14 => (intro w hSw; (try dsimp only at hSw); go_simp <;> with_reducible rfl)
              try simp only [Act.put, List.setIfInBounds_toArray, List.set_cons_zero, List.set_cons_succ]
              refine wpAnyH_take (i := 18) (v := ?v15) (arr_at rfl) (by kernel_rfl) (by kernel_rfl) (by kernel_rfl) (fun _ _ _ h => h) (Or.inl ⟨by rfl, ?hy15⟩) (by assumption) ?_
              case hy15 => (intro w hSw; (try dsimp only at hSw); go_simp <;> with_reducible rfl)
              try simp only [Act.put, List.setIfInBounds_toArray, List.set_cons_zero, List.set_cons_succ]
              refine wpAnyH_ready (rs := [19]) (by kernel_rfl) (by simp) ?_
              refine AllReadyH.cons (arr_at rfl) (fun K hK => ?_) ?_
              · go_simp
                refine hK.out _ _ ?_ (fun hHeld => ?_)
                · exact HSC.out _ (.inr (kg_five ((Kg.refl wo _).call HI16) _ _ _ _ _))
                clear hK K
                try simp only [Act.put, List.setIfInBounds_toArray, List.set_cons_zero, List.set_cons_succ]
                refine wpAnyH_done (by kernel_rfl) ?_ _
                refine NoPanic.normal ?_
                refine exit_namedL (Q := Exit.then _ _) fun WF hWF => ?_
                have hJF : Ja w W1.heap.size g2 cap2 [strV w0, strV w1, strV w2, strV w3, strV w4, strV w5, strV [48]] #[.int .i64 2, .int .i64 x1, .int .i64 x2, .int .i64 x3, .int .i64 (m : Int), .int .i64 x5, .int .i64 0] WF := by
                  rw [hWF]
                  exact hJ16.kg (kg_five (Kg.refl _ _) _ _ _ _ _) (set_five hJ16.act)
                have HJF := Lib.hid hJF
                have k6 : WF.cell? ⟨g2, 6, none⟩ = some (.string ⟨([48] : List UInt8).toArray⟩) := hJF.word (by decide) rfl
                clear hWF hJF hJ16 y1 y2 y3 y4 y5 yf1 yf2 yf3 yf4 yf5 hHeld HSC HI3 HI7 HI11 HI16 hb3 hb7 hb11 hb16 HJ hya
                go_wp2_with fail
                refine (HNU.out [48] (by simp) _).mono ?_
                rintro rr W6 ⟨xv, rfl, hnv, hb6⟩
                have hJ6 := HJF.out.below hb6
                have HJ6 := Lib.hid hJ6
                have hLAW := H6.out _ _ _ _ _ hn1 hn2 hn3 hn5 hnv
                rw [← HMI.out] at hLAW
                have HL := Lib.hid hLAW
                have hyw : w.heap.size < W1.heap.size := hJ6.hy
                obtain ⟨y0, y1, y2, y3, y4, y5, y6⟩ := cellAct hJ6.act
                have yf6 : W6.frozen? ⟨W1.heap.size, 6, none⟩ = false := frozen_of_row _ _ _ _ _ hJ6.act
                have hne0 : ¬ w.heap.size = W1.heap.size := by omega
                have hne1 : ¬ W1.heap.size = w.heap.size := by omega
                obtain ⟨r0, r1, r2, r3, r4, r5, r6⟩ := cellAct hJ6.res
                have rf0 : W6.frozen? ⟨w.heap.size, 0, none⟩ = false := frozen_of_row _ _ _ _ _ hJ6.res
                have rf1 : W6.frozen? ⟨w.heap.size, 1, none⟩ = false := frozen_of_row _ _ _ _ _ hJ6.res
                have rf2 : W6.frozen? ⟨w.heap.size, 2, none⟩ = false := frozen_of_row _ _ _ _ _ hJ6.res
                have rf3 : W6.frozen? ⟨w.heap.size, 3, none⟩ = false := frozen_of_row _ _ _ _ _ hJ6.res
                have rf4 : W6.frozen? ⟨w.heap.size, 4, none⟩ = false := frozen_of_row _ _ _ _ _ hJ6.res
                have rf5 : W6.frozen? ⟨w.heap.size, 5, none⟩ = false := frozen_of_row _ _ _ _ _ hJ6.res
                have rf6 : W6.frozen? ⟨w.heap.size, 6, none⟩ = false := frozen_of_row _ _ _ _ _ hJ6.res
                have hJ7 : Ja w W1.heap.size g2 cap2 [strV w0, strV w1, strV w2, strV w3, strV w4, strV w5, strV [48]] #[.int .i64 2, .int .i64 x1, .int .i64 x2, .int .i64 x3, .int .i64 (m : Int), .int .i64 x5, .int .i64 xv] (W6.setCell ⟨W1.heap.size, 6, none⟩ (.int .i64 xv)) := hJ6.kg (Kg.setg (Kg.refl _ _) 6 _) (heap_setCell_same _ _ 6 _ _ _ hJ6.act)
                have HJ7 := Lib.hid hJ7
                clear hJ6 hJ7 hLAW hb6 k6
                by_cases h0 : m = 0
                · have hO := HL.out.1 (.inl (by omega))
                  subst hO
                  subst h0
                  go_wp2_with fail
                  exact bodyPost_ret (v := .tuple #[.agg #[.int .i64 0, .int .i64 0, .int .i64 0, .int .i64 0, .int .i64 0, .int .i64 0, .int .i64 0], .bool false]) (results_row2 Tryz.results35 _ _ w.heap.size 56 _ (0, 0) _ _ rfl rfl (set_seven HJ7.out.res) Tryz.underlying56 rfl rfl) rfl
                    ⟨(0, (0, 0, 0, 0, 0), 0), rfl, (fun _ h => nomatch h), below_seven HJ7.out.bel (Nat.le_refl _) _ _ _ _ _ _ _⟩
                · have hm0 : ((m : Int) == 0) = false := by simpa using h0
                  by_cases h1 : (1000000 : Int) < x1
                  · have hO := HL.out.1 (.inr (.inl h1))
                    subst hO
                    go_wp2_with fail
                    exact bodyPost_ret (v := .tuple #[.agg #[.int .i64 0, .int .i64 0, .int .i64 0, .int .i64 0, .int .i64 0, .int .i64 0, .int .i64 0], .bool false]) (results_row2 Tryz.results35 _ _ w.heap.size 56 _ (0, 0) _ _ rfl rfl (set_seven HJ7.out.res) Tryz.underlying56 rfl rfl) rfl
                      ⟨(0, (0, 0, 0, 0, 0), 0), rfl, (fun _ h => nomatch h), below_seven HJ7.out.bel (Nat.le_refl _) _ _ _ _ _ _ _⟩
                  · skip
                    by_cases h2 : (1000000 : Int) < x2
                    · have hO := HL.out.1 (.inr (.inr (.inl h2)))
                      subst hO
                      go_wp2_with fail
                      exact bodyPost_ret (v := .tuple #[.agg #[.int .i64 0, .int .i64 0, .int .i64 0, .int .i64 0, .int .i64 0, .int .i64 0, .int .i64 0], .bool false]) (results_row2 Tryz.results35 _ _ w.heap.size 56 _ (0, 0) _ _ rfl rfl (set_seven HJ7.out.res) Tryz.underlying56 rfl rfl) rfl
                        ⟨(0, (0, 0, 0, 0, 0), 0), rfl, (fun _ h => nomatch h), below_seven HJ7.out.bel (Nat.le_refl _) _ _ _ _ _ _ _⟩
                    · skip
                      by_cases h3 : (1000000 : Int) < x3
                      · have hO := HL.out.1 (.inr (.inr (.inr (.inl h3))))
                        subst hO
                        go_wp2_with fail
                        exact bodyPost_ret (v := .tuple #[.agg #[.int .i64 0, .int .i64 0, .int .i64 0, .int .i64 0, .int .i64 0, .int .i64 0, .int .i64 0], .bool false]) (results_row2 Tryz.results35 _ _ w.heap.size 56 _ (0, 0) _ _ rfl rfl (set_seven HJ7.out.res) Tryz.underlying56 rfl rfl) rfl
                          ⟨(0, (0, 0, 0, 0, 0), 0), rfl, (fun _ h => nomatch h), below_seven HJ7.out.bel (Nat.le_refl _) _ _ _ _ _ _ _⟩
                      · skip
                        by_cases h4 : (1000000 : Int) < x5
                        · have hO := HL.out.1 (.inr (.inr (.inr (.inr (.inl h4)))))
                          subst hO
                          go_wp2_with fail
                          exact bodyPost_ret (v := .tuple #[.agg #[.int .i64 0, .int .i64 0, .int .i64 0, .int .i64 0, .int .i64 0, .int .i64 0, .int .i64 0], .bool false]) (results_row2 Tryz.results35 _ _ w.heap.size 56 _ (0, 0) _ _ rfl rfl (set_seven HJ7.out.res) Tryz.underlying56 rfl rfl) rfl
                            ⟨(0, (0, 0, 0, 0, 0), 0), rfl, (fun _ h => nomatch h), below_seven HJ7.out.bel (Nat.le_refl _) _ _ _ _ _ _ _⟩
                        · skip
                          by_cases h5 : (1000000 : Int) < xv
                          · have hO := HL.out.1 (.inr (.inr (.inr (.inr (.inr (h5))))))
                            subst hO
                            go_wp2_with fail
                            exact bodyPost_ret (v := .tuple #[.agg #[.int .i64 0, .int .i64 0, .int .i64 0, .int .i64 0, .int .i64 0, .int .i64 0, .int .i64 0], .bool false]) (results_row2 Tryz.results35 _ _ w.heap.size 56 _ (0, 0) _ _ rfl rfl (set_seven HJ7.out.res) Tryz.underlying56 rfl rfl) rfl
                              ⟨(0, (0, 0, 0, 0, 0), 0), rfl, (fun _ h => nomatch h), below_seven HJ7.out.bel (Nat.le_refl _) _ _ _ _ _ _ _⟩
                          · skip
                            obtain ⟨hfit, hao⟩ := HL.out.2 (by unfold Big; omega)
                            have HFT := Lib.hid hfit
                            have HAO := Lib.hid hao
                            clear hfit hao HL
                            go_wp2_with fail
                            refine wp_named fun W7 hW7 => ?_
                            have hJ7 : Ja w W1.heap.size g2 cap2 [strV w0, strV w1, strV w2, strV w3, strV w4, strV w5, strV [48]] #[.int .i64 2, .int .i64 x1, .int .i64 x2, .int .i64 x3, .int .i64 (m : Int), .int .i64 x5, .int .i64 xv] W7 := by rw [hW7]; exact HJ7.out
                            have HK7 := Lib.hid hJ7
                            clear hW7 y0 y1 y2 y3 y4 y5 y6 yf6 r0 rf0 r1 rf1 r2 rf2 r3 rf3 r4 rf4 r5 rf5 r6 rf6
                            have HSC : Hid (∀ w', Kg W7 (some w.heap.size) w' → (w'.cell? ⟨W1.heap.size, 0, none⟩ = some (.int .i64 2) ∧ w'.cell? ⟨W1.heap.size, 1, none⟩ = some (.int .i64 x1) ∧ w'.cell? ⟨W1.heap.size, 2, none⟩ = some (.int .i64 x2) ∧ w'.cell? ⟨W1.heap.size, 3, none⟩ = some (.int .i64 x3) ∧ w'.cell? ⟨W1.heap.size, 4, none⟩ = some (.int .i64 (m : Int)) ∧ w'.cell? ⟨W1.heap.size, 5, none⟩ = some (.int .i64 x5) ∧ w'.cell? ⟨W1.heap.size, 6, none⟩ = some (.int .i64 xv) ∧ Kg W7 (some w.heap.size) w')) := Lib.hid fun w' hk => (fun ⟨a0, a1, a2, a3, a4, a5, a6⟩ => ⟨a0, a1, a2, a3, a4, a5, a6, hk⟩) (cellAct ((hk.block _ (Array.getElem?_eq_some_iff.1 HK7.out.act).1 (fun e => by injection e with e; omega)).trans HK7.out.act))
                            clear hJ7
                            refine wp_region_noPanic ?_
                            refine wp_region_held_drew (S := fun w' => w'.cell? ⟨W1.heap.size, 0, none⟩ = some (.int .i64 2) ∧ w'.cell? ⟨W1.heap.size, 1, none⟩ = some (.int .i64 x1) ∧ w'.cell? ⟨W1.heap.size, 2, none⟩ = some (.int .i64 x2) ∧ w'.cell? ⟨W1.heap.size, 3, none⟩ = some (.int .i64 x3) ∧ w'.cell? ⟨W1.heap.size, 4, none⟩ = some (.int .i64 (m : Int)) ∧ w'.cell? ⟨W1.heap.size, 5, none⟩ = some (.int .i64 x5) ∧ w'.cell? ⟨W1.heap.size, 6, none⟩ = some (.int .i64 xv) ∧ Kg W7 (some w.heap.size) w') (by kernel_rfl) (HSC.out _ (Kg.drew _ _)) (fun hHeld => ?_)
                            refine wpAnyH_take (i := 0) (v := ?v16) (arr_at rfl) (by kernel_rfl) (by kernel_rfl) (by kernel_rfl) (fun _ _ _ h => h) (Or.inl ⟨by rfl, ?hy16⟩) (by assumption) ?_
                            case hy16 => (intro w hSw; (try dsimp only at hSw); go_simp <;> with_reducible rfl)
                            try simp only [Act.put, List.setIfInBounds_toArray, List.set_cons_zero, List.set_cons_succ]
                            refine wpAnyH_take (i := 1) (v := ?v17) (arr_at rfl) (by kernel_rfl) (by kernel_rfl) (by kernel_rfl) (fun _ _ _ h => h) (Or.inl ⟨by rfl, ?hy17⟩) (by assumption) ?_
                            case hy17 => (intro w hSw; (try dsimp only at hSw); go_simp <;> with_reducible rfl)
                            try simp only [Act.put, List.setIfInBounds_toArray, List.set_cons_zero, List.set_cons_succ]
                            refine wpAnyH_take (i := 3) (v := ?v18) (arr_at rfl) (by kernel_rfl) (by kernel_rfl) (by kernel_rfl) (fun _ _ _ h => h) (Or.inl ⟨by rfl, ?hy18⟩) (by assumption) ?_
                            case hy18 => (intro w hSw; (try dsimp only at hSw); go_simp <;> with_reducible rfl)
                            try simp only [Act.put, List.setIfInBounds_toArray, List.set_cons_zero, List.set_cons_succ]
                            refine wpAnyH_ready (rs := [2]) (by kernel_rfl) (by simp) ?_
                            refine AllReadyH.cons (arr_at rfl) (fun K hK => ?_) ?_
                            · go_simp; refine (rline_c 2 x1 x2 x3 (m : Int) x5 xv _ HFT.out.toFit HFT.out.wf).mono ?_; rintro rr v8 ⟨rfl, hb8⟩
                              have HI8 : Bw W7 v8 := Bw.tr (Bw.drew _) hb8
                              refine hK.out _ _ ?_ (fun hHeld => ?_)
                              · exact HSC.out _ ((Kg.refl W7 _).call HI8)
                              have hJ8 := HK7.out.below HI8
                              obtain ⟨q0, q1, q2, q3, q4, q5, q6⟩ := cellAct hJ8.res
                              have qf0 : v8.frozen? ⟨w.heap.size, 0, none⟩ = false := frozen_of_row _ _ _ _ _ hJ8.res
                              have qf1 : v8.frozen? ⟨w.heap.size, 1, none⟩ = false := frozen_of_row _ _ _ _ _ hJ8.res
                              have qf2 : v8.frozen? ⟨w.heap.size, 2, none⟩ = false := frozen_of_row _ _ _ _ _ hJ8.res
                              have qf3 : v8.frozen? ⟨w.heap.size, 3, none⟩ = false := frozen_of_row _ _ _ _ _ hJ8.res
                              have qf4 : v8.frozen? ⟨w.heap.size, 4, none⟩ = false := frozen_of_row _ _ _ _ _ hJ8.res
                              have qf5 : v8.frozen? ⟨w.heap.size, 5, none⟩ = false := frozen_of_row _ _ _ _ _ hJ8.res
                              have qf6 : v8.frozen? ⟨w.heap.size, 6, none⟩ = false := frozen_of_row _ _ _ _ _ hJ8.res
                              clear hK K
                              try simp only [Act.put, List.setIfInBounds_toArray, List.set_cons_zero, List.set_cons_succ]
                              refine wpAnyH_take (i := 4) (v := ?v19) (arr_at rfl) (by kernel_rfl) (by kernel_rfl) (by kernel_rfl) (fun _ _ _ h => h) (Or.inl ⟨by rfl, ?hy19⟩) (by assumption) ?_
                              case hy19 => (intro w hSw; (try dsimp only at hSw); go_simp <;> with_reducible rfl)
                              try simp only [Act.put, List.setIfInBounds_toArray, List.set_cons_zero, List.set_cons_succ]
                              refine wpAnyH_ready (rs := [5]) (by kernel_rfl) (by simp) ?_
                              refine AllReadyH.cons (arr_at rfl) (fun K hK => ?_) ?_
                              · go_simp
                                refine hK.out _ _ ?_ (fun hHeld => ?_)
                                · exact HSC.out _ (kg_seven ((Kg.refl W7 _).call HI8) _ _ _ _ _ _ _)
                                clear hK K
                                try simp only [Act.put, List.setIfInBounds_toArray, List.set_cons_zero, List.set_cons_succ]
                                refine wpAnyH_take (i := 6) (v := ?v20) (arr_at rfl) (by kernel_rfl) (by kernel_rfl) (by kernel_rfl) (fun _ _ _ h => h) (Or.inl ⟨by rfl, ?hy20⟩) (by assumption) ?_
                                case hy20 => (intro w hSw; (try dsimp only at hSw); go_simp <;> with_reducible rfl)
                                try simp only [Act.put, List.setIfInBounds_toArray, List.set_cons_zero, List.set_cons_succ]
                                refine wpAnyH_done (by kernel_rfl) ?_ _
                                refine NoPanic.normal ?_
                                refine exit_namedL (Q := Exit.then _ _) fun WG hWG => ?_
                                have hXG : WG.heap[w.heap.size]? = some (.cells #[.int .i64 2, .int .i64 x1, .int .i64 x2, .int .i64 x3, .int .i64 (m : Int), .int .i64 x5, .int .i64 xv] 56 (0, 0)) := by rw [hWG]; exact set_seven hJ8.res
                                have hBG : Below w.heap.size w WG := by rw [hWG]; exact below_seven hJ8.bel (Nat.le_refl _) _ _ _ _ _ _ _
                                obtain ⟨hE1, hE2⟩ := rline_eq HAO.out
                                generalize lineR (2, (x1, x2, x3, (m : Int), x5), xv) = LR at *
                                clear hWG
                                go_wp2
                                exact bodyPost_ret (v := .tuple #[.agg #[.int .i64 2, .int .i64 x1, .int .i64 x2, .int .i64 x3, .int .i64 (m : Int), .int .i64 x5, .int .i64 xv], .bool AO.isSome]) (results_row2 Tryz.results35 _ _ w.heap.size 56 _ (0, 0) _ _ rfl (congrArg Value.bool hE1) hXG Tryz.underlying56 rfl rfl) rfl
                                  ⟨(2, (x1, x2, x3, (m : Int), x5), xv), rfl, hE2, hBG⟩
                              exact AllReadyH.nil
                            exact AllReadyH.nil
              exact AllReadyH.nil
            exact AllReadyH.nil
          exact AllReadyH.nil
        exact AllReadyH.nil
      exact AllReadyH.nil
end Go.Proofs.YtpcefaccoifejaaGreatDoor
