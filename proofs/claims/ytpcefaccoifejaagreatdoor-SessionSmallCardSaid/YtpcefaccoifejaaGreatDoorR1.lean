/-
  Contracts of at and best of custosref13. Conditions: what is read lies in memory as SW says; lists are not too long.
-/
import Derived.Test.YtpcefaccoifejaaGreatDoorKB
namespace Go.Proofs.YtpcefaccoifejaaGreatDoor
open Go.RowKit Go.Maps
set_option linter.unusedSimpArgs false
set_option linter.unusedVariables false
set_option maxRecDepth 100000

/-- the index of the feature with a place; -1: there is none -/
def atI (fs : List Ft) (p : Pl) : Int := match atF fs p with | some i => (i : Int) | none => -1
theorem atF_first {f : Ft} {p : Pl} (hf : f.1 = p) : ∀ (l r : List Ft), atF l p = none → atF (l ++ f :: r) p = some l.length
  | [], r, _ => by simp [atF, hf]
  | g :: l, r, h => by
    unfold atF at h
    by_cases e : g.1 = p
    · rw [if_pos e] at h; cases h
    · rw [if_neg e] at h
      have h' : atF l p = none := by
        cases hl : atF l p with
        | none => rfl
        | some i => rw [hl] at h; cases h
      rw [List.cons_append, atF, if_neg e, atF_first hf l r h']
      rfl
theorem atF_hit {fs : List Ft} {k : Nat} {p : Pl} (hk : k < fs.length) (h : atF (fs.take k) p = none) (hf : (ftAt fs k).1 = p) : atF fs p = some k := by
  have e : fs = fs.take k ++ ftAt fs k :: fs.drop (k + 1) := by rw [← drop_at hk, List.take_append_drop]
  have := atF_first hf (fs.take k) (fs.drop (k + 1)) h
  rw [← e, List.length_take, Nat.min_eq_left (Nat.le_of_lt hk)] at this
  exact this
theorem atF_miss {fs : List Ft} {k : Nat} {p : Pl} (hk : k < fs.length) (h : atF (fs.take k) p = none) (hf : (ftAt fs k).1 ≠ p) : atF (fs.take (k + 1)) p = none := by
  rw [take_snoc hk, ← ftAt_get hk, atF_snoc, h]
  exact if_neg hf
set_option maxHeartbeats 1000000 in
theorem rAt_c (vf : Value) (x : Option Addr) (y z : Nat) (fs : List Ft) (lo hi : Nat) (a b c d e : Int) (w : World) (h : FeatsAt w lo hi vf fs) (hh : hi ≤ w.heap.size) (hl : fs.length ≤ 20000) :
    Calls Tryz.prog 44 #[.agg #[vf, .slice x y z], .agg #[.int .i64 a, .int .i64 b, .int .i64 c, .int .i64 d, .int .i64 e]] w fun r w' => r = .returned (.int .i64 (atI fs (a, b, c, d, e))) ∧ Below w.heap.size w w' := by
  obtain ⟨fa, fc, vs, rfl, -, hr, -⟩ := h
  have HR := Lib.hid hr
  obtain ⟨n, hn⟩ : ∃ n, fs.length = n := ⟨_, rfl⟩
  have HN := Lib.hid hn
  have HE : Hid (∀ k, atF fs (a, b, c, d, e) = some k → atI fs (a, b, c, d, e) = k) := fun k hk => by unfold atI; rw [hk]
  have HE0 : Hid (atF fs (a, b, c, d, e) = none → atI fs (a, b, c, d, e) = -1) := fun hk => by unfold atI; rw [hk]
  generalize atI fs (a, b, c, d, e) = A at *
  rw [hn] at hl ⊢
  clear hr hn
  go_enter Tryz.func44, Tryz.ntmps44
  go_wp2
  go_loopw [5] (fun i wr => ∃ (k : Nat), k ≤ n ∧ i = .int .i64 (k : Int) ∧ atF (fs.take k) (a, b, c, d, e) = none ∧ wr.heap[w.heap.size]? = some (.cells #[.slice fa n fc, .slice x y z] 52 (0, 0)) ∧ wr.heap[w.heap.size + 1]? = some (.cells #[.int .i64 a, .int .i64 b, .int .i64 c, .int .i64 d, .int .i64 e] 44 (0, 0)) ∧ Below w.heap.size w wr)
    (fun i wr => n - (intOf i).toNat)
  case atStart => exact ⟨0, Nat.zero_le _, rfl, rfl, heap_alloc2_old _ _ _, heap_alloc2_new _ _ _, by go_grown⟩
  case round =>
    obtain ⟨k, hkn, rfl, hat, hs, hp, hB⟩ := hrel
    have HAT := Lib.hid hat
    have HSS := Lib.hid hs
    have HP := Lib.hid hp
    have HB := Lib.hid hB
    have s0 : wr.cell? ⟨w.heap.size, 0, none⟩ = some (.slice fa n fc) := by rw [cell_of_row _ _ _ _ _ _ hs]; rfl
    have p0 : wr.cell? ⟨w.heap.size + 1, 0, none⟩ = some (.int .i64 a) := by rw [cell_of_row _ _ _ _ _ _ hp]; rfl
    have p1 : wr.cell? ⟨w.heap.size + 1, 1, none⟩ = some (.int .i64 b) := by rw [cell_of_row _ _ _ _ _ _ hp]; rfl
    have p2 : wr.cell? ⟨w.heap.size + 1, 2, none⟩ = some (.int .i64 c) := by rw [cell_of_row _ _ _ _ _ _ hp]; rfl
    have p3 : wr.cell? ⟨w.heap.size + 1, 3, none⟩ = some (.int .i64 d) := by rw [cell_of_row _ _ _ _ _ _ hp]; rfl
    have p4 : wr.cell? ⟨w.heap.size + 1, 4, none⟩ = some (.int .i64 e) := by rw [cell_of_row _ _ _ _ _ _ hp]; rfl
    by_cases hk : k < n
    · have hkf : k < fs.length := by rw [HN.out]; exact hk
      obtain ⟨bf, off, rfl, hb1, hb2, hc⟩ := HR.out (by rw [HN.out]; omega)
      have hcw : ∀ j u, (ftV (ftAt fs k).1 (vs k))[j]? = some u → wr.cell? ⟨bf, off + k * 6 + j, none⟩ = some u := fun j u hu => (hB.cell (p := ⟨bf, off + k * 6 + j, none⟩) (show bf < w.heap.size by omega)).trans (hc k hkf j u hu)
      have hmiss := atF_miss hkf hat
      have hhit := atF_hit hkf hat
      generalize ftAt fs k = f at *
      obtain ⟨⟨q1, q2, q3, q4, q5⟩, os⟩ := f
      have c0 := hcw 0 _ rfl
      have c1 := hcw 1 _ rfl
      have c2 := hcw 2 _ rfl
      have c3 := hcw 3 _ rfl
      have c4 := hcw 4 _ rfl
      simp only [Nat.add_zero] at c0
      have hk0 : (0 : Int) ≤ k := by omega
      have hk1 : (k : Int) < n := by omega
      have hk2 : (k : Int) ≤ 20000 := by omega
      clear hc hcw hB hs hp hat
      by_cases hp : (q1, q2, q3, q4, q5) = (a, b, c, d, e)
      · have he : ∀ w, (Op.equalIn 10000 44 (.agg #[.int .i64 q1, .int .i64 q2, .int .i64 q3, .int .i64 q4, .int .i64 q5]) (.agg #[.int .i64 a, .int .i64 b, .int .i64 c, .int .i64 d, .int .i64 e])).run Tryz.prog w = .ok true w := fun w => by rw [ein_pl, decide_eq_true hp]
        have HH := Lib.hid (HE.out k (hhit hp))
        clear hp hmiss hhit
        go_wp2_with fail
        go_quiet (fail)
        go_wp2
        go_ret
        exact ⟨by rw [HH.out]; rfl, below_drewN HB.out _⟩
      · have he : ∀ w, (Op.equalIn 10000 44 (.agg #[.int .i64 q1, .int .i64 q2, .int .i64 q3, .int .i64 q4, .int .i64 q5]) (.agg #[.int .i64 a, .int .i64 b, .int .i64 c, .int .i64 d, .int .i64 e])).run Tryz.prog w = .ok false w := fun w => by rw [ein_pl, decide_eq_false hp]
        have HH := Lib.hid (hmiss hp)
        clear hp hmiss hhit
        go_wp2_with fail
        go_quiet (fail)
        go_wp2
        go_roundw
        case rel => exact ⟨k + 1, by omega, by go_num, HH.out, HSS.out, HP.out, below_drewN HB.out _⟩
        case measure => simp [intOf]; omega
    · obtain rfl : k = n := by omega
      have h0 : A = -1 := HE0.out (by rw [← HAT.out, ← HN.out, List.take_length])
      subst h0
      clear hs hp hat hB
      go_wp2
      go_ret
      exact ⟨rfl, HB.out⟩
/-- the best value by index: what is best of the first options -/
theorem bestGo_snoc : ∀ (os : List Opt) (m o : Opt), bestGo m (os ++ [o]) = if o.2 < (bestGo m os).2 then o else bestGo m os
  | [], m, o => rfl
  | x :: r, m, o => by rw [List.cons_append, bestGo, bestGo_snoc r, bestGo]
def bestA : List Opt → Opt
  | [] => (0, 0)
  | o :: r => bestGo o r
theorem bestA_snoc {os : List Opt} (h : os ≠ []) (o : Opt) : bestA (os ++ [o]) = if o.2 < (bestA os).2 then o else bestA os := by
  cases os with
  | nil => exact absurd rfl h
  | cons x r => exact bestGo_snoc r x o
theorem best_A : ∀ os : List Opt, best os = (bestA os).1
  | [] => rfl
  | _ :: _ => rfl
theorem optAt_take {os : List Opt} {k : Nat} (h : k < os.length) : os.take (k + 1) = os.take k ++ [optAt os k] := by
  rw [optAt_get h, List.take_succ_eq_append_getElem h]
set_option maxHeartbeats 1000000 in
theorem rBest_c (a b c d e : Int) (v : Value) (os : List Opt) (lo hi : Nat) (w : World) (h : OptsAt w lo hi v os) (hh : hi ≤ w.heap.size) (hl : os.length ≤ 1000000) (hne : os ≠ []) :
    Calls Tryz.prog 49 #[.agg #[.int .i64 a, .int .i64 b, .int .i64 c, .int .i64 d, .int .i64 e, v]] w fun r w' => r = .returned (.int .i64 (best os)) ∧ Below w.heap.size w w' := by
  obtain ⟨av, cap, rfl, -, hr⟩ := h
  have hpos : 0 < os.length := List.length_pos_iff.2 hne
  obtain ⟨bo, off, rfl, hb1, hb2, hc⟩ := hr hpos
  have HC : Hid (∀ W, Below w.heap.size w W → ∀ k, k < os.length → W.cell? ⟨bo, off + k * 2, none⟩ = some (.int .i64 (optAt os k).1) ∧ W.cell? ⟨bo, off + k * 2 + 1, none⟩ = some (.int .i64 (optAt os k).2)) := fun W hB k hk =>
    ⟨(hB.cell (p := ⟨bo, _, none⟩) (show bo < _ by omega)).trans (hc k hk 0 _ rfl), (hB.cell (p := ⟨bo, _, none⟩) (show bo < _ by omega)).trans (hc k hk 1 _ rfl)⟩
  obtain ⟨n, hn⟩ : ∃ n, os.length = n := ⟨_, rfl⟩
  have HN := Lib.hid hn
  have HT : Hid (∀ k, k < n → os.take (k + 1) = os.take k ++ [optAt os k]) := fun k hk => optAt_take (by omega)
  have HE : Hid (bestA os = bestA (os.take n)) := by show bestA os = bestA (os.take n); rw [← hn, List.take_length]
  have H1 : Hid (bestA (os.take 1) = optAt os 0) := by
    cases os with
    | nil => exact absurd rfl hne
    | cons o r => rfl
  have HNE : Hid (∀ k, 1 ≤ k → os.take k ≠ []) := fun k hk => by
    cases os with
    | nil => exact absurd rfl hne
    | cons o r =>
      cases k with
      | zero => omega
      | succ k => simp
  rw [best_A]
  generalize hR : bestA os = R at *
  obtain ⟨rx, ry⟩ := R
  rw [hn] at hl hpos ⊢
  have hbw : bo < w.heap.size := by omega
  clear hr hc hn hR hne
  go_enter Tryz.func49, Tryz.ntmps49
  go_wp2
  go_loopw [3, 4] (fun j i wr => ∃ (k l : Nat), 1 ≤ k ∧ k ≤ n ∧ l < n ∧ i = .int .i64 (k : Int) ∧ j = .int .i64 (l : Int) ∧ optAt os l = bestA (os.take k) ∧ wr.heap[w.heap.size]? = some (.cells #[.int .i64 a, .int .i64 b, .int .i64 c, .int .i64 d, .int .i64 e, .slice (some ⟨bo, off, none⟩) n cap] 47 (0, 0)) ∧ Below w.heap.size w wr)
    (fun j i wr => n - (intOf i).toNat)
  case atStart => exact ⟨1, 0, Nat.le_refl _, hpos, hpos, rfl, rfl, H1.out.symm, heap_alloc_new _ _, by go_grown⟩
  case round =>
    obtain ⟨k, l, hk1, hkn, hln, rfl, rfl, hbest, hblk, hB⟩ := hrel
    have HBE := Lib.hid hbest
    have HBLK := Lib.hid hblk
    have HB := Lib.hid hB
    have f5 : wr.cell? ⟨w.heap.size, 5, none⟩ = some (.slice (some ⟨bo, off, none⟩) n cap) := by rw [cell_of_row _ _ _ _ _ _ hblk]; rfl
    have dl := HC.out wr hB l (by rw [HN.out]; exact hln)
    obtain ⟨l0, l1⟩ := dl
    have hl0 : (0 : Int) ≤ l := by omega
    have hl1 : (l : Int) < n := by omega
    by_cases hk : k < n
    · have dk := HC.out wr hB k (by rw [HN.out]; exact hk)
      obtain ⟨k0, k1⟩ := dk
      have hk0 : (0 : Int) ≤ k := by omega
      have hkn' : (k : Int) < n := by omega
      have hkm : (k : Int) ≤ 1000000 := by omega
      have hstep : bestA (os.take (k + 1)) = if (optAt os k).2 < (optAt os l).2 then optAt os k else optAt os l := by rw [HT.out k hk, bestA_snoc (HNE.out k hk1), ← hbest]
      have HST := Lib.hid hstep
      generalize hqk : optAt os k = qk at *
      generalize hql : optAt os l = ql at *
      have HQ := Lib.hid (And.intro hqk hql)
      obtain ⟨xk, yk⟩ := qk
      obtain ⟨xl, yl⟩ := ql
      clear hstep hbest hblk hB hqk hql
      by_cases hy : yk < yl
      · have HS2 : Hid (bestA (os.take (k + 1)) = (xk, yk)) := HST.out.trans (if_pos hy)
        go_wp2_with fail
        go_quiet (fail)
        go_wp2
        go_roundw
        case rel => exact ⟨k + 1, k, by omega, by omega, hk, by go_num, rfl, by rw [HS2.out, HQ.out.1], HBLK.out, below_drewN HB.out _⟩
        case measure => simp [intOf]; omega
      · have HS2 : Hid (bestA (os.take (k + 1)) = (xl, yl)) := HST.out.trans (if_neg hy)
        go_wp2_with fail
        go_quiet (fail)
        go_wp2
        go_roundw
        case rel => exact ⟨k + 1, l, by omega, by omega, hln, by go_num, rfl, by rw [HS2.out, HQ.out.2], HBLK.out, below_drewN HB.out _⟩
        case measure => simp [intOf]; omega
    · obtain rfl : k = n := by omega
      have hq : optAt os l = (rx, ry) := by rw [hbest, ← HE.out]
      rw [hq] at l0 l1
      clear hbest hblk hB hq
      go_wp2
      go_ret
      exact ⟨rfl, HB.out⟩
end Go.Proofs.YtpcefaccoifejaaGreatDoor
