/-
  What settled features add to a weight, in whatever order they come. Conditions: the features' places differ; the acts were done on them.
-/
import Derived.Test.YtpcefaccoifejaaGreatDoorKB
import Derived.RangeFuncNested
import Derived.RangeFuncBound
import Derived.RangeFuncCalls
import Derived.RangeFuncLeaves
import Derived.OwnWalkIn
import Derived.TacticsInMore
import Derived.LoopNIn
import Derived.LoopIn
import Derived.Laws.Tables
namespace Go.Proofs.YtpcefaccoifejaaGreatDoor
open Go.RowKit Go.Maps
set_option linter.unusedSimpArgs false
set_option linter.unusedVariables false
set_option maxRecDepth 100000

theorem corr_aux (p : Pl) : ∀ (l : List Ac) (acc : Option Int), (l.foldl (fun v a => if a.2.1 = p ∧ a.1 = 1 then some a.2.2 else v) acc).isSome = true → acc.isSome = true ∨ touched l p = true
  | [], acc, h => .inl h
  | a :: r, acc, h => by
    rcases corr_aux p r _ h with h1 | h1
    · by_cases e : a.2.1 = p ∧ a.1 = 1
      · exact .inr (by simp [touched, e.1])
      · simp only [if_neg e] at h1
        exact .inl h1
    · refine .inr ?_
      unfold touched at h1 ⊢
      rw [List.any_cons, h1, Bool.or_true]
theorem corr_touched {acts : List Ac} {p : Pl} {v : Int} (h : corr acts p = some v) : touched acts p = true := by
  rcases corr_aux p acts none (by unfold corr at h; rw [h]; rfl) with h1 | h1
  · cases h1
  · exact h1
/-- what last finds: w is the world behind it -/
def LastRes (acts : List Ac) (p : Pl) (e : Ending) (w : World) : Prop :=
  (∃ v x b o, corr acts p = some v ∧ e = .returned (.tuple #[.pointer x, .pointer (some ⟨b, o, none⟩)]) ∧ w.cell? ⟨b, o + 6, none⟩ = some (.int .i64 v)) ∨
    (∃ x : Option Addr, corr acts p = none ∧ e = .returned (.tuple #[.pointer x, .pointer none]) ∧ x.isSome = touched acts p)
set_option maxHeartbeats 2000000 in
theorem last_c (q : Nat) (va : Value) (acts : List Ac) (lo hi : Nat) (p1 p2 p3 p4 p5 : Int) (w : World) (hc : w.cell? ⟨q, 0, none⟩ = some va) (ha : ActsAt w lo hi va acts) (hh : hi ≤ w.heap.size) (hn : acts.length ≤ 100000) :
    Calls Tryz.prog 75 #[.pointer (some ⟨q, 0, none⟩), .agg #[.int .i64 p1, .int .i64 p2, .int .i64 p3, .int .i64 p4, .int .i64 p5]] w fun e w' => LastRes acts (p1, p2, p3, p4, p5) e w' ∧ Below w.heap.size w w' := by
  obtain ⟨a, cap, rfl, -, hr⟩ := ha
  have hq : q < w.heap.size := World.block_lt_of_cell? w _ hc
  have HR := Lib.hid hr
  obtain ⟨n, hn'⟩ : ∃ n, acts.length = n := ⟨_, rfl⟩
  have HN := Lib.hid hn'
  have HC := Lib.hid hc
  rw [hn'] at hn hc
  clear hr hn'
  have hn1 : -1 ≤ (n : Int) - 1 := by omega
  have hn2 : (n : Int) ≤ 100000 := by omega
  go_enter Tryz.func75, Tryz.ntmps75
  go_wp2
  go_loopw [4, 6] (fun x i wr => ∃ (k : Nat) (pa : Option Addr) (j : Int), k ≤ n ∧ j = (k : Int) - 1 ∧ i = .int .i64 j ∧ x = .pointer pa ∧ corr (acts.take k) (p1, p2, p3, p4, p5) = corr acts (p1, p2, p3, p4, p5) ∧
      (touched (acts.take k) (p1, p2, p3, p4, p5) || pa.isSome) = touched acts (p1, p2, p3, p4, p5) ∧ wr.heap[w.heap.size]? = some (.cells #[.int .i64 p1, .int .i64 p2, .int .i64 p3, .int .i64 p4, .int .i64 p5] 44 (0, 0)) ∧ Below w.heap.size w wr)
    (fun x i wr => (intOf i + 1).toNat)
  case atStart => exact ⟨n, none, (n : Int) - 1, Nat.le_refl _, rfl, by go_num, rfl, by rw [← HN.out, List.take_length], by rw [← HN.out, List.take_length]; simp, heap_alloc_new _ _, by go_grown⟩
  case round =>
    obtain ⟨k, pa, j, hkn, hj, rfl, rfl, hcorr, htou, hblk, hB⟩ := hrel
    have HCO := Lib.hid hcorr
    have HTO := Lib.hid htou
    have HBLK := Lib.hid hblk
    have b0 : wr.cell? ⟨w.heap.size, 0, none⟩ = some (.int .i64 p1) := by rw [cell_of_row _ _ _ _ _ _ hblk]; rfl
    have b1 : wr.cell? ⟨w.heap.size, 1, none⟩ = some (.int .i64 p2) := by rw [cell_of_row _ _ _ _ _ _ hblk]; rfl
    have b2 : wr.cell? ⟨w.heap.size, 2, none⟩ = some (.int .i64 p3) := by rw [cell_of_row _ _ _ _ _ _ hblk]; rfl
    have b3 : wr.cell? ⟨w.heap.size, 3, none⟩ = some (.int .i64 p4) := by rw [cell_of_row _ _ _ _ _ _ hblk]; rfl
    have b4 : wr.cell? ⟨w.heap.size, 4, none⟩ = some (.int .i64 p5) := by rw [cell_of_row _ _ _ _ _ _ hblk]; rfl
    have s0 : wr.cell? ⟨q, 0, none⟩ = some (.slice a n cap) := (hB.cell (p := ⟨q, 0, none⟩) hq).trans hc
    clear hcorr htou hblk hc
    cases k with
    | zero =>
      have hj1 : j < 0 := by omega
      have HB := Lib.hid hB
      clear hB
      go_wp2
      go_ret2
      refine ⟨.inr ⟨pa, ?_, rfl, ?_⟩, HB.out⟩
      · rw [← HCO.out]; rfl
      · rw [← HTO.out]; rfl
    | succ l =>
      obtain rfl : j = (l : Int) := by omega
      clear hj
      have hlf : l < acts.length := by rw [HN.out]; omega
      obtain ⟨b, off, rfl, hb1, hb2, hcell⟩ := HR.out (by omega)
      have hcw : ∀ x u, (acV (acAt acts l))[x]? = some u → wr.cell? ⟨b, off + l * 7 + x, none⟩ = some u := fun x u hu => (hB.cell (p := ⟨b, off + l * 7 + x, none⟩) (show b < w.heap.size by omega)).trans (hcell l hlf x u hu)
      have htk : acts.take (l + 1) = acts.take l ++ [acAt acts l] := by rw [take_snoc hlf, acAt_get hlf]
      have hco := HCO.out
      have hto := HTO.out
      rw [htk, corr_snoc] at hco
      rw [htk, touched_snoc] at hto
      generalize acAt acts l = A at *
      obtain ⟨kd, ⟨q1, q2, q3, q4, q5⟩, v⟩ := A
      simp only at hco hto
      have c0 := hcw 0 _ rfl
      have c1 := hcw 1 _ rfl
      have c2 := hcw 2 _ rfl
      have c3 := hcw 3 _ rfl
      have c4 := hcw 4 _ rfl
      have c5 := hcw 5 _ rfl
      have c6 := hcw 6 _ rfl
      simp only [Nat.add_zero] at c0
      have hl0 : (0 : Int) ≤ l := by omega
      have hl1 : (l : Int) < n := by omega
      have hl2 : (l : Int) ≤ 100000 := by omega
      have HB := Lib.hid hB
      have HCO2 := Lib.hid hco
      have HTO2 := Lib.hid hto
      clear hcell hcw htk hB hco hto
      by_cases hp : (q1, q2, q3, q4, q5) = (p1, p2, p3, p4, p5)
      · have he : ∀ w, (Op.equalIn 10000 44 (.agg #[.int .i64 q1, .int .i64 q2, .int .i64 q3, .int .i64 q4, .int .i64 q5]) (.agg #[.int .i64 p1, .int .i64 p2, .int .i64 p3, .int .i64 p4, .int .i64 p5])).run Tryz.prog w = .ok true w := fun w => by rw [ein_pl, decide_eq_true hp]
        have HP := Lib.hid hp
        clear hp
        go_wp2_with fail
        go_quiet (fail)
        by_cases hk : kd = 1
        · have HCV : Hid (corr acts (p1, p2, p3, p4, p5) = some v) := by
            have := HCO2.out
            rw [if_pos ⟨HP.out, hk⟩] at this
            exact this.symm
          subst hk
          cases pa with
          | none =>
            go_wp2_with fail
            go_quiet (fail)
            go_wp2
            go_ret2
            exact ⟨.inl ⟨v, _, b, off + l * 7, HCV.out, rfl, c6⟩, below_drewN (below_drewN HB.out _) _⟩
          | some x =>
            go_wp2_with fail
            go_quiet (fail)
            go_wp2
            go_ret2
            exact ⟨.inl ⟨v, _, b, off + l * 7, HCV.out, rfl, c6⟩, below_drewN (below_drewN HB.out _) _⟩
        · have HCN : Hid (corr (acts.take l) (p1, p2, p3, p4, p5) = corr acts (p1, p2, p3, p4, p5)) := by
            have := HCO2.out
            rw [if_neg (fun x => hk x.2)] at this
            exact this
          have HTN : Hid (∀ x : Addr, (touched (acts.take l) (p1, p2, p3, p4, p5) || (some x).isSome) = touched acts (p1, p2, p3, p4, p5)) := fun x => by
            have := HTO2.out
            rw [decide_eq_true HP.out] at this
            rw [← this]
            simp
          cases pa with
          | none =>
            go_wp2
            go_roundw
            case rel => exact ⟨l, _, (l : Int) - 1, by omega, rfl, by go_num, rfl, HCN.out, HTN.out _, HBLK.out, below_drewN HB.out _⟩
            case measure => first | (change ((l : Int) - 1 + 1).toNat < ((l : Int) + 1).toNat; omega) | (simp only [intOf]; omega)
          | some x =>
            go_wp2
            go_roundw
            case rel => exact ⟨l, _, (l : Int) - 1, by omega, rfl, by go_num, rfl, HCN.out, HTN.out _, HBLK.out, below_drewN HB.out _⟩
            case measure => first | (change ((l : Int) - 1 + 1).toNat < ((l : Int) + 1).toNat; omega) | (simp only [intOf]; omega)
      · have he : ∀ w, (Op.equalIn 10000 44 (.agg #[.int .i64 q1, .int .i64 q2, .int .i64 q3, .int .i64 q4, .int .i64 q5]) (.agg #[.int .i64 p1, .int .i64 p2, .int .i64 p3, .int .i64 p4, .int .i64 p5])).run Tryz.prog w = .ok false w := fun w => by rw [ein_pl, decide_eq_false hp]
        have HCN : Hid (corr (acts.take l) (p1, p2, p3, p4, p5) = corr acts (p1, p2, p3, p4, p5)) := by
          have := HCO2.out
          rw [if_neg (fun x => hp x.1)] at this
          exact this
        have HTN : Hid ((touched (acts.take l) (p1, p2, p3, p4, p5) || pa.isSome) = touched acts (p1, p2, p3, p4, p5)) := by
          have := HTO2.out
          rw [decide_eq_false hp, Bool.or_false] at this
          exact this
        clear hp
        go_wp2_with fail
        go_quiet (fail)
        go_wp2
        go_roundw
        case rel => exact ⟨l, pa, (l : Int) - 1, by omega, rfl, by go_num, rfl, HCN.out, HTN.out, HBLK.out, below_drewN HB.out _⟩
        case measure => first | (change ((l : Int) - 1 + 1).toNat < ((l : Int) + 1).toNat; omega) | (simp only [intOf]; omega)
theorem SesAt.actsAt {w : World} {lo p m flo fhi : Nat} {va vf : Value} {fs : List Ft} {acts : List Ac} (h : SesAt w lo p m flo fhi va vf fs acts) : ActsAt w lo w.heap.size va acts := acts_of_own h.acts
set_option maxHeartbeats 1000000 in
theorem present_c (lo p m flo fhi : Nat) (va vf : Value) (fs : List Ft) (acts : List Ac) (a b c d e : Int) (v : Value) (os : List Opt) (olo ohi : Nat) (w : World) (h : SesAt w lo p m flo fhi va vf fs acts) (ho : OptsAt w olo ohi v os) (hoh : ohi ≤ w.heap.size)
    (hol : os.length ≤ 1000000) (hne : os ≠ []) (hm : ∀ o ∈ os, 0 ≤ o.2 ∧ o.2 ≤ 10000) (hn : acts.length ≤ 100000) :
    Calls Tryz.prog 52 #[.pointer (some ⟨p, 0, none⟩), .agg #[.int .i64 a, .int .i64 b, .int .i64 c, .int .i64 d, .int .i64 e, v]] w fun r w' =>
      r = .returned (.tuple #[.int .i64 (pres acts ((a, b, c, d, e), os)), .bool (touched acts (a, b, c, d, e))]) ∧ Below w.heap.size w w' := by
  have HL := Lib.hid fun W (hb : Below w.heap.size w W) => last_c p va acts lo W.heap.size a b c d e W (by rw [cell_of_row _ _ _ _ _ _ ((hb.block p (Array.getElem?_eq_some_iff.1 h.cells).1).trans h.cells)]; rfl) (h.below hb).actsAt (Nat.le_refl _) hn
  have HBE := Lib.hid fun W (hb : Below w.heap.size w W) => best_c a b c d e v os olo ohi W (ho.move (Same.of_below (hb.mono hoh))) (Nat.le_trans hoh hb.size) hol hne hm
  have HP : Hid (pres acts ((a, b, c, d, e), os) = (corr acts (a, b, c, d, e)).getD (best os)) := rfl
  have HCT : Hid (∀ v, corr acts (a, b, c, d, e) = some v → touched acts (a, b, c, d, e) = true) := fun v x => corr_touched x
  obtain ⟨av, cap, rfl, -, -⟩ := ho
  generalize pres acts ((a, b, c, d, e), os) = X at *
  generalize hT0 : touched acts (a, b, c, d, e) = T at *
  have HTD := Lib.hid hT0
  clear hT0
  generalize os.length = n at *
  clear h hm hne hol
  go_enter Tryz.func52, Tryz.ntmps52
  go_wp2_with fail
  refine wp_named fun W hW => ?_
  have k0 : W.cell? ⟨w.heap.size, 0, none⟩ = some (.int .i64 a) := by rw [hW]; go_simp
  have k1 : W.cell? ⟨w.heap.size, 1, none⟩ = some (.int .i64 b) := by rw [hW]; go_simp
  have k2 : W.cell? ⟨w.heap.size, 2, none⟩ = some (.int .i64 c) := by rw [hW]; go_simp
  have k3 : W.cell? ⟨w.heap.size, 3, none⟩ = some (.int .i64 d) := by rw [hW]; go_simp
  have k4 : W.cell? ⟨w.heap.size, 4, none⟩ = some (.int .i64 e) := by rw [hW]; go_simp
  have k5 : W.cell? ⟨w.heap.size, 5, none⟩ = some (.slice av n cap) := by rw [hW]; go_simp
  have hB : Below w.heap.size w W := by rw [hW]; go_grown
  have y0 : w.heap.size < W.heap.size := by rw [hW]; simp
  have HB := Lib.hid hB
  clear hW hB
  have HLL := HL.out W.drew HB.out.drew
  unfold LastRes at HLL
  have HLH := Lib.hid HLL
  clear HLL
  cases hco : corr acts (a, b, c, d, e) with
  | some cv =>
    have hx : X = cv := by
      have := HP.out
      rw [hco] at this
      exact this
    have ht := HCT.out _ hco
    subst hx
    subst ht
    have HCO := Lib.hid hco
    clear hco
    go_region_held3 (fun w' => Sk W w') (first | assumption | exact Sk_drew _ | with_reducible exact Sk_call (by assumption) (by assumption))
      ((go_at_call 75; refine HLH.out.mono ?_; rintro rr w3 ⟨hres, hb3⟩; obtain ⟨v2, x, bb, o, rfl, hcell⟩ : ∃ (v2 : Int) (x : Option Addr) (bb o : Nat), rr = .returned (.tuple #[.pointer x, .pointer (some ⟨bb, o, none⟩)]) ∧ v2 = X ∧ w3.cell? ⟨bb, o + 6, none⟩ = some (.int .i64 v2) := (by
        rcases hres with ⟨v2, x, bb, o, h1, h2, h3⟩ | ⟨x, h1, _⟩
        · exact ⟨v2, x, bb, o, h2, Option.some.inj (h1.symm.trans HCO.out), h3⟩
        · rw [HCO.out] at h1; cases h1); have HCELL := Lib.hid hcell; clear hres hcell))
    obtain ⟨rfl, hcell⟩ := HCELL.out
    go_wp2
    go_ret2
    exact ⟨rfl, HB.out.trans ((by assumption : Sk W _).2.mono HB.out.size)⟩
  | none =>
    have hx : X = best os := by
      have := HP.out
      rw [hco] at this
      exact this
    have HX := Lib.hid hx
    have HCO := Lib.hid hco
    clear hx hco
    go_region_held3 (fun w' => Sk W w') (first | assumption | exact Sk_drew _ | with_reducible exact Sk_call (by assumption) (by assumption))
      ((go_at_call 75; refine HLH.out.mono ?_; rintro rr w3 ⟨hres, hb3⟩; obtain ⟨x, rfl, hxt⟩ : ∃ (x : Option Addr), rr = .returned (.tuple #[.pointer x, .pointer none]) ∧ x.isSome = T := (by
        rcases hres with ⟨v2, x, bb, o, h1, h2, h3⟩ | ⟨x, h1, h2, h3⟩
        · rw [HCO.out] at h1; cases h1
        · exact ⟨x, h2, h3.trans HTD.out⟩); have HXT := Lib.hid hxt; clear hres hxt))
    have hSk := (by assumption : Sk W w3)
    have HB3 := Lib.hid (HB.out.trans (hSk.2.mono HB.out.size))
    have hxt := HXT.out
    subst hxt
    clear hSk
    cases x with
    | none =>
      go_wp2_with fail
      refine (HBE.out _ HB3.out).mono ?_
      rintro rr w4 ⟨rfl, hb4⟩
      go_wp2
      go_ret2
      exact ⟨by rw [HX.out]; rfl, below_step HB3.out hb4⟩
    | some x =>
      go_wp2_with fail
      refine (HBE.out _ HB3.out).mono ?_
      rintro rr w4 ⟨rfl, hb4⟩
      go_wp2
      go_ret2
      exact ⟨by rw [HX.out]; rfl, below_step HB3.out hb4⟩
set_option maxHeartbeats 1000000 in
theorem Value_c (lo p m flo fhi : Nat) (va vf : Value) (fs : List Ft) (acts : List Ac) (a b c d e : Int) (w : World) (h : SesAt w lo p m flo fhi va vf fs acts) (hg : Good fs) (hw : wfFs fs) (hwp : wfP (a, b, c, d, e)) (hn : acts.length ≤ 100000) :
    Calls Tryz.prog 22 #[.pointer (some ⟨p, 0, none⟩), .agg #[.int .i64 a, .int .i64 b, .int .i64 c, .int .i64 d, .int .i64 e]] w fun r w' =>
      r = .returned (.tuple #[.int .i64 (valE fs acts (a, b, c, d, e)).1, .int .i64 (valE fs acts (a, b, c, d, e)).2]) ∧ Below w.heap.size w w' := by
  have HN := Lib.hid fun W (hb : Below w.heap.size w W) => none_c lo p m flo fhi va vf fs acts W (h.below hb)
  obtain ⟨fa, fc, vs, hvf, -, hrow, hopt⟩ := h.feats
  subst hvf
  have hp : p < w.heap.size := (Array.getElem?_eq_some_iff.1 h.cells).1
  have c1 : w.cell? ⟨p, 1, none⟩ = some (.slice fa fs.length fc) := by rw [cell_of_row _ _ _ _ _ _ h.cells]; rfl
  have c2 : w.cell? ⟨p, 2, none⟩ = some (.map (some m)) := by rw [cell_of_row _ _ _ _ _ _ h.cells]; rfl
  have hlk : ∀ q, (Instr.lookup 75 (.map (some m)) (.agg #[.int .i64 a, .int .i64 b, .int .i64 c, .int .i64 d, .int .i64 e]) true).run Tryz.prog ((w.alloc (.cells #[.int .i64 a, .int .i64 b, .int .i64 c, .int .i64 d, .int .i64 e] 44)).drewN q) = .ok (.tuple #[.int .i64 (((atF fs (a, b, c, d, e)).getD 0 : Nat) : Int), .bool (atF fs (a, b, c, d, e)).isSome]) ((w.alloc (.cells #[.int .i64 a, .int .i64 b, .int .i64 c, .int .i64 d, .int .i64 e] 44)).drewN q) :=
    fun q => IdxMap.look_ok (w := (w.alloc _).drewN q) (p := (a, b, c, d, e)) (h.map.below (below_drewN ((Below.refl w.heap.size w).alloc (Nat.le_refl _) _) q)) hwp
  have HVE : Hid (valE fs acts (a, b, c, d, e) = match atF fs (a, b, c, d, e) with | none => (0, 82) | some i => (pres acts (ftAt fs i), 0)) := rfl
  have HAS : Hid (∀ i, atF fs (a, b, c, d, e) = some i → i < fs.length) := fun i x => (atF_some x).1
  generalize valE fs acts (a, b, c, d, e) = V at *
  generalize hat : atF fs (a, b, c, d, e) = at1 at *
  have HS := Lib.hid h
  clear hat h
  cases at1 with
  | none =>
    simp only [Option.getD_none, Option.isSome_none] at hlk
    have hv : V = (0, 82) := HVE.out
    subst hv
    clear hrow hopt
    go_enter Tryz.func22, Tryz.ntmps22
    go_wp2_with fail
    refine (HN.out _ (by go_grown)).mono ?_
    rintro e w3 ⟨rfl, rfl⟩
    go_wp2_with fail
    go_quiet (fail)
    go_wp2
    go_ret2
    exact ⟨rfl, below_drewN (by go_grown) _⟩
  | some i =>
    simp only [Option.getD_some, Option.isSome_some] at hlk
    have hi := HAS.out i rfl
    have hv : V = (pres acts (ftAt fs i), 0) := HVE.out
    have hi0 : (0 : Int) ≤ (i : Int) := by omega
    have hi1 : (i : Int) < (fs.length : Int) := by omega
    obtain ⟨bf, off, hfa, hb1, hb2, hcf⟩ := hrow (by omega)
    subst hfa
    have hcf' : ∀ j u, (ftV (ftAt fs i).1 (vs i))[j]? = some u → w.cell? ⟨bf, off + i * 6 + j, none⟩ = some u := fun j u hu => hcf i hi j u hu
    have hop := hopt i hi
    have hwo := (hw _ (ftAt_mem hi)).2.2
    have hhf := HS.out.hf
    have hne := hg.some _ (ftAt_mem hi)
    have hmi := hg.miss _ (ftAt_mem hi)
    generalize ftAt fs i = f at *
    obtain ⟨⟨q1, q2, q3, q4, q5⟩, os⟩ := f
    have HPR := Lib.hid fun W (hb : Below w.heap.size w W) => present_c lo p m flo fhi va _ fs acts q1 q2 q3 q4 q5 (vs i) os flo fhi W (HS.out.below hb) (hop.move (Same.of_below (hb.mono hhf))) (Nat.le_trans hhf hb.size) hwo hne hmi hn
    obtain ⟨oa, oc, hvo, -, -⟩ := hop
    rw [hvo] at hcf' HPR
    have f0 := hcf' 0 _ rfl
    have f1 := hcf' 1 _ rfl
    have f2 := hcf' 2 _ rfl
    have f3 := hcf' 3 _ rfl
    have f4 := hcf' 4 _ rfl
    have f5 := hcf' 5 _ rfl
    simp only [Nat.add_zero] at f0
    have hbf : bf < w.heap.size := by omega
    generalize pres acts ((q1, q2, q3, q4, q5), os) = X at *
    generalize touched acts (q1, q2, q3, q4, q5) = T at *
    subst hv
    clear hcf hcf' hrow hopt hwo hne hmi hvo hg hw
    go_enter Tryz.func22, Tryz.ntmps22
    go_wp2_with fail
    refine (HN.out _ (by go_grown)).mono ?_
    rintro e w3 ⟨rfl, rfl⟩
    go_wp2_with fail
    go_quiet (fail)
    go_wp2_with fail
    refine (HPR.out _ (below_drewN (by go_grown) _)).mono ?_
    rintro rr w4 ⟨rfl, hb4⟩
    go_wp2
    go_ret2
    exact ⟨rfl, below_step (below_drewN (by go_grown) _) hb4⟩
end Go.Proofs.YtpcefaccoifejaaGreatDoor

namespace Go.Proofs.YtpcefaccoifejaaGreatDoor
open Go.RowKit Go.Maps
set_option linter.unusedSimpArgs false
set_option linter.unusedVariables false
set_option maxRecDepth 100000

theorem Log_c (lo p m flo fhi : Nat) (va vf : Value) (fs : List Ft) (acts : List Ac) (w : World) (h : SesAt w lo p m flo fhi va vf fs acts) (hn : acts.length ≤ 100000) :
    Calls Tryz.prog 20 #[.pointer (some ⟨p, 0, none⟩)] w fun r w' => (∃ v', r = .returned (.tuple #[v', .int .i64 0]) ∧ w'.ownsRow w.heap.size 60 7 v' acts.length (acts.flatMap acV)) ∧ Below w.heap.size w w' := by
  have HN := Lib.hid fun W (hb : Below w.heap.size w W) => none_c lo p m flo fhi va vf fs acts W (h.below hb)
  have HC := Lib.hid (CloneA_c va acts lo w.heap.size w h.actsAt (by omega))
  obtain ⟨pa, pc, rfl⟩ := own_shape h.acts
  have c0 : w.cell? ⟨p, 0, none⟩ = some (.slice pa acts.length pc) := by rw [cell_of_row _ _ _ _ _ _ h.cells]; rfl
  generalize acts.flatMap acV = ks at *
  generalize acts.length = n at *
  clear h
  go_enter Tryz.func20, Tryz.ntmps20
  go_wp2_with fail
  refine (HN.out _ (Below.refl _ _)).mono ?_
  rintro e w3 ⟨rfl, rfl⟩
  go_wp2_with fail
  refine HC.out.mono ?_
  rintro e w4 ⟨v', rfl, ho, hb4⟩
  obtain ⟨oa, oc, rfl⟩ := own_shape ho
  go_wp2
  go_ret2
  exact ⟨⟨_, rfl, ho⟩, hb4⟩
theorem flat_dropLast (acts : List Ac) : acts.dropLast.flatMap acV = (acts.flatMap acV).take (acts.dropLast.length * 7) := by
  rcases List.eq_nil_or_concat acts with rfl | ⟨l, a, rfl⟩
  · rfl
  · rw [List.concat_eq_append, List.dropLast_concat, List.flatMap_append, ← flatMap_len acV 7 acV_len l, List.take_left]
set_option maxHeartbeats 1000000 in
theorem drop_c (lo p m flo fhi : Nat) (va vf : Value) (fs : List Ft) (acts : List Ac) (w : World) (h : SesAt w lo p m flo fhi va vf fs acts) (hn : acts.length ≤ 100000) (h0 : acts ≠ []) :
    Calls Tryz.prog 53 #[.pointer (some ⟨p, 0, none⟩)] w fun r w' => r = .returned (.tuple #[]) ∧ ∃ va', SesAt w' lo p m flo fhi va' vf fs acts.dropLast ∧ Turn w w' p va va' := by
  have hpos : 0 < acts.length := List.length_pos_iff.2 h0
  have HS := Lib.hid h
  rcases h.acts.2 with ⟨_, hz⟩ | ⟨g, cap, cur, hva, hlo, hg, hcap, hmax, hsz, htk⟩
  · omega
  subst hva
  have c0 : w.cell? ⟨p, 0, none⟩ = some (.slice (some ⟨g, 0, none⟩) acts.length cap) := by rw [cell_of_row _ _ _ _ _ _ h.cells]; rfl
  have f0 : w.frozen? ⟨p, 0, none⟩ = false := frozen_of_row w p 0 _ _ h.cells
  have HC := Lib.hid h.cells
  have HG := Lib.hid hg
  have HX := Lib.hid (And.intro hlo (And.intro hmax (And.intro hsz htk)))
  have HNE := Lib.hid h.p_ne
  have HDL : Hid (acts.dropLast.length = acts.length - 1) := by simp [Hid]
  obtain ⟨n, hn'⟩ : ∃ n, acts.length = n := ⟨_, rfl⟩
  have HN := Lib.hid hn'
  rw [hn'] at hn hpos hcap c0
  have i0 : (0 : Int) ≤ (n : Int) - 1 := by omega
  have i1 : (n : Int) - 1 ≤ (cap : Int) := by omega
  have i2 : (n : Int) ≤ 100000 := by omega
  have hnn : ((n : Int) - 1).toNat = n - 1 := by omega
  clear h hg hlo hmax hsz htk hn'
  go_enter Tryz.func53, Tryz.ntmps53
  go_wp2_with fail
  go_region
  go_wp2
  go_end0
  obtain ⟨hlo, hmax, hsz, htk⟩ := HX.out
  have hgp : g ≠ p := fun e => HNE.out.1 (by rw [← e]; rfl)
  have ht : Turn w (w.setCell ⟨p, 0, none⟩ (.slice (some ⟨g, 0, none⟩) (n - 1) cap)).drew p (.slice (some ⟨g, 0, none⟩) acts.length cap) (.slice (some ⟨g, 0, none⟩) (n - 1) cap) :=
    ⟨rfl, rfl, rfl, by simp [World.setCell], fun b hb h1 _ => Below.heap_setCell w ⟨p, 0, none⟩ _ b h1, fun x hx => .inl hx⟩
  refine ⟨rfl, .slice (some ⟨g, 0, none⟩) (n - 1) cap, HS.out.turned ht ?_ ?_, ht⟩
  · exact heap_setCell_same w p 0 _ _ _ HC.out
  · refine ⟨flatMap_len acV 7 acV_len _, .inr ⟨g, cap, cur, by rw [HDL.out, HN.out], hlo, ?_, by rw [HDL.out, HN.out]; omega, hmax, hsz, ?_⟩⟩
    · exact (Below.heap_setCell w ⟨p, 0, none⟩ _ g hgp).trans HG.out
    · rw [flat_dropLast, ← htk, List.take_take, Nat.min_eq_left]
      rw [HDL.out]
      omega
def undoE (acts : List Ac) : Int := if acts = [] then 6 else 0
theorem Undo_c (lo p m flo fhi : Nat) (va vf : Value) (fs : List Ft) (acts : List Ac) (w : World) (h : SesAt w lo p m flo fhi va vf fs acts) (hn : acts.length ≤ 100000) :
    Calls Tryz.prog 26 #[.pointer (some ⟨p, 0, none⟩)] w fun r w' => r = .returned (.int .i64 (undoE acts)) ∧ ∃ va', SesAt w' lo p m flo fhi va' vf fs acts.dropLast ∧ Turn w w' p va va' := by
  have HN := Lib.hid fun W (hb : Below w.heap.size w W) => none_c lo p m flo fhi va vf fs acts W (h.below hb)
  obtain ⟨pa, pc, hva⟩ := own_shape h.acts
  subst hva
  have c0 : w.cell? ⟨p, 0, none⟩ = some (.slice pa acts.length pc) := by rw [cell_of_row _ _ _ _ _ _ h.cells]; rfl
  have HS := Lib.hid h
  by_cases h0 : acts = []
  · subst h0
    have c0' : w.cell? ⟨p, 0, none⟩ = some (.slice pa 0 pc) := c0
    clear h c0
    go_enter Tryz.func26, Tryz.ntmps26
    go_wp2_with fail
    refine (HN.out _ (Below.refl _ _)).mono ?_
    rintro e w3 ⟨rfl, rfl⟩
    go_wp2
    go_ret
    exact ⟨rfl, _, HS.out, Turn.of_below (Below.refl _ _) _ _⟩
  · have HD := Lib.hid (drop_c lo p m flo fhi _ vf fs acts w h hn h0)
    have HE : Hid (undoE acts = 0) := if_neg h0
    have hpos : 0 < acts.length := List.length_pos_iff.2 h0
    have hp1 : ¬ ((acts.length : Int) = 0) := by omega
    clear h h0
    go_enter Tryz.func26, Tryz.ntmps26
    go_wp2_with fail
    refine (HN.out _ (Below.refl _ _)).mono ?_
    rintro e w3 ⟨rfl, rfl⟩
    go_wp2_with fail
    refine HD.out.mono ?_
    rintro e w4 ⟨rfl, va', h1, h2⟩
    have H := Lib.hid (And.intro h1 h2)
    clear h1 h2
    go_wp2
    go_ret
    exact ⟨by rw [HE.out]; rfl, va', H.out⟩
end Go.Proofs.YtpcefaccoifejaaGreatDoor

namespace Go.Proofs.YtpcefaccoifejaaGreatDoor
open Go.RowKit Go.Maps
set_option linter.unusedSimpArgs false
set_option linter.unusedVariables false
set_option maxRecDepth 100000

/-- the places of acts, each once, in the order in which they first come -/
def ordA (acts : List Ac) : List Pl := acts.foldl (fun l a => if a.2.1 ∈ l then l else l ++ [a.2.1]) []
theorem ordA_snoc (acts : List Ac) (a : Ac) : ordA (acts ++ [a]) = if a.2.1 ∈ ordA acts then ordA acts else ordA acts ++ [a.2.1] := by
  unfold ordA
  rw [List.foldl_append]
  rfl
theorem ordA_mem (p : Pl) (acts : List Ac) : p ∈ ordA acts ↔ touched acts p = true := by
  suffices h : ∀ n, ∀ acts : List Ac, acts.length = n → (p ∈ ordA acts ↔ touched acts p = true) from h _ acts rfl
  intro n
  induction n with
  | zero =>
    intro acts h
    rw [List.eq_nil_of_length_eq_zero h]
    simp [ordA, touched]
  | succ n ih =>
    intro acts h
    rcases List.eq_nil_or_concat acts with rfl | ⟨l, a, rfl⟩
    · simp at h
    · rw [List.concat_eq_append] at h ⊢
      have hl := ih l (by simpa using h)
      rw [ordA_snoc, touched_snoc, Bool.or_eq_true, decide_eq_true_eq, ← hl]
      by_cases e : a.2.1 ∈ ordA l
      · rw [if_pos e]
        exact ⟨fun x => .inl x, fun x => x.elim id (fun y => y ▸ e)⟩
      · rw [if_neg e, List.mem_append, List.mem_singleton]
        exact ⟨fun x => x.imp id Eq.symm, fun x => x.imp id Eq.symm⟩
theorem ordA_len : ∀ (n : Nat) (acts : List Ac), acts.length = n → (ordA acts).length ≤ n
  | 0, acts, h => by rw [List.eq_nil_of_length_eq_zero h]; simp [ordA]
  | n + 1, acts, h => by
    rcases List.eq_nil_or_concat acts with rfl | ⟨l, a, rfl⟩
    · simp at h
    · rw [List.concat_eq_append] at h ⊢
      have hl := ordA_len n l (by simpa using h)
      rw [ordA_snoc]
      split
      · omega
      · simp; omega
/-- what a round of the loop over settled features keeps: the blocks of K, and every map -/
def KpS (K : Nat → Prop) (W W' : World) : Prop := W.heap.size ≤ W'.heap.size ∧ (∀ b, K b → W'.heap[b]? = W.heap[b]?) ∧ ∀ (k : Nat) (o : Obj), W.heap[k]? = some o → o.isWalk = true → W'.heap[k]? = some o
theorem KpS.t {K : Nat → Prop} {A B C : World} (h : KpS K A B) (k : KpS K B C) : KpS K A C := ⟨Nat.le_trans h.1 k.1, fun b hb => (k.2.1 b hb).trans (h.2.1 b hb), fun i o hi ho => k.2.2 i o (h.2.2 i o hi ho) ho⟩
theorem KpS.b {K : Nat → Prop} {w : World} (hK : ∀ b, K b → b < w.heap.size) (W : World) (l : Nat) (o o' : Obj) (hl : w.heap.size ≤ l) (h : W.heap[l]? = some o) (_ : o.isCells = false) (hw : o.isWalk = false) : KpS K W (W.putObj l o') :=
  ⟨by simp, fun b hb => World.putObj_heap_other (by have := hK b hb; omega), fun k x hk hx => (World.putObj_heap_other (by
    intro e
    subst e
    rw [h] at hk
    injection hk with hk
    subst hk
    rw [hw] at hx
    cases hx)).trans hk⟩
theorem KpS.of_below {K : Nat → Prop} {W W' : World} (h : Below W.heap.size W W') (hK : ∀ b, K b → b < W.heap.size) : KpS K W W' :=
  ⟨h.size, fun b hb => h.block b (hK b hb), fun k o hk _ => (h.block k (Array.getElem?_eq_some_iff.1 hk).1).trans hk⟩
/-- the blocks of a session, and the box of its pointer -/
def SesK (p m flo fhi Bs : Nat) (va : Value) (b : Nat) : Prop := b = p ∨ b = m ∨ (flo ≤ b ∧ b < fhi) ∨ va.ownBlock = some b ∨ b = Bs
theorem SesAt.kept {w w' : World} {lo p m flo fhi Bs : Nat} {va vf : Value} {fs : List Ft} {acts : List Ac} (h : SesAt w lo p m flo fhi va vf fs acts) (hk : ∀ b, SesK p m flo fhi Bs va b → w'.heap[b]? = w.heap[b]?) (hs : w.heap.size ≤ w'.heap.size) : SesAt w' lo p m flo fhi va vf fs acts := by
  refine ⟨(hk p (.inl rfl)).trans h.cells, ?_, h.feats.move (fun b h1 h2 => hk b (.inr (.inr (.inl ⟨h1, h2⟩)))), h.map.move (hk m (.inr (.inl rfl))), h.pf, h.mf, h.af, h.lp, h.lm, h.lf, Nat.le_trans h.hf hs⟩
  refine ⟨h.acts.1, h.acts.2.imp id fun ⟨g, cap, cur, e1, e2, e3, r⟩ => ⟨g, cap, cur, e1, e2, (hk g (.inr (.inr (.inr (.inl (by rw [e1]; rfl)))))).trans e3, r⟩⟩
theorem SesAt.lt {w : World} {lo p m flo fhi Bs : Nat} {va vf : Value} {fs : List Ft} {acts : List Ac} (h : SesAt w lo p m flo fhi va vf fs acts) (hBs : Bs < w.heap.size) {b : Nat} (hb : SesK p m flo fhi Bs va b) : b < w.heap.size := by
  rcases hb with rfl | rfl | ⟨_, h2⟩ | h2 | rfl
  · exact (Array.getElem?_eq_some_iff.1 h.cells).1
  · exact h.map.lt
  · have := h.hf; omega
  · exact (h.acts.lt _ h2).2
  · exact hBs
/-- a settled feature -/
abbrev SetI (fs : List Ft) (acts : List Ac) := { i : Nat // i < fs.length ∧ touched acts (ftAt fs i).1 = true }
def plOf (fs : List Ft) {acts : List Ac} (x : SetI fs acts) : Pl := (ftAt fs x.1).1
/-- what is yielded of it -/
def encS (vs : Nat → Value) (fs : List Ft) (acts : List Ac) (x : SetI fs acts) : Array Value := #[.agg (ftV (ftAt fs x.1).1 (vs x.1)).toArray, .int .i64 (pres acts (ftAt fs x.1))]

theorem SetMap.mono {w : World} {b n m : Nat} {s : Pl → Bool} (h : SetMap w b n s) (hn : n ≤ m) : SetMap w b m s := by
  obtain ⟨D, h, hr⟩ := h
  exact ⟨D, h.mono hn, hr⟩
theorem SetMap.obj {w : World} {b n : Nat} {s : Pl → Bool} (h : SetMap w b n s) : ∃ o : Obj, w.heap[b]? = some o ∧ o.isWalk = true := by
  obtain ⟨D, ⟨es, clock, hb, r⟩, hr⟩ := h
  exact ⟨_, hb, rfl⟩
theorem SetMap.congr {w : World} {b n : Nat} {s s' : Pl → Bool} (h : SetMap w b n s) (e : s = s') : SetMap w b n s' := e ▸ h
/-- below W the world is as it was -/
def Bw (W w' : World) : Prop := Below W.heap.size W w'
theorem Bw.refl (W : World) : Bw W W := Below.refl _ _
theorem Bw.d {W w' : World} (h : Bw W w') : Bw W w'.drew := Below.drew h
theorem Bw.drew (W : World) : Bw W W.drew := (Below.refl _ _).drew
theorem Bw.alloc {W w' : World} (h : Bw W w') (o : Obj) : Bw W (w'.alloc o) := Below.alloc h h.size o
theorem Bw.set {W w' : World} (h : Bw W w') (o : Nat) (u : Value) : Bw W (w'.setCell ⟨W.heap.size, o, none⟩ u) := Below.setCell h (p := ⟨W.heap.size, o, none⟩) (Nat.le_refl _) u
set_option maxHeartbeats 4000000 in
theorem settled1_stops (n : Nat) (hn3 : 1 ≤ n) (lo p m flo fhi Bs : Nat) (va : Value) (fa : Option Addr) (fc : Nat) (vs : Nat → Value) (fs : List Ft) (acts : List Ac) (w : World) (h : SesAt w lo p m flo fhi va (.slice fa fs.length fc) fs acts)
    (hrow : Row w flo fhi 6 fa fs.length (fun i => ftV (ftAt fs i).1 (vs i))) (hopt : ∀ i, i < fs.length → OptsAt w flo fhi (vs i) (ftAt fs i).2)
    (hBs : w.heap[Bs]? = some (.cells #[.pointer (some ⟨p, 0, none⟩)] 48 (0, 0))) (hg : Good fs) (ha : Acted fs acts) (hw : wfFs fs) (hwa : wfAs acts) :
    SeqStopsK Fence.wide n Tryz.prog 69 #[.pointer (some ⟨Bs, 0, none⟩)] (encS vs fs acts) (KpS (SesK p m flo fhi Bs va)) (fun xs => xs.map (plOf fs) = ordA acts) (fun _ => True) acts.length w := by
  intro l J Jx W hW hJ hJx hY h0
  have hS := h.below hW
  have hBW : W.heap[Bs]? = some (.cells #[.pointer (some ⟨p, 0, none⟩)] 48 (0, 0)) := (hW.block _ (Array.getElem?_eq_some_iff.1 hBs).1).trans hBs
  have hBlt : Bs < W.heap.size := (Array.getElem?_eq_some_iff.1 hBW).1
  obtain ⟨pa, pc, hva⟩ := own_shape hS.acts
  subst hva
  have b0 : W.cell? ⟨Bs, 0, none⟩ = some (.pointer (some ⟨p, 0, none⟩)) := by rw [cell_of_row _ _ _ _ _ _ hBW]; rfl
  have c0 : W.cell? ⟨p, 0, none⟩ = some (.slice pa acts.length pc) := by rw [cell_of_row _ _ _ _ _ _ hS.cells]; rfl
  have hp : p < W.heap.size := (Array.getElem?_eq_some_iff.1 hS.cells).1
  have hmm := @run_makeMap Tryz.prog
  have hfw := h.hf
  obtain ⟨na, hna⟩ : ∃ na, acts.length = na := ⟨_, rfl⟩
  have HNA := Lib.hid hna
  have hna2 : na ≤ 4096 := by rw [← hna]; exact ha.len
  rw [hna] at c0
  clear hna
  refine callsIn_of_wp Tryz.func69 rfl trivial ?_ rfl
  simp only [Tryz.ntmps69, List.size_toArray, List.length_cons, List.length_nil, Nat.reduceAdd, Nat.reduceSub, Array.replicate_succ, Array.replicate_zero, List.push_toArray, List.append_toArray, List.nil_append, List.cons_append]
  gi_wp2
  have HY := Lib.hid hY
  have HJ := Lib.hid hJ
  have HS := Lib.hid hS
  have HROW := Lib.hid hrow
  have HOPT := Lib.hid hopt
  have HG := Lib.hid hg
  have HA := Lib.hid ha
  have HW := Lib.hid hw
  have HWA := Lib.hid hwa
  have HBW := Lib.hid hBW
  have HWW := Lib.hid hW
  clear hY hJ hJx hS hrow hopt hg ha hw hwa h hBs hBW
  gi_loopw [16] (fun i wr => ∃ (k : Nat) (pre : List (SetI fs acts)), k ≤ na ∧ i = .int .i64 (k : Int) ∧ SetMap wr W.heap.size k (fun q => decide (q ∈ ordA (acts.take k))) ∧ pre.map (plOf fs) = ordA (acts.take k) ∧ J pre wr ∧
      SesAt wr lo p m flo fhi (.slice pa acts.length pc) (.slice fa fs.length fc) fs acts ∧ wr.heap[Bs]? = some (.cells #[.pointer (some ⟨p, 0, none⟩)] 48 (0, 0)) ∧ Same flo fhi w wr)
    (fun i wr => na - (intOf i).toNat)
  case atStart =>
    have hb : Below W.heap.size W (W.alloc (.map #[] 0)) := (Below.refl _ _).alloc (Nat.le_refl _) _
    refine ⟨0, [], Nat.zero_le _, rfl, (SetMap.made W).congr (by funext q; simp [ordA]), by simp [ordA], HJ.out _ _ _ none h0 (World.grownBy_alloc _ _ _) (fun r e => by cases e), HS.out.below hb, (hb.block _ hBlt).trans HBW.out, ?_⟩
    exact fun b h1 h2 => (hb.block b (by have := HS.out.hf; omega)).trans (HWW.out.block b (by omega))
  case round =>
    obtain ⟨k, pre, hkn, rfl, hset, hpre, hJp, hSr, hBr, hsame⟩ := hrel
    have HSET := Lib.hid hset
    have HPRE := Lib.hid hpre
    have HJP := Lib.hid hJp
    have HSR := Lib.hid hSr
    have HBR := Lib.hid hBr
    have HSM := Lib.hid hsame
    have hmlt : W.heap.size < wr.heap.size := hset.lt
    clear hset hpre hJp hBr hsame b0 c0
    by_cases hk : k < na
    · have hkf : k < acts.length := by rw [HNA.out]; exact hk
      obtain ⟨xa, xc, hx, -, hrw⟩ := hSr.actsAt
      simp only [Value.slice.injEq] at hx
      obtain ⟨rfl, -, rfl⟩ := hx
      obtain ⟨ba, oa, rfl, hb1, hb2, hcell⟩ := hrw (by omega)
      have hcw : ∀ x u, (acV (acAt acts k))[x]? = some u → wr.cell? ⟨ba, oa + k * 7 + x, none⟩ = some u := fun x u hu => hcell k hkf x u hu
      have htk : acts.take (k + 1) = acts.take k ++ [acAt acts k] := by rw [take_snoc hkf, acAt_get hkf]
      have hwf := HWA.out _ (acAt_mem hkf)
      have hpl := HA.out.place _ (acAt_mem hkf)
      have hor := ordA_snoc (acts.take k) (acAt acts k)
      rw [← htk] at hor
      have htou : touched acts (acAt acts k).2.1 = true := List.any_eq_true.2 ⟨_, acAt_mem hkf, by simp⟩
      generalize acAt acts k = A at *
      obtain ⟨kd, ⟨q1, q2, q3, q4, q5⟩, v⟩ := A
      simp only at hor hpl htou
      have d0 := hcw 0 _ rfl
      have d1 := hcw 1 _ rfl
      have d2 := hcw 2 _ rfl
      have d3 := hcw 3 _ rfl
      have d4 := hcw 4 _ rfl
      have d5 := hcw 5 _ rfl
      have d6 := hcw 6 _ rfl
      simp only [Nat.add_zero] at d0
      have hk0 : (0 : Int) ≤ k := by omega
      have hk1 : (k : Int) < na := by omega
      have hwp : wfP (q1, q2, q3, q4, q5) := hwf.2.1
      have HOR := Lib.hid hor
      have hbx : Below wr.heap.size wr (wr.alloc (.cells #[.int .i64 kd, .int .i64 q1, .int .i64 q2, .int .i64 q3, .int .i64 q4, .int .i64 q5, .int .i64 v] 60)) := (Below.refl _ _).alloc (Nat.le_refl _) _
      have hlk : (Instr.lookup 122 (.map (some W.heap.size)) (.agg #[.int .i64 q1, .int .i64 q2, .int .i64 q3, .int .i64 q4, .int .i64 q5]) false).run Tryz.prog (wr.alloc (.cells #[.int .i64 kd, .int .i64 q1, .int .i64 q2, .int .i64 q3, .int .i64 q4, .int .i64 q5, .int .i64 v] 60)) = .ok (.bool (decide ((q1, q2, q3, q4, q5) ∈ ordA (acts.take k)))) (wr.alloc (.cells #[.int .i64 kd, .int .i64 q1, .int .i64 q2, .int .i64 q3, .int .i64 q4, .int .i64 q5, .int .i64 v] 60)) :=
        (HSET.out.below hbx).look (p := (q1, q2, q3, q4, q5)) hwp
      have HJB := Lib.hid (HJ.out _ _ _ none HJP.out (World.grownBy_alloc wr (.cells #[.int .i64 kd, .int .i64 q1, .int .i64 q2, .int .i64 q3, .int .i64 q4, .int .i64 q5, .int .i64 v] 60) none) (fun r e => by cases e))
      have HBX := Lib.hid hbx
      clear hcell hcw htk hor hrw hSr hbx hwf
      by_cases hin : (q1, q2, q3, q4, q5) ∈ ordA (acts.take k)
      · rw [decide_eq_true hin] at hlk
        have HIN : Hid (ordA (acts.take (k + 1)) = ordA (acts.take k)) := by
          have := HOR.out
          rw [if_pos hin] at this
          exact this
        clear hin
        gi_wp2
        go_roundw
        case rel => exact ⟨k + 1, pre, by omega, by go_num, ((HSET.out.below HBX.out).mono (Nat.le_succ _)).congr (by rw [HIN.out]), by rw [HIN.out]; exact HPRE.out, HJB.out, HSR.out.below HBX.out, (HBX.out.block _ (Array.getElem?_eq_some_iff.1 HBR.out).1).trans HBR.out, fun b h1 h2 => (HBX.out.block b (by have := HSR.out.hf; omega)).trans (HSM.out b h1 h2)⟩
        case measure => simp [intOf]; omega
      · rw [decide_eq_false hin] at hlk
        have HIN : Hid (ordA (acts.take (k + 1)) = ordA (acts.take k) ++ [(q1, q2, q3, q4, q5)]) := by
          have := HOR.out
          rw [if_neg hin] at this
          exact this
        clear hin
        obtain ⟨w2, hst, hset2, hg2⟩ := (HSET.out.below HBX.out).store (p := (q1, q2, q3, q4, q5)) hwp (by simp only [maxLen]; omega)
        have hst' : (Instr.mapUpdate 122 (.map (some W.heap.size)) (.agg #[.int .i64 q1, .int .i64 q2, .int .i64 q3, .int .i64 q4, .int .i64 q5]) (.bool true)).run Tryz.prog (wr.alloc (.cells #[.int .i64 kd, .int .i64 q1, .int .i64 q2, .int .i64 q3, .int .i64 q4, .int .i64 q5, .int .i64 v] 60)) = .ok () w2 := hst
        clear hst
        have hne : ∀ b, SesK p m flo fhi Bs (.slice (some ⟨ba, oa, none⟩) acts.length pc) b → w2.heap[b]? = wr.heap[b]? := fun b hb => by
          have hlt := HS.out.lt hBlt hb
          exact (hg2.block b (by simp; omega) (fun e => by have := Option.some.inj e; omega)).trans (HBX.out.block b (by omega))
        have hz2 : wr.heap.size + 1 ≤ w2.heap.size := by have := hg2.size; simpa using this
        have HS2 := Lib.hid (HSR.out.kept hne (by omega))
        have hB2 : w2.heap[Bs]? = some (.cells #[.pointer (some ⟨p, 0, none⟩)] 48 (0, 0)) := (hne Bs (.inr (.inr (.inr (.inr rfl))))).trans HBR.out
        have HB2 := Lib.hid hB2
        have HJ2 := Lib.hid (HJ.out _ _ _ (some W.heap.size) HJB.out hg2 (fun r e => by
          obtain rfl := Option.some.inj e
          exact ⟨Nat.le_refl _, (HSET.out.below HBX.out).obj⟩))
        have HSM2 : Hid (Same flo fhi w w2) := fun b h1 h2 => (hne b (.inr (.inr (.inl ⟨h1, h2⟩)))).trans (HSM.out b h1 h2)
        have HSET2 := Lib.hid hset2
        have e0 : w2.cell? ⟨Bs, 0, none⟩ = some (.pointer (some ⟨p, 0, none⟩)) := by rw [cell_of_row _ _ _ _ _ _ hB2]; rfl
        have e1 : w2.cell? ⟨p, 1, none⟩ = some (.slice fa fs.length fc) := by rw [cell_of_row _ _ _ _ _ _ HS2.out.cells]; rfl
        have e2 : w2.cell? ⟨p, 2, none⟩ = some (.map (some m)) := by rw [cell_of_row _ _ _ _ _ _ HS2.out.cells]; rfl
        have nb : some wr.heap.size ≠ some W.heap.size := fun e => by have := Option.some.inj e; omega
        have x1 : w2.cell? ⟨wr.heap.size, 1, none⟩ = some (.int .i64 q1) := hg2.cell (a := ⟨wr.heap.size, 1, none⟩) (by go_simp) nb
        have x2 : w2.cell? ⟨wr.heap.size, 2, none⟩ = some (.int .i64 q2) := hg2.cell (a := ⟨wr.heap.size, 2, none⟩) (by go_simp) nb
        have x3 : w2.cell? ⟨wr.heap.size, 3, none⟩ = some (.int .i64 q3) := hg2.cell (a := ⟨wr.heap.size, 3, none⟩) (by go_simp) nb
        have x4 : w2.cell? ⟨wr.heap.size, 4, none⟩ = some (.int .i64 q4) := hg2.cell (a := ⟨wr.heap.size, 4, none⟩) (by go_simp) nb
        have x5 : w2.cell? ⟨wr.heap.size, 5, none⟩ = some (.int .i64 q5) := hg2.cell (a := ⟨wr.heap.size, 5, none⟩) (by go_simp) nb
        cases hat : atF fs (q1, q2, q3, q4, q5) with
        | none => exact absurd hpl (atF_none.1 hat)
        | some i =>
          obtain ⟨hif, hip⟩ := atF_some hat
          rw [← ftAt_get hif] at hip
          have hlk2 : ∀ W', Bw w2 W' → (Instr.lookup 75 (.map (some m)) (.agg #[.int .i64 q1, .int .i64 q2, .int .i64 q3, .int .i64 q4, .int .i64 q5]) false).run Tryz.prog W' = .ok (.int .i64 (i : Int)) W' := fun W' hb => by
            have := (HS2.out.map.below hb).look (p := (q1, q2, q3, q4, q5)) hwp
            rw [hat] at this
            exact this
          have HLK := Lib.hid hlk2
          obtain ⟨bf, off, rfl, hf1, hf2, hfc⟩ := (HROW.out.move HSM2.out) (by omega)
          have hfc' : ∀ x u, (ftV (ftAt fs i).1 (vs i))[x]? = some u → w2.cell? ⟨bf, off + i * 6 + x, none⟩ = some u := fun x u hu => hfc i hif x u hu
          have hop := (HOPT.out i hif).move HSM2.out
          have hwo := (HW.out _ (ftAt_mem hif)).2.2
          have hne2 := HG.out.some _ (ftAt_mem hif)
          have hmi := HG.out.miss _ (ftAt_mem hif)
          have HX : Hid (∃ x : SetI fs acts, x.1 = i) := ⟨⟨i, hif, by rw [hip]; exact htou⟩, rfl⟩
          obtain ⟨x, hxi⟩ := HX.out
          have HYX := Lib.hid (HY.out pre x)
          have HPX : Hid (plOf fs x = (q1, q2, q3, q4, q5)) := by show (ftAt fs x.1).1 = _; rw [hxi]; exact hip
          have hencs : encS vs fs acts x = #[.agg (ftV (ftAt fs i).1 (vs i)).toArray, .int .i64 (pres acts (ftAt fs i))] := by unfold encS; rw [hxi]
          rw [hencs] at HYX
          clear hencs HX
          generalize ftAt fs i = f at *
          obtain ⟨⟨r1, r2, r3, r4, r5⟩, os⟩ := f
          simp only at hip hop hwo hne2 hmi
          obtain ⟨rfl, rfl, rfl, rfl, rfl⟩ : r1 = q1 ∧ r2 = q2 ∧ r3 = q3 ∧ r4 = q4 ∧ r5 = q5 := by
            simp only [Prod.mk.injEq] at hip
            exact hip
          have hhf := HS2.out.hf
          have HPR := Lib.hid fun W' (hb : Below w2.heap.size w2 W') => present_c lo p m flo fhi _ _ fs acts r1 r2 r3 r4 r5 (vs i) os flo fhi W' (HS2.out.below hb) (hop.move (Same.of_below (hb.mono hhf))) (Nat.le_trans hhf hb.size) hwo hne2 hmi (by rw [HNA.out]; omega)
          obtain ⟨oo, oc, hvo, -, -⟩ := hop
          rw [hvo] at hfc' HPR HYX
          have g0 := hfc' 0 _ rfl
          have g1 := hfc' 1 _ rfl
          have g2 := hfc' 2 _ rfl
          have g3 := hfc' 3 _ rfl
          have g4 := hfc' 4 _ rfl
          have g5 := hfc' 5 _ rfl
          simp only [Nat.add_zero] at g0
          have hi0 : (0 : Int) ≤ (i : Int) := by omega
          have hi1 : (i : Int) < (fs.length : Int) := by omega
          have HG2 := Lib.hid hg2
          generalize pres acts ((r1, r2, r3, r4, r5), os) = PV at *
          generalize touched acts (r1, r2, r3, r4, r5) = TV at *
          have hbs2 : Bs < w2.heap.size := by omega
          have hp2 : p < w2.heap.size := by omega
          have hbf2 : bf < w2.heap.size := by omega
          have hba2 : wr.heap.size < w2.heap.size := by omega
          clear hfc hfc' hat hip hwo hne2 hmi hvo hlk2 hxi hpl htou hset2
          gi_wp2
          clear hst' hlk d0 d1 d2 d3 d4 d5 d6
          refine wpIn_wide.2 ?_
          have HSC : Hid (∀ w', Bw w2 w' → (w'.cell? ⟨Bs, 0, none⟩ = some (.pointer (some ⟨p, 0, none⟩)) ∧ w'.cell? ⟨p, 1, none⟩ = some (.slice (some ⟨bf, off, none⟩) fs.length fc) ∧ w'.cell? ⟨p, 2, none⟩ = some (.map (some m)) ∧ w'.cell? ⟨wr.heap.size, 1, none⟩ = some (.int .i64 r1) ∧ w'.cell? ⟨wr.heap.size, 2, none⟩ = some (.int .i64 r2) ∧ w'.cell? ⟨wr.heap.size, 3, none⟩ = some (.int .i64 r3) ∧ w'.cell? ⟨wr.heap.size, 4, none⟩ = some (.int .i64 r4) ∧ w'.cell? ⟨wr.heap.size, 5, none⟩ = some (.int .i64 r5) ∧ w'.cell? ⟨bf, off + i * 6, none⟩ = some (.int .i64 r1) ∧ w'.cell? ⟨bf, off + i * 6 + 1, none⟩ = some (.int .i64 r2) ∧ w'.cell? ⟨bf, off + i * 6 + 2, none⟩ = some (.int .i64 r3) ∧ w'.cell? ⟨bf, off + i * 6 + 3, none⟩ = some (.int .i64 r4) ∧ w'.cell? ⟨bf, off + i * 6 + 4, none⟩ = some (.int .i64 r5) ∧ w'.cell? ⟨bf, off + i * 6 + 5, none⟩ = some (.slice oo os.length oc) ∧ Bw w2 w')) := fun w' hb =>
            ⟨(hb.cell (p := ⟨Bs, 0, none⟩) hbs2).trans e0, (hb.cell (p := ⟨p, 1, none⟩) hp2).trans e1, (hb.cell (p := ⟨p, 2, none⟩) hp2).trans e2, (hb.cell (p := ⟨wr.heap.size, 1, none⟩) hba2).trans x1, (hb.cell (p := ⟨wr.heap.size, 2, none⟩) hba2).trans x2, (hb.cell (p := ⟨wr.heap.size, 3, none⟩) hba2).trans x3, (hb.cell (p := ⟨wr.heap.size, 4, none⟩) hba2).trans x4, (hb.cell (p := ⟨wr.heap.size, 5, none⟩) hba2).trans x5,
              (hb.cell (p := ⟨bf, _, none⟩) hbf2).trans g0, (hb.cell (p := ⟨bf, _, none⟩) hbf2).trans g1, (hb.cell (p := ⟨bf, _, none⟩) hbf2).trans g2, (hb.cell (p := ⟨bf, _, none⟩) hbf2).trans g3, (hb.cell (p := ⟨bf, _, none⟩) hbf2).trans g4, (hb.cell (p := ⟨bf, _, none⟩) hbf2).trans g5, hb⟩
          have hlkd := HLK.out w2.drew (Bw.drew _)
          have hlka := HLK.out (w2.alloc (.cells #[.int .i64 0, .int .i64 0, .int .i64 0, .int .i64 0, .int .i64 0, .slice none 0 0] 47)).drew ((Below.refl _ _).alloc (Nat.le_refl _) _).drew
          go_region_held3 (fun w' => w'.cell? ⟨Bs, 0, none⟩ = some (.pointer (some ⟨p, 0, none⟩)) ∧ w'.cell? ⟨p, 1, none⟩ = some (.slice (some ⟨bf, off, none⟩) fs.length fc) ∧ w'.cell? ⟨p, 2, none⟩ = some (.map (some m)) ∧ w'.cell? ⟨wr.heap.size, 1, none⟩ = some (.int .i64 r1) ∧ w'.cell? ⟨wr.heap.size, 2, none⟩ = some (.int .i64 r2) ∧ w'.cell? ⟨wr.heap.size, 3, none⟩ = some (.int .i64 r3) ∧ w'.cell? ⟨wr.heap.size, 4, none⟩ = some (.int .i64 r4) ∧ w'.cell? ⟨wr.heap.size, 5, none⟩ = some (.int .i64 r5) ∧ w'.cell? ⟨bf, off + i * 6, none⟩ = some (.int .i64 r1) ∧ w'.cell? ⟨bf, off + i * 6 + 1, none⟩ = some (.int .i64 r2) ∧ w'.cell? ⟨bf, off + i * 6 + 2, none⟩ = some (.int .i64 r3) ∧ w'.cell? ⟨bf, off + i * 6 + 3, none⟩ = some (.int .i64 r4) ∧ w'.cell? ⟨bf, off + i * 6 + 4, none⟩ = some (.int .i64 r5) ∧ w'.cell? ⟨bf, off + i * 6 + 5, none⟩ = some (.slice oo os.length oc) ∧ Bw w2 w')
            ((refine HSC.out _ ?_; with_reducible (first | exact Bw.drew _ | assumption | exact Bw.d (Bw.alloc (Bw.refl _) _) | exact Bw.d (((((((Bw.alloc (Bw.refl _) _).set _ _).set _ _).set _ _).set _ _).set _ _).set _ _))))
            (fail)
          all_goals
            gi_wp2_with fail
            refine ⟨trivial, ?_⟩
            refine (callsIn_wide.2 (HPR.out _ (Bw.d (Bw.alloc (Bw.refl _) _)))).mono ?_
            rintro e w4 ⟨rfl, hb4⟩
            have t0 : w4.cell? ⟨w2.heap.size, 0, none⟩ = some (.int .i64 r1) := (hb4.cell (p := ⟨w2.heap.size, 0, none⟩) (by simp)).trans (by go_simp)
            have t1 : w4.cell? ⟨w2.heap.size, 1, none⟩ = some (.int .i64 r2) := (hb4.cell (p := ⟨w2.heap.size, 1, none⟩) (by simp)).trans (by go_simp)
            have t2 : w4.cell? ⟨w2.heap.size, 2, none⟩ = some (.int .i64 r3) := (hb4.cell (p := ⟨w2.heap.size, 2, none⟩) (by simp)).trans (by go_simp)
            have t3 : w4.cell? ⟨w2.heap.size, 3, none⟩ = some (.int .i64 r4) := (hb4.cell (p := ⟨w2.heap.size, 3, none⟩) (by simp)).trans (by go_simp)
            have t4 : w4.cell? ⟨w2.heap.size, 4, none⟩ = some (.int .i64 r5) := (hb4.cell (p := ⟨w2.heap.size, 4, none⟩) (by simp)).trans (by go_simp)
            have t5 : w4.cell? ⟨w2.heap.size, 5, none⟩ = some (.slice oo os.length oc) := (hb4.cell (p := ⟨w2.heap.size, 5, none⟩) (by simp)).trans (by go_simp)
            have HB4 : Hid (Below w2.heap.size w2 w4) := below_step (Bw.d (Bw.alloc (Bw.refl _) _)) hb4
            have hlen : pre.length < acts.length := by
              have := ordA_len _ (acts.take k) rfl
              rw [← HPRE.out, List.length_map, List.length_take] at this
              rw [HNA.out] at this ⊢
              omega
            obtain ⟨fn, tmps, assign, body, hy, hR⟩ := HYX.out w4 (HJ.out _ _ _ none HJ2.out (grown_of_below HB4.out none) (fun r e => by cases e)) hlen
            simp only [ftV] at hy
            clear hb4 e0 e1 e2 x1 x2 x3 x4 x5 g0 g1 g2 g3 g4 g5 hlkd hlka
            gi_wp2
            refine hR.mono ?_
            rintro e W' (⟨rfl, hJ', hk'⟩ | ⟨rfl, hJx'⟩)
            · have HJN := Lib.hid hJ'
              have HKN := Lib.hid hk'
              clear hJ' hk' hy t0 t1 t2 t3 t4 t5
              gi_wp2
              go_roundw
              case rel =>
                refine ⟨k + 1, pre ++ [x], by omega, by go_num, ?_, ?_, HJN.out, (HS2.out.below HB4.out).kept HKN.out.2.1 HKN.out.1, ?_, ?_⟩
                · obtain ⟨o, ho, hw⟩ := (HSET2.out.below HB4.out).obj
                  refine ((HSET2.out.below HB4.out).move ((HKN.out.2.2 _ o ho hw).trans ho.symm)).congr ?_
                  funext q
                  rw [HIN.out]
                  unfold updP
                  by_cases e : q = (r1, r2, r3, r4, r5)
                  · rw [if_pos e]; simp [e]
                  · rw [if_neg e]; simp [e]
                · rw [List.map_append, HPRE.out, HIN.out, List.map_cons, List.map_nil, HPX.out]
                · exact (HKN.out.2.1 Bs (.inr (.inr (.inr (.inr rfl))))).trans ((HB4.out.block _ hbs2).trans HB2.out)
                · exact fun b h1 h2 => (HKN.out.2.1 b (.inr (.inr (.inl ⟨h1, h2⟩)))).trans ((HB4.out.block b (by have := HS2.out.hf; omega)).trans (HSM2.out b h1 h2))
              case measure => simp [intOf]; omega
            · gi_wp2
              refine bodyPost_ret (results_none rfl _ _ _) rfl ?_
              exact ⟨⟨_, rfl⟩, .inr ⟨pre ++ [x], trivial, hJx'⟩⟩
    · have hk' : k = na := by omega
      subst hk'
      gi_wp2
      go_end0
      refine ⟨⟨_, rfl⟩, .inl ⟨pre, ?_, HJP.out⟩⟩
      rw [HPRE.out, ← HNA.out, List.take_length]
end Go.Proofs.YtpcefaccoifejaaGreatDoor

namespace Go.Proofs.YtpcefaccoifejaaGreatDoor
open Go.RowKit Go.Maps
set_option linter.unusedSimpArgs false
set_option linter.unusedVariables false
set_option maxRecDepth 100000

def rowW (f : Nat → Int) : Array Value := ((List.range 17).map fun i => Value.int .i64 (f i)).toArray
theorem rowW_size (f : Nat → Int) : (rowW f).size = 17 := by simp [rowW]
theorem rowW_at (f : Nat → Int) {i : Nat} (h : i < 17) : (rowW f)[i]? = some (.int .i64 (f i)) := by
  unfold rowW
  rw [List.getElem?_toArray, List.getElem?_map, List.getElem?_range h]
  rfl
def updN (f : Nat → Int) (i : Nat) (v : Int) : Nat → Int := fun j => if j = i then v else f j
theorem rowW_ext {f g : Nat → Int} (h : ∀ i, i < 17 → f i = g i) : rowW f = rowW g := by
  unfold rowW
  congr 1
  exact List.map_congr_left fun i hi => by rw [h i (List.mem_range.1 hi)]
theorem rowW_set (f : Nat → Int) {i : Nat} (v : Int) (h : i < 17) : (rowW f).setIfInBounds i (.int .i64 v) = rowW (updN f i v) := by
  apply Array.ext_getElem?
  intro j
  rw [Array.getElem?_setIfInBounds, rowW_size]
  by_cases hj : j < 17
  · rw [rowW_at _ hj, rowW_at _ hj]
    unfold updN
    by_cases e : i = j
    · subst e; rw [if_pos rfl, if_pos h, if_pos rfl]
    · rw [if_neg e, if_neg (fun x => e x.symm)]
  · have hz : ∀ g, (rowW g)[j]? = none := fun g => Array.getElem?_eq_none (by rw [rowW_size]; omega)
    rw [hz, hz, if_neg (by omega)]
theorem rowW_one (f : Nat → Int) : (rowW f).all (·.oneCell') = true := by
  rw [Array.all_eq_true_iff_forall_mem]
  intro v hv
  unfold rowW at hv
  simp only [List.mem_toArray, List.mem_map] at hv
  obtain ⟨i, _, rfl⟩ := hv
  rfl
theorem infoW : (Tryz.prog.info? 64).map (·.size) = some 17 := by kernel_rfl
/-- block b is such a row -/
def WAt (w : World) (b : Nat) (f : Nat → Int) : Prop := w.heap[b]? = some (.cells (rowW f) 64 (0, 0))
section
variable {w w' : World} {b : Nat} {f : Nat → Int}
theorem WAt.lt (h : WAt w b f) : b < w.heap.size := (Array.getElem?_eq_some_iff.1 h).1
theorem WAt.at (h : WAt w b f) {i : Nat} (hi : i < 17) : w.cell? ⟨b, i, none⟩ = some (.int .i64 (f i)) := by rw [cell_of_row w b _ _ _ _ h, rowW_at f hi]
theorem WAt.free (h : WAt w b f) (i : Nat) : w.frozen? ⟨b, i, none⟩ = false := frozen_of_row w b i _ _ h
theorem WAt.set (h : WAt w b f) {i : Nat} (hi : i < 17) (v : Int) : WAt (w.setCell ⟨b, i, none⟩ (.int .i64 v)) b (updN f i v) := by
  have := heap_setCell_same w b i _ _ (.int .i64 v) h
  rwa [rowW_set f v hi] at this
theorem WAt.below (h : WAt w b f) (hb : Below w.heap.size w w') : WAt w' b f := (hb.block b h.lt).trans h
theorem WAt.ext {g : Nat → Int} (h : WAt w b f) (e : ∀ i, i < 17 → f i = g i) : WAt w b g := by rw [WAt, ← rowW_ext e]; exact h
end
theorem below_setRowW {w u : World} {g : Nat} {cs : Array Value} (h : Below w.heap.size w u) (hg : w.heap.size ≤ g) : Below w.heap.size w (u.setRow g cs) :=
  ⟨h.os, h.tape, h.output, by simpa using h.size, fun i hi => (setRow_other u g i cs (by omega)).trans (h.block i hi)⟩
set_option maxHeartbeats 1000000 in
theorem Plain_c (w : World) : Calls Tryz.prog 45 #[] w fun e w' => e = .returned (.agg (rowW (fun _ => 4))) ∧ Below w.heap.size w w' := by
  go_enter Tryz.func45, Tryz.ntmps45
  go_wp2
  go_loopw [3] (fun i wr => ∃ k : Nat, k ≤ 17 ∧ i = .int .i64 (k : Int) ∧ WAt wr (w.heap.size + 1) (fun j => if j < k then 4 else 0) ∧ WAt wr w.heap.size (fun _ => 0) ∧ Below w.heap.size w wr)
    (fun i wr => 17 - (intOf i).toNat)
  case atStart => exact ⟨0, by omega, rfl, (heap_alloc2_new w _ _).trans (congrArg (fun c => some (Obj.cells c _ (0, 0))) (by kernel_rfl)), (heap_alloc2_old w _ _).trans (congrArg (fun c => some (Obj.cells c _ (0, 0))) (by kernel_rfl)), by go_grown⟩
  case round =>
    obtain ⟨k, hk, rfl, hw1, hw0, hB⟩ := hrel
    have H1 := Lib.hid hw1
    have H0 := Lib.hid hw0
    have HB := Lib.hid hB
    by_cases h : k < 17
    · have c0 := hw1.at h
      have f0 := hw1.free k
      have i0 : (0 : Int) ≤ k := by omega
      have i1 : (k : Int) < 17 := by omega
      have hz1 := hw1.lt
      clear hw1 hw0 hB
      generalize (if k < k then (4 : Int) else 0) = z at c0
      go_wp2
      go_roundw
      case rel =>
        refine ⟨k + 1, by omega, by go_num, ?_, ?_, ?_⟩
        · exact (H1.out.set h 4).ext fun i hi => by unfold updN; dsimp only; (repeat' split) <;> omega
        · exact (Below.heap_setCell wr ⟨w.heap.size + 1, k, none⟩ _ w.heap.size (fun e => by dsimp only at e; omega)).trans H0.out
        · exact HB.out.setCell (p := ⟨w.heap.size + 1, k, none⟩) (by dsimp only; omega) _
      case measure => simp [intOf]; omega
    · obtain rfl : k = 17 := by omega
      have hr1 : wr.heap[w.heap.size + 1]? = some (.cells (rowW (fun _ => 4)) 64 (0, 0)) := hw1.ext (g := fun _ => 4) fun i hi => if_pos hi
      have X1 := Lib.hid hr1
      have hsz : (rowW (fun _ => 4)).size = 17 := rowW_size _
      have hone := rowW_one (fun _ => 4)
      have hi : (Tryz.prog.info? 64).map (·.size) = some (rowW (fun _ => 4)).size := by rw [hsz]; exact infoW
      have hold : (rowW (fun _ => 0)).size = (rowW (fun _ => 4)).size := by rw [rowW_size, rowW_size]
      have X3 := Lib.hid hi
      have X4 := Lib.hid hold
      have X5 := Lib.hid hone
      have X2 := Lib.hid (show wr.heap[w.heap.size]? = some (.cells (rowW (fun _ => 0)) 64 (0, 0)) from hw0)
      clear hr1 hi hold hone hsz hw1 hw0 hB H1
      generalize hrow : rowW (fun _ => 4) = row at *
      have HROW := Lib.hid hrow
      clear hrow
      generalize rowW (fun _ => 0) = old at *
      go_wp2_with (first | (refine wpList_load_row rfl 64 (.tmp 1) rfl (w.heap.size + 1) rfl 64 row (0, 0) _ X1.out Tryz.underlying64 rfl X3.out ?_) | (refine wpList_store_row rfl 64 (.tmp 0) (.tmp 9) rfl w.heap.size row rfl rfl 64 _ X2.out X3.out X4.out X5.out ?_))
      exact bodyPost_ret (results_cell_row Tryz.results45 _ _ w.heap.size 64 row (0, 0) _ rfl (setRow_heap _ _ _ _ _ _ X2.out) Tryz.underlying64 rfl X3.out) rfl ⟨by rw [HROW.out], below_setRowW HB.out (Nat.le_refl _)⟩
end Go.Proofs.YtpcefaccoifejaaGreatDoor

namespace Go.Proofs.YtpcefaccoifejaaGreatDoor
open Go.RowKit Go.Maps
set_option linter.unusedSimpArgs false
set_option linter.unusedVariables false

theorem ordA_nodup : ∀ (n : Nat) (acts : List Ac), acts.length = n → (ordA acts).Nodup
  | 0, acts, h => by rw [List.eq_nil_of_length_eq_zero h]; simp [ordA]
  | n + 1, acts, h => by
    rcases List.eq_nil_or_concat acts with rfl | ⟨l, a, rfl⟩
    · simp at h
    · rw [List.concat_eq_append] at h ⊢
      have hl := ordA_nodup n l (by simpa using h)
      rw [ordA_snoc]
      split
      · exact hl
      · rename_i hn
        exact List.nodup_append.2 ⟨hl, by simp, fun x hx y hy e => by
          simp only [List.mem_singleton] at hy
          subst hy
          subst e
          exact hn hx⟩
theorem perm_sum {α : Type} (f : α → Int) {l l' : List α} (h : l.Perm l') : (l.map f).sum = (l'.map f).sum := by
  induction h with
  | nil => rfl
  | cons x _ ih => simp only [List.map_cons, List.sum_cons, ih]
  | swap x y l => simp only [List.map_cons, List.sum_cons]; omega
  | trans _ _ h1 h2 => exact h1.trans h2
theorem filter_sum {α : Type} (f : α → Int) (p : α → Bool) : ∀ (l : List α), (∀ x ∈ l, p x = false → f x = 0) → ((l.filter p).map f).sum = (l.map f).sum
  | [], _ => rfl
  | x :: r, h => by
    have ih := filter_sum f p r (fun y hy => h y (List.mem_cons_of_mem _ hy))
    cases hp : p x
    · rw [List.filter_cons_of_neg (by rw [hp]; exact Bool.false_ne_true)]
      simp only [List.map_cons, List.sum_cons, ih, h x (List.mem_cons_self) hp]
      omega
    · rw [List.filter_cons_of_pos hp]
      simp only [List.map_cons, List.sum_cons, ih]
theorem fs_range (fs : List Ft) : fs = (List.range fs.length).map (ftAt fs) := by
  apply List.ext_getElem
  · simp
  · intro i h1 h2
    rw [List.getElem_map, List.getElem_range, ftAt_get h1]
/-- what settled features add to the weight of number n -/
def wPre {fs : List Ft} {acts : List Ac} (pre : List (SetI fs acts)) (n : Nat) : Int := (pre.map fun x => wOne acts n (ftAt fs x.1)).sum
theorem wPre_end {fs : List Ft} {acts : List Ac} (hg : (fs.map (·.1)).Nodup) {pre : List (SetI fs acts)} (h : pre.map (plOf fs) = ordA acts) (ha : ∀ a ∈ acts, a.2.1 ∈ fs.map (·.1)) (n : Nat) : wPre pre n = wSum acts n fs := by
  have e1 : wPre pre n = ((pre.map (·.1)).map fun i => wOne acts n (ftAt fs i)).sum := by
    unfold wPre
    rw [List.map_map]
    rfl
  have e2 : wSum acts n fs = ((List.range fs.length).map fun i => wOne acts n (ftAt fs i)).sum := by
    unfold wSum
    conv => lhs; rw [fs_range fs]
    rw [List.map_map]
    rfl
  rw [e1, e2, ← filter_sum _ (fun i => touched acts (ftAt fs i).1) (List.range fs.length) (fun i _ hi => by
    unfold wOne
    have hi' : touched acts (ftAt fs i).1 = false := hi
    rw [if_neg (fun x => by rw [hi'] at x; exact Bool.false_ne_true x.1)])]
  refine perm_sum _ ((List.perm_ext_iff_of_nodup ?_ (List.Nodup.sublist List.filter_sublist List.nodup_range)).2 fun i => ?_)
  · have hn : (pre.map (plOf fs)).Nodup := by rw [h]; exact ordA_nodup _ acts rfl
    have : (pre.map (plOf fs)) = (pre.map (·.1)).map (fun i => (ftAt fs i).1) := by rw [List.map_map]; rfl
    rw [this] at hn
    exact (List.pairwise_map.1 hn).imp (fun h e => h (by rw [e]))
  · rw [List.mem_filter, List.mem_range, List.mem_map]
    constructor
    · rintro ⟨x, _, rfl⟩
      exact x.2
    · rintro ⟨hi, ht⟩
      have hm : (ftAt fs i).1 ∈ pre.map (plOf fs) := by rw [h]; exact (ordA_mem _ _).2 ht
      obtain ⟨x, hx, hxe⟩ := List.mem_map.1 hm
      refine ⟨x, hx, ?_⟩
      have a1 := atF_at hg x.2.1
      have a2 := atF_at hg hi
      rw [← ftAt_get x.2.1] at a1
      rw [← ftAt_get hi] at a2
      have : (ftAt fs x.1).1 = (ftAt fs i).1 := hxe
      rw [this, a2] at a1
      exact (Option.some.inj a1).symm
theorem wOne_bd (acts : List Ac) (n : Nat) (f : Ft) : -1 ≤ wOne acts n f ∧ wOne acts n f ≤ 1 := by
  unfold wOne
  split
  · split <;> omega
  · omega
theorem wPre_bd {fs : List Ft} {acts : List Ac} (n : Nat) : ∀ (pre : List (SetI fs acts)), -(pre.length : Int) ≤ wPre pre n ∧ wPre pre n ≤ pre.length
  | [] => by simp [wPre]
  | x :: r => by
    have ih := wPre_bd n r
    have h1 := wOne_bd acts n (ftAt fs x.1)
    have e : wPre (x :: r) n = wOne acts n (ftAt fs x.1) + wPre r n := by simp [wPre]
    rw [e, List.length_cons]
    omega
theorem wPre_snoc {fs : List Ft} {acts : List Ac} (n : Nat) (pre : List (SetI fs acts)) (x : SetI fs acts) : wPre (pre ++ [x]) n = wPre pre n + wOne acts n (ftAt fs x.1) := by
  unfold wPre
  rw [List.map_append, List.sum_append]
  simp
end Go.Proofs.YtpcefaccoifejaaGreatDoor
