/-
  Contracts of the methods last, present and Value of a session. Conditions: the session lies in memory as K8 says; its features are good; numbers are of their type.
-/
import Derived.Test.YtpcefaccoifejaaGreatDoorK12
namespace Go.Proofs.YtpcefaccoifejaaGreatDoor
open Go.RowKit Go.Maps
set_option linter.unusedSimpArgs false
set_option linter.unusedVariables false
set_option maxRecDepth 100000

theorem corr_aux (p : Pl) : ∀ (l : List Ac) (acc : Option Int), (l.foldl (fun v a => if a.2.1 = p ∧ a.1 = 1 then some a.2.2 else v) acc).isSome = true → acc.isSome = true ∨ touched l p = true
  | [], acc, h => .inl h
  | a :: r, acc, h => by
    rcases corr_aux p r _ h with h1 | h1
    · by_cases e : a.2.1 = p ∧ a.1 = 1
      · exact .inr (by simp [touched, e.1])
      · simp only [if_neg e] at h1
        exact .inl h1
    · refine .inr ?_
      unfold touched at h1 ⊢
      rw [List.any_cons, h1, Bool.or_true]
theorem corr_touched {acts : List Ac} {p : Pl} {v : Int} (h : corr acts p = some v) : touched acts p = true := by
  rcases corr_aux p acts none (by unfold corr at h; rw [h]; rfl) with h1 | h1
  · cases h1
  · exact h1
/-- what last finds: w is the world behind it -/
def LastRes (acts : List Ac) (p : Pl) (e : Ending) (w : World) : Prop :=
  (∃ v x b o, corr acts p = some v ∧ e = .returned (.tuple #[.pointer x, .pointer (some ⟨b, o, none⟩)]) ∧ w.cell? ⟨b, o + 6, none⟩ = some (.int .i64 v)) ∨
    (∃ x : Option Addr, corr acts p = none ∧ e = .returned (.tuple #[.pointer x, .pointer none]) ∧ x.isSome = touched acts p)
set_option maxHeartbeats 2000000 in
theorem last_c (q : Nat) (va : Value) (acts : List Ac) (lo hi : Nat) (p1 p2 p3 p4 p5 : Int) (w : World) (hc : w.cell? ⟨q, 0, none⟩ = some va) (ha : ActsAt w lo hi va acts) (hh : hi ≤ w.heap.size) (hn : acts.length ≤ 100000) :
    Calls Tryz.prog 75 #[.pointer (some ⟨q, 0, none⟩), .agg #[.int .i64 p1, .int .i64 p2, .int .i64 p3, .int .i64 p4, .int .i64 p5]] w fun e w' => LastRes acts (p1, p2, p3, p4, p5) e w' ∧ Below w.heap.size w w' := by
  obtain ⟨a, cap, rfl, -, hr⟩ := ha
  have hq : q < w.heap.size := World.block_lt_of_cell? w _ hc
  have HR := Lib.hid hr
  obtain ⟨n, hn'⟩ : ∃ n, acts.length = n := ⟨_, rfl⟩
  have HN := Lib.hid hn'
  have HC := Lib.hid hc
  rw [hn'] at hn hc
  clear hr hn'
  have hn1 : -1 ≤ (n : Int) - 1 := by omega
  have hn2 : (n : Int) ≤ 100000 := by omega
  go_enter Tryz.func75, Tryz.ntmps75
  go_wp2
  go_loopw [4, 6] (fun x i wr => ∃ (k : Nat) (pa : Option Addr) (j : Int), k ≤ n ∧ j = (k : Int) - 1 ∧ i = .int .i64 j ∧ x = .pointer pa ∧ corr (acts.take k) (p1, p2, p3, p4, p5) = corr acts (p1, p2, p3, p4, p5) ∧
      (touched (acts.take k) (p1, p2, p3, p4, p5) || pa.isSome) = touched acts (p1, p2, p3, p4, p5) ∧ wr.heap[w.heap.size]? = some (.cells #[.int .i64 p1, .int .i64 p2, .int .i64 p3, .int .i64 p4, .int .i64 p5] 44 (0, 0)) ∧ Below w.heap.size w wr)
    (fun x i wr => (intOf i + 1).toNat)
  case atStart => exact ⟨n, none, (n : Int) - 1, Nat.le_refl _, rfl, by go_num, rfl, by rw [← HN.out, List.take_length], by rw [← HN.out, List.take_length]; simp, heap_alloc_new _ _, by go_grown⟩
  case round =>
    obtain ⟨k, pa, j, hkn, hj, rfl, rfl, hcorr, htou, hblk, hB⟩ := hrel
    have HCO := Lib.hid hcorr
    have HTO := Lib.hid htou
    have HBLK := Lib.hid hblk
    have b0 : wr.cell? ⟨w.heap.size, 0, none⟩ = some (.int .i64 p1) := by rw [cell_of_row _ _ _ _ _ _ hblk]; rfl
    have b1 : wr.cell? ⟨w.heap.size, 1, none⟩ = some (.int .i64 p2) := by rw [cell_of_row _ _ _ _ _ _ hblk]; rfl
    have b2 : wr.cell? ⟨w.heap.size, 2, none⟩ = some (.int .i64 p3) := by rw [cell_of_row _ _ _ _ _ _ hblk]; rfl
    have b3 : wr.cell? ⟨w.heap.size, 3, none⟩ = some (.int .i64 p4) := by rw [cell_of_row _ _ _ _ _ _ hblk]; rfl
    have b4 : wr.cell? ⟨w.heap.size, 4, none⟩ = some (.int .i64 p5) := by rw [cell_of_row _ _ _ _ _ _ hblk]; rfl
    have s0 : wr.cell? ⟨q, 0, none⟩ = some (.slice a n cap) := (hB.cell (p := ⟨q, 0, none⟩) hq).trans hc
    clear hcorr htou hblk hc
    cases k with
    | zero =>
      have hj1 : j < 0 := by omega
      have HB := Lib.hid hB
      clear hB
      go_wp2
      go_ret2
      refine ⟨.inr ⟨pa, ?_, rfl, ?_⟩, HB.out⟩
      · rw [← HCO.out]; rfl
      · rw [← HTO.out]; rfl
    | succ l =>
      obtain rfl : j = (l : Int) := by omega
      clear hj
      have hlf : l < acts.length := by rw [HN.out]; omega
      obtain ⟨b, off, rfl, hb1, hb2, hcell⟩ := HR.out (by omega)
      have hcw : ∀ x u, (acV (acAt acts l))[x]? = some u → wr.cell? ⟨b, off + l * 7 + x, none⟩ = some u := fun x u hu => (hB.cell (p := ⟨b, off + l * 7 + x, none⟩) (show b < w.heap.size by omega)).trans (hcell l hlf x u hu)
      have htk : acts.take (l + 1) = acts.take l ++ [acAt acts l] := by rw [take_snoc hlf, acAt_get hlf]
      have hco := HCO.out
      have hto := HTO.out
      rw [htk, corr_snoc] at hco
      rw [htk, touched_snoc] at hto
      generalize acAt acts l = A at *
      obtain ⟨kd, ⟨q1, q2, q3, q4, q5⟩, v⟩ := A
      simp only at hco hto
      have c0 := hcw 0 _ rfl
      have c1 := hcw 1 _ rfl
      have c2 := hcw 2 _ rfl
      have c3 := hcw 3 _ rfl
      have c4 := hcw 4 _ rfl
      have c5 := hcw 5 _ rfl
      have c6 := hcw 6 _ rfl
      simp only [Nat.add_zero] at c0
      have hl0 : (0 : Int) ≤ l := by omega
      have hl1 : (l : Int) < n := by omega
      have hl2 : (l : Int) ≤ 100000 := by omega
      have HB := Lib.hid hB
      have HCO2 := Lib.hid hco
      have HTO2 := Lib.hid hto
      clear hcell hcw htk hB hco hto
      by_cases hp : (q1, q2, q3, q4, q5) = (p1, p2, p3, p4, p5)
      · have he : ∀ w, (Op.equalIn 10000 44 (.agg #[.int .i64 q1, .int .i64 q2, .int .i64 q3, .int .i64 q4, .int .i64 q5]) (.agg #[.int .i64 p1, .int .i64 p2, .int .i64 p3, .int .i64 p4, .int .i64 p5])).run Tryz.prog w = .ok true w := fun w => by rw [ein_pl, decide_eq_true hp]
        have HP := Lib.hid hp
        clear hp
        go_wp2_with fail
        go_quiet (fail)
        by_cases hk : kd = 1
        · have HCV : Hid (corr acts (p1, p2, p3, p4, p5) = some v) := by
            have := HCO2.out
            rw [if_pos ⟨HP.out, hk⟩] at this
            exact this.symm
          subst hk
          cases pa with
          | none =>
            go_wp2_with fail
            go_quiet (fail)
            go_wp2
            go_ret2
            exact ⟨.inl ⟨v, _, b, off + l * 7, HCV.out, rfl, c6⟩, below_drewN (below_drewN HB.out _) _⟩
          | some x =>
            go_wp2_with fail
            go_quiet (fail)
            go_wp2
            go_ret2
            exact ⟨.inl ⟨v, _, b, off + l * 7, HCV.out, rfl, c6⟩, below_drewN (below_drewN HB.out _) _⟩
        · have HCN : Hid (corr (acts.take l) (p1, p2, p3, p4, p5) = corr acts (p1, p2, p3, p4, p5)) := by
            have := HCO2.out
            rw [if_neg (fun x => hk x.2)] at this
            exact this
          have HTN : Hid (∀ x : Addr, (touched (acts.take l) (p1, p2, p3, p4, p5) || (some x).isSome) = touched acts (p1, p2, p3, p4, p5)) := fun x => by
            have := HTO2.out
            rw [decide_eq_true HP.out] at this
            rw [← this]
            simp
          cases pa with
          | none =>
            go_wp2
            go_roundw
            case rel => exact ⟨l, _, (l : Int) - 1, by omega, rfl, by go_num, rfl, HCN.out, HTN.out _, HBLK.out, below_drewN HB.out _⟩
            case measure => first | (change ((l : Int) - 1 + 1).toNat < ((l : Int) + 1).toNat; omega) | (simp only [intOf]; omega)
          | some x =>
            go_wp2
            go_roundw
            case rel => exact ⟨l, _, (l : Int) - 1, by omega, rfl, by go_num, rfl, HCN.out, HTN.out _, HBLK.out, below_drewN HB.out _⟩
            case measure => first | (change ((l : Int) - 1 + 1).toNat < ((l : Int) + 1).toNat; omega) | (simp only [intOf]; omega)
      · have he : ∀ w, (Op.equalIn 10000 44 (.agg #[.int .i64 q1, .int .i64 q2, .int .i64 q3, .int .i64 q4, .int .i64 q5]) (.agg #[.int .i64 p1, .int .i64 p2, .int .i64 p3, .int .i64 p4, .int .i64 p5])).run Tryz.prog w = .ok false w := fun w => by rw [ein_pl, decide_eq_false hp]
        have HCN : Hid (corr (acts.take l) (p1, p2, p3, p4, p5) = corr acts (p1, p2, p3, p4, p5)) := by
          have := HCO2.out
          rw [if_neg (fun x => hp x.1)] at this
          exact this
        have HTN : Hid ((touched (acts.take l) (p1, p2, p3, p4, p5) || pa.isSome) = touched acts (p1, p2, p3, p4, p5)) := by
          have := HTO2.out
          rw [decide_eq_false hp, Bool.or_false] at this
          exact this
        clear hp
        go_wp2_with fail
        go_quiet (fail)
        go_wp2
        go_roundw
        case rel => exact ⟨l, pa, (l : Int) - 1, by omega, rfl, by go_num, rfl, HCN.out, HTN.out, HBLK.out, below_drewN HB.out _⟩
        case measure => first | (change ((l : Int) - 1 + 1).toNat < ((l : Int) + 1).toNat; omega) | (simp only [intOf]; omega)
theorem SesAt.actsAt {w : World} {lo p m flo fhi : Nat} {va vf : Value} {fs : List Ft} {acts : List Ac} (h : SesAt w lo p m flo fhi va vf fs acts) : ActsAt w lo w.heap.size va acts := acts_of_own h.acts
set_option maxHeartbeats 1000000 in
theorem present_c (lo p m flo fhi : Nat) (va vf : Value) (fs : List Ft) (acts : List Ac) (a b c d e : Int) (v : Value) (os : List Opt) (olo ohi : Nat) (w : World) (h : SesAt w lo p m flo fhi va vf fs acts) (ho : OptsAt w olo ohi v os) (hoh : ohi ≤ w.heap.size)
    (hol : os.length ≤ 1000000) (hne : os ≠ []) (hm : ∀ o ∈ os, 0 ≤ o.2 ∧ o.2 ≤ 10000) (hn : acts.length ≤ 100000) :
    Calls Tryz.prog 52 #[.pointer (some ⟨p, 0, none⟩), .agg #[.int .i64 a, .int .i64 b, .int .i64 c, .int .i64 d, .int .i64 e, v]] w fun r w' =>
      r = .returned (.tuple #[.int .i64 (pres acts ((a, b, c, d, e), os)), .bool (touched acts (a, b, c, d, e))]) ∧ Below w.heap.size w w' := by
  have HL := Lib.hid fun W (hb : Below w.heap.size w W) => last_c p va acts lo W.heap.size a b c d e W (by rw [cell_of_row _ _ _ _ _ _ ((hb.block p (Array.getElem?_eq_some_iff.1 h.cells).1).trans h.cells)]; rfl) (h.below hb).actsAt (Nat.le_refl _) hn
  have HBE := Lib.hid fun W (hb : Below w.heap.size w W) => best_c a b c d e v os olo ohi W (ho.move (Same.of_below (hb.mono hoh))) (Nat.le_trans hoh hb.size) hol hne hm
  have HP : Hid (pres acts ((a, b, c, d, e), os) = (corr acts (a, b, c, d, e)).getD (best os)) := rfl
  have HCT : Hid (∀ v, corr acts (a, b, c, d, e) = some v → touched acts (a, b, c, d, e) = true) := fun v x => corr_touched x
  obtain ⟨av, cap, rfl, -, -⟩ := ho
  generalize pres acts ((a, b, c, d, e), os) = X at *
  generalize hT0 : touched acts (a, b, c, d, e) = T at *
  have HTD := Lib.hid hT0
  clear hT0
  generalize os.length = n at *
  clear h hm hne hol
  go_enter Tryz.func52, Tryz.ntmps52
  go_wp2_with fail
  refine wp_named fun W hW => ?_
  have k0 : W.cell? ⟨w.heap.size, 0, none⟩ = some (.int .i64 a) := by rw [hW]; go_simp
  have k1 : W.cell? ⟨w.heap.size, 1, none⟩ = some (.int .i64 b) := by rw [hW]; go_simp
  have k2 : W.cell? ⟨w.heap.size, 2, none⟩ = some (.int .i64 c) := by rw [hW]; go_simp
  have k3 : W.cell? ⟨w.heap.size, 3, none⟩ = some (.int .i64 d) := by rw [hW]; go_simp
  have k4 : W.cell? ⟨w.heap.size, 4, none⟩ = some (.int .i64 e) := by rw [hW]; go_simp
  have k5 : W.cell? ⟨w.heap.size, 5, none⟩ = some (.slice av n cap) := by rw [hW]; go_simp
  have hB : Below w.heap.size w W := by rw [hW]; go_grown
  have y0 : w.heap.size < W.heap.size := by rw [hW]; simp
  have HB := Lib.hid hB
  clear hW hB
  have HLL := HL.out W.drew HB.out.drew
  unfold LastRes at HLL
  have HLH := Lib.hid HLL
  clear HLL
  cases hco : corr acts (a, b, c, d, e) with
  | some cv =>
    have hx : X = cv := by
      have := HP.out
      rw [hco] at this
      exact this
    have ht := HCT.out _ hco
    subst hx
    subst ht
    have HCO := Lib.hid hco
    clear hco
    go_region_held3 (fun w' => Sk W w') (first | assumption | exact Sk_drew _ | with_reducible exact Sk_call (by assumption) (by assumption))
      ((go_at_call 75; refine HLH.out.mono ?_; rintro rr w3 ⟨hres, hb3⟩; obtain ⟨v2, x, bb, o, rfl, hcell⟩ : ∃ (v2 : Int) (x : Option Addr) (bb o : Nat), rr = .returned (.tuple #[.pointer x, .pointer (some ⟨bb, o, none⟩)]) ∧ v2 = X ∧ w3.cell? ⟨bb, o + 6, none⟩ = some (.int .i64 v2) := (by
        rcases hres with ⟨v2, x, bb, o, h1, h2, h3⟩ | ⟨x, h1, _⟩
        · exact ⟨v2, x, bb, o, h2, Option.some.inj (h1.symm.trans HCO.out), h3⟩
        · rw [HCO.out] at h1; cases h1); have HCELL := Lib.hid hcell; clear hres hcell))
    obtain ⟨rfl, hcell⟩ := HCELL.out
    go_wp2
    go_ret2
    exact ⟨rfl, HB.out.trans ((by assumption : Sk W _).2.mono HB.out.size)⟩
  | none =>
    have hx : X = best os := by
      have := HP.out
      rw [hco] at this
      exact this
    have HX := Lib.hid hx
    have HCO := Lib.hid hco
    clear hx hco
    go_region_held3 (fun w' => Sk W w') (first | assumption | exact Sk_drew _ | with_reducible exact Sk_call (by assumption) (by assumption))
      ((go_at_call 75; refine HLH.out.mono ?_; rintro rr w3 ⟨hres, hb3⟩; obtain ⟨x, rfl, hxt⟩ : ∃ (x : Option Addr), rr = .returned (.tuple #[.pointer x, .pointer none]) ∧ x.isSome = T := (by
        rcases hres with ⟨v2, x, bb, o, h1, h2, h3⟩ | ⟨x, h1, h2, h3⟩
        · rw [HCO.out] at h1; cases h1
        · exact ⟨x, h2, h3.trans HTD.out⟩); have HXT := Lib.hid hxt; clear hres hxt))
    have hSk := (by assumption : Sk W w3)
    have HB3 := Lib.hid (HB.out.trans (hSk.2.mono HB.out.size))
    have hxt := HXT.out
    subst hxt
    clear hSk
    cases x with
    | none =>
      go_wp2_with fail
      refine (HBE.out _ HB3.out).mono ?_
      rintro rr w4 ⟨rfl, hb4⟩
      go_wp2
      go_ret2
      exact ⟨by rw [HX.out]; rfl, below_step HB3.out hb4⟩
    | some x =>
      go_wp2_with fail
      refine (HBE.out _ HB3.out).mono ?_
      rintro rr w4 ⟨rfl, hb4⟩
      go_wp2
      go_ret2
      exact ⟨by rw [HX.out]; rfl, below_step HB3.out hb4⟩
set_option maxHeartbeats 1000000 in
theorem Value_c (lo p m flo fhi : Nat) (va vf : Value) (fs : List Ft) (acts : List Ac) (a b c d e : Int) (w : World) (h : SesAt w lo p m flo fhi va vf fs acts) (hg : Good fs) (hw : wfFs fs) (hwp : wfP (a, b, c, d, e)) (hn : acts.length ≤ 100000) :
    Calls Tryz.prog 22 #[.pointer (some ⟨p, 0, none⟩), .agg #[.int .i64 a, .int .i64 b, .int .i64 c, .int .i64 d, .int .i64 e]] w fun r w' =>
      r = .returned (.tuple #[.int .i64 (valE fs acts (a, b, c, d, e)).1, .int .i64 (valE fs acts (a, b, c, d, e)).2]) ∧ Below w.heap.size w w' := by
  have HN := Lib.hid fun W (hb : Below w.heap.size w W) => none_c lo p m flo fhi va vf fs acts W (h.below hb)
  obtain ⟨fa, fc, vs, hvf, -, hrow, hopt⟩ := h.feats
  subst hvf
  have hp : p < w.heap.size := (Array.getElem?_eq_some_iff.1 h.cells).1
  have c1 : w.cell? ⟨p, 1, none⟩ = some (.slice fa fs.length fc) := by rw [cell_of_row _ _ _ _ _ _ h.cells]; rfl
  have c2 : w.cell? ⟨p, 2, none⟩ = some (.map (some m)) := by rw [cell_of_row _ _ _ _ _ _ h.cells]; rfl
  have hlk : ∀ q, (Instr.lookup 75 (.map (some m)) (.agg #[.int .i64 a, .int .i64 b, .int .i64 c, .int .i64 d, .int .i64 e]) true).run Tryz.prog ((w.alloc (.cells #[.int .i64 a, .int .i64 b, .int .i64 c, .int .i64 d, .int .i64 e] 44)).drewN q) = .ok (.tuple #[.int .i64 (((atF fs (a, b, c, d, e)).getD 0 : Nat) : Int), .bool (atF fs (a, b, c, d, e)).isSome]) ((w.alloc (.cells #[.int .i64 a, .int .i64 b, .int .i64 c, .int .i64 d, .int .i64 e] 44)).drewN q) :=
    fun q => IdxMap.look_ok (w := (w.alloc _).drewN q) (p := (a, b, c, d, e)) (h.map.below (below_drewN ((Below.refl w.heap.size w).alloc (Nat.le_refl _) _) q)) hwp
  have HVE : Hid (valE fs acts (a, b, c, d, e) = match atF fs (a, b, c, d, e) with | none => (0, 82) | some i => (pres acts (ftAt fs i), 0)) := rfl
  have HAS : Hid (∀ i, atF fs (a, b, c, d, e) = some i → i < fs.length) := fun i x => (atF_some x).1
  generalize valE fs acts (a, b, c, d, e) = V at *
  generalize hat : atF fs (a, b, c, d, e) = at1 at *
  have HS := Lib.hid h
  clear hat h
  cases at1 with
  | none =>
    simp only [Option.getD_none, Option.isSome_none] at hlk
    have hv : V = (0, 82) := HVE.out
    subst hv
    clear hrow hopt
    go_enter Tryz.func22, Tryz.ntmps22
    go_wp2_with fail
    refine (HN.out _ (by go_grown)).mono ?_
    rintro e w3 ⟨rfl, rfl⟩
    go_wp2_with fail
    go_quiet (fail)
    go_wp2
    go_ret2
    exact ⟨rfl, below_drewN (by go_grown) _⟩
  | some i =>
    simp only [Option.getD_some, Option.isSome_some] at hlk
    have hi := HAS.out i rfl
    have hv : V = (pres acts (ftAt fs i), 0) := HVE.out
    have hi0 : (0 : Int) ≤ (i : Int) := by omega
    have hi1 : (i : Int) < (fs.length : Int) := by omega
    obtain ⟨bf, off, hfa, hb1, hb2, hcf⟩ := hrow (by omega)
    subst hfa
    have hcf' : ∀ j u, (ftV (ftAt fs i).1 (vs i))[j]? = some u → w.cell? ⟨bf, off + i * 6 + j, none⟩ = some u := fun j u hu => hcf i hi j u hu
    have hop := hopt i hi
    have hwo := (hw _ (ftAt_mem hi)).2.2
    have hhf := HS.out.hf
    have hne := hg.some _ (ftAt_mem hi)
    have hmi := hg.miss _ (ftAt_mem hi)
    generalize ftAt fs i = f at *
    obtain ⟨⟨q1, q2, q3, q4, q5⟩, os⟩ := f
    have HPR := Lib.hid fun W (hb : Below w.heap.size w W) => present_c lo p m flo fhi va _ fs acts q1 q2 q3 q4 q5 (vs i) os flo fhi W (HS.out.below hb) (hop.move (Same.of_below (hb.mono hhf))) (Nat.le_trans hhf hb.size) hwo hne hmi hn
    obtain ⟨oa, oc, hvo, -, -⟩ := hop
    rw [hvo] at hcf' HPR
    have f0 := hcf' 0 _ rfl
    have f1 := hcf' 1 _ rfl
    have f2 := hcf' 2 _ rfl
    have f3 := hcf' 3 _ rfl
    have f4 := hcf' 4 _ rfl
    have f5 := hcf' 5 _ rfl
    simp only [Nat.add_zero] at f0
    have hbf : bf < w.heap.size := by omega
    generalize pres acts ((q1, q2, q3, q4, q5), os) = X at *
    generalize touched acts (q1, q2, q3, q4, q5) = T at *
    subst hv
    clear hcf hcf' hrow hopt hwo hne hmi hvo hg hw
    go_enter Tryz.func22, Tryz.ntmps22
    go_wp2_with fail
    refine (HN.out _ (by go_grown)).mono ?_
    rintro e w3 ⟨rfl, rfl⟩
    go_wp2_with fail
    go_quiet (fail)
    go_wp2_with fail
    refine (HPR.out _ (below_drewN (by go_grown) _)).mono ?_
    rintro rr w4 ⟨rfl, hb4⟩
    go_wp2
    go_ret2
    exact ⟨rfl, below_step (below_drewN (by go_grown) _) hb4⟩
end Go.Proofs.YtpcefaccoifejaaGreatDoor
