/-
  The contract of custosref13.Do. Conditions: what is read lies in memory as SW says; lists are not too long.
-/
import Derived.Test.YtpcefaccoifejaaGreatDoorR2
import Derived.Test.YtpcefaccoifejaaGreatDoorKD
namespace Go.Proofs.YtpcefaccoifejaaGreatDoor
open Go.RowKit Go.Maps
set_option linter.unusedSimpArgs false
set_option linter.unusedVariables false
set_option maxRecDepth 100000

theorem infoRAct : Tryz.prog.info? 56 = some Tryz.t56 := by kernel_rfl
def RDoRes (w : World) (vf va : Value) (fs : List Ft) (acts : List Ac) (a : Ac) (e : Ending) (w' : World) : Prop :=
  ∃ va', e = .returned (.tuple #[.agg #[vf, va'], .int .i64 (doE fs acts a)]) ∧ (doE fs acts a = 0 → ActsAt w' w.heap.size w'.heap.size va' (doA fs acts a)) ∧ (doE fs acts a ≠ 0 → va' = va) ∧ Below w.heap.size w w'
/-- a slice with a length within its capacity -/
def CapIn (v : Value) : Prop := ∃ (a : Option Addr) (n cap : Nat), v = .slice a n cap ∧ n ≤ cap
theorem cap_of_own {w : World} {lo k n : Nat} {T : TypeId} {v : Value} {ks : List Value} (h : w.ownsRow lo T k v n ks) : CapIn v := by
  rcases h.2 with ⟨rfl, rfl⟩ | ⟨g, cap, cur, rfl, _, _, hcap, _⟩
  · exact ⟨_, _, _, rfl, Nat.le_refl _⟩
  · exact ⟨_, _, _, rfl, hcap⟩
def RDoResS (w : World) (vf va : Value) (fs : List Ft) (acts : List Ac) (a : Ac) (e : Ending) (w' : World) : Prop :=
  ∃ va', e = .returned (.tuple #[.agg #[vf, va'], .int .i64 (doE fs acts a)]) ∧ (doE fs acts a = 0 → ActsAt w' w.heap.size w'.heap.size va' (doA fs acts a) ∧ CapIn va') ∧ (doE fs acts a ≠ 0 → va' = va) ∧ Below w.heap.size w w'
theorem RDoResS.weak {w w' : World} {vf va : Value} {fs : List Ft} {acts : List Ac} {a : Ac} {e : Ending} (h : RDoResS w vf va fs acts a e w') : RDoRes w vf va fs acts a e w' := by
  obtain ⟨va', h1, h2, h3, h4⟩ := h
  exact ⟨va', h1, fun h => (h2 h).1, h3, h4⟩
theorem RDoResS.bad {w w' : World} {vf va : Value} {fs : List Ft} {acts : List Ac} {a : Ac} {x : Int} (hb : Below w.heap.size w w') (hx : doE fs acts a = x) (h0 : x ≠ 0) : RDoResS w vf va fs acts a (.returned (.tuple #[.agg #[vf, va], .int .i64 x])) w' :=
  ⟨va, by rw [hx], fun h => absurd (hx.symm.trans h) h0, fun _ => rfl, hb⟩
theorem hasV_snoc (os : List Opt) (o : Opt) (v : Int) : hasV (os ++ [o]) v = (hasV os v || decide (o.1 = v)) := by simp [hasV]
/-- the loop that looks for an option: what the walk says of it is left to the two calls below -/
theorem sesBlock {W : World} {g : Nat} {T : TypeId} {x y : Value} (h : W.heap[g]? = some (.cells #[x, y] T (0, 0))) : W.cell? ⟨g, 0, none⟩ = some x ∧ W.cell? ⟨g, 1, none⟩ = some y ∧ W.frozen? ⟨g, 0, none⟩ = false ∧ W.frozen? ⟨g, 1, none⟩ = false :=
  ⟨by rw [cell_of_row _ _ _ _ _ _ h]; rfl, by rw [cell_of_row _ _ _ _ _ _ h]; rfl, frozen_of_row _ _ _ _ _ h, frozen_of_row _ _ _ _ _ h⟩
theorem heap_alloc3_old (w : World) (A B C : Obj) : (((w.alloc A).alloc B).alloc C).heap[w.heap.size]? = some A := by
  rw [Below.heap_alloc _ _ _ (by simp; omega)]; exact heap_alloc2_old _ _ _
theorem heap_alloc3_mid (w : World) (A B C : Obj) : (((w.alloc A).alloc B).alloc C).heap[w.heap.size + 1]? = some B := by
  rw [Below.heap_alloc _ _ _ (by simp)]; exact heap_alloc2_new _ _ _
theorem heap_alloc3_new (w : World) (A B C : Obj) : (((w.alloc A).alloc B).alloc C).heap[w.heap.size + 2]? = some C := by
  have := heap_alloc_new ((w.alloc A).alloc B) C
  simpa using this
set_option maxHeartbeats 2000000 in
theorem rDo0_c (vf va : Value) (fs : List Ft) (acts : List Ac) (lo flo fhi : Nat) (k a b c d e v : Int) (w : World) (h : FeatsAt w flo fhi vf fs) (hA : ActsAt w lo w.heap.size va acts) (hk1 : ¬ k = 1) (hk2 : ¬ k = 2) :
    Calls Tryz.prog 17 #[.agg #[vf, va], .agg #[.int .i64 k, .int .i64 a, .int .i64 b, .int .i64 c, .int .i64 d, .int .i64 e, .int .i64 v]] w (RDoResS w vf va fs acts (k, (a, b, c, d, e), v)) := by
  have HA := Lib.hid hA
  have HE : Hid (doE fs acts (k, (a, b, c, d, e), v) = 1) := doE_kind ⟨hk1, hk2⟩
  obtain ⟨aa, ac, rfl, -, -⟩ := hA
  obtain ⟨fa, fc, vs, rfl, -, -, -⟩ := h
  generalize acts.length = na at *
  generalize fs.length = nf at *
  have b1 : (k != 1) = true := by simpa using hk1
  have b2 : (k != 2) = true := by simpa using hk2
  go_enter Tryz.func17, Tryz.ntmps17
  go_wp2
  (try simp only [Exit.inBlock, Exit.then]); refine bodyPost_ret (by simp [results, Tryz.results17, go_sem, *]; try rfl) rfl ?_
  exact RDoResS.bad (by go_grown) HE.out (by decide)
theorem run_append_nil (w : World) (ty : TypeId) : (Builtin.append_ #[22, 22] ty #[.slice none 0 0, .slice none 0 0]).run Tryz.prog w = .ok (.slice none 0 0) w := by
  have u := Tryz.underlying22
  have z := Tryz.sizeOf56
  unfold Builtin.append_
  simp [Sem.run_bind, run_underlying u, z, Builtin.lenOf, Builtin.firstCells, Result.andThen, Sem.run_pure]
theorem wpList_append_nil {ops : Array Oper} {rest : List Oper} {o : Oper} {a : Act} {w : World} {Q : Exit → Act → World → Prop} (hgd : o.guard = none) (s x : Operand)
    (ho : o.op = .call { callee := .builtin .append, args := #[s, x], argTypes := #[22, 22] }) (hs : a.eval s = .slice none 0 0) (hx : a.eval x = .slice none 0 0)
    (h : wpList Tryz.prog ops Q rest (a.put o.dst (.slice none 0 0)) w) : wpList Tryz.prog ops Q (o :: rest) a w :=
  wpList_plain hgd fun _ hK => by
    have hr := run_append_nil w o.type
    unfold Oper.wp execOp
    simp only [ho, resolve, invoke, builtin, Sem.run_bind, Sem.run_pure, Result.andThen_ok, List.map_toArray, List.map_cons, List.map_nil, hs, hx, hr]
    exact hK _ _ h
set_option maxHeartbeats 2000000 in
theorem rDo1_c (vf va : Value) (fs : List Ft) (acts : List Ac) (lo flo fhi : Nat) (a b c d e v : Int) (w : World) (h : FeatsAt w flo fhi vf fs) (hh : fhi ≤ w.heap.size) (hA : ActsAt w lo w.heap.size va acts) (hlo : lo ≤ w.heap.size) (hw : wfFs fs) (hn : acts.length ≤ 100000) (hnf : fs.length ≤ 20000) :
    Calls Tryz.prog 17 #[.agg #[vf, va], .agg #[.int .i64 1, .int .i64 a, .int .i64 b, .int .i64 c, .int .i64 d, .int .i64 e, .int .i64 v]] w (RDoResS w vf va fs acts (1, (a, b, c, d, e), v)) := by
  have HA := Lib.hid hA
  obtain ⟨aa, ac, rfl, hz, hra⟩ := hA
  have HAT := Lib.hid fun W (hb : Below w.heap.size w W) => rAt_c vf aa acts.length ac fs flo fhi a b c d e W (h.move (Same.of_below (hb.mono hh))) (Nat.le_trans hh hb.size) hnf
  obtain ⟨fa, fc, vs, rfl, -, hr, ho⟩ := h
  have HSt : Hid (atF fs (a, b, c, d, e) = none → doE fs acts (1, (a, b, c, d, e), v) = 82) := fun x => doE_stale (a := (1, (a, b, c, d, e), v)) (by simp) x
  have HDE : Hid (∀ i, atF fs (a, b, c, d, e) = some i → doE fs acts (1, (a, b, c, d, e), v) = if (1 : Int) = 1 ∧ hasV (ftAt fs i).2 v = false then 8 else if 4096 ≤ acts.length then 4 else 0) := fun i x => doE_at (a := (1, (a, b, c, d, e), v)) (by simp) x
  have HAS : Hid (∀ i, atF fs (a, b, c, d, e) = some i → i < fs.length) := fun i x => (atF_some x).1
  have HR := Lib.hid hr
  have HO := Lib.hid ho
  have HRA := Lib.hid hra
  have HW := Lib.hid hw
  unfold atI at HAT
  generalize hat : atF fs (a, b, c, d, e) = at1 at *
  obtain ⟨na, hna⟩ : ∃ na, acts.length = na := ⟨_, rfl⟩
  have HNA := Lib.hid hna
  obtain ⟨nf, hnf'⟩ : ∃ nf, fs.length = nf := ⟨_, rfl⟩
  have HNF := Lib.hid hnf'
  rw [hna] at hn HAT HA ⊢
  rw [hnf'] at hnf HAT ⊢
  have HZ := Lib.hid hz
  clear hat hr ho hw hna hnf' hra hz
  cases at1 with
  | none =>
    have HE := Lib.hid (HSt.out rfl)
    go_enter Tryz.func17, Tryz.ntmps17
    go_wp2_with fail
    refine (HAT.out _ (by go_grown)).mono ?_
    rintro rr w1 ⟨rfl, hb1⟩
    have hz1 : w.heap.size + 2 < w1.heap.size := by have := hb1.size; simp at this; omega
    have hS := (hb1.block _ (by simp; omega)).trans (heap_alloc3_old _ _ _ _)
    have hR := (hb1.block _ (by simp)).trans (heap_alloc3_new _ _ _ _)
    obtain ⟨s0, s1, -, -⟩ := sesBlock hS
    obtain ⟨r0, r1, rf0, rf1⟩ := sesBlock hR
    have HB1 : Hid (Below w.heap.size w w1) := below_step (by go_grown) hb1
    clear hb1 hS hR
    go_wp2
    (try simp only [Exit.inBlock, Exit.then]); refine bodyPost_ret (by simp [results, Tryz.results17, go_sem, *]; try rfl) rfl ?_
    exact RDoResS.bad ((HB1.out.setCell (p := ⟨w.heap.size + 2, 0, none⟩) (by dsimp only; omega) _).setCell (p := ⟨w.heap.size + 2, 1, none⟩) (by dsimp only; omega) _) HE.out (by decide)
  | some i =>
    have hif := HAS.out i rfl
    have hde := HDE.out i rfl
    have hi0 : (0 : Int) ≤ (i : Int) := by omega
    have hi1 : (i : Int) < (nf : Int) := by have := HNF.out; omega
    have hi2 : (i : Int) ≤ 20000 := by omega
    obtain ⟨bf, off, hfa, hb1, hb2, hcf⟩ := HR.out (by omega)
    subst hfa
    have hop := HO.out i hif
    have hwo := (HW.out _ (ftAt_mem hif)).2.2
    have c5 : ∀ x y, vs i = .slice x (ftAt fs i).2.length y → w.cell? ⟨bf, off + i * 6 + 5, none⟩ = some (.slice x (ftAt fs i).2.length y) := fun x y e => by
      have := hcf i hif 5 (vs i) rfl
      rwa [e] at this
    generalize ftAt fs i = f at *
    obtain ⟨q, os⟩ := f
    simp only at hop hwo hde c5
    obtain ⟨oa, oc, hvo, -, hro⟩ := hop
    have c5 := c5 _ _ hvo
    have HDEH := Lib.hid hde
    obtain ⟨no, hno⟩ : ∃ no, os.length = no := ⟨_, rfl⟩
    have HNO := Lib.hid hno
    have HRO := Lib.hid hro
    rw [hno] at hwo c5
    have hbf : bf < w.heap.size := by omega
    clear hcf hde hvo hno hro
    go_enter Tryz.func17, Tryz.ntmps17
    go_wp2_with fail
    refine (HAT.out _ (by go_grown)).mono ?_
    rintro rr w1 ⟨rfl, hb1⟩
    have hz1 : w.heap.size + 2 < w1.heap.size := by have := hb1.size; simp at this; omega
    have hS := (hb1.block _ (by simp; omega)).trans (heap_alloc3_old _ _ _ _)
    have hP := (hb1.block _ (by simp)).trans (heap_alloc3_mid _ _ _ _)
    have hR := (hb1.block _ (by simp)).trans (heap_alloc3_new _ _ _ _)
    have p0 : w1.cell? ⟨w.heap.size + 1, 0, none⟩ = some (.int .i64 1) := by rw [cell_of_row _ _ _ _ _ _ hP]; rfl
    have HB1 : Hid (Below w.heap.size w w1) := below_step (by go_grown) hb1
    have HSP := Lib.hid (And.intro hS (And.intro hP hR))
    clear hb1 hS hR hP
    go_wp2
    go_loopw [7, 8] (fun fo j wr => ∃ (k : Nat), k ≤ no ∧ j = .int .i64 (k : Int) ∧ fo = .bool (hasV (os.take k) v) ∧ Bw w1 wr)
      (fun fo j wr => no - (intOf j).toNat)
    case atStart => exact ⟨0, Nat.zero_le _, rfl, rfl, Bw.refl _⟩
    case round =>
      obtain ⟨k, hkn, rfl, rfl, hBw⟩ := hrel
      have HTAIL : Hid (wr.heap[w.heap.size]? = some (.cells #[.slice (some ⟨bf, off, none⟩) nf fc, .slice aa na ac] 52 (0, 0)) ∧ wr.heap[w.heap.size + 1]? = some (.cells #[.int .i64 1, .int .i64 a, .int .i64 b, .int .i64 c, .int .i64 d, .int .i64 e, .int .i64 v] 56 (0, 0)) ∧ wr.heap[w.heap.size + 2]? = some (.cells #[.slice none 0 0, .slice none 0 0] 52 (0, 0))) :=
        ⟨(hBw.block _ (by omega)).trans HSP.out.1, (hBw.block _ (by omega)).trans HSP.out.2.1, (hBw.block _ (by omega)).trans HSP.out.2.2⟩
      have HBW : Hid (Below w.heap.size w wr) := HB1.out.trans (hBw.mono HB1.out.size)
      have d5 := (HBW.out.cell (p := ⟨bf, off + i * 6 + 5, none⟩) hbf).trans c5
      by_cases hk : k < no
      · have hkf : k < os.length := by rw [HNO.out]; exact hk
        obtain ⟨bo, oo, rfl, ho1, ho2, hco⟩ := HRO.out (by omega)
        have e0 : wr.cell? ⟨bo, oo + k * 2, none⟩ = some (.int .i64 (optAt os k).1) := (HBW.out.cell (p := ⟨bo, oo + k * 2, none⟩) (show bo < w.heap.size by omega)).trans (hco k hkf 0 _ rfl)
        have hst : hasV (os.take (k + 1)) v = (hasV (os.take k) v || decide ((optAt os k).1 = v)) := by rw [optAt_take hkf, hasV_snoc]
        have HST := Lib.hid hst
        have HBK := Lib.hid hBw
        obtain ⟨hS, hP, hR⟩ := HTAIL.out
        obtain ⟨s0, s1, sf0, sf1⟩ := sesBlock hS
        have p6 : wr.cell? ⟨w.heap.size + 1, 6, none⟩ = some (.int .i64 v) := by rw [cell_of_row _ _ _ _ _ _ hP]; rfl
        have hk0 : (0 : Int) ≤ k := by omega
        have hk1 : (k : Int) < no := by omega
        have hk2 : (k : Int) ≤ 1000000 := by omega
        clear hco hst hBw hS hP hR
        generalize optAt os k = q at *
        obtain ⟨x, y⟩ := q
        simp only at e0 HST
        cases hh : hasV (os.take k) v with
        | true =>
          rw [hh] at HST
          have HS2 : Hid (hasV (os.take (k + 1)) v = true) := HST.out.trans (Bool.true_or _)
          clear hh
          go_wp2_with fail
          go_quiet (fail)
          go_wp2
          go_roundw
          case rel => exact ⟨k + 1, by omega, by go_num, by rw [HS2.out], below_drewN HBK.out _⟩
          case measure => simp [intOf]; omega
        | false =>
          rw [hh] at HST
          clear hh
          by_cases hx : x = v
          · have HS2 : Hid (hasV (os.take (k + 1)) v = true) := HST.out.trans (by rw [decide_eq_true hx]; rfl)
            go_wp2_with fail
            go_quiet (fail)
            go_wp2
            go_roundw
            case rel => exact ⟨k + 1, by omega, by go_num, by rw [HS2.out], below_drewN HBK.out _⟩
            case measure => simp [intOf]; omega
          · have HS2 : Hid (hasV (os.take (k + 1)) v = false) := HST.out.trans (by rw [decide_eq_false hx]; rfl)
            have hxv : (x == v) = false := by simpa using hx
            go_wp2_with fail
            go_quiet (fail)
            go_wp2
            go_roundw
            case rel => exact ⟨k + 1, by omega, by go_num, by rw [HS2.out], below_drewN HBK.out _⟩
            case measure => simp [intOf]; omega
      · obtain rfl : k = no := by omega
        rw [show os.take k = os from by rw [← HNO.out, List.take_length]]
        clear hBw
        cases hh : hasV os v with
        | false =>
          have HE := Lib.hid (HDEH.out.trans (if_pos ⟨trivial, hh⟩))
          obtain ⟨hS, hP, hR⟩ := HTAIL.out
          obtain ⟨s0, s1, sf0, sf1⟩ := sesBlock hS
          obtain ⟨r0, r1, rf0, rf1⟩ := sesBlock hR
          clear hS hP hR hh
          go_wp2
          (try simp only [Exit.inBlock, Exit.then]); refine bodyPost_ret (by simp [results, Tryz.results17, go_sem, *]; try rfl) rfl ?_
          exact RDoResS.bad ((HBW.out.setCell (p := ⟨w.heap.size + 2, 0, none⟩) (by dsimp only; omega) _).setCell (p := ⟨w.heap.size + 2, 1, none⟩) (by dsimp only; omega) _) HE.out (by decide)
        | true =>
          have HDE2 := Lib.hid (HDEH.out.trans (if_neg (fun x => by rw [hh] at x; cases x.2)))
          clear hh
          obtain ⟨hS, hP, hR⟩ := HTAIL.out
          obtain ⟨s0, s1, sf0, sf1⟩ := sesBlock hS
          obtain ⟨r0, r1, rf0, rf1⟩ := sesBlock hR
          have p0 : wr.cell? ⟨w.heap.size + 1, 0, none⟩ = some (.int .i64 1) := by rw [cell_of_row _ _ _ _ _ _ hP]; rfl
          have p1 : wr.cell? ⟨w.heap.size + 1, 1, none⟩ = some (.int .i64 a) := by rw [cell_of_row _ _ _ _ _ _ hP]; rfl
          have p2 : wr.cell? ⟨w.heap.size + 1, 2, none⟩ = some (.int .i64 b) := by rw [cell_of_row _ _ _ _ _ _ hP]; rfl
          have p3 : wr.cell? ⟨w.heap.size + 1, 3, none⟩ = some (.int .i64 c) := by rw [cell_of_row _ _ _ _ _ _ hP]; rfl
          have p4 : wr.cell? ⟨w.heap.size + 1, 4, none⟩ = some (.int .i64 d) := by rw [cell_of_row _ _ _ _ _ _ hP]; rfl
          have p5 : wr.cell? ⟨w.heap.size + 1, 5, none⟩ = some (.int .i64 e) := by rw [cell_of_row _ _ _ _ _ _ hP]; rfl
          have p6 : wr.cell? ⟨w.heap.size + 1, 6, none⟩ = some (.int .i64 v) := by rw [cell_of_row _ _ _ _ _ _ hP]; rfl
          have hzW : w.heap.size + 2 < wr.heap.size := (Array.getElem?_eq_some_iff.1 hR).1
          clear hS hP hR
          by_cases h4 : 4096 ≤ na
          · have HE := Lib.hid (HDE2.out.trans (if_pos (by rw [HNA.out]; exact h4)))
            have h4' : (4096 : Int) ≤ na := by omega
            go_wp2
            (try simp only [Exit.inBlock, Exit.then]); refine bodyPost_ret (by simp [results, Tryz.results17, go_sem, *]; try rfl) rfl ?_
            exact RDoResS.bad ((HBW.out.setCell (p := ⟨w.heap.size + 2, 0, none⟩) (by dsimp only; omega) _).setCell (p := ⟨w.heap.size + 2, 1, none⟩) (by dsimp only; omega) _) HE.out (by decide)
          · have HE := Lib.hid (HDE2.out.trans (if_neg (by rw [HNA.out]; exact h4)))
            have h4' : (na : Int) < 4096 := by omega
            have HDA : Hid (doA fs acts (1, (a, b, c, d, e), v) = acts ++ [(1, (a, b, c, d, e), v)]) := by
              show doA _ _ _ = _
              rw [doA, if_pos HE.out]; rfl
            have hI := Lib.hid infoRAct
            cases aa with
            | none =>
              have hac : ac = 0 := HZ.out rfl
              have hna0 : na = 0 := by
                rcases Nat.eq_zero_or_pos na with h | h
                · exact h
                · obtain ⟨_, _, h, _⟩ := HRA.out (by rw [HNA.out]; exact h)
                  cases h
              subst hac
              subst hna0
              go_wp2_with (at_builtin; go_loud (first | (refine wpList_append_nil rfl _ _ rfl rfl rfl ?_) | (refine wpList_append_own _ rfl (.tmp 69) (.tmp 71) _ rfl wr.heap.size 56 Tryz.t56 _ 7 56 rfl hI.out rfl rfl rfl rfl (by omega) (.slice none 0 0) 0 [] rfl (World.ownsRow_nil _ _ _ _) ⟨wr.heap.size, 0, none⟩ 1 1 (acV (1, (a, b, c, d, e), v)) rfl rfl (newCells _ _ _) (by simp [acV, Value.oneCell']) (by simp only [maxLen]; omega) (by omega) (by simp) ?_; intro v' w' ho hg hn; obtain ⟨ga, gc, rfl⟩ := own_shape ho; have hgS := Lib.hid ((hg.block w.heap.size (by simp; omega) (by simp [Value.ownBlock])).trans ((Below.heap_alloc _ _ _ (by omega)).trans HTAIL.out.1)); have hgR := Lib.hid ((hg.block (w.heap.size + 2) (by simp; omega) (by simp [Value.ownBlock])).trans ((Below.heap_alloc _ _ _ (by omega)).trans HTAIL.out.2.2)); have HBG := Lib.hid ((HBW.out.alloc HBW.out.size _).grown hg (by simp; omega) (fun j hj => by cases hj)); have HOW := Lib.hid ho; clear ho hg hn s0 s1 sf0 sf1 r0 r1 rf0 rf1; obtain ⟨s0, s1, sf0, sf1⟩ := sesBlock hgS.out; obtain ⟨r0, r1, rf0, rf1⟩ := sesBlock hgR.out)))
              (try simp only [Exit.inBlock, Exit.then]); refine bodyPost_ret (by simp [results, Tryz.results17, go_sem, *]; try rfl) rfl ?_
              refine ⟨_, by rw [HE.out], fun _ => ⟨?_, ?_⟩, fun h => absurd HE.out h, ((HBG.out.setCell (p := ⟨w.heap.size, 1, none⟩) (Nat.le_refl _) _).setCell (p := ⟨w.heap.size + 2, 0, none⟩) (by dsimp only; omega) _).setCell (p := ⟨w.heap.size + 2, 1, none⟩) (by dsimp only; omega) _⟩
              · rw [HDA.out, List.eq_nil_of_length_eq_zero HNA.out]
                exact (acts_of_own (own_off (own_off (own_off HOW.out (by omega) _ _) (by omega) _ _) (by omega) _ _)).wider (by omega) (Nat.le_refl _)
              · exact cap_of_own HOW.out
            | some ad =>
              have hac : Hid (∀ (W : World), Below w.heap.size w W → ∀ j u, (acts.flatMap acV)[j]? = some u → W.cell? (ad.add j) = some u) := by
                intro W hb j u hu
                have hx : w.cell? (ad.add j) = some u := by
                  have hpos : 0 < acts.length := by
                    cases acts with
                    | nil => simp at hu
                    | cons o r => simp
                  obtain ⟨b, off, hb, _, _, h3⟩ := HRA.out hpos
                  injection hb with hb
                  subst hb
                  exact flat_cells acV_len (by decide) h3 j u hu
                exact (hb.cell (World.block_lt_of_cell? w _ hx)).trans hx
              have hf := flatMap_len acV 7 acV_len acts
              rw [HNA.out] at hf
              have h1 := Lib.hid (acV_one acts)
              go_wp2_with (at_builtin; go_loud (first
                | (refine wpList_append_own _ rfl (.tmp 65) (.tmp 67) _ rfl wr.heap.size 56 Tryz.t56 _ 7 56 rfl hI.out rfl rfl rfl rfl (by omega) (.slice none 0 0) 0 [] rfl (World.ownsRow_nil _ _ _ _) ad na ac (acts.flatMap acV) rfl hf (hac.out _ HBW.out) h1.out (by simp only [maxLen]; omega) (by omega) (by simp) ?_; intro v' w' ho hg hn; rw [Nat.zero_add, List.nil_append] at ho; obtain ⟨ga, gc, rfl⟩ := own_shape ho; have hlt := hg.size; have hgS := Lib.hid ((hg.block w.heap.size (by omega) (by simp [Value.ownBlock])).trans HTAIL.out.1); have hgP := Lib.hid ((hg.block (w.heap.size + 1) (by omega) (by simp [Value.ownBlock])).trans HTAIL.out.2.1); have hgR := Lib.hid ((hg.block (w.heap.size + 2) (by omega) (by simp [Value.ownBlock])).trans HTAIL.out.2.2); have HBG := Lib.hid (HBW.out.grown hg (by omega) (fun j hj => by cases hj)); have HOW := Lib.hid ho; clear ho hg hn s0 s1 sf0 sf1 r0 r1 rf0 rf1 p0 p1 p2 p3 p4 p5 p6; obtain ⟨s0, s1, sf0, sf1⟩ := sesBlock hgS.out; obtain ⟨r0, r1, rf0, rf1⟩ := sesBlock hgR.out; have p0 : w'.cell? ⟨w.heap.size + 1, 0, none⟩ = some (.int .i64 1) := (by rw [cell_of_row _ _ _ _ _ _ hgP.out]; rfl); have p1 : w'.cell? ⟨w.heap.size + 1, 1, none⟩ = some (.int .i64 a) := (by rw [cell_of_row _ _ _ _ _ _ hgP.out]; rfl); have p2 : w'.cell? ⟨w.heap.size + 1, 2, none⟩ = some (.int .i64 b) := (by rw [cell_of_row _ _ _ _ _ _ hgP.out]; rfl); have p3 : w'.cell? ⟨w.heap.size + 1, 3, none⟩ = some (.int .i64 c) := (by rw [cell_of_row _ _ _ _ _ _ hgP.out]; rfl); have p4 : w'.cell? ⟨w.heap.size + 1, 4, none⟩ = some (.int .i64 d) := (by rw [cell_of_row _ _ _ _ _ _ hgP.out]; rfl); have p5 : w'.cell? ⟨w.heap.size + 1, 5, none⟩ = some (.int .i64 e) := (by rw [cell_of_row _ _ _ _ _ _ hgP.out]; rfl); have p6 : w'.cell? ⟨w.heap.size + 1, 6, none⟩ = some (.int .i64 v) := (by rw [cell_of_row _ _ _ _ _ _ hgP.out]; rfl))
                | (refine wpList_append_own _ rfl (.tmp 69) (.tmp 71) _ rfl wr.heap.size 56 Tryz.t56 _ 7 56 rfl hI.out rfl rfl rfl rfl (by omega) (.slice ga na gc) na _ rfl (HOW.out.alloc _) ⟨w'.heap.size, 0, none⟩ 1 1 (acV (1, (a, b, c, d, e), v)) rfl rfl (newCells _ _ _) (by simp [acV, Value.oneCell']) (by simp only [maxLen]; omega) (by omega) (by simp; omega) ?_; intro v2 w2 ho hg hn; obtain ⟨gb, gd, rfl⟩ := own_shape ho; have hnb : ∀ j, (Value.slice ga na gc).ownBlock = some j → wr.heap.size ≤ j := (fun j hj => (HOW.out.lt j hj).1); have hgS2 := Lib.hid ((hg.block w.heap.size (by simp; omega) (fun e => by have := hnb _ e.symm; omega)).trans ((Below.heap_alloc _ _ _ (by omega)).trans hgS.out)); have hgR2 := Lib.hid ((hg.block (w.heap.size + 2) (by simp; omega) (fun e => by have := hnb _ e.symm; omega)).trans ((Below.heap_alloc _ _ _ (by omega)).trans hgR.out)); have HBG2 := Lib.hid ((HBG.out.alloc HBG.out.size _).grown hg (by simp; omega) (fun j hj => by have := hnb _ hj; omega)); have HOW2 := Lib.hid ho; clear ho hg hn s0 s1 sf0 sf1 r0 r1 rf0 rf1 hnb; obtain ⟨s0, s1, sf0, sf1⟩ := sesBlock hgS2.out; obtain ⟨r0, r1, rf0, rf1⟩ := sesBlock hgR2.out)))
              (try simp only [Exit.inBlock, Exit.then]); refine bodyPost_ret (by simp [results, Tryz.results17, go_sem, *]; try rfl) rfl ?_
              refine ⟨_, by rw [HE.out], fun _ => ⟨?_, ?_⟩, fun h => absurd HE.out h, ((HBG2.out.setCell (p := ⟨w.heap.size, 1, none⟩) (Nat.le_refl _) _).setCell (p := ⟨w.heap.size + 2, 0, none⟩) (by dsimp only; omega) _).setCell (p := ⟨w.heap.size + 2, 1, none⟩) (by dsimp only; omega) _⟩
              · rw [HDA.out]
                have hfin : w2.ownsRow wr.heap.size 56 7 (.slice gb (na + 1) gd) (acts ++ [(1, (a, b, c, d, e), v)]).length ((acts ++ [(1, (a, b, c, d, e), v)]).flatMap acV) := by
                  rw [List.length_append, HNA.out, List.flatMap_append]
                  simpa using HOW2.out
                exact (acts_of_own (own_off (own_off (own_off hfin (by omega) _ _) (by omega) _ _) (by omega) _ _)).wider (by omega) (Nat.le_refl _)
              · exact cap_of_own HOW2.out
set_option maxHeartbeats 2000000 in
theorem rDo2_c (vf va : Value) (fs : List Ft) (acts : List Ac) (lo flo fhi : Nat) (a b c d e v : Int) (w : World) (h : FeatsAt w flo fhi vf fs) (hh : fhi ≤ w.heap.size) (hA : ActsAt w lo w.heap.size va acts) (hlo : lo ≤ w.heap.size) (hw : wfFs fs) (hn : acts.length ≤ 100000) (hnf : fs.length ≤ 20000) :
    Calls Tryz.prog 17 #[.agg #[vf, va], .agg #[.int .i64 2, .int .i64 a, .int .i64 b, .int .i64 c, .int .i64 d, .int .i64 e, .int .i64 v]] w (RDoResS w vf va fs acts (2, (a, b, c, d, e), v)) := by
  have HA := Lib.hid hA
  obtain ⟨aa, ac, rfl, hz, hra⟩ := hA
  have HAT := Lib.hid fun W (hb : Below w.heap.size w W) => rAt_c vf aa acts.length ac fs flo fhi a b c d e W (h.move (Same.of_below (hb.mono hh))) (Nat.le_trans hh hb.size) hnf
  obtain ⟨fa, fc, vs, rfl, -, hr, ho⟩ := h
  have HSt : Hid (atF fs (a, b, c, d, e) = none → doE fs acts (2, (a, b, c, d, e), v) = 82) := fun x => doE_stale (a := (2, (a, b, c, d, e), v)) (by simp) x
  have HDE : Hid (∀ i, atF fs (a, b, c, d, e) = some i → doE fs acts (2, (a, b, c, d, e), v) = if (2 : Int) = 1 ∧ hasV (ftAt fs i).2 v = false then 8 else if 4096 ≤ acts.length then 4 else 0) := fun i x => doE_at (a := (2, (a, b, c, d, e), v)) (by simp) x
  have HAS : Hid (∀ i, atF fs (a, b, c, d, e) = some i → i < fs.length) := fun i x => (atF_some x).1
  have HR := Lib.hid hr
  have HO := Lib.hid ho
  have HRA := Lib.hid hra
  have HW := Lib.hid hw
  unfold atI at HAT
  generalize hat : atF fs (a, b, c, d, e) = at1 at *
  obtain ⟨na, hna⟩ : ∃ na, acts.length = na := ⟨_, rfl⟩
  have HNA := Lib.hid hna
  obtain ⟨nf, hnf'⟩ : ∃ nf, fs.length = nf := ⟨_, rfl⟩
  have HNF := Lib.hid hnf'
  rw [hna] at hn HAT HA ⊢
  rw [hnf'] at hnf HAT ⊢
  have HZ := Lib.hid hz
  clear hat hr ho hw hna hnf' hra hz
  cases at1 with
  | none =>
    have HE := Lib.hid (HSt.out rfl)
    go_enter Tryz.func17, Tryz.ntmps17
    go_wp2_with fail
    refine (HAT.out _ (by go_grown)).mono ?_
    rintro rr w1 ⟨rfl, hb1⟩
    have hz1 : w.heap.size + 2 < w1.heap.size := by have := hb1.size; simp at this; omega
    have hS := (hb1.block _ (by simp; omega)).trans (heap_alloc3_old _ _ _ _)
    have hR := (hb1.block _ (by simp)).trans (heap_alloc3_new _ _ _ _)
    obtain ⟨s0, s1, -, -⟩ := sesBlock hS
    obtain ⟨r0, r1, rf0, rf1⟩ := sesBlock hR
    have HB1 : Hid (Below w.heap.size w w1) := below_step (by go_grown) hb1
    clear hb1 hS hR
    go_wp2
    (try simp only [Exit.inBlock, Exit.then]); refine bodyPost_ret (by simp [results, Tryz.results17, go_sem, *]; try rfl) rfl ?_
    exact RDoResS.bad ((HB1.out.setCell (p := ⟨w.heap.size + 2, 0, none⟩) (by dsimp only; omega) _).setCell (p := ⟨w.heap.size + 2, 1, none⟩) (by dsimp only; omega) _) HE.out (by decide)
  | some i =>
    have hif := HAS.out i rfl
    have hde := HDE.out i rfl
    have hi0 : (0 : Int) ≤ (i : Int) := by omega
    have hi1 : (i : Int) < (nf : Int) := by have := HNF.out; omega
    have hi2 : (i : Int) ≤ 20000 := by omega
    obtain ⟨bf, off, hfa, hb1, hb2, hcf⟩ := HR.out (by omega)
    subst hfa
    have HDE2 : Hid (doE fs acts (2, (a, b, c, d, e), v) = if 4096 ≤ acts.length then 4 else 0) := hde.trans (if_neg (fun x => absurd x.1 (by decide)))
    clear hcf hde
    go_enter Tryz.func17, Tryz.ntmps17
    go_wp2_with fail
    refine (HAT.out _ (by go_grown)).mono ?_
    rintro rr w1 ⟨rfl, hb1⟩
    have hz1 : w.heap.size + 2 < w1.heap.size := by have := hb1.size; simp at this; omega
    have hS := (hb1.block _ (by simp; omega)).trans (heap_alloc3_old _ _ _ _)
    have hP := (hb1.block _ (by simp)).trans (heap_alloc3_mid _ _ _ _)
    have hR := (hb1.block _ (by simp)).trans (heap_alloc3_new _ _ _ _)
    have g0 : w1.cell? ⟨w.heap.size + 1, 0, none⟩ = some (.int .i64 2) := by rw [cell_of_row _ _ _ _ _ _ hP]; rfl
    have g6 : w1.cell? ⟨w.heap.size + 1, 6, none⟩ = some (.int .i64 v) := by rw [cell_of_row _ _ _ _ _ _ hP]; rfl
    have gf : w1.frozen? ⟨w.heap.size + 1, 6, none⟩ = false := frozen_of_row _ _ _ _ _ hP
    have HB1 : Hid (Below w.heap.size w w1) := below_step (by go_grown) hb1
    have HBW0 : Hid (Below w.heap.size w (w1.setCell ⟨w.heap.size + 1, 6, none⟩ (.int .i64 0))) := HB1.out.setCell (p := ⟨w.heap.size + 1, 6, none⟩) (Nat.le_succ _) _
    have HTAIL0 : Hid ((w1.setCell ⟨w.heap.size + 1, 6, none⟩ (.int .i64 0)).heap[w.heap.size]? = some (.cells #[.slice (some ⟨bf, off, none⟩) nf fc, .slice aa na ac] 52 (0, 0)) ∧ (w1.setCell ⟨w.heap.size + 1, 6, none⟩ (.int .i64 0)).heap[w.heap.size + 1]? = some (.cells #[.int .i64 2, .int .i64 a, .int .i64 b, .int .i64 c, .int .i64 d, .int .i64 e, .int .i64 0] 56 (0, 0)) ∧ (w1.setCell ⟨w.heap.size + 1, 6, none⟩ (.int .i64 0)).heap[w.heap.size + 2]? = some (.cells #[.slice none 0 0, .slice none 0 0] 52 (0, 0))) :=
      ⟨(Below.heap_setCell w1 ⟨w.heap.size + 1, 6, none⟩ _ w.heap.size (fun x => by dsimp only at x; omega)).trans hS, heap_setCell_same _ _ _ _ _ _ hP, (Below.heap_setCell w1 ⟨w.heap.size + 1, 6, none⟩ _ (w.heap.size + 2) (fun x => by dsimp only at x; omega)).trans hR⟩
    clear hb1 hS hR hP
    go_wp2_with (refine wpList_named fun W2 hW2 => ?_; have hW3 : W2 = w1.setCell ⟨w.heap.size + 1, 6, none⟩ (.int .i64 0) := (by with_reducible exact hW2); clear hW3; refine wpList_veil ?_)
    have HBW : Hid (Below w.heap.size w W2) := by rw [hW2]; exact HBW0
    have HTAIL : Hid (W2.heap[w.heap.size]? = some (.cells #[.slice (some ⟨bf, off, none⟩) nf fc, .slice aa na ac] 52 (0, 0)) ∧ W2.heap[w.heap.size + 1]? = some (.cells #[.int .i64 2, .int .i64 a, .int .i64 b, .int .i64 c, .int .i64 d, .int .i64 e, .int .i64 0] 56 (0, 0)) ∧ W2.heap[w.heap.size + 2]? = some (.cells #[.slice none 0 0, .slice none 0 0] 52 (0, 0))) := by rw [hW2]; exact HTAIL0
    clear hW2 HTAIL0 HBW0 g0 g6 gf
    refine wpList_unveil ?_
    obtain ⟨hS, hP, hR⟩ := HTAIL.out
    obtain ⟨s0, s1, sf0, sf1⟩ := sesBlock hS
    obtain ⟨r0, r1, rf0, rf1⟩ := sesBlock hR
    have p0 : W2.cell? ⟨w.heap.size + 1, 0, none⟩ = some (.int .i64 2) := by rw [cell_of_row _ _ _ _ _ _ hP]; rfl
    have p1 : W2.cell? ⟨w.heap.size + 1, 1, none⟩ = some (.int .i64 a) := by rw [cell_of_row _ _ _ _ _ _ hP]; rfl
    have p2 : W2.cell? ⟨w.heap.size + 1, 2, none⟩ = some (.int .i64 b) := by rw [cell_of_row _ _ _ _ _ _ hP]; rfl
    have p3 : W2.cell? ⟨w.heap.size + 1, 3, none⟩ = some (.int .i64 c) := by rw [cell_of_row _ _ _ _ _ _ hP]; rfl
    have p4 : W2.cell? ⟨w.heap.size + 1, 4, none⟩ = some (.int .i64 d) := by rw [cell_of_row _ _ _ _ _ _ hP]; rfl
    have p5 : W2.cell? ⟨w.heap.size + 1, 5, none⟩ = some (.int .i64 e) := by rw [cell_of_row _ _ _ _ _ _ hP]; rfl
    have p6 : W2.cell? ⟨w.heap.size + 1, 6, none⟩ = some (.int .i64 0) := by rw [cell_of_row _ _ _ _ _ _ hP]; rfl
    have hzW : w.heap.size + 2 < W2.heap.size := (Array.getElem?_eq_some_iff.1 hR).1
    clear hS hP hR
    by_cases h4 : 4096 ≤ na
    · have HE := Lib.hid (HDE2.out.trans (if_pos (by rw [HNA.out]; exact h4)))
      have h4' : (4096 : Int) ≤ na := by omega
      go_wp2
      (try simp only [Exit.inBlock, Exit.then]); refine bodyPost_ret (by simp [results, Tryz.results17, go_sem, *]; try rfl) rfl ?_
      exact RDoResS.bad ((HBW.out.setCell (p := ⟨w.heap.size + 2, 0, none⟩) (by dsimp only; omega) _).setCell (p := ⟨w.heap.size + 2, 1, none⟩) (by dsimp only; omega) _) HE.out (by decide)
    · have HE := Lib.hid (HDE2.out.trans (if_neg (by rw [HNA.out]; exact h4)))
      have h4' : (na : Int) < 4096 := by omega
      have HDA : Hid (doA fs acts (2, (a, b, c, d, e), v) = acts ++ [(2, (a, b, c, d, e), 0)]) := by
        show doA _ _ _ = _
        rw [doA, if_pos HE.out]; rfl
      have hI := Lib.hid infoRAct
      cases aa with
      | none =>
        have hac : ac = 0 := HZ.out rfl
        have hna0 : na = 0 := by
          rcases Nat.eq_zero_or_pos na with h | h
          · exact h
          · obtain ⟨_, _, h, _⟩ := HRA.out (by rw [HNA.out]; exact h)
            cases h
        subst hac
        subst hna0
        go_wp2_with (at_builtin; go_loud (first | (refine wpList_append_nil rfl _ _ rfl rfl rfl ?_) | (refine wpList_append_own _ rfl (.tmp 69) (.tmp 71) _ rfl W2.heap.size 56 Tryz.t56 _ 7 56 rfl hI.out rfl rfl rfl rfl (by omega) (.slice none 0 0) 0 [] rfl (World.ownsRow_nil _ _ _ _) ⟨W2.heap.size, 0, none⟩ 1 1 (acV (2, (a, b, c, d, e), 0)) rfl rfl (newCells _ _ _) (by simp [acV, Value.oneCell']) (by simp only [maxLen]; omega) (by omega) (by simp) ?_; intro v' w' ho hg hn; obtain ⟨ga, gc, rfl⟩ := own_shape ho; have hgS := Lib.hid ((hg.block w.heap.size (by simp; omega) (by simp [Value.ownBlock])).trans ((Below.heap_alloc _ _ _ (by omega)).trans HTAIL.out.1)); have hgR := Lib.hid ((hg.block (w.heap.size + 2) (by simp; omega) (by simp [Value.ownBlock])).trans ((Below.heap_alloc _ _ _ (by omega)).trans HTAIL.out.2.2)); have HBG := Lib.hid ((HBW.out.alloc HBW.out.size _).grown hg (by simp; omega) (fun j hj => by cases hj)); have HOW := Lib.hid ho; clear ho hg hn s0 s1 sf0 sf1 r0 r1 rf0 rf1; obtain ⟨s0, s1, sf0, sf1⟩ := sesBlock hgS.out; obtain ⟨r0, r1, rf0, rf1⟩ := sesBlock hgR.out)))
        (try simp only [Exit.inBlock, Exit.then]); refine bodyPost_ret (by simp [results, Tryz.results17, go_sem, *]; try rfl) rfl ?_
        refine ⟨_, by rw [HE.out], fun _ => ⟨?_, ?_⟩, fun h => absurd HE.out h, ((HBG.out.setCell (p := ⟨w.heap.size, 1, none⟩) (Nat.le_refl _) _).setCell (p := ⟨w.heap.size + 2, 0, none⟩) (by dsimp only; omega) _).setCell (p := ⟨w.heap.size + 2, 1, none⟩) (by dsimp only; omega) _⟩
        · rw [HDA.out, List.eq_nil_of_length_eq_zero HNA.out]
          exact (acts_of_own (own_off (own_off (own_off HOW.out (by omega) _ _) (by omega) _ _) (by omega) _ _)).wider (by omega) (Nat.le_refl _)
        · exact cap_of_own HOW.out
      | some ad =>
        have hac : Hid (∀ (W : World), Below w.heap.size w W → ∀ j u, (acts.flatMap acV)[j]? = some u → W.cell? (ad.add j) = some u) := by
          intro W hb j u hu
          have hx : w.cell? (ad.add j) = some u := by
            have hpos : 0 < acts.length := by
              cases acts with
              | nil => simp at hu
              | cons o r => simp
            obtain ⟨b, off, hb, _, _, h3⟩ := HRA.out hpos
            injection hb with hb
            subst hb
            exact flat_cells acV_len (by decide) h3 j u hu
          exact (hb.cell (World.block_lt_of_cell? w _ hx)).trans hx
        have hf := flatMap_len acV 7 acV_len acts
        rw [HNA.out] at hf
        have h1 := Lib.hid (acV_one acts)
        go_wp2_with (at_builtin; go_loud (first
          | (refine wpList_append_own _ rfl (.tmp 65) (.tmp 67) _ rfl W2.heap.size 56 Tryz.t56 _ 7 56 rfl hI.out rfl rfl rfl rfl (by omega) (.slice none 0 0) 0 [] rfl (World.ownsRow_nil _ _ _ _) ad na ac (acts.flatMap acV) rfl hf (hac.out _ HBW.out) h1.out (by simp only [maxLen]; omega) (by omega) (by simp) ?_; intro v' w' ho hg hn; rw [Nat.zero_add, List.nil_append] at ho; obtain ⟨ga, gc, rfl⟩ := own_shape ho; have hlt := hg.size; have hgS := Lib.hid ((hg.block w.heap.size (by omega) (by simp [Value.ownBlock])).trans HTAIL.out.1); have hgP := Lib.hid ((hg.block (w.heap.size + 1) (by omega) (by simp [Value.ownBlock])).trans HTAIL.out.2.1); have hgR := Lib.hid ((hg.block (w.heap.size + 2) (by omega) (by simp [Value.ownBlock])).trans HTAIL.out.2.2); have HBG := Lib.hid (HBW.out.grown hg (by omega) (fun j hj => by cases hj)); have HOW := Lib.hid ho; clear ho hg hn s0 s1 sf0 sf1 r0 r1 rf0 rf1 p0 p1 p2 p3 p4 p5 p6; obtain ⟨s0, s1, sf0, sf1⟩ := sesBlock hgS.out; obtain ⟨r0, r1, rf0, rf1⟩ := sesBlock hgR.out; have p0 : w'.cell? ⟨w.heap.size + 1, 0, none⟩ = some (.int .i64 2) := (by rw [cell_of_row _ _ _ _ _ _ hgP.out]; rfl); have p1 : w'.cell? ⟨w.heap.size + 1, 1, none⟩ = some (.int .i64 a) := (by rw [cell_of_row _ _ _ _ _ _ hgP.out]; rfl); have p2 : w'.cell? ⟨w.heap.size + 1, 2, none⟩ = some (.int .i64 b) := (by rw [cell_of_row _ _ _ _ _ _ hgP.out]; rfl); have p3 : w'.cell? ⟨w.heap.size + 1, 3, none⟩ = some (.int .i64 c) := (by rw [cell_of_row _ _ _ _ _ _ hgP.out]; rfl); have p4 : w'.cell? ⟨w.heap.size + 1, 4, none⟩ = some (.int .i64 d) := (by rw [cell_of_row _ _ _ _ _ _ hgP.out]; rfl); have p5 : w'.cell? ⟨w.heap.size + 1, 5, none⟩ = some (.int .i64 e) := (by rw [cell_of_row _ _ _ _ _ _ hgP.out]; rfl); have p6 : w'.cell? ⟨w.heap.size + 1, 6, none⟩ = some (.int .i64 0) := (by rw [cell_of_row _ _ _ _ _ _ hgP.out]; rfl))
          | (refine wpList_append_own _ rfl (.tmp 69) (.tmp 71) _ rfl W2.heap.size 56 Tryz.t56 _ 7 56 rfl hI.out rfl rfl rfl rfl (by omega) (.slice ga na gc) na _ rfl (HOW.out.alloc _) ⟨w'.heap.size, 0, none⟩ 1 1 (acV (2, (a, b, c, d, e), 0)) rfl rfl (newCells _ _ _) (by simp [acV, Value.oneCell']) (by simp only [maxLen]; omega) (by omega) (by simp; omega) ?_; intro v2 w2 ho hg hn; obtain ⟨gb, gd, rfl⟩ := own_shape ho; have hnb : ∀ j, (Value.slice ga na gc).ownBlock = some j → W2.heap.size ≤ j := (fun j hj => (HOW.out.lt j hj).1); have hgS2 := Lib.hid ((hg.block w.heap.size (by simp; omega) (fun e => by have := hnb _ e.symm; omega)).trans ((Below.heap_alloc _ _ _ (by omega)).trans hgS.out)); have hgR2 := Lib.hid ((hg.block (w.heap.size + 2) (by simp; omega) (fun e => by have := hnb _ e.symm; omega)).trans ((Below.heap_alloc _ _ _ (by omega)).trans hgR.out)); have HBG2 := Lib.hid ((HBG.out.alloc HBG.out.size _).grown hg (by simp; omega) (fun j hj => by have := hnb _ hj; omega)); have HOW2 := Lib.hid ho; clear ho hg hn s0 s1 sf0 sf1 r0 r1 rf0 rf1 hnb; obtain ⟨s0, s1, sf0, sf1⟩ := sesBlock hgS2.out; obtain ⟨r0, r1, rf0, rf1⟩ := sesBlock hgR2.out)))
        (try simp only [Exit.inBlock, Exit.then]); refine bodyPost_ret (by simp [results, Tryz.results17, go_sem, *]; try rfl) rfl ?_
        refine ⟨_, by rw [HE.out], fun _ => ⟨?_, ?_⟩, fun h => absurd HE.out h, ((HBG2.out.setCell (p := ⟨w.heap.size, 1, none⟩) (Nat.le_refl _) _).setCell (p := ⟨w.heap.size + 2, 0, none⟩) (by dsimp only; omega) _).setCell (p := ⟨w.heap.size + 2, 1, none⟩) (by dsimp only; omega) _⟩
        · rw [HDA.out]
          have hfin : w2.ownsRow W2.heap.size 56 7 (.slice gb (na + 1) gd) (acts ++ [(2, (a, b, c, d, e), 0)]).length ((acts ++ [(2, (a, b, c, d, e), 0)]).flatMap acV) := by
            rw [List.length_append, HNA.out, List.flatMap_append]
            simpa using HOW2.out
          exact (acts_of_own (own_off (own_off (own_off hfin (by omega) _ _) (by omega) _ _) (by omega) _ _)).wider (by omega) (Nat.le_refl _)
        · exact cap_of_own HOW2.out
theorem rDoS_c (vf va : Value) (fs : List Ft) (acts : List Ac) (lo flo fhi : Nat) (k a b c d e v : Int) (w : World) (h : FeatsAt w flo fhi vf fs) (hh : fhi ≤ w.heap.size) (hA : ActsAt w lo w.heap.size va acts) (hlo : lo ≤ w.heap.size) (hw : wfFs fs) (hn : acts.length ≤ 100000) (hnf : fs.length ≤ 20000) :
    Calls Tryz.prog 17 #[.agg #[vf, va], .agg #[.int .i64 k, .int .i64 a, .int .i64 b, .int .i64 c, .int .i64 d, .int .i64 e, .int .i64 v]] w (RDoResS w vf va fs acts (k, (a, b, c, d, e), v)) := by
  by_cases h1 : k = 1
  · subst h1
    exact rDo1_c vf va fs acts lo flo fhi a b c d e v w h hh hA hlo hw hn hnf
  · by_cases h2 : k = 2
    · subst h2
      exact rDo2_c vf va fs acts lo flo fhi a b c d e v w h hh hA hlo hw hn hnf
    · exact rDo0_c vf va fs acts lo flo fhi k a b c d e v w h hA h1 h2
theorem rDo_c (vf va : Value) (fs : List Ft) (acts : List Ac) (lo flo fhi : Nat) (k a b c d e v : Int) (w : World) (h : FeatsAt w flo fhi vf fs) (hh : fhi ≤ w.heap.size) (hA : ActsAt w lo w.heap.size va acts) (hlo : lo ≤ w.heap.size) (hw : wfFs fs) (hn : acts.length ≤ 100000) (hnf : fs.length ≤ 20000) :
    Calls Tryz.prog 17 #[.agg #[vf, va], .agg #[.int .i64 k, .int .i64 a, .int .i64 b, .int .i64 c, .int .i64 d, .int .i64 e, .int .i64 v]] w (RDoRes w vf va fs acts (k, (a, b, c, d, e), v)) :=
  (rDoS_c vf va fs acts lo flo fhi k a b c d e v w h hh hA hlo hw hn hnf).mono fun _ _ h => h.weak
end Go.Proofs.YtpcefaccoifejaaGreatDoor
