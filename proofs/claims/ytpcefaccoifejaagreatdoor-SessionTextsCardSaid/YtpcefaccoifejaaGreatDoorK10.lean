/-
  Contracts of the methods mayCorrect, mayConfirm and Do of a session. Conditions: the session lies in memory as K8 says; numbers are of their type; lists are not too long.
-/
import Derived.Test.YtpcefaccoifejaaGreatDoorK9
import Derived.Laws.EntriesVeiled
namespace Go.Proofs.YtpcefaccoifejaaGreatDoor
open Go.RowKit Go.Maps
set_option linter.unusedSimpArgs false
set_option linter.unusedVariables false
set_option maxRecDepth 100000

theorem SesAt.below {w w' : World} {lo p m flo fhi : Nat} {va vf : Value} {fs : List Ft} {acts : List Ac} (h : SesAt w lo p m flo fhi va vf fs acts) (hb : Below w.heap.size w w') : SesAt w' lo p m flo fhi va vf fs acts :=
  ⟨(hb.block p (Array.getElem?_eq_some_iff.1 h.cells).1).trans h.cells, own_below h.acts hb, h.feats.move (Same.of_below (hb.mono h.hf)), h.map.below hb, h.pf, h.mf, h.af, h.lp, h.lm, h.lf, Nat.le_trans h.hf hb.size⟩
theorem SesAt.p_ne {w : World} {lo p m flo fhi : Nat} {va vf : Value} {fs : List Ft} {acts : List Ac} (h : SesAt w lo p m flo fhi va vf fs acts) : some p ≠ va.ownBlock ∧ m ≠ p ∧ some m ≠ va.ownBlock := by
  obtain ⟨es, c, hm⟩ := h.map.obj
  refine ⟨fun x => ?_, fun x => ?_, fun x => ?_⟩
  · rcases h.acts.2 with ⟨h1, _⟩ | ⟨g, cap, cur, h1, -, hg, -⟩
    · rw [h1] at x; cases x
    · rw [h1] at x
      simp only [Value.ownBlock, Option.some.injEq] at x
      subst x
      rw [h.cells] at hg
      injection hg with hg
      injection hg with _ h2
      exact absurd h2 (by decide)
  · subst x
    rw [h.cells] at hm
    cases hm
  · rcases h.acts.2 with ⟨h1, _⟩ | ⟨g, cap, cur, h1, -, hg, -⟩
    · rw [h1] at x; cases x
    · rw [h1] at x
      simp only [Value.ownBlock, Option.some.injEq] at x
      subst x
      rw [hm] at hg
      cases hg
/-- the session behind a turn of its struct and of its log -/
theorem SesAt.turned {w w' : World} {lo p m flo fhi : Nat} {va va' vf : Value} {fs : List Ft} {acts acts' : List Ac} (h : SesAt w lo p m flo fhi va vf fs acts) (ht : Turn w w' p va va')
    (hc : w'.heap[p]? = some (.cells #[va', vf, .map (some m)] 77 (0, 0))) (ho : w'.ownsRow lo 60 7 va' acts'.length (acts'.flatMap acV)) : SesAt w' lo p m flo fhi va' vf fs acts' := by
  obtain ⟨n1, n2, n3⟩ := h.p_ne
  refine ⟨hc, ho, h.feats.move (fun b h1 h2 => ht.block b (by have := h.hf; omega) (fun e => h.pf (e ▸ ⟨h1, h2⟩)) (fun e => h.af b e.symm ⟨h1, h2⟩)), h.map.move (ht.block m h.map.lt n2 n3), h.pf, h.mf, fun g hg => ?_, h.lp, h.lm, h.lf, Nat.le_trans h.hf ht.size⟩
  rcases ht.new g hg with h1 | h1
  · exact h.af g h1
  · have := h.hf
    omega
theorem mayConfirm_c (p : Nat) (a b c d e v : Int) (x : Option Addr) (n cap : Nat) (w : World) :
    Calls Tryz.prog 42 #[.pointer (some ⟨p, 0, none⟩), .agg #[.int .i64 a, .int .i64 b, .int .i64 c, .int .i64 d, .int .i64 e, .slice x n cap], .int .i64 v] w fun r w' => r = .returned (.int .i64 0) ∧ Below w.heap.size w w' := by
  go_enter Tryz.func42, Tryz.ntmps42
  go_wp2
  go_ret
  exact ⟨rfl, by go_grown⟩
/-- is there an option of this value -/
def hasV (os : List Opt) (v : Int) : Bool := os.any fun o => decide (o.1 = v)
def mayE (os : List Opt) (v : Int) : Int := if hasV os v = true then 0 else 8
theorem mayCorrect_c (p : Nat) (a b c d e v : Int) (vo : Value) (os : List Opt) (lo hi : Nat) (w : World) (h : OptsAt w lo hi vo os) (hh : hi ≤ w.heap.size) (hl : os.length ≤ 1000000) :
    Calls Tryz.prog 41 #[.pointer (some ⟨p, 0, none⟩), .agg #[.int .i64 a, .int .i64 b, .int .i64 c, .int .i64 d, .int .i64 e, vo], .int .i64 v] w fun r w' => r = .returned (.int .i64 (mayE os v)) ∧ Below w.heap.size w w' := by
  have HC := Lib.hid fun W (hb : Below w.heap.size w W) (hB : W.cell? ⟨w.heap.size + 1, 0, none⟩ = some (.int .i64 v)) (hBs : w.heap.size + 1 < W.heap.size) => ContainsMay_c v (w.heap.size + 1) vo os lo hi W (h.move (Same.of_below (hb.mono hh))) (Nat.le_trans hh hb.size) hl hB hBs
  obtain ⟨av, cap, rfl, -, -⟩ := h
  have HM : Hid (mayE os v = if hasV os v = true then 0 else 8) := rfl
  change Hid (∀ W, _ → _ → _ → Calls _ _ _ _ fun e w' => e = .returned (.bool (hasV os v)) ∧ _) at HC
  generalize hasV os v = r at *
  generalize mayE os v = x at *
  generalize os.length = n at *
  clear hl
  go_enter Tryz.func41, Tryz.ntmps41
  go_wp2_with fail
  refine (HC.out _ (by go_grown) (by go_simp) (by simp)).mono ?_
  rintro e w3 ⟨rfl, hb3⟩
  have hB3 : Below w.heap.size w w3 := below_step (by go_grown) hb3
  have hx := HM.out
  clear hb3 HM
  cases r
  · rw [if_neg Bool.false_ne_true] at hx
    subst hx
    go_wp2
    go_ret
    exact ⟨rfl, hB3⟩
  · rw [if_pos rfl] at hx
    subst hx
    go_wp2
    go_ret
    exact ⟨rfl, hB3⟩
theorem doE_kind {fs : List Ft} {acts : List Ac} {a : Ac} (h : a.1 ≠ 1 ∧ a.1 ≠ 2) : doE fs acts a = 1 := if_pos h
theorem doE_stale {fs : List Ft} {acts : List Ac} {a : Ac} (h : ¬ (a.1 ≠ 1 ∧ a.1 ≠ 2)) (ha : atF fs a.2.1 = none) : doE fs acts a = 82 := by
  unfold doE; rw [if_neg h, ha]
theorem all_has (os : List Opt) (v : Int) : (os.all fun o => decide (o.1 ≠ v)) = !hasV os v := by
  unfold hasV
  rw [List.not_any_eq_all_not]
  congr 1
  funext o
  by_cases h : o.1 = v <;> simp [h]
theorem doE_at {fs : List Ft} {acts : List Ac} {a : Ac} {i : Nat} (h : ¬ (a.1 ≠ 1 ∧ a.1 ≠ 2)) (ha : atF fs a.2.1 = some i) : doE fs acts a = if a.1 = 1 ∧ hasV (ftAt fs i).2 a.2.2 = false then 8 else if 4096 ≤ acts.length then 4 else 0 := by
  unfold doE
  rw [if_neg h, ha]
  simp only
  rw [all_has]
  unfold ftAt
  congr 1
  simp
def DoRes (w : World) (lo p m flo fhi : Nat) (va vf : Value) (fs : List Ft) (acts : List Ac) (a : Ac) (e : Ending) (w' : World) : Prop :=
  e = .returned (.int .i64 (doE fs acts a)) ∧ ∃ va', SesAt w' lo p m flo fhi va' vf fs (doA fs acts a) ∧ Turn w w' p va va'
theorem DoRes.bad {w w' : World} {lo p m flo fhi : Nat} {va vf : Value} {fs : List Ft} {acts : List Ac} {a : Ac} {x : Int} (h : SesAt w lo p m flo fhi va vf fs acts) (hb : Below w.heap.size w w') (hx : doE fs acts a = x) (h0 : x ≠ 0) : DoRes w lo p m flo fhi va vf fs acts a (.returned (.int .i64 x)) w' := by
  refine ⟨by rw [hx], va, ?_, Turn.of_below hb p va⟩
  rw [show doA fs acts a = acts from if_neg (by rw [hx]; exact h0)]
  exact h.below hb

set_option maxHeartbeats 2000000 in
theorem Do1_c (lo p m flo fhi : Nat) (va vf : Value) (fs : List Ft) (acts : List Ac) (a b c d e v : Int) (w : World) (h : SesAt w lo p m flo fhi va vf fs acts) (hlo : lo ≤ w.heap.size) (hw : wfFs fs) (hwp : wfP (a, b, c, d, e)) (hn : acts.length ≤ 100000) (hnf : fs.length ≤ 20000) :
    Calls Tryz.prog 15 #[.pointer (some ⟨p, 0, none⟩), .agg #[.int .i64 1, .int .i64 a, .int .i64 b, .int .i64 c, .int .i64 d, .int .i64 e, .int .i64 v]] w (DoRes w lo p m flo fhi va vf fs acts (1, (a, b, c, d, e), v)) := by
  have HS := Lib.hid h
  have HN := Lib.hid fun W (hb : Below w.heap.size w W) => none_c lo p m flo fhi va vf fs acts W (h.below hb)
  obtain ⟨pa, pc, hva⟩ := own_shape h.acts
  obtain ⟨fa, fc, vs, hvf, -, hrow, hopt⟩ := h.feats
  subst hva
  subst hvf
  have hp : p < w.heap.size := (Array.getElem?_eq_some_iff.1 h.cells).1
  have c0 : w.cell? ⟨p, 0, none⟩ = some (.slice pa acts.length pc) := by rw [cell_of_row _ _ _ _ _ _ h.cells]; rfl
  have c1 : w.cell? ⟨p, 1, none⟩ = some (.slice fa fs.length fc) := by rw [cell_of_row _ _ _ _ _ _ h.cells]; rfl
  have c2 : w.cell? ⟨p, 2, none⟩ = some (.map (some m)) := by rw [cell_of_row _ _ _ _ _ _ h.cells]; rfl
  have hlk : ∀ q, (Instr.lookup 75 (.map (some m)) (.agg #[.int .i64 a, .int .i64 b, .int .i64 c, .int .i64 d, .int .i64 e]) true).run Tryz.prog ((w.alloc (.cells #[.int .i64 1, .int .i64 a, .int .i64 b, .int .i64 c, .int .i64 d, .int .i64 e, .int .i64 v] 60)).drewN q) = .ok (.tuple #[.int .i64 (((atF fs (a, b, c, d, e)).getD 0 : Nat) : Int), .bool (atF fs (a, b, c, d, e)).isSome]) ((w.alloc (.cells #[.int .i64 1, .int .i64 a, .int .i64 b, .int .i64 c, .int .i64 d, .int .i64 e, .int .i64 v] 60)).drewN q) :=
    fun q => IdxMap.look_ok (w := (w.alloc _).drewN q) (p := (a, b, c, d, e)) (h.map.below (below_drewN ((Below.refl w.heap.size w).alloc (Nat.le_refl _) _) q)) hwp
  have HSt : Hid (atF fs (a, b, c, d, e) = none → doE fs acts (1, (a, b, c, d, e), v) = 82) := fun x => doE_stale (a := (1, (a, b, c, d, e), v)) (by simp) x
  have HAt : Hid (∀ i, atF fs (a, b, c, d, e) = some i → doE fs acts (1, (a, b, c, d, e), v) = if (1 : Int) = 1 ∧ hasV (ftAt fs i).2 v = false then 8 else if 4096 ≤ acts.length then 4 else 0) := fun i x => doE_at (a := (1, (a, b, c, d, e), v)) (by simp) x
  have HAS : Hid (∀ i, atF fs (a, b, c, d, e) = some i → i < fs.length) := fun i x => (atF_some x).1
  have HROW := Lib.hid hrow
  have HOPT := Lib.hid hopt
  have HW := Lib.hid hw
  obtain ⟨nf, hnf'⟩ : ∃ nf, fs.length = nf := ⟨_, rfl⟩
  have HNF := Lib.hid hnf'
  rw [hnf'] at hnf c1
  obtain ⟨na, hna'⟩ : ∃ na, acts.length = na := ⟨_, rfl⟩
  have HNA := Lib.hid hna'
  rw [hna'] at hn c0
  clear h hrow hopt hw hna' hnf'
  generalize hat : atF fs (a, b, c, d, e) = at1 at *
  have HATE := Lib.hid hat
  clear hat
  cases at1 with
  | none =>
    simp only [Option.getD_none, Option.isSome_none] at hlk
    go_enter Tryz.func15, Tryz.ntmps15
    go_wp2_with fail
    refine (HN.out _ (by go_grown)).mono ?_
    rintro e w3 ⟨rfl, rfl⟩
    go_wp2_with fail
    go_quiet (fail)
    go_wp2
    go_ret
    exact DoRes.bad HS.out (below_drewN (by go_grown) _) (HSt.out (by first | rfl | trivial)) (by decide)
  | some i =>
    simp only [Option.getD_some, Option.isSome_some] at hlk
    have hi := HAS.out i rfl
    have hE := HAt.out i rfl
    have hif : i < fs.length := hi
    rw [HNF.out] at hi
    have hi0 : (0 : Int) ≤ (i : Int) := by omega
    have hi1 : (i : Int) < (nf : Int) := by omega
    obtain ⟨bf, off, hfa, hb1, hb2, hcf⟩ := HROW.out (by rw [HNF.out]; omega)
    subst hfa
    have hcf' : ∀ j u, (ftV (ftAt fs i).1 (vs i))[j]? = some u → w.cell? ⟨bf, off + i * 6 + j, none⟩ = some u := fun j u hu => hcf i hif j u hu
    have hop := HOPT.out i hif
    have hwo := (HW.out _ (ftAt_mem hif)).2.2
    have hhf := HS.out.hf
    clear hcf
    generalize ftAt fs i = f at *
    obtain ⟨⟨q1, q2, q3, q4, q5⟩, os⟩ := f
    simp only at hop hwo hE
    have HM := Lib.hid fun W (hb : Below w.heap.size w W) => mayCorrect_c p q1 q2 q3 q4 q5 v (vs i) os flo fhi W (hop.move (Same.of_below (hb.mono hhf))) (Nat.le_trans hhf hb.size) hwo
    obtain ⟨oa, oc, hvo, -, -⟩ := hop
    rw [hvo] at hcf' HM
    clear hvo
    have f0 := hcf' 0 _ rfl
    have f1 := hcf' 1 _ rfl
    have f2 := hcf' 2 _ rfl
    have f3 := hcf' 3 _ rfl
    have f4 := hcf' 4 _ rfl
    have f5 := hcf' 5 _ rfl
    simp only [Nat.add_zero] at f0
    have hbf : bf < w.heap.size := by omega
    have hX : ∃ x : Int, mayE os v = x ∧ ((x = 8 ∧ doE fs acts (1, (a, b, c, d, e), v) = 8) ∨ (x = 0 ∧ doE fs acts (1, (a, b, c, d, e), v) = if 4096 ≤ na then 4 else 0)) := by
      refine ⟨_, rfl, ?_⟩
      unfold mayE
      cases hh : hasV os v
      · refine .inl ⟨rfl, ?_⟩
        rw [hE, if_pos (by simp [hh])]
      · refine .inr ⟨rfl, ?_⟩
        rw [hE, if_neg (by simp [hh]), HNA.out]
    obtain ⟨x, hmx, hX⟩ := hX
    rw [hmx] at HM
    have HX := Lib.hid hX
    clear hcf' hE hwo hX hmx
    go_enter Tryz.func15, Tryz.ntmps15
    go_wp2_with fail
    refine (HN.out _ (by go_grown)).mono ?_
    rintro e w3 ⟨rfl, rfl⟩
    go_wp2_with fail
    go_quiet (fail)
    go_wp2_with fail
    refine wp_named fun W hW => ?_
    have a0 : W.cell? ⟨w.heap.size, 0, none⟩ = some (.int .i64 1) := by rw [hW]; go_simp
    have a1 : W.cell? ⟨w.heap.size, 1, none⟩ = some (.int .i64 a) := by rw [hW]; go_simp
    have a2 : W.cell? ⟨w.heap.size, 2, none⟩ = some (.int .i64 b) := by rw [hW]; go_simp
    have a3 : W.cell? ⟨w.heap.size, 3, none⟩ = some (.int .i64 c) := by rw [hW]; go_simp
    have a4 : W.cell? ⟨w.heap.size, 4, none⟩ = some (.int .i64 d) := by rw [hW]; go_simp
    have a5 : W.cell? ⟨w.heap.size, 5, none⟩ = some (.int .i64 e) := by rw [hW]; go_simp
    have a6 : W.cell? ⟨w.heap.size, 6, none⟩ = some (.int .i64 v) := by rw [hW]; go_simp
    have z6 : W.frozen? ⟨w.heap.size, 6, none⟩ = false := by rw [hW]; go_simp
    have g1 : W.cell? ⟨w.heap.size + 1, 1, none⟩ = some (.func (.func 41) #[.pointer (some ⟨p, 0, none⟩)] #[]) := by rw [hW]; go_simp
    have hB : Below w.heap.size w W := by
      rw [hW]
      go_grown
      exact below_drewN (by go_grown) _
    have hs2 : w.heap.size + 1 < W.heap.size := by rw [hW]; simp
    clear hW
    have s0 : W.cell? ⟨p, 0, none⟩ = some (.slice pa na pc) := (hB.cell (p := ⟨p, 0, none⟩) hp).trans c0
    have s1 : W.cell? ⟨p, 1, none⟩ = some (.slice (some ⟨bf, off, none⟩) nf fc) := (hB.cell (p := ⟨p, 1, none⟩) hp).trans c1
    have t0 : W.cell? ⟨bf, off + i * 6, none⟩ = some (.int .i64 q1) := (hB.cell (p := ⟨bf, _, none⟩) hbf).trans f0
    have t1 : W.cell? ⟨bf, off + i * 6 + 1, none⟩ = some (.int .i64 q2) := (hB.cell (p := ⟨bf, _, none⟩) hbf).trans f1
    have t2 : W.cell? ⟨bf, off + i * 6 + 2, none⟩ = some (.int .i64 q3) := (hB.cell (p := ⟨bf, _, none⟩) hbf).trans f2
    have t3 : W.cell? ⟨bf, off + i * 6 + 3, none⟩ = some (.int .i64 q4) := (hB.cell (p := ⟨bf, _, none⟩) hbf).trans f3
    have t4 : W.cell? ⟨bf, off + i * 6 + 4, none⟩ = some (.int .i64 q5) := (hB.cell (p := ⟨bf, _, none⟩) hbf).trans f4
    have t5 : W.cell? ⟨bf, off + i * 6 + 5, none⟩ = some (.slice oa os.length oc) := (hB.cell (p := ⟨bf, _, none⟩) hbf).trans f5
    have y0 : w.heap.size < W.heap.size := by omega
    have y1 : p < W.heap.size := by omega
    have y2 : bf < W.heap.size := by omega
    have HB := Lib.hid hB
    clear c0 c1 c2 f0 f1 f2 f3 f4 f5 hlk hB
    go_region_held3 (fun w' => Sk W w') (first | assumption | exact Sk_drew _ | with_reducible exact Sk_call (by assumption) (by assumption))
      ((go_at_call 41; refine (HM.out _ (HB.out.trans ((by assumption : Sk W _).2.mono HB.out.size)) ).mono ?_; rintro rr w4 ⟨rfl, hb4⟩))
    have hSk := (by assumption : Sk W w4)
    have hB4 : Below w.heap.size w w4 := HB.out.trans (hSk.2.mono HB.out.size)
    have HB4 := Lib.hid hB4
    have b0 : w4.cell? ⟨w.heap.size, 0, none⟩ = some (.int .i64 1) := (hSk.1 _ _ y0).trans a0
    have b1 : w4.cell? ⟨w.heap.size, 1, none⟩ = some (.int .i64 a) := (hSk.1 _ _ y0).trans a1
    have b2 : w4.cell? ⟨w.heap.size, 2, none⟩ = some (.int .i64 b) := (hSk.1 _ _ y0).trans a2
    have b3 : w4.cell? ⟨w.heap.size, 3, none⟩ = some (.int .i64 c) := (hSk.1 _ _ y0).trans a3
    have b4 : w4.cell? ⟨w.heap.size, 4, none⟩ = some (.int .i64 d) := (hSk.1 _ _ y0).trans a4
    have b5 : w4.cell? ⟨w.heap.size, 5, none⟩ = some (.int .i64 e) := (hSk.1 _ _ y0).trans a5
    have b6 : w4.cell? ⟨w.heap.size, 6, none⟩ = some (.int .i64 v) := (hSk.1 _ _ y0).trans a6
    have z64 : w4.frozen? ⟨w.heap.size, 6, none⟩ = false := (hSk.2.frozen (p := ⟨w.heap.size, 6, none⟩) y0).trans z6
    have r0 : w4.cell? ⟨p, 0, none⟩ = some (.slice pa na pc) := (hSk.1 _ _ y1).trans s0
    have hs4 : W.heap.size ≤ w4.heap.size := hSk.2.size
    have HBB := Lib.hid (And.intro b0 (And.intro b1 (And.intro b2 (And.intro b3 (And.intro b4 (And.intro b5 b6))))))
    clear hSk hB4 z6 g1 s1 t0 t1 t2 t3 t4 t5 b0 b1 b2 b3 b4 b5 b6 r0
    rcases HX.out with ⟨rfl, hd⟩ | ⟨rfl, hd⟩
    · have HD := Lib.hid hd
      clear hd
      go_wp2
      go_ret
      exact DoRes.bad HS.out HB4.out HD.out (by decide)
    · by_cases h4 : 4096 ≤ na
      · rw [if_pos h4] at hd
        have HD := Lib.hid hd
        have h4' : (4096 : Int) ≤ na := by omega
        clear hd h4
        go_wp2
        go_ret
        exact DoRes.bad HS.out HB4.out HD.out (by decide)
      · rw [if_neg h4] at hd
        have HD := Lib.hid hd
        have h4' : (na : Int) < 4096 := by omega
        clear hd h4
        go_wp2_with fail
        refine wp_named fun W5 hW5 => ?_
        have b0 : W5.cell? ⟨w.heap.size, 0, none⟩ = some (.int .i64 1) := by rw [hW5]; go_simp
        have b1 : W5.cell? ⟨w.heap.size, 1, none⟩ = some (.int .i64 a) := by rw [hW5]; go_simp
        have b2 : W5.cell? ⟨w.heap.size, 2, none⟩ = some (.int .i64 b) := by rw [hW5]; go_simp
        have b3 : W5.cell? ⟨w.heap.size, 3, none⟩ = some (.int .i64 c) := by rw [hW5]; go_simp
        have b4 : W5.cell? ⟨w.heap.size, 4, none⟩ = some (.int .i64 d) := by rw [hW5]; go_simp
        have b5 : W5.cell? ⟨w.heap.size, 5, none⟩ = some (.int .i64 e) := by rw [hW5]; go_simp
        have b6 : W5.cell? ⟨w.heap.size, 6, none⟩ = some (.int .i64 v) := by rw [hW5]; go_simp
        have hB5 : Below w.heap.size w W5 := by rw [hW5]; exact HB4.out
        have HB5 := Lib.hid hB5
        clear hW5 hB5 a0 a1 a2 a3 a4 a5 a6 s0 z64
        have hS5 := HS.out.below HB5.out
        have HP := Lib.hid hS5.p_ne
        have HADD := Lib.hid (add_c lo p na (.slice pa acts.length pc) _ (.map (some m)) (acts.flatMap acV) 1 a b c d e v W5.drew hS5.cells (by rw [← HNA.out]; exact hS5.acts) (by omega) (Nat.le_trans hlo HB5.out.size))
        have HS5 := Lib.hid hS5
        clear hS5
        have HK : Hid (∀ w' : World, w'.heap[w.heap.size]? = W5.heap[w.heap.size]? → (w'.cell? ⟨w.heap.size, 0, none⟩ = some (.int .i64 1) ∧ w'.cell? ⟨w.heap.size, 1, none⟩ = some (.int .i64 a) ∧ w'.cell? ⟨w.heap.size, 2, none⟩ = some (.int .i64 b) ∧ w'.cell? ⟨w.heap.size, 3, none⟩ = some (.int .i64 c) ∧ w'.cell? ⟨w.heap.size, 4, none⟩ = some (.int .i64 d) ∧ w'.cell? ⟨w.heap.size, 5, none⟩ = some (.int .i64 e) ∧ w'.cell? ⟨w.heap.size, 6, none⟩ = some (.int .i64 v))) :=
          fun w' hx => ⟨(World.cell?_of_block (a := ⟨w.heap.size, 0, none⟩) hx).trans b0, (World.cell?_of_block (a := ⟨w.heap.size, 1, none⟩) hx).trans b1, (World.cell?_of_block (a := ⟨w.heap.size, 2, none⟩) hx).trans b2, (World.cell?_of_block (a := ⟨w.heap.size, 3, none⟩) hx).trans b3, (World.cell?_of_block (a := ⟨w.heap.size, 4, none⟩) hx).trans b4, (World.cell?_of_block (a := ⟨w.heap.size, 5, none⟩) hx).trans b5, (World.cell?_of_block (a := ⟨w.heap.size, 6, none⟩) hx).trans b6⟩
        have hdrew : W5.drew.heap[w.heap.size]? = W5.heap[w.heap.size]? := rfl
        have hlt5 : w.heap.size < W5.heap.size := by
          have := World.block_lt_of_cell? W5 _ b0
          exact this
        have HO : Hid (some w.heap.size ≠ (Value.slice pa acts.length pc).ownBlock) := fun x => by
          have := (HS.out.acts.lt _ x.symm).2
          omega
        clear b0 b1 b2 b3 b4 b5 b6
        go_region_held3 (fun w' => w'.cell? ⟨w.heap.size, 0, none⟩ = some (.int .i64 1) ∧ w'.cell? ⟨w.heap.size, 1, none⟩ = some (.int .i64 a) ∧ w'.cell? ⟨w.heap.size, 2, none⟩ = some (.int .i64 b) ∧ w'.cell? ⟨w.heap.size, 3, none⟩ = some (.int .i64 c) ∧ w'.cell? ⟨w.heap.size, 4, none⟩ = some (.int .i64 d) ∧ w'.cell? ⟨w.heap.size, 5, none⟩ = some (.int .i64 e) ∧ w'.cell? ⟨w.heap.size, 6, none⟩ = some (.int .i64 v))
          ((refine HK.out _ ?_; with_reducible (first | assumption | exact hdrew)))
          ((go_at_call 43; refine HADD.out.mono ?_; rintro rr w6 ⟨rfl, va', hc6, ho6, ht6⟩; have hk6 : w6.heap[w.heap.size]? = W5.heap[w.heap.size]? := ht6.block _ hlt5 (by omega) HO.out))
        have hE := HD.out
        have hSf : SesAt w6 lo p m flo fhi va' _ fs (acts ++ [kept (1, (a, b, c, d, e), v)]) := SesAt.turned (w := W5.drew) (HS5.out.below (w := W5) (Below.refl _ W5).drew) ht6 hc6 (by
          rw [List.length_append, List.flatMap_append, HNA.out]; exact ho6)
        have HSF := Lib.hid hSf
        have HTF := Lib.hid ((Turn.of_below HB5.out.drew p (.slice pa acts.length pc)).trans ht6)
        clear hSf ht6 ho6 hc6 hk6 hE
        go_wp2
        go_ret
        exact ⟨by rw [HD.out]; rfl, va', by rw [show doA fs acts (1, (a, b, c, d, e), v) = acts ++ [kept (1, (a, b, c, d, e), v)] from if_pos HD.out]; exact HSF.out, HTF.out⟩

set_option maxHeartbeats 2000000 in
theorem Do2_c (lo p m flo fhi : Nat) (va vf : Value) (fs : List Ft) (acts : List Ac) (a b c d e v : Int) (w : World) (h : SesAt w lo p m flo fhi va vf fs acts) (hlo : lo ≤ w.heap.size) (hw : wfFs fs) (hwp : wfP (a, b, c, d, e)) (hn : acts.length ≤ 100000) (hnf : fs.length ≤ 20000) :
    Calls Tryz.prog 15 #[.pointer (some ⟨p, 0, none⟩), .agg #[.int .i64 2, .int .i64 a, .int .i64 b, .int .i64 c, .int .i64 d, .int .i64 e, .int .i64 v]] w (DoRes w lo p m flo fhi va vf fs acts (2, (a, b, c, d, e), v)) := by
  have HS := Lib.hid h
  have HN := Lib.hid fun W (hb : Below w.heap.size w W) => none_c lo p m flo fhi va vf fs acts W (h.below hb)
  obtain ⟨pa, pc, hva⟩ := own_shape h.acts
  obtain ⟨fa, fc, vs, hvf, -, hrow, hopt⟩ := h.feats
  subst hva
  subst hvf
  have hp : p < w.heap.size := (Array.getElem?_eq_some_iff.1 h.cells).1
  have c0 : w.cell? ⟨p, 0, none⟩ = some (.slice pa acts.length pc) := by rw [cell_of_row _ _ _ _ _ _ h.cells]; rfl
  have c1 : w.cell? ⟨p, 1, none⟩ = some (.slice fa fs.length fc) := by rw [cell_of_row _ _ _ _ _ _ h.cells]; rfl
  have c2 : w.cell? ⟨p, 2, none⟩ = some (.map (some m)) := by rw [cell_of_row _ _ _ _ _ _ h.cells]; rfl
  have hlk : ∀ q, (Instr.lookup 75 (.map (some m)) (.agg #[.int .i64 a, .int .i64 b, .int .i64 c, .int .i64 d, .int .i64 e]) true).run Tryz.prog ((w.alloc (.cells #[.int .i64 2, .int .i64 a, .int .i64 b, .int .i64 c, .int .i64 d, .int .i64 e, .int .i64 v] 60)).drewN q) = .ok (.tuple #[.int .i64 (((atF fs (a, b, c, d, e)).getD 0 : Nat) : Int), .bool (atF fs (a, b, c, d, e)).isSome]) ((w.alloc (.cells #[.int .i64 2, .int .i64 a, .int .i64 b, .int .i64 c, .int .i64 d, .int .i64 e, .int .i64 v] 60)).drewN q) :=
    fun q => IdxMap.look_ok (w := (w.alloc _).drewN q) (p := (a, b, c, d, e)) (h.map.below (below_drewN ((Below.refl w.heap.size w).alloc (Nat.le_refl _) _) q)) hwp
  have HSt : Hid (atF fs (a, b, c, d, e) = none → doE fs acts (2, (a, b, c, d, e), v) = 82) := fun x => doE_stale (a := (2, (a, b, c, d, e), v)) (by simp) x
  have HAt : Hid (∀ i, atF fs (a, b, c, d, e) = some i → doE fs acts (2, (a, b, c, d, e), v) = if (2 : Int) = 1 ∧ hasV (ftAt fs i).2 v = false then 8 else if 4096 ≤ acts.length then 4 else 0) := fun i x => doE_at (a := (2, (a, b, c, d, e), v)) (by simp) x
  have HAS : Hid (∀ i, atF fs (a, b, c, d, e) = some i → i < fs.length) := fun i x => (atF_some x).1
  have HROW := Lib.hid hrow
  have HOPT := Lib.hid hopt
  have HW := Lib.hid hw
  obtain ⟨nf, hnf'⟩ : ∃ nf, fs.length = nf := ⟨_, rfl⟩
  have HNF := Lib.hid hnf'
  rw [hnf'] at hnf c1
  obtain ⟨na, hna'⟩ : ∃ na, acts.length = na := ⟨_, rfl⟩
  have HNA := Lib.hid hna'
  rw [hna'] at hn c0
  clear h hrow hopt hw hna' hnf'
  generalize hat : atF fs (a, b, c, d, e) = at1 at *
  have HATE := Lib.hid hat
  clear hat
  cases at1 with
  | none =>
    simp only [Option.getD_none, Option.isSome_none] at hlk
    go_enter Tryz.func15, Tryz.ntmps15
    go_wp2_with fail
    refine (HN.out _ (by go_grown)).mono ?_
    rintro e w3 ⟨rfl, rfl⟩
    go_wp2_with fail
    go_quiet (fail)
    go_wp2
    go_ret
    exact DoRes.bad HS.out (below_drewN (by go_grown) _) (HSt.out (by first | rfl | trivial)) (by decide)
  | some i =>
    simp only [Option.getD_some, Option.isSome_some] at hlk
    have hi := HAS.out i rfl
    have hE := HAt.out i rfl
    have hif : i < fs.length := hi
    rw [HNF.out] at hi
    have hi0 : (0 : Int) ≤ (i : Int) := by omega
    have hi1 : (i : Int) < (nf : Int) := by omega
    obtain ⟨bf, off, hfa, hb1, hb2, hcf⟩ := HROW.out (by rw [HNF.out]; omega)
    subst hfa
    have hcf' : ∀ j u, (ftV (ftAt fs i).1 (vs i))[j]? = some u → w.cell? ⟨bf, off + i * 6 + j, none⟩ = some u := fun j u hu => hcf i hif j u hu
    have hop := HOPT.out i hif
    have hwo := (HW.out _ (ftAt_mem hif)).2.2
    have hhf := HS.out.hf
    clear hcf
    generalize ftAt fs i = f at *
    obtain ⟨⟨q1, q2, q3, q4, q5⟩, os⟩ := f
    simp only at hop hwo hE
    have HM := Lib.hid fun W (hb : Below w.heap.size w W) => (fun (x : Option Addr) (n cap : Nat) => mayConfirm_c p q1 q2 q3 q4 q5 v x n cap W)
    obtain ⟨oa, oc, hvo, -, -⟩ := hop
    rw [hvo] at hcf'
    clear hvo
    have f0 := hcf' 0 _ rfl
    have f1 := hcf' 1 _ rfl
    have f2 := hcf' 2 _ rfl
    have f3 := hcf' 3 _ rfl
    have f4 := hcf' 4 _ rfl
    have f5 := hcf' 5 _ rfl
    simp only [Nat.add_zero] at f0
    have hbf : bf < w.heap.size := by omega
    have hX : ∃ x : Int, x = 0 ∧ ((x = 8 ∧ doE fs acts (2, (a, b, c, d, e), v) = 8) ∨ (x = 0 ∧ doE fs acts (2, (a, b, c, d, e), v) = if 4096 ≤ na then 4 else 0)) := by
      refine ⟨0, rfl, .inr ⟨rfl, ?_⟩⟩
      rw [hE, if_neg (by simp), HNA.out]
    obtain ⟨x, hmx, hX⟩ := hX
    rw [← hmx] at HM
    have HX := Lib.hid hX
    clear hcf' hE hwo hX hmx
    go_enter Tryz.func15, Tryz.ntmps15
    go_wp2_with fail
    refine (HN.out _ (by go_grown)).mono ?_
    rintro e w3 ⟨rfl, rfl⟩
    go_wp2_with fail
    go_quiet (fail)
    go_wp2_with fail
    refine wp_named fun W hW => ?_
    have a0 : W.cell? ⟨w.heap.size, 0, none⟩ = some (.int .i64 2) := by rw [hW]; go_simp
    have a1 : W.cell? ⟨w.heap.size, 1, none⟩ = some (.int .i64 a) := by rw [hW]; go_simp
    have a2 : W.cell? ⟨w.heap.size, 2, none⟩ = some (.int .i64 b) := by rw [hW]; go_simp
    have a3 : W.cell? ⟨w.heap.size, 3, none⟩ = some (.int .i64 c) := by rw [hW]; go_simp
    have a4 : W.cell? ⟨w.heap.size, 4, none⟩ = some (.int .i64 d) := by rw [hW]; go_simp
    have a5 : W.cell? ⟨w.heap.size, 5, none⟩ = some (.int .i64 e) := by rw [hW]; go_simp
    have a6 : W.cell? ⟨w.heap.size, 6, none⟩ = some (.int .i64 v) := by rw [hW]; go_simp
    have z6 : W.frozen? ⟨w.heap.size, 6, none⟩ = false := by rw [hW]; go_simp
    have g1 : W.cell? ⟨w.heap.size + 1, 2, none⟩ = some (.func (.func 42) #[.pointer (some ⟨p, 0, none⟩)] #[]) := by rw [hW]; go_simp
    have hB : Below w.heap.size w W := by
      rw [hW]
      go_grown
      exact below_drewN (by go_grown) _
    have hs2 : w.heap.size + 1 < W.heap.size := by rw [hW]; simp
    clear hW
    have s0 : W.cell? ⟨p, 0, none⟩ = some (.slice pa na pc) := (hB.cell (p := ⟨p, 0, none⟩) hp).trans c0
    have s1 : W.cell? ⟨p, 1, none⟩ = some (.slice (some ⟨bf, off, none⟩) nf fc) := (hB.cell (p := ⟨p, 1, none⟩) hp).trans c1
    have t0 : W.cell? ⟨bf, off + i * 6, none⟩ = some (.int .i64 q1) := (hB.cell (p := ⟨bf, _, none⟩) hbf).trans f0
    have t1 : W.cell? ⟨bf, off + i * 6 + 1, none⟩ = some (.int .i64 q2) := (hB.cell (p := ⟨bf, _, none⟩) hbf).trans f1
    have t2 : W.cell? ⟨bf, off + i * 6 + 2, none⟩ = some (.int .i64 q3) := (hB.cell (p := ⟨bf, _, none⟩) hbf).trans f2
    have t3 : W.cell? ⟨bf, off + i * 6 + 3, none⟩ = some (.int .i64 q4) := (hB.cell (p := ⟨bf, _, none⟩) hbf).trans f3
    have t4 : W.cell? ⟨bf, off + i * 6 + 4, none⟩ = some (.int .i64 q5) := (hB.cell (p := ⟨bf, _, none⟩) hbf).trans f4
    have t5 : W.cell? ⟨bf, off + i * 6 + 5, none⟩ = some (.slice oa os.length oc) := (hB.cell (p := ⟨bf, _, none⟩) hbf).trans f5
    have y0 : w.heap.size < W.heap.size := by omega
    have y1 : p < W.heap.size := by omega
    have y2 : bf < W.heap.size := by omega
    have HB := Lib.hid hB
    clear c0 c1 c2 f0 f1 f2 f3 f4 f5 hlk hB
    go_region_held3 (fun w' => Sk W w') (first | assumption | exact Sk_drew _ | with_reducible exact Sk_call (by assumption) (by assumption))
      ((go_at_call 42; refine (HM.out _ (HB.out.trans ((by assumption : Sk W _).2.mono HB.out.size)) _ _ _).mono ?_; rintro rr w4 ⟨rfl, hb4⟩))
    have hSk := (by assumption : Sk W w4)
    have hB4 : Below w.heap.size w w4 := HB.out.trans (hSk.2.mono HB.out.size)
    have HB4 := Lib.hid hB4
    have b0 : w4.cell? ⟨w.heap.size, 0, none⟩ = some (.int .i64 2) := (hSk.1 _ _ y0).trans a0
    have b1 : w4.cell? ⟨w.heap.size, 1, none⟩ = some (.int .i64 a) := (hSk.1 _ _ y0).trans a1
    have b2 : w4.cell? ⟨w.heap.size, 2, none⟩ = some (.int .i64 b) := (hSk.1 _ _ y0).trans a2
    have b3 : w4.cell? ⟨w.heap.size, 3, none⟩ = some (.int .i64 c) := (hSk.1 _ _ y0).trans a3
    have b4 : w4.cell? ⟨w.heap.size, 4, none⟩ = some (.int .i64 d) := (hSk.1 _ _ y0).trans a4
    have b5 : w4.cell? ⟨w.heap.size, 5, none⟩ = some (.int .i64 e) := (hSk.1 _ _ y0).trans a5
    have b6 : w4.cell? ⟨w.heap.size, 6, none⟩ = some (.int .i64 v) := (hSk.1 _ _ y0).trans a6
    have z64 : w4.frozen? ⟨w.heap.size, 6, none⟩ = false := (hSk.2.frozen (p := ⟨w.heap.size, 6, none⟩) y0).trans z6
    have r0 : w4.cell? ⟨p, 0, none⟩ = some (.slice pa na pc) := (hSk.1 _ _ y1).trans s0
    have hs4 : W.heap.size ≤ w4.heap.size := hSk.2.size
    have HBB := Lib.hid (And.intro b0 (And.intro b1 (And.intro b2 (And.intro b3 (And.intro b4 (And.intro b5 b6))))))
    clear hSk hB4 z6 g1 s1 t0 t1 t2 t3 t4 t5 b0 b1 b2 b3 b4 b5 b6 r0
    rcases HX.out with ⟨rfl, hd⟩ | ⟨rfl, hd⟩
    · have HD := Lib.hid hd
      clear hd
      go_wp2
      go_ret
      exact DoRes.bad HS.out HB4.out HD.out (by decide)
    · by_cases h4 : 4096 ≤ na
      · rw [if_pos h4] at hd
        have HD := Lib.hid hd
        have h4' : (4096 : Int) ≤ na := by omega
        clear hd h4
        go_wp2
        go_ret
        exact DoRes.bad HS.out HB4.out HD.out (by decide)
      · rw [if_neg h4] at hd
        have HD := Lib.hid hd
        have h4' : (na : Int) < 4096 := by omega
        clear hd h4
        go_wp2_with fail
        refine wp_named fun W5 hW5 => ?_
        have b0 : W5.cell? ⟨w.heap.size, 0, none⟩ = some (.int .i64 2) := by rw [hW5]; go_simp
        have b1 : W5.cell? ⟨w.heap.size, 1, none⟩ = some (.int .i64 a) := by rw [hW5]; go_simp
        have b2 : W5.cell? ⟨w.heap.size, 2, none⟩ = some (.int .i64 b) := by rw [hW5]; go_simp
        have b3 : W5.cell? ⟨w.heap.size, 3, none⟩ = some (.int .i64 c) := by rw [hW5]; go_simp
        have b4 : W5.cell? ⟨w.heap.size, 4, none⟩ = some (.int .i64 d) := by rw [hW5]; go_simp
        have b5 : W5.cell? ⟨w.heap.size, 5, none⟩ = some (.int .i64 e) := by rw [hW5]; go_simp
        have b6 : W5.cell? ⟨w.heap.size, 6, none⟩ = some (.int .i64 0) := by rw [hW5]; go_simp
        have hB5 : Below w.heap.size w W5 := by rw [hW5]; exact HB4.out.setCell (p := ⟨w.heap.size, 6, none⟩) (Nat.le_refl _) _
        have HB5 := Lib.hid hB5
        clear hW5 hB5 a0 a1 a2 a3 a4 a5 a6 s0 z64
        have hS5 := HS.out.below HB5.out
        have HP := Lib.hid hS5.p_ne
        have HADD := Lib.hid (add_c lo p na (.slice pa acts.length pc) _ (.map (some m)) (acts.flatMap acV) 2 a b c d e 0 W5.drew hS5.cells (by rw [← HNA.out]; exact hS5.acts) (by omega) (Nat.le_trans hlo HB5.out.size))
        have HS5 := Lib.hid hS5
        clear hS5
        have HK : Hid (∀ w' : World, w'.heap[w.heap.size]? = W5.heap[w.heap.size]? → (w'.cell? ⟨w.heap.size, 0, none⟩ = some (.int .i64 2) ∧ w'.cell? ⟨w.heap.size, 1, none⟩ = some (.int .i64 a) ∧ w'.cell? ⟨w.heap.size, 2, none⟩ = some (.int .i64 b) ∧ w'.cell? ⟨w.heap.size, 3, none⟩ = some (.int .i64 c) ∧ w'.cell? ⟨w.heap.size, 4, none⟩ = some (.int .i64 d) ∧ w'.cell? ⟨w.heap.size, 5, none⟩ = some (.int .i64 e) ∧ w'.cell? ⟨w.heap.size, 6, none⟩ = some (.int .i64 0))) :=
          fun w' hx => ⟨(World.cell?_of_block (a := ⟨w.heap.size, 0, none⟩) hx).trans b0, (World.cell?_of_block (a := ⟨w.heap.size, 1, none⟩) hx).trans b1, (World.cell?_of_block (a := ⟨w.heap.size, 2, none⟩) hx).trans b2, (World.cell?_of_block (a := ⟨w.heap.size, 3, none⟩) hx).trans b3, (World.cell?_of_block (a := ⟨w.heap.size, 4, none⟩) hx).trans b4, (World.cell?_of_block (a := ⟨w.heap.size, 5, none⟩) hx).trans b5, (World.cell?_of_block (a := ⟨w.heap.size, 6, none⟩) hx).trans b6⟩
        have hdrew : W5.drew.heap[w.heap.size]? = W5.heap[w.heap.size]? := rfl
        have hlt5 : w.heap.size < W5.heap.size := by
          have := World.block_lt_of_cell? W5 _ b0
          exact this
        have HO : Hid (some w.heap.size ≠ (Value.slice pa acts.length pc).ownBlock) := fun x => by
          have := (HS.out.acts.lt _ x.symm).2
          omega
        clear b0 b1 b2 b3 b4 b5 b6
        go_region_held3 (fun w' => w'.cell? ⟨w.heap.size, 0, none⟩ = some (.int .i64 2) ∧ w'.cell? ⟨w.heap.size, 1, none⟩ = some (.int .i64 a) ∧ w'.cell? ⟨w.heap.size, 2, none⟩ = some (.int .i64 b) ∧ w'.cell? ⟨w.heap.size, 3, none⟩ = some (.int .i64 c) ∧ w'.cell? ⟨w.heap.size, 4, none⟩ = some (.int .i64 d) ∧ w'.cell? ⟨w.heap.size, 5, none⟩ = some (.int .i64 e) ∧ w'.cell? ⟨w.heap.size, 6, none⟩ = some (.int .i64 0))
          ((refine HK.out _ ?_; with_reducible (first | assumption | exact hdrew)))
          ((go_at_call 43; refine HADD.out.mono ?_; rintro rr w6 ⟨rfl, va', hc6, ho6, ht6⟩; have hk6 : w6.heap[w.heap.size]? = W5.heap[w.heap.size]? := ht6.block _ hlt5 (by omega) HO.out))
        have hE := HD.out
        have hSf : SesAt w6 lo p m flo fhi va' _ fs (acts ++ [kept (2, (a, b, c, d, e), v)]) := SesAt.turned (w := W5.drew) (HS5.out.below (w := W5) (Below.refl _ W5).drew) ht6 hc6 (by
          rw [List.length_append, List.flatMap_append, HNA.out]; exact ho6)
        have HSF := Lib.hid hSf
        have HTF := Lib.hid ((Turn.of_below HB5.out.drew p (.slice pa acts.length pc)).trans ht6)
        clear hSf ht6 ho6 hc6 hk6 hE
        go_wp2
        go_ret
        exact ⟨by rw [HD.out]; rfl, va', by rw [show doA fs acts (2, (a, b, c, d, e), v) = acts ++ [kept (2, (a, b, c, d, e), v)] from if_pos HD.out]; exact HSF.out, HTF.out⟩

set_option maxHeartbeats 1000000 in
theorem Do0_c (lo p m flo fhi : Nat) (va vf : Value) (fs : List Ft) (acts : List Ac) (k a b c d e v : Int) (w : World) (h : SesAt w lo p m flo fhi va vf fs acts) (hk1 : ¬ k = 1) (hk2 : ¬ k = 2) :
    Calls Tryz.prog 15 #[.pointer (some ⟨p, 0, none⟩), .agg #[.int .i64 k, .int .i64 a, .int .i64 b, .int .i64 c, .int .i64 d, .int .i64 e, .int .i64 v]] w (DoRes w lo p m flo fhi va vf fs acts (k, (a, b, c, d, e), v)) := by
  have HS := Lib.hid h
  have HN := Lib.hid fun W (hb : Below w.heap.size w W) => none_c lo p m flo fhi va vf fs acts W (h.below hb)
  have HE := Lib.hid (doE_kind (fs := fs) (acts := acts) (a := (k, (a, b, c, d, e), v)) ⟨hk1, hk2⟩)
  have e1 : (k != 1) = true := by simp [hk1]
  have e2 : (k != 2) = true := by simp [hk2]
  clear h
  go_enter Tryz.func15, Tryz.ntmps15
  go_wp2_with fail
  refine (HN.out _ (by go_grown)).mono ?_
  rintro e w3 ⟨rfl, rfl⟩
  go_wp2
  go_ret
  exact DoRes.bad HS.out (by go_grown) HE.out (by decide)
theorem Do_c (lo p m flo fhi : Nat) (va vf : Value) (fs : List Ft) (acts : List Ac) (k a b c d e v : Int) (w : World) (h : SesAt w lo p m flo fhi va vf fs acts) (hlo : lo ≤ w.heap.size) (hw : wfFs fs) (hwp : wfP (a, b, c, d, e)) (hn : acts.length ≤ 100000) (hnf : fs.length ≤ 20000) :
    Calls Tryz.prog 15 #[.pointer (some ⟨p, 0, none⟩), .agg #[.int .i64 k, .int .i64 a, .int .i64 b, .int .i64 c, .int .i64 d, .int .i64 e, .int .i64 v]] w (DoRes w lo p m flo fhi va vf fs acts (k, (a, b, c, d, e), v)) := by
  by_cases h1 : k = 1
  · subst h1
    exact Do1_c lo p m flo fhi va vf fs acts a b c d e v w h hlo hw hwp hn hnf
  · by_cases h2 : k = 2
    · subst h2
      exact Do2_c lo p m flo fhi va vf fs acts a b c d e v w h hlo hw hwp hn hnf
    · exact Do0_c lo p m flo fhi va vf fs acts k a b c d e v w h h1 h2
end Go.Proofs.YtpcefaccoifejaaGreatDoor
