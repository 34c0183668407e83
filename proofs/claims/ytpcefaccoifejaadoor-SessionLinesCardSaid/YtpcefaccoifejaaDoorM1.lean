/-
  The contract of custoslaw13.made: a session and one of the reference, with the same features and the same acts done. Conditions: what is read lies in memory as SW says; numbers are of their type.
-/
import Derived.Test.YtpcefaccoifejaaDoorAG0
namespace Go.Proofs.YtpcefaccoifejaaDoor
open Go.RowKit
set_option linter.unusedSimpArgs false
set_option linter.unusedVariables false
set_option maxRecDepth 100000

theorem Kg.setCell {W w1 : World} {b : Nat} (h : Kg W (some b) w1) (o : Nat) (u : Value) : Kg W (some b) (w1.setCell ⟨b, o, none⟩ u) :=
  ⟨h.os, h.tape, h.output, by simpa [World.setCell] using h.size, fun i hi hn => (Below.heap_setCell w1 ⟨b, o, none⟩ u i (fun e => hn (by rw [e]))).trans (h.block i hi hn)⟩
theorem SesAt.grown {w w' : World} {lo p m flo fhi b : Nat} {va vf : Value} {fs : List Ft} {acts : List Ac} (h : SesAt w lo p m flo fhi va vf fs acts) (hk : Kg w (some b) w') (h1 : b ≠ p) (h2 : b ≠ m) (h3 : ¬ (flo ≤ b ∧ b < fhi)) (h4 : va.ownBlock ≠ some b) : SesAt w' lo p m flo fhi va vf fs acts := by
  have hp : p < w.heap.size := (Array.getElem?_eq_some_iff.1 h.cells).1
  refine h.kept (Bs := p) (fun c hc => hk.block c (h.lt hp hc) (fun e => ?_)) hk.size
  injection e with e
  subst e
  rcases hc with rfl | rfl | hc | hc | rfl
  · exact h1 rfl
  · exact h2 rfl
  · exact h3 hc
  · exact h4 hc
  · exact h1 rfl
def MadeRes (w : World) (fs : List Ft) (acts : List Ac) (e : Ending) (w' : World) : Prop :=
  Below w.heap.size w w' ∧ ((newE fs ≠ 0 ∧ e = .returned (.tuple #[.pointer none, .agg #[.slice none 0 0, .slice none 0 0], .bool true])) ∨
    (newE fs = 0 ∧ ∃ p m flo fhi va vf tf ta, e = .returned (.tuple #[.pointer (some ⟨p, 0, none⟩), .agg #[tf, ta], .bool true]) ∧ SesAt w' w.heap.size p m flo fhi va vf fs (doneL fs acts) ∧
      FeatsAt w' w.heap.size w'.heap.size tf fs ∧ ActsAt w' 0 w'.heap.size ta (doneL fs acts)))
/-- what holds at the head of made's loop -/
structure MkI (w wr : World) (p m flo fhi tlo thi b9 : Nat) (va vf tf ta : Value) (fs : List Ft) (done : List Ac) : Prop where
  ses : SesAt wr w.heap.size p m flo fhi va vf fs done
  box : wr.heap[b9]? = some (.cells #[tf, ta] 31 (0, 0))
  ref : ActsIn wr ta done (fun b => b < w.heap.size ∨ b = p ∨ b = b9 ∨ va.ownBlock = some b)
  tfs : FeatsAt wr tlo thi tf fs
  own : ∀ g, va.ownBlock = some g → ¬ (tlo ≤ g ∧ g < thi) ∧ g ≠ b9
  bp : b9 ≠ p
  bm : b9 ≠ m
  bf : ¬ (flo ≤ b9 ∧ b9 < fhi)
  bt : ¬ (tlo ≤ b9 ∧ b9 < thi)
  pt : ¬ (tlo ≤ p ∧ p < thi)
  th : thi ≤ wr.heap.size
  lo : w.heap.size ≤ b9
  lt : w.heap.size ≤ tlo
  bel : Below w.heap.size w wr
section
variable {w wr w1 : World} {p m flo fhi tlo thi b9 : Nat} {va va' vf tf ta ta' : Value} {fs : List Ft} {done done' : List Ac}
theorem MkI.lt9 (h : MkI w wr p m flo fhi tlo thi b9 va vf tf ta fs done) : b9 < wr.heap.size := (Array.getElem?_eq_some_iff.1 h.box).1
theorem MkI.ownlo (h : MkI w wr p m flo fhi tlo thi b9 va vf tf ta fs done) : ∀ g, va.ownBlock = some g → w.heap.size ≤ g ∧ g < wr.heap.size := fun g hg => h.ses.acts.lt g hg
theorem MkI.below (h : MkI w wr p m flo fhi tlo thi b9 va vf tf ta fs done) (hb : Below wr.heap.size wr w1) : MkI w w1 p m flo fhi tlo thi b9 va vf tf ta fs done :=
  ⟨h.ses.below hb, (hb.block _ h.lt9).trans h.box, h.ref.move hb.size (fun b _ hl => hb.block b hl) (fun b _ => id), h.tfs.move (Same.of_below (hb.mono h.th)), h.own, h.bp, h.bm, h.bf, h.bt, h.pt, Nat.le_trans h.th hb.size, h.lo, h.lt, h.bel.trans (hb.mono h.bel.size)⟩
/-- after an act was done in the session: the reference's are not yet -/
structure MkJ (w wr : World) (p m flo fhi tlo thi b9 : Nat) (va vf tf ta : Value) (fs : List Ft) (done done' : List Ac) : Prop where
  ses : SesAt wr w.heap.size p m flo fhi va vf fs done'
  box : wr.heap[b9]? = some (.cells #[tf, ta] 31 (0, 0))
  ref : ActsIn wr ta done (fun b => b < w.heap.size ∨ b = p ∨ b = b9 ∨ va.ownBlock = some b)
  tfs : FeatsAt wr tlo thi tf fs
  own : ∀ g, va.ownBlock = some g → ¬ (tlo ≤ g ∧ g < thi) ∧ g ≠ b9
  th : thi ≤ wr.heap.size
  bel : Below w.heap.size w wr
theorem MkI.turn (h : MkI w wr p m flo fhi tlo thi b9 va vf tf ta fs done) (hs : SesAt w1 w.heap.size p m flo fhi va' vf fs done') (ht : Turn wr w1 p va va') : MkJ w w1 p m flo fhi tlo thi b9 va' vf tf ta fs done done' := by
  have hl := h.lt9
  have hth := h.th
  have hp : p < wr.heap.size := (Array.getElem?_eq_some_iff.1 h.ses.cells).1
  refine ⟨hs, (ht.block _ hl h.bp (fun e => (h.own _ e.symm).2 rfl)).trans h.box, h.ref.move ht.size (fun b hP hb => ht.block b hb (fun e => hP (.inr (.inl e))) (fun e => hP (.inr (.inr (.inr e.symm))))) (fun b hb hP => ?_), h.tfs.move (fun b h1 h2 => ht.block b (by omega) (fun e => h.pt (e ▸ ⟨h1, h2⟩)) (fun e => (h.own b e.symm).1 ⟨h1, h2⟩)), fun g hg => ?_, Nat.le_trans hth ht.size, h.bel.trans (ht.below h.bel.size h.ses.lp (fun g hg => (h.ownlo g hg).1))⟩
  · rcases hP with e | e | e | e
    · exact .inl e
    · exact .inr (.inl e)
    · exact .inr (.inr (.inl e))
    · rcases ht.new b e with e2 | e2
      · exact .inr (.inr (.inr e2))
      · omega
  · rcases ht.new g hg with e | e
    · exact h.own g e
    · exact ⟨by omega, by omega⟩
/-- and then the reference's -/
theorem MkI.next {w2 : World} (h : MkI w wr p m flo fhi tlo thi b9 va vf tf ta fs done) (j : MkJ w w1 p m flo fhi tlo thi b9 va' vf tf ta fs done done') (hk : Kg w1 (some b9) w2)
    (hbox : w2.heap[b9]? = some (.cells #[tf, ta'] 31 (0, 0))) (hs : wr.heap.size ≤ w1.heap.size)
    (hr : ActsIn w2 ta' done' (fun b => b < w.heap.size ∨ b = p ∨ b = b9 ∨ va'.ownBlock = some b)) : MkI w w2 p m flo fhi tlo thi b9 va' vf tf ta' fs done' := by
  refine ⟨j.ses.grown hk h.bp h.bm h.bf (fun e => (j.own _ e).2 rfl), hbox, hr, j.tfs.move (fun b h1 h2 => hk.block b (by have := j.th; omega) (fun e => ?_)), j.own, h.bp, h.bm, h.bf, h.bt, h.pt, Nat.le_trans j.th hk.size, h.lo, h.lt, j.bel.grown hk j.bel.size (fun k e => by injection e with e; subst e; exact h.lo)⟩
  injection e with e
  exact h.bt (e ▸ ⟨h1, h2⟩)
end
theorem SesAt.low {w : World} {lo lo' p m flo fhi : Nat} {va vf : Value} {fs : List Ft} {acts : List Ac} (h : SesAt w lo p m flo fhi va vf fs acts) (hl : lo' ≤ lo) : SesAt w lo' p m flo fhi va vf fs acts :=
  ⟨h.cells, own_low h.acts hl, h.feats, h.map, h.pf, h.mf, h.af, Nat.le_trans hl h.lp, Nat.le_trans hl h.lm, Nat.le_trans hl h.lf, h.hf⟩
/-- what is handed back -/
theorem MkI.res {w0 w wr w2 : World} {p m flo fhi tlo thi b9 : Nat} {va vf tf ta : Value} {fs : List Ft} {acts : List Ac} (h : MkI w wr p m flo fhi tlo thi b9 va vf tf ta fs (doneL fs acts)) (h0 : w0.heap.size < w.heap.size) (hb : Below w0.heap.size w0 w) (hk : Kg wr (some w0.heap.size) w2) (he : newE fs = 0) :
    MadeRes w0 fs acts (.returned (.tuple #[.pointer (some ⟨p, 0, none⟩), .agg #[tf, ta], .bool true])) w2 := by
  have h1 := h.ses.lp
  have h2 := h.ses.lm
  have h3 := h.ses.lf
  have h4 := h.lt
  refine ⟨(hb.trans (h.bel.mono (Nat.le_of_lt h0))).grown hk (Nat.le_trans hb.size h.bel.size) (fun k e => by injection e with e; omega), .inr ⟨he, p, m, flo, fhi, va, vf, tf, ta, rfl, ?_, ?_, ?_⟩⟩
  · exact (h.ses.grown hk (by omega) (by omega) (by omega) (fun e => by have := (h.ownlo _ e).1; omega)).low (Nat.le_of_lt h0)
  · exact (h.tfs.move (fun b b1 b2 => hk.block b (by have := h.th; omega) (fun e => by injection e with e; omega))).wider (by omega) (Nat.le_trans h.th hk.size)
  · exact (h.ref.move (P' := fun b => b < w.heap.size ∨ b = p ∨ b = b9 ∨ va.ownBlock = some b) hk.size (fun b hP hl => hk.block b hl (fun e => hP (.inl (by injection e with e; omega)))) (fun b _ => id)).at
theorem set_two {W : World} {b : Nat} {T : TypeId} {a c x y : Value} (h : W.heap[b]? = some (.cells #[a, c] T (0, 0))) : ((W.setCell ⟨b, 0, none⟩ x).setCell ⟨b, 1, none⟩ y).heap[b]? = some (.cells #[x, y] T (0, 0)) :=
  heap_setCell_same _ b 1 _ _ _ (heap_setCell_same W b 0 _ _ _ h)
theorem below_two {w W : World} {b : Nat} (h : Below w.heap.size w W) (hb : w.heap.size ≤ b) (x y : Value) : Below w.heap.size w ((W.setCell ⟨b, 0, none⟩ x).setCell ⟨b, 1, none⟩ y) := (h.setCell (p := ⟨b, 0, none⟩) hb x).setCell (p := ⟨b, 1, none⟩) hb y
set_option maxHeartbeats 4000000 in
theorem made_c (v v1 : Value) (fs : List Ft) (acts : List Ac) (lo hi alo ahi : Nat) (w : World) (h : FeatsAt w lo hi v fs) (hh : hi ≤ w.heap.size) (hA : ActsAt w alo ahi v1 acts) (hah : ahi ≤ w.heap.size) (hw : wfFs fs) (hwa : wfAs acts) (hlm : fs.length ≤ 4611686018427387904) (hn : acts.length ≤ 60) :
    Calls Tryd.prog 9 #[v, v1] w (MadeRes w fs acts) := by
  have HNEW := Lib.hid fun W (hb : Below w.heap.size w W) => New_c v fs lo hi W (h.move (Same.of_below (hb.mono hh))) (Nat.le_trans hh hb.size) hw hlm
  have HRN := Lib.hid fun W (hb : Below w.heap.size w W) => RNew_c v fs lo hi W (h.move (Same.of_below (hb.mono hh))) (Nat.le_trans hh hb.size) hw hlm
  obtain ⟨aa, ac, rfl, -, hrow⟩ := hA
  have HROW := Lib.hid hrow
  have HAH := Lib.hid hah
  have HW := Lib.hid hw
  have HWA := Lib.hid hwa
  obtain ⟨n, hna⟩ : ∃ n, acts.length = n := ⟨_, rfl⟩
  have HNA := Lib.hid hna
  rw [hna] at hn HROW ⊢
  clear h hh hrow hah hw hwa hlm hna
  go_enter Tryd.func9, Tryd.ntmps9
  go_wp2_with fail
  refine calls_named fun W1 hW1 => ?_
  have hB1 : Below w.heap.size w W1 := by rw [hW1]; go_grown
  have hR1 : W1.heap[w.heap.size]? = some (.cells #[.slice none 0 0, .slice none 0 0] 31 (0, 0)) := by rw [hW1]; exact heap_alloc_new _ _
  have y0 : w.heap.size < W1.heap.size := (Array.getElem?_eq_some_iff.1 hR1).1
  have HB1 := Lib.hid hB1
  have HR1 := Lib.hid hR1
  clear hW1 hB1 hR1
  refine (HNEW.out _ HB1.out).mono ?_
  rintro rr w2 ⟨hb2, hres⟩
  have HB2 : Hid (Below W1.heap.size W1 w2) := hb2
  clear hb2
  rcases hres with ⟨hne, rfl⟩ | ⟨he0, p, m, flo, fhi, vf, rfl, hses⟩
  · have HNE := Lib.hid hne
    obtain ⟨E, hEq⟩ : ∃ E, newE fs = E := ⟨_, rfl⟩
    have HEQ := Lib.hid hEq
    rw [hEq] at hne ⊢
    have hE : ¬ E = 0 := hne
    have hE2 : (E != 0) = true := by simpa using hne
    clear hne hEq
    go_wp2_with fail
    refine (HRN.out _ (below_step HB1.out HB2.out)).mono ?_
    rintro rr w3 ⟨hb3, hr3⟩
    obtain rfl : rr = .returned (.tuple #[.agg #[.slice none 0 0, .slice none 0 0], .int .i64 E]) := by
      rcases hr3 with h | h
      · rw [h.2, HEQ.out]
      · exact absurd h.1 HNE.out
    have HB3 : Hid (Below W1.heap.size W1 w3) := below_step HB2.out hb3
    have hR3 := (HB3.out.block _ y0).trans HR1.out
    have HR3 := Lib.hid hR3
    have z0 := HB3.out.size
    clear hr3 hb3 hR3
    go_wp2
    refine wp_named fun W4 hW4 => ?_
    have hb4 : Below w3.heap.size w3 W4 := by rw [hW4]; exact (Below.refl _ _).alloc (Nat.le_refl _) _
    have hR4 := (hb4.block _ (Nat.lt_of_lt_of_le y0 z0)).trans HR3.out
    have hT4 : W4.heap[w3.heap.size]? = some (.cells #[.slice none 0 0, .slice none 0 0] 31 (0, 0)) := by rw [hW4]; exact heap_alloc_new _ _
    obtain ⟨r0, r1, rf0, rf1⟩ := sesBlock hR4
    obtain ⟨t0, t1, tf0, tf1⟩ := sesBlock hT4
    have HB4 : Hid (Below w.heap.size w W4) := below_step (below_step HB1.out HB3.out) hb4
    have HR4 := Lib.hid hR4
    clear hW4 hb4 hR4 hT4
    go_region
    refine exit_named (Q := Exit.then _ _) fun W5 hW5 => ?_
    have hB5 : Below w.heap.size w W5 := by rw [hW5]; exact (below_two HB4.out (Nat.le_refl _) _ _).drew
    have hR5 : W5.heap[w.heap.size]? = some (.cells #[.slice none 0 0, .slice none 0 0] 31 (0, 0)) := by rw [hW5]; exact set_two HR4.out
    obtain ⟨x0, x1, xf0, xf1⟩ := sesBlock hR5
    have HB5 := Lib.hid hB5
    clear hW5 hB5 hR5 r0 r1 rf0 rf1 t0 t1 tf0 tf1
    go_wp2
    (try simp only [Exit.inBlock, Exit.then]); refine bodyPost_ret (by simp [results, Tryd.results9, go_sem, *]; try rfl) rfl ?_
    exact ⟨HB5.out, .inl ⟨HNE.out, rfl⟩⟩
  · have HE0 := Lib.hid he0
    have HSES := Lib.hid hses
    clear he0 hses
    go_wp2_with fail
    refine (HRN.out _ (below_step HB1.out HB2.out)).mono ?_
    rintro rr w3 ⟨hb3, hr3⟩
    obtain ⟨tf, rfl, hof⟩ : ∃ vf, rr = .returned (.tuple #[.agg #[vf, .slice none 0 0], .int .i64 0]) ∧ OwnFeats w3 w2.heap.size vf fs := by
      rcases hr3 with h | ⟨_, vf, e, h⟩
      · exact absurd HE0.out h.1
      · exact ⟨vf, e, h⟩
    obtain ⟨oa, oc, rfl⟩ : ∃ oa oc, tf = .slice oa fs.length oc := by
      obtain ⟨vs, h1, h2, h3⟩ := hof
      exact own_shape h2
    obtain ⟨nf, hnf⟩ : ∃ nf, fs.length = nf := ⟨_, rfl⟩
    rw [hnf] at hof ⊢
    clear hnf
    have HB3 : Hid (Below W1.heap.size W1 w3) := below_step HB2.out hb3
    have hM0 : MkI W1 (w3.alloc (.cells #[.slice oa nf oc, .slice none 0 0] 31)) p m flo fhi w2.heap.size w3.heap.size w3.heap.size (.slice none 0 0) vf (.slice oa nf oc) (.slice none 0 0) fs [] := by
      have hba : Below w3.heap.size w3 (w3.alloc (.cells #[.slice oa nf oc, .slice none 0 0] 31)) := (Below.refl _ _).alloc (Nat.le_refl _) _
      have hs3 := HSES.out.below hb3
      have g1 : p < w2.heap.size := (Array.getElem?_eq_some_iff.1 HSES.out.cells).1
      have g2 : m < w2.heap.size := HSES.out.map.lt
      have g3 := HSES.out.hf
      have g4 := hb3.size
      have g5 := HB2.out.size
      refine ⟨hs3.below hba, heap_alloc_new _ _, .inl ⟨rfl, rfl⟩, hof.feats.move (Same.of_below hba), fun g hg => (by cases hg), by omega, by omega, by omega, by omega, by omega, hba.size, by omega, by omega, below_step HB3.out hba⟩
    have HM0 := Lib.hid hM0
    clear hr3 hb3 hof hM0
    go_wp2
    go_loopw [11] (fun i wr => ∃ (k : Nat) (va ta : Value), k ≤ n ∧ i = .int .i64 (k : Int) ∧ MkI W1 wr p m flo fhi w2.heap.size w3.heap.size w3.heap.size va vf (.slice oa nf oc) ta fs (doneL fs (acts.take k))) (fun i wr => n - (intOf i).toNat)
    case atStart => exact ⟨0, _, _, Nat.zero_le _, rfl, HM0.out⟩
    case round =>
      obtain ⟨k, va, ta, hkn, rfl, hM⟩ := hrel
      have HM := Lib.hid hM
      obtain ⟨ya, yc, rfl⟩ := hM.ref.shape
      clear hM
      have hD := doneL_acted fs (l := acts.take k) (fun a ha => HWA.out a (List.take_subset _ _ ha))
      have hDl := hD.len
      have hnf : fs.length ≤ 20000 := (good_of_newE HE0.out).len
      have HBW : Hid (Below w.heap.size w wr) := below_step HB1.out HM.out.bel
      clear hD
      by_cases hk : k < n
      · have hkf : k < acts.length := by rw [HNA.out]; exact hk
        obtain ⟨bf, off, rfl, hb1', hb2, hc⟩ := HROW.out (by omega)
        have hbw : bf < w.heap.size := Nat.lt_of_lt_of_le hb2 HAH.out
        have hcw : ∀ j u, (acV (acAt acts k))[j]? = some u → w.cell? ⟨bf, off + k * 7 + j, none⟩ = some u := fun j u hu => hc k hk j u hu
        have hst : doneL fs (acts.take (k + 1)) = doA fs (doneL fs (acts.take k)) (acAt acts k) := by rw [take_snoc hkf, ← acAt_get hkf, doneL_snoc]
        have HST := Lib.hid hst
        have hwa := HWA.out _ (acAt_mem hkf)
        generalize doneL fs (acts.take k) = D at *
        generalize acAt acts k = A at *
        obtain ⟨kd, ⟨q1, q2, q3, q4, q5⟩, av⟩ := A
        have d0 := hcw 0 _ rfl
        have d1 := hcw 1 _ rfl
        have d2 := hcw 2 _ rfl
        have d3 := hcw 3 _ rfl
        have d4 := hcw 4 _ rfl
        have d5 := hcw 5 _ rfl
        have d6 := hcw 6 _ rfl
        simp only [Nat.add_zero] at d0
        have HWP := Lib.hid hwa.2.1
        have hk0 : (0 : Int) ≤ k := by omega
        have hk1 : (k : Int) < n := by omega
        have hk2 : (k : Int) ≤ 60 := by omega
        have HCW : Hid (∀ W, Below w.heap.size w W → (W.cell? ⟨bf, off + k * 7, none⟩ = some (.int .i64 kd) ∧ W.cell? ⟨bf, off + k * 7 + 1, none⟩ = some (.int .i64 q1) ∧ W.cell? ⟨bf, off + k * 7 + 2, none⟩ = some (.int .i64 q2) ∧ W.cell? ⟨bf, off + k * 7 + 3, none⟩ = some (.int .i64 q3) ∧ W.cell? ⟨bf, off + k * 7 + 4, none⟩ = some (.int .i64 q4) ∧ W.cell? ⟨bf, off + k * 7 + 5, none⟩ = some (.int .i64 q5) ∧ W.cell? ⟨bf, off + k * 7 + 6, none⟩ = some (.int .i64 av))) := fun W hb =>
          ⟨(hb.cell (p := ⟨bf, _, none⟩) hbw).trans d0, (hb.cell (p := ⟨bf, _, none⟩) hbw).trans d1, (hb.cell (p := ⟨bf, _, none⟩) hbw).trans d2, (hb.cell (p := ⟨bf, _, none⟩) hbw).trans d3, (hb.cell (p := ⟨bf, _, none⟩) hbw).trans d4, (hb.cell (p := ⟨bf, _, none⟩) hbw).trans d5, (hb.cell (p := ⟨bf, _, none⟩) hbw).trans d6⟩
        obtain ⟨c0, c1, c2, c3, c4, c5, c6⟩ := HCW.out wr HBW.out
        have HBFW := Lib.hid hbw
        clear hcw hc hst hwa d0 d1 d2 d3 d4 d5 d6 hbw
        go_wp2_with fail
        refine (own_c _ _ _ _ _ _ _ _).mono ?_
        rintro rr w5 ⟨rfl, hb5⟩
        have HM5 := Lib.hid (HM.out.below hb5)
        clear hb5 c0 c1 c2 c3 c4 c5 c6
        go_wp2_with fail
        refine (Do_c W1.heap.size p m flo fhi va vf fs D kd q1 q2 q3 q4 q5 av w5 HM5.out.ses HM5.out.bel.size HW.out HWP.out (by omega) hnf).mono ?_
        rintro rr w6 ⟨rfl, va', hs6, ht6⟩
        have HJ := Lib.hid (HM5.out.turn hs6 ht6)
        have HS56 := Lib.hid ht6.size
        clear hs6 ht6
        obtain ⟨X, hX⟩ : ∃ X, doE fs D (kd, (q1, q2, q3, q4, q5), av) = X := ⟨_, rfl⟩
        have HX := Lib.hid hX
        rw [hX]
        clear hX
        obtain ⟨c0, c1, c2, c3, c4, c5, c6⟩ := HCW.out w6 (below_step HB1.out HJ.out.bel)
        obtain ⟨t0, t1, tf0, tf1⟩ := sesBlock HJ.out.box
        have hne9 : some bf ≠ some w3.heap.size := fun e => by injection e with e; have := HBFW.out; have := HB3.out.size; have := HB1.out.size; omega
        have HSC : Hid (∀ w', Kg w6 (some w3.heap.size) w' → (w'.cell? ⟨bf, off + k * 7, none⟩ = some (.int .i64 kd) ∧ w'.cell? ⟨bf, off + k * 7 + 1, none⟩ = some (.int .i64 q1) ∧ w'.cell? ⟨bf, off + k * 7 + 2, none⟩ = some (.int .i64 q2) ∧ w'.cell? ⟨bf, off + k * 7 + 3, none⟩ = some (.int .i64 q3) ∧ w'.cell? ⟨bf, off + k * 7 + 4, none⟩ = some (.int .i64 q4) ∧ w'.cell? ⟨bf, off + k * 7 + 5, none⟩ = some (.int .i64 q5) ∧ w'.cell? ⟨bf, off + k * 7 + 6, none⟩ = some (.int .i64 av) ∧ Kg w6 (some w3.heap.size) w')) := fun w' hb =>
          ⟨hb.cell c0 hne9, hb.cell c1 hne9, hb.cell c2 hne9, hb.cell c3 hne9, hb.cell c4 hne9, hb.cell c5 hne9, hb.cell c6 hne9, hb⟩
        have hrd := rDo_c (.slice oa nf oc) (.slice ya D.length yc) fs D 0 w2.heap.size w3.heap.size kd q1 q2 q3 q4 q5 av w6.drew (HJ.out.tfs.move (fun _ _ _ => rfl)) HJ.out.th (HJ.out.ref.at.move (fun _ _ _ => rfl)) (Nat.zero_le _) HW.out (by omega) hnf
        have HRD := Lib.hid hrd
        clear hrd c0 c1 c2 c3 c4 c5 c6 hne9
        go_wp2_with fail
        refine wp_region_noPanic ?_
        refine wp_region_held_drew (S := fun w' => w'.cell? ⟨bf, off + k * 7, none⟩ = some (.int .i64 kd) ∧ w'.cell? ⟨bf, off + k * 7 + 1, none⟩ = some (.int .i64 q1) ∧ w'.cell? ⟨bf, off + k * 7 + 2, none⟩ = some (.int .i64 q2) ∧ w'.cell? ⟨bf, off + k * 7 + 3, none⟩ = some (.int .i64 q3) ∧ w'.cell? ⟨bf, off + k * 7 + 4, none⟩ = some (.int .i64 q4) ∧ w'.cell? ⟨bf, off + k * 7 + 5, none⟩ = some (.int .i64 q5) ∧ w'.cell? ⟨bf, off + k * 7 + 6, none⟩ = some (.int .i64 av) ∧ Kg w6 (some w3.heap.size) w') (by kernel_rfl) (HSC.out _ (Kg.drew _ _)) (fun hHeld => ?_)
        refine wpAnyH_take (i := 1) (v := ?v1) (arr_at rfl) (by kernel_rfl) (by kernel_rfl) (by kernel_rfl) (fun _ _ _ h => h) (Or.inl ⟨by rfl, ?hy1⟩) (by assumption) ?_
        case hy1 => (intro w hSw; (try dsimp only at hSw); go_simp <;> with_reducible rfl)
        try simp only [Act.put, List.setIfInBounds_toArray, List.set_cons_zero, List.set_cons_succ]
        refine wpAnyH_take (i := 2) (v := ?v2) (arr_at rfl) (by kernel_rfl) (by kernel_rfl) (by kernel_rfl) (fun _ _ _ h => h) (Or.inl ⟨by rfl, ?hy2⟩) (by assumption) ?_
        case hy2 => (intro w hSw; (try dsimp only at hSw); go_simp <;> with_reducible rfl)
        try simp only [Act.put, List.setIfInBounds_toArray, List.set_cons_zero, List.set_cons_succ]
        refine wpAnyH_take (i := 3) (v := ?v3) (arr_at rfl) (by kernel_rfl) (by kernel_rfl) (by kernel_rfl) (fun _ _ _ h => h) (Or.inl ⟨by rfl, ?hy3⟩) (by assumption) ?_
        case hy3 => (intro w hSw; (try dsimp only at hSw); go_simp <;> with_reducible rfl)
        try simp only [Act.put, List.setIfInBounds_toArray, List.set_cons_zero, List.set_cons_succ]
        refine wpAnyH_take (i := 4) (v := ?v4) (arr_at rfl) (by kernel_rfl) (by kernel_rfl) (by kernel_rfl) (fun _ _ _ h => h) (Or.inl ⟨by rfl, ?hy4⟩) (by assumption) ?_
        case hy4 => (intro w hSw; (try dsimp only at hSw); go_simp <;> with_reducible rfl)
        try simp only [Act.put, List.setIfInBounds_toArray, List.set_cons_zero, List.set_cons_succ]
        refine wpAnyH_ready (rs := [0]) (by kernel_rfl) (by simp) ?_
        refine AllReadyH.cons (arr_at rfl) (fun K hK => ?_) ?_
        · go_simp
          refine hK.out _ _ ?_ (fun hHeld => ?_)
          · exact HSC.out _ (Kg.drew _ _)
          clear hK K
          try simp only [Act.put, List.setIfInBounds_toArray, List.set_cons_zero, List.set_cons_succ]
          refine wpAnyH_ready (rs := [5]) (by kernel_rfl) (by simp) ?_
          refine AllReadyH.cons (arr_at rfl) (fun K hK => ?_) ?_
          · go_simp; refine HRD.out.mono ?_; rintro rr w7 ⟨ta', rfl, hok, hno, hb7⟩; have HOK := Lib.hid hok; have HNO := Lib.hid hno; have HB7 : Hid (Below w6.heap.size w6 w7) := below_step (Bw.drew w6) hb7; have HK7 : Hid (Kg w6 (some w3.heap.size) w7) := (Kg.drew _ _).call hb7; have HBX := Lib.hid ((HB7.out.block _ (Array.getElem?_eq_some_iff.1 HJ.out.box).1).trans HJ.out.box); obtain ⟨z0, z1, zf0, zf1⟩ := sesBlock HBX.out; obtain ⟨za, zl, zc, rfl⟩ : ∃ za zl zc, ta' = .slice za zl zc := Classical.byCases (p := doE fs D (kd, (q1, q2, q3, q4, q5), av) = 0) (fun h => match hok h with | ⟨a, c, e, _⟩ => ⟨_, _, _, e⟩) (fun h => ⟨_, _, _, hno h⟩); rw [HX.out]; clear hb7 hok hno
            refine hK.out _ _ ?_ (fun hHeld => ?_)
            · exact HSC.out _ HK7.out
            clear hK K
            try simp only [Act.put, List.setIfInBounds_toArray, List.set_cons_zero, List.set_cons_succ]
            refine wpAnyH_take (i := 6) (v := ?v5) (arr_at rfl) (by kernel_rfl) (by kernel_rfl) (by kernel_rfl) (fun _ _ _ h => h) (Or.inl ⟨by rfl, ?hy5⟩) (by assumption) ?_
            case hy5 => (intro w hSw; (try dsimp only at hSw); go_simp <;> with_reducible rfl)
            try simp only [Act.put, List.setIfInBounds_toArray, List.set_cons_zero, List.set_cons_succ]
            refine wpAnyH_take (i := 7) (v := ?v6) (arr_at rfl) (by kernel_rfl) (by kernel_rfl) (by kernel_rfl) (fun _ _ _ h => h) (Or.inl ⟨by rfl, ?hy6⟩) (by assumption) ?_
            case hy6 => (intro w hSw; (try dsimp only at hSw); go_simp <;> with_reducible rfl)
            try simp only [Act.put, List.setIfInBounds_toArray, List.set_cons_zero, List.set_cons_succ]
            refine wpAnyH_take (i := 8) (v := ?v7) (arr_at rfl) (by kernel_rfl) (by kernel_rfl) (by kernel_rfl) (fun _ _ _ h => h) (Or.inl ⟨by rfl, ?hy7⟩) (by assumption) ?_
            case hy7 => (intro w hSw; (try dsimp only at hSw); go_simp <;> with_reducible rfl)
            try simp only [Act.put, List.setIfInBounds_toArray, List.set_cons_zero, List.set_cons_succ]
            refine wpAnyH_ready (rs := [9]) (by kernel_rfl) (by simp) ?_
            refine AllReadyH.cons (arr_at rfl) (fun K hK => ?_) ?_
            · go_simp
              refine hK.out _ _ ?_ (fun hHeld => ?_)
              · exact HSC.out _ ((HK7.out.setCell _ _).setCell _ _)
              clear hK K
              try simp only [Act.put, List.setIfInBounds_toArray, List.set_cons_zero, List.set_cons_succ]
              refine wpAnyH_take (i := 10) (v := ?v8) (arr_at rfl) (by kernel_rfl) (by kernel_rfl) (by kernel_rfl) (fun _ _ _ h => h) (Or.inl ⟨by rfl, ?hy8⟩) (by assumption) ?_
              case hy8 => (intro w hSw; (try dsimp only at hSw); go_simp <;> with_reducible rfl)
              try simp only [Act.put, List.setIfInBounds_toArray, List.set_cons_zero, List.set_cons_succ]
              refine wpAnyH_done (by kernel_rfl) ?_ _
              refine NoPanic.normal ?_
              refine exit_named (Q := Exit.then _ _) fun W8 hW8 => ?_
              have hk8 : Kg w6 (some w3.heap.size) W8 := by rw [hW8]; exact (HK7.out.setCell _ _).setCell _ _
              have hx8 : W8.heap[w3.heap.size]? = some (.cells #[.slice oa nf oc, .slice za zl zc] 31 (0, 0)) := by rw [hW8]; exact set_two HBX.out
              have hl9 : w3.heap.size < w6.heap.size := (Array.getElem?_eq_some_iff.1 HJ.out.box).1
              have hp6 : p < w6.heap.size := (Array.getElem?_eq_some_iff.1 HJ.out.ses.cells).1
              have hs8 : Same w6.heap.size w7.heap.size w7 W8 := fun b b1 b2 => by rw [hW8]; exact (Below.heap_setCell _ ⟨w3.heap.size, 1, none⟩ _ b (by dsimp only; omega)).trans (Below.heap_setCell _ ⟨w3.heap.size, 0, none⟩ _ b (by dsimp only; omega))
              have hz8 : w7.heap.size ≤ W8.heap.size := by rw [hW8]; simp [World.setCell]
              have hr8 : ActsIn W8 (.slice za zl zc) (doA fs D (kd, (q1, q2, q3, q4, q5), av)) (fun b => b < W1.heap.size ∨ b = p ∨ b = w3.heap.size ∨ va'.ownBlock = some b) := by
                by_cases h : doE fs D (kd, (q1, q2, q3, q4, q5), av) = 0
                · refine ActsIn.of_at ((HOK.out h).move hs8) hz8 (by unfold doA; rw [if_pos h]; simp) (fun b b1 b2 hP => ?_)
                  have hb6 : w6.heap.size ≤ b := b1
                  have h1 := HJ.out.bel.size
                  rcases hP with e | e | e | e
                  · omega
                  · omega
                  · omega
                  · have := (HJ.out.ses.acts.lt b e).2; omega
                · have e1 : doA fs D (kd, (q1, q2, q3, q4, q5), av) = D := if_neg h
                  rw [e1, HNO.out h]
                  exact HJ.out.ref.move hk8.size (fun b hP hb => hk8.block b hb (fun e => hP (by injection e with e; exact .inr (.inr (.inl e))))) (fun b _ => id)
              have HM8 := Lib.hid (HM5.out.next HJ.out hk8 hx8 HS56.out hr8)
              clear hW8 hk8 hx8 hl9 hp6 hs8 hz8 hr8 z0 z1 zf0 zf1 t0 t1 tf0 tf1
              go_wp2
              go_roundw
              case rel => exact ⟨k + 1, _, _, by omega, by go_num, by rw [HST.out]; exact HM8.out⟩
              case measure => simp [intOf]; omega
            exact AllReadyH.nil
          exact AllReadyH.nil
        exact AllReadyH.nil
      · obtain rfl : n = k := by omega
        have htake : acts.take n = acts := by rw [← HNA.out, List.take_length]
        rw [htake] at HM
        have hR := (HM.out.bel.block _ y0).trans HR1.out
        have HRR := Lib.hid hR
        obtain ⟨r0, r1, rf0, rf1⟩ := sesBlock hR
        obtain ⟨t0, t1, tf0, tf1⟩ := sesBlock HM.out.box
        clear hR htake
        go_wp2
        go_region
        refine exit_named (Q := Exit.then _ _) fun W5 hW5 => ?_
        have hk5 : Kg wr (some w.heap.size) W5 := by rw [hW5]; exact ((Kg.drew wr _).setCell _ _).setCell _ _
        have hR5 : W5.heap[w.heap.size]? = some (.cells #[.slice oa nf oc, .slice ya (doneL fs acts).length yc] 31 (0, 0)) := by rw [hW5]; exact set_two HRR.out
        obtain ⟨x0, x1, xf0, xf1⟩ := sesBlock hR5
        have HRES := Lib.hid (HM.out.res y0 HB1.out hk5 HE0.out)
        clear hW5 hk5 hR5 r0 r1 rf0 rf1 t0 t1 tf0 tf1
        go_wp2
        (try simp only [Exit.inBlock, Exit.then]); refine bodyPost_ret (by simp [results, Tryd.results9, go_sem, *]; try rfl) rfl ?_
        exact HRES.out
end Go.Proofs.YtpcefaccoifejaaDoor
