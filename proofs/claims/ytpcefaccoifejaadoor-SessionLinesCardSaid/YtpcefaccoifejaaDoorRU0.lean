/-
  A session and one of the reference, step by step: what holds between the steps of custoslaw13.SessionRuns; custoskit.Pick, custosref13.Undo and Session.Copy. Conditions: both lie in memory as the words say.
-/
import Derived.Test.YtpcefaccoifejaaDoorM1
namespace Go.Proofs.YtpcefaccoifejaaDoor
open Go.RowKit
set_option linter.unusedSimpArgs false
set_option linter.unusedVariables false
set_option maxRecDepth 100000

/-- what holds at the head of the loop: the session at p, the reference's in block b9, both from block B on -/
structure MkR (B : Nat) (w wr : World) (p m flo fhi tlo thi b9 : Nat) (va vf tf ta : Value) (fs : List Ft) (done : List Ac) : Prop where
  ses : SesAt wr B p m flo fhi va vf fs done
  box : wr.heap[b9]? = some (.cells #[tf, ta] 31 (0, 0))
  ref : ActsIn wr ta done (fun b => b < B ∨ b = p ∨ b = b9 ∨ va.ownBlock = some b)
  tfs : FeatsAt wr tlo thi tf fs
  own : ∀ g, va.ownBlock = some g → ¬ (tlo ≤ g ∧ g < thi) ∧ g ≠ b9
  bp : b9 ≠ p
  bm : b9 ≠ m
  bf : ¬ (flo ≤ b9 ∧ b9 < fhi)
  bt : ¬ (tlo ≤ b9 ∧ b9 < thi)
  pt : ¬ (tlo ≤ p ∧ p < thi)
  th : thi ≤ wr.heap.size
  lo : B ≤ b9
  lt : B ≤ tlo
  bel : Below B w wr
  le : B ≤ wr.heap.size
section
variable {B : Nat} {w wr w1 : World} {p m flo fhi tlo thi b9 : Nat} {va va' vf tf ta ta' : Value} {fs : List Ft} {done done' : List Ac}
theorem MkR.lt9 (h : MkR B w wr p m flo fhi tlo thi b9 va vf tf ta fs done) : b9 < wr.heap.size := (Array.getElem?_eq_some_iff.1 h.box).1
theorem MkR.ltp (h : MkR B w wr p m flo fhi tlo thi b9 va vf tf ta fs done) : p < wr.heap.size := (Array.getElem?_eq_some_iff.1 h.ses.cells).1
theorem MkR.ownlo (h : MkR B w wr p m flo fhi tlo thi b9 va vf tf ta fs done) : ∀ g, va.ownBlock = some g → B ≤ g ∧ g < wr.heap.size := fun g hg => h.ses.acts.lt g hg
theorem MkR.below (h : MkR B w wr p m flo fhi tlo thi b9 va vf tf ta fs done) (hb : Below wr.heap.size wr w1) : MkR B w w1 p m flo fhi tlo thi b9 va vf tf ta fs done :=
  ⟨h.ses.below hb, (hb.block _ h.lt9).trans h.box, h.ref.move hb.size (fun b _ hl => hb.block b hl) (fun b _ => id), h.tfs.move (Same.of_below (hb.mono h.th)), h.own, h.bp, h.bm, h.bf, h.bt, h.pt, Nat.le_trans h.th hb.size, h.lo, h.lt, h.bel.trans (hb.mono h.le), Nat.le_trans h.le hb.size⟩
/-- after the session's step: the reference's is not done yet -/
structure MkT (B : Nat) (w wr : World) (p m flo fhi tlo thi b9 : Nat) (va vf tf ta : Value) (fs : List Ft) (done done' : List Ac) : Prop where
  ses : SesAt wr B p m flo fhi va vf fs done'
  box : wr.heap[b9]? = some (.cells #[tf, ta] 31 (0, 0))
  ref : ActsIn wr ta done (fun b => b < B ∨ b = p ∨ b = b9 ∨ va.ownBlock = some b)
  tfs : FeatsAt wr tlo thi tf fs
  own : ∀ g, va.ownBlock = some g → ¬ (tlo ≤ g ∧ g < thi) ∧ g ≠ b9
  th : thi ≤ wr.heap.size
  bel : Below B w wr
  le : B ≤ wr.heap.size
theorem MkT.below (h : MkT B w wr p m flo fhi tlo thi b9 va vf tf ta fs done done') (hb : Below wr.heap.size wr w1) : MkT B w w1 p m flo fhi tlo thi b9 va vf tf ta fs done done' :=
  ⟨h.ses.below hb, (hb.block _ (Array.getElem?_eq_some_iff.1 h.box).1).trans h.box, h.ref.move hb.size (fun b _ hl => hb.block b hl) (fun b _ => id), h.tfs.move (Same.of_below (hb.mono h.th)), h.own, Nat.le_trans h.th hb.size, h.bel.trans (hb.mono h.le), Nat.le_trans h.le hb.size⟩
theorem MkR.turn (h : MkR B w wr p m flo fhi tlo thi b9 va vf tf ta fs done) (hs : SesAt w1 B p m flo fhi va' vf fs done') (ht : Turn wr w1 p va va') : MkT B w w1 p m flo fhi tlo thi b9 va' vf tf ta fs done done' := by
  have hl := h.lt9
  have hth := h.th
  have hp : p < wr.heap.size := h.ltp
  refine ⟨hs, (ht.block _ hl h.bp (fun e => (h.own _ e.symm).2 rfl)).trans h.box, h.ref.move ht.size (fun b hP hb => ht.block b hb (fun e => hP (.inr (.inl e))) (fun e => hP (.inr (.inr (.inr e.symm))))) (fun b hb hP => ?_), h.tfs.move (fun b h1 h2 => ht.block b (by omega) (fun e => h.pt (e ▸ ⟨h1, h2⟩)) (fun e => (h.own b e.symm).1 ⟨h1, h2⟩)), fun g hg => ?_, Nat.le_trans hth ht.size, h.bel.trans (ht.below h.le h.ses.lp (fun g hg => (h.ownlo g hg).1)), Nat.le_trans h.le ht.size⟩
  · rcases hP with e | e | e | e
    · exact .inl e
    · exact .inr (.inl e)
    · exact .inr (.inr (.inl e))
    · rcases ht.new b e with e2 | e2
      · exact .inr (.inr (.inr e2))
      · omega
  · rcases ht.new g hg with e | e
    · exact h.own g e
    · exact ⟨by omega, by omega⟩
theorem MkR.next {w2 : World} (h : MkR B w wr p m flo fhi tlo thi b9 va vf tf ta fs done) (j : MkT B w w1 p m flo fhi tlo thi b9 va' vf tf ta fs done done') (hk : Kg w1 (some b9) w2)
    (hbox : w2.heap[b9]? = some (.cells #[tf, ta'] 31 (0, 0)))
    (hr : ActsIn w2 ta' done' (fun b => b < B ∨ b = p ∨ b = b9 ∨ va'.ownBlock = some b)) : MkR B w w2 p m flo fhi tlo thi b9 va' vf tf ta' fs done' := by
  refine ⟨j.ses.grown hk h.bp h.bm h.bf (fun e => (j.own _ e).2 rfl), hbox, hr, j.tfs.move (fun b h1 h2 => hk.block b (by have := j.th; omega) (fun e => ?_)), j.own, h.bp, h.bm, h.bf, h.bt, h.pt, Nat.le_trans j.th hk.size, h.lo, h.lt, j.bel.grown hk j.le (fun k e => by injection e with e; subst e; exact h.lo), Nat.le_trans j.le hk.size⟩
  injection e with e
  exact h.bt (e ▸ ⟨h1, h2⟩)
/-- a copy goes on in place of the session, and the old one is changed -/
theorem MkR.copied {w2 w3 : World} {p2 m2 flo2 fhi2 : Nat} {va2 vf2 : Value} (h : MkR B w wr p m flo fhi tlo thi b9 va vf tf ta fs done) (hs : SesAt w2 wr.heap.size p2 m2 flo2 fhi2 va2 vf2 fs done) (hb : Below wr.heap.size wr w2) (ht : Turn w2 w3 p va va') :
    MkR B w w3 p2 m2 flo2 fhi2 tlo thi b9 va2 vf2 tf ta fs done := by
  have h2 := h.below hb
  have hlp := h.ltp
  have h9 := h.lt9
  have hth := h.th
  have hlB := h.le
  have q1 := hs.lp
  have q2 := hs.lm
  have q3 := hs.lf
  have hp2 : p2 < w2.heap.size := (Array.getElem?_eq_some_iff.1 hs.cells).1
  have hk : ∀ b, wr.heap.size ≤ b → b < w2.heap.size → w3.heap[b]? = w2.heap[b]? := fun b b1 b2 => ht.block b b2 (by omega) (fun e => by have := (h.ownlo b e.symm).2; omega)
  have hs3 : SesAt w3 wr.heap.size p2 m2 flo2 fhi2 va2 vf2 fs done := hs.kept (Bs := p2) (fun b hb' => hk b (by
    rcases hb' with rfl | rfl | ⟨b1, _⟩ | b1 | rfl
    · exact q1
    · exact q2
    · omega
    · exact (hs.acts.lt b b1).1
    · exact q1) (hs.lt hp2 hb')) ht.size
  have ho2 : ∀ g, va2.ownBlock = some g → wr.heap.size ≤ g := fun g hg => (hs.acts.lt g hg).1
  refine ⟨hs3.low hlB, (ht.block _ (Nat.lt_of_lt_of_le h9 hb.size) h.bp (fun e => (h.own _ e.symm).2 rfl)).trans h2.box, ?_, h2.tfs.move (fun b b1 b2 => ht.block b (by have := hb.size; omega) (fun e => h.pt (e ▸ ⟨b1, b2⟩)) (fun e => (h.own b e.symm).1 ⟨b1, b2⟩)), fun g hg => ?_, by omega, by omega, by omega, h.bt, by omega, Nat.le_trans h2.th ht.size, h.lo, h.lt, h2.bel.trans (ht.below h2.le h.ses.lp (fun g hg => (h.ownlo g hg).1)), Nat.le_trans h2.le ht.size⟩
  · refine (h.ref.move (w' := w3) (P' := fun b => b < B ∨ b = p2 ∨ b = b9 ∨ va2.ownBlock = some b) (Nat.le_trans hb.size ht.size) (fun b hP hl => ?_) (fun b hl hP => ?_))
    · exact (ht.block b (Nat.lt_of_lt_of_le hl hb.size) (fun e => hP (.inr (.inl e))) (fun e => hP (.inr (.inr (.inr e.symm))))).trans (hb.block b hl)
    · rcases hP with e | e | e | e
      · exact .inl e
      · omega
      · exact .inr (.inr (.inl e))
      · have := ho2 b e; omega
  · have := ho2 g hg
    exact ⟨by omega, by omega⟩
end
theorem ActsIn.drop {w : World} {a : Option Addr} {cap : Nat} {acts : List Ac} {P : Nat → Prop} (h : ActsIn w (.slice a acts.length cap) acts P) : ActsIn w (.slice a (acts.length - 1) cap) acts.dropLast P := by
  rcases h with ⟨rfl, e⟩ | ⟨b, ⟨a', cap', e, hz, hr⟩, h2, h3⟩
  · exact .inl ⟨rfl, e⟩
  · simp only [Value.slice.injEq, true_and] at e
    obtain ⟨rfl, rfl⟩ := e
    have el : acts.dropLast.length = acts.length - 1 := List.length_dropLast
    refine .inr ⟨b, ⟨a, cap, by rw [el], hz, fun hn => ?_⟩, h2, h3⟩
    obtain ⟨b2, off, e2, g1, g2, g3⟩ := hr (by omega)
    refine ⟨b2, off, e2, g1, g2, fun i hi j u hu => g3 i (by omega) j u ?_⟩
    have e3 : acAt acts.dropLast i = acAt acts i := by
      rw [acAt_get hi, acAt_get (by omega), List.getElem_dropLast]
    dsimp only at hu ⊢
    rwa [e3] at hu
def pickL (x : Int) : Int := if Int.tmod x 3 < 0 then Int.tmod x 3 + 3 else Int.tmod x 3
theorem pickL_in (x : Int) : pickL x = 0 ∨ pickL x = 1 ∨ pickL x = 2 := by
  unfold pickL
  have h1 := Int.tmod_lt_of_pos x (show (0 : Int) < 3 by omega)
  have h2 : -3 < Int.tmod x 3 := by
    have := Int.lt_tmod_of_pos x (show (0 : Int) < 3 by omega)
    omega
  split <;> omega
theorem Pick_c (x : Int) (w : World) (hx : i64B x) : Calls Tryd.prog 18 #[.int .i64 x, .int .i64 3] w fun e w' => e = .returned (.int .i64 (pickL x)) ∧ Below w.heap.size w w' := by
  have h1 := Int.tmod_lt_of_pos x (show (0 : Int) < 3 by omega)
  have h2 : -3 < Int.tmod x 3 := by
    have := Int.lt_tmod_of_pos x (show (0 : Int) < 3 by omega)
    omega
  by_cases h : Int.tmod x 3 < 0
  · have hp : pickL x = Int.tmod x 3 + 3 := if_pos h
    rw [hp]
    go_enter Tryd.func18, Tryd.ntmps18
    go_wp2
    go_ret
    exact ⟨rfl, Below.refl _ _⟩
  · have hp : pickL x = Int.tmod x 3 := if_neg h
    rw [hp]
    go_enter Tryd.func18, Tryd.ntmps18
    go_wp2
    go_ret
    exact ⟨rfl, Below.refl _ _⟩
theorem rUndo_c (x : Option Addr) (y z : Nat) (a : Option Addr) (n cap : Nat) (w : World) (hn : n ≤ 100000) (hc : n ≤ cap) (ha : 0 < n → ∃ b off, a = some ⟨b, off, none⟩) :
    Calls Tryd.prog 23 #[.agg #[.slice x y z, .slice a n cap]] w fun e w' => e = .returned (.tuple #[.agg #[.slice x y z, .slice a (n - 1) cap], .int .i64 (if n = 0 then 6 else 0)]) ∧ Below w.heap.size w w' := by
  rcases Nat.eq_zero_or_pos n with rfl | hp
  · clear ha
    go_enter Tryd.func23, Tryd.ntmps23
    go_wp2
    (try simp only [Exit.inBlock, Exit.then]); refine bodyPost_ret (by simp [results, Tryd.results23, go_sem, *]; try rfl) rfl ?_
    exact ⟨rfl, by go_grown⟩
  · obtain ⟨b, off, rfl⟩ := ha hp
    have i0 : (0 : Int) ≤ (n : Int) - 1 := by omega
    have i1 : (n : Int) - 1 ≤ (cap : Int) := by omega
    have i2 : (n : Int) ≤ 100000 := by omega
    have i3 : ¬ ((n : Int) = 0) := by omega
    have hnn : ((n : Int) - 1).toNat = n - 1 := by omega
    have hn0 : ¬ n = 0 := by omega
    rw [if_neg hn0]
    clear hn0
    go_enter Tryd.func23, Tryd.ntmps23
    go_wp2
    (try simp only [Exit.inBlock, Exit.then]); refine bodyPost_ret (by simp [results, Tryd.results23, go_sem, *]; try rfl) rfl ?_
    exact ⟨rfl, by go_grown⟩
set_option maxHeartbeats 2000000 in
theorem Copy_c (lo p m flo fhi : Nat) (va vf : Value) (fs : List Ft) (acts : List Ac) (w : World) (h : SesAt w lo p m flo fhi va vf fs acts) (h0 : newE fs = 0) (hw : wfFs fs) (hn : acts.length ≤ 100000) :
    Calls Tryd.prog 24 #[.pointer (some ⟨p, 0, none⟩)] w fun e w' => (∃ p2 m2 flo2 fhi2 va2 vf2, e = .returned (.pointer (some ⟨p2, 0, none⟩)) ∧ SesAt w' w.heap.size p2 m2 flo2 fhi2 va2 vf2 fs acts) ∧ Below w.heap.size w w' := by
  have hl := (good_of_newE h0).len
  have HN := Lib.hid fun W (hb : Below w.heap.size w W) => none_c lo p m flo fhi va vf fs acts W (h.below hb)
  have HS := Lib.hid h
  have c1 : w.cell? ⟨p, 1, none⟩ = some vf := by rw [cell_of_row _ _ _ _ _ _ h.cells]; rfl
  have HNEW := Lib.hid (New_c vf fs flo fhi w h.feats h.hf hw (by omega))
  obtain ⟨fa, fc, hvf⟩ : ∃ fa fc, vf = .slice fa fs.length fc := by
    obtain ⟨a, c, vs, e, -⟩ := h.feats
    exact ⟨a, c, e⟩
  subst hvf
  have HE := Lib.hid h0
  clear h h0
  go_enter Tryd.func24, Tryd.ntmps24
  go_wp2_with fail
  refine (HN.out _ (Below.refl _ _)).mono ?_
  rintro rr w1 ⟨rfl, rfl⟩
  go_wp2_with fail
  refine HNEW.out.mono ?_
  rintro rr w2 ⟨hb2, hres⟩
  obtain ⟨p2, m2, flo2, fhi2, vf2, rfl, hs2⟩ : ∃ p2 m2 flo2 fhi2 vf2, rr = .returned (.tuple #[.pointer (some ⟨p2, 0, none⟩), .int .i64 0]) ∧ SesAt w2 w.heap.size p2 m2 flo2 fhi2 (.slice none 0 0) vf2 fs [] := by
    rcases hres with h | ⟨_, h⟩
    · exact absurd HE.out h.1
    · exact h
  have hc2 := (HS.out.below hb2).cells
  have d0 : w2.cell? ⟨p, 0, none⟩ = some va := by rw [cell_of_row _ _ _ _ _ _ hc2]; rfl
  have HCL := Lib.hid (CloneA_c va acts lo w2.heap.size w2 (acts_of_own (HS.out.below hb2).acts) (by omega))
  obtain ⟨pa, pc, hva⟩ := own_shape HS.out.acts
  subst hva
  have HB2 := Lib.hid hb2
  have HS2 := Lib.hid hs2
  clear hb2 hres hs2 hc2 c1
  go_wp2_with fail
  refine HCL.out.mono ?_
  rintro rr w3 ⟨va3, rfl, ho3, hb3⟩
  obtain ⟨pb, pd, rfl⟩ := own_shape ho3
  have hs3 := HS2.out.below hb3
  have e0 : w3.cell? ⟨p2, 0, none⟩ = some (.slice none 0 0) := by rw [cell_of_row _ _ _ _ _ _ hs3.cells]; rfl
  have ef : w3.frozen? ⟨p2, 0, none⟩ = false := frozen_of_row w3 p2 0 _ _ hs3.cells
  have HS3 := Lib.hid hs3
  have HO3 := Lib.hid ho3
  have HB3 : Hid (Below w.heap.size w w3) := below_step HB2.out hb3
  have HZ := Lib.hid HB2.out.size
  have hp2 : p2 < w2.heap.size := (Array.getElem?_eq_some_iff.1 HS2.out.cells).1
  have HP2 := Lib.hid hp2
  clear hb3 hs3 ho3 d0 hp2
  go_wp2
  go_ret
  have h3 := HS3.out
  have q1 := HP2.out
  have q2 := h3.lp
  have q3 := HZ.out
  have hk : ∀ b, b ≠ p2 → (w3.setCell ⟨p2, 0, none⟩ (.slice pb acts.length pd)).heap[b]? = w3.heap[b]? := fun b hb => Below.heap_setCell w3 ⟨p2, 0, none⟩ _ b hb
  have hsz : (w3.setCell ⟨p2, 0, none⟩ (.slice pb acts.length pd)).heap.size = w3.heap.size := by simp [World.setCell]
  have ho := HO3.out
  have hof := h3.hf
  have hob : ∀ g, (Value.slice pb acts.length pd).ownBlock = some g → w2.heap.size ≤ g ∧ g < w3.heap.size := fun g hg => ho.lt g hg
  have hf2 := HS2.out.hf
  refine ⟨⟨p2, m2, flo2, fhi2, .slice pb acts.length pd, vf2, rfl, ⟨heap_setCell_same w3 p2 0 _ _ _ h3.cells, ?_, h3.feats.move (fun b b1 b2 => hk b (fun e => h3.pf (e ▸ ⟨b1, b2⟩))), h3.map.move (hk m2 (h3.p_ne.2.1)), h3.pf, h3.mf, fun g hg => ?_, h3.lp, h3.lm, h3.lf, by rw [hsz]; exact hof⟩⟩, HB3.out.setCell (p := ⟨p2, 0, none⟩) q2 _⟩
  · refine ⟨ho.1, ho.2.imp id fun ⟨g, cap, cur, e1, e2, e3, r⟩ => ⟨g, cap, cur, e1, Nat.le_trans q3 e2, (hk g (fun e => ?_)).trans e3, r⟩⟩
    have := (hob g (by rw [e1]; rfl)).1
    omega
  · have := (hob g hg).1
    omega
end Go.Proofs.YtpcefaccoifejaaDoor
