/-
  The contract of the method Features of a session. Conditions: the session lies in memory as K8 says; its features are good; its acts were done on them.
-/
import Derived.Test.YtpcefaccoifejaaGreatDoorRR
import Derived.Test.YtpcefaccoifejaaGreatDoorSetL
namespace Go.Proofs.YtpcefaccoifejaaGreatDoor
open Go.RowKit Go.Maps
set_option linter.unusedSimpArgs false
set_option linter.unusedVariables false
set_option maxRecDepth 100000
attribute [local go_sem] Oper.semAt_some

theorem settled_c (p : Nat) (w : World) : Calls Tryz.prog 46 #[.pointer (some ⟨p, 0, none⟩)] w fun e w' => e = .returned (.func (.func 69) #[] #[.pointer (some ⟨w.heap.size, 0, none⟩)]) ∧ w' = w.alloc (.cells #[.pointer (some ⟨p, 0, none⟩)] 48) := by
  go_enter Tryz.func46, Tryz.ntmps46
  go_wp2
  go_ret
  exact ⟨rfl, rfl⟩
theorem wpIn_named {F : Fence} {n : Nat} {P : Program} {c : Code} {Q : Exit → Act → World → Prop} {a : Act} {w : World} (h : ∀ W, W = w → c.wpIn F n P Q a W) : c.wpIn F n P Q a w := h w rfl
/-- what is owned is cells: a turn of a block that is none leaves it -/
theorem own_turn {A B : World} {row : Option Nat} {lo k n : Nat} {e : TypeId} {v : Value} {ks : List Value} (h : A.ownsRow lo e k v n ks) (hg : A.grownBy B row) (hr : ∀ r, row = some r → ∃ o : Obj, A.heap[r]? = some o ∧ o.isCells = false) : B.ownsRow lo e k v n ks := by
  refine h.kept hg ?_
  rcases h.2 with ⟨rfl, _⟩ | ⟨g, cap, cur, rfl, -, hgg, -⟩
  · exact .inl rfl
  · refine .inr fun x => ?_
    obtain ⟨o, ho, hc⟩ := hr g x.symm
    rw [hgg] at ho
    injection ho with ho
    subst ho
    cases hc
theorem OwnFeats.turn {A B : World} {row : Option Nat} {lo : Nat} {v : Value} {fs : List Ft} (h : OwnFeats A lo v fs) (hg : A.grownBy B row) (hr : ∀ r, row = some r → ∃ o : Obj, A.heap[r]? = some o ∧ o.isCells = false) : OwnFeats B lo v fs := by
  obtain ⟨vs, h1, h2, h3⟩ := h
  exact ⟨vs, h1, own_turn h2 hg hr, fun i hi => own_turn (h3 i hi) hg hr⟩
/-- between two rounds -/
structure FtI (w W4 : World) (lo p m flo fhi B1 Bo Bs : Nat) (va vf vo : Value) (fs : List Ft) (acts : List Ac) (pre : List (SetI fs acts)) (W : World) : Prop where
  ses : SesAt W lo p m flo fhi va vf fs acts
  b1 : W.heap[B1]? = some (.cells #[.pointer (some ⟨p, 0, none⟩)] 48 (0, 0))
  bo : W.heap[Bo]? = some (.cells #[vo] 38 (0, 0))
  bs : W.heap[Bs]? = some (.cells #[.pointer (some ⟨p, 0, none⟩)] 48 (0, 0))
  own : OwnFeats W (w.heap.size + 1) vo (setL fs acts pre)
  below : Below w.heap.size w W
  size : W4.heap.size ≤ W.heap.size
theorem Kg.refl (W : World) (row : Option Nat) : Kg W row W := ⟨rfl, rfl, rfl, Nat.le_refl _, fun _ _ _ => rfl⟩
theorem Kg.d {W w' : World} {row : Option Nat} (h : Kg W row w') : Kg W row w'.drew := ⟨h.os, h.tape, h.output, h.size, h.block⟩
theorem Kg.setg {W w' : World} {g : Nat} (h : Kg W (some g) w') (o : Nat) (u : Value) : Kg W (some g) (w'.setCell ⟨g, o, none⟩ u) :=
  ⟨h.os, h.tape, h.output, by simpa [World.setCell] using h.size, fun i hi hn => (Below.heap_setCell w' ⟨g, o, none⟩ u i (fun e => hn (by rw [e]))).trans (h.block i hi hn)⟩
set_option maxHeartbeats 4000000 in
theorem Features_c (lo p m flo fhi : Nat) (va vf : Value) (fs : List Ft) (acts : List Ac) (w : World) (h : SesAt w lo p m flo fhi va vf fs acts) (hg : Good fs) (ha : Acted fs acts) (hw : wfFs fs) (hwa : wfAs acts) :
    Calls Tryz.prog 23 #[.pointer (some ⟨p, 0, none⟩)] w fun e w' => (∃ v', e = .returned (.tuple #[v', .int .i64 0]) ∧ OwnFeats w' w.heap.size v' (feats fs acts)) ∧ Below w.heap.size w w' := by
  have HN := Lib.hid fun W (hb : Below w.heap.size w W) => none_c lo p m flo fhi va vf fs acts W (h.below hb)
  have HC := Lib.hid fun W (hb : Below w.heap.size w W) => copied_c vf fs flo fhi W ((h.below hb).feats) (Nat.le_trans h.hf hb.size) hg.len hw
  obtain ⟨fa, fc, vs, hvf, -, hrow, hopt⟩ := h.feats
  subst hvf
  have c1 : w.cell? ⟨p, 1, none⟩ = some (.slice fa fs.length fc) := by rw [cell_of_row _ _ _ _ _ _ h.cells]; rfl
  have hp : p < w.heap.size := (Array.getElem?_eq_some_iff.1 h.cells).1
  have HS := Lib.hid h
  have HROW := Lib.hid hrow
  have HOPT := Lib.hid hopt
  clear h hrow hopt
  refine (callsIn_wide (n := 6)).1 ?_
  refine callsIn_of_wp_marks Tryz.func23 rfl trivial ?_ rfl
  simp only [Tryz.ntmps23, List.size_toArray, List.length_cons, List.length_nil, Nat.reduceAdd, Nat.reduceSub, Array.replicate_succ, Array.replicate_zero, List.push_toArray, List.append_toArray, List.nil_append, List.cons_append]
  gi_wp2_with fail
  refine ⟨trivial, ?_⟩
  refine (callsIn_wide.2 (HN.out _ (by go_grown))).mono ?_
  rintro e w1 ⟨rfl, rfl⟩
  gi_wp2_with fail
  refine ⟨trivial, ?_⟩
  refine (callsIn_wide.2 (HC.out _ (by go_grown))).mono ?_
  rintro e w2 ⟨vo, rfl, hof, hb2⟩
  obtain ⟨oa, oc, rfl⟩ : ∃ oa oc, vo = .slice oa fs.length oc := by
    obtain ⟨vs, h1, h2, h3⟩ := hof
    exact own_shape h2
  have t1 : w2.cell? ⟨w.heap.size, 0, none⟩ = some (.pointer (some ⟨p, 0, none⟩)) := (hb2.cell (p := ⟨w.heap.size, 0, none⟩) (by simp)).trans (by go_simp)
  have hz2 : w.heap.size < w2.heap.size := by have := hb2.size; simp at this; omega
  gi_wp2_with fail
  refine ⟨trivial, ?_⟩
  refine (callsIn_wide.2 (settled_c p _)).mono ?_
  rintro e w3 ⟨rfl, hw3⟩
  gi_wp2
  subst hw3
  refine wpIn_named fun W4 hW4 => ?_
  have hb24 : Below w2.heap.size w2 W4 := by rw [hW4]; go_grown
  have hb14 : Below w.heap.size w W4 := by rw [hW4]; exact below_step (below_step (by go_grown) hb2) (by go_grown)
  have hz4 : W4.heap.size = w2.heap.size + 2 := by rw [hW4]; simp
  have B4 : FtI w W4 lo p m flo fhi w.heap.size w2.heap.size (w2.heap.size + 1) va (.slice fa fs.length fc) (.slice oa fs.length oc) fs acts [] W4 := by
    refine ⟨HS.out.below hb14, ?_, ?_, ?_, ?_, hb14, Nat.le_refl _⟩
    · exact (hb24.block _ hz2).trans ((hb2.block _ (by simp)).trans (heap_alloc_new _ _))
    · rw [hW4]; exact heap_alloc2_old _ _ _
    · rw [hW4]; exact heap_alloc2_new _ _ _
    · rw [setL_nil]
      have := hof.below hb24
      rwa [World.size_alloc] at this
  have HB4 := Lib.hid B4
  have hlt4 : ∀ b, SesK p m flo fhi (w2.heap.size + 1) va b → b < W4.heap.size := fun b hb => B4.ses.lt (by omega) hb
  have HSM : Same flo fhi w W4 := Same.of_below (hb14.mono HS.out.hf)
  clear hW4 hb24 hb14 B4 c1 t1 hb2 hof
  refine wpIn_rangeFunc_ownH (α := SetI fs acts) rfl (by decide) (gf := 69) (lb := #[.pointer (some ⟨w2.heap.size + 1, 0, none⟩)]) rfl trivial (enters_of Tryz.func69 (by kernel_rfl) rfl)
    (settled1_stops 5 (by decide) lo p m flo fhi (w2.heap.size + 1) va fa fc vs fs acts W4 HB4.out.ses (HROW.out.move HSM) (fun i hi => (HOPT.out i hi).move HSM) HB4.out.bs hg ha hw hwa)
    (fun h k => KpS.t h k) (fun W l o o' h1 h2 h3 h4 => KpS.b hlt4 W l o o' h1 h2 h3 h4) (Below.refl _ _) (fun _ => rfl)
    (FtI w W4 lo p m flo fhi w.heap.size w2.heap.size (w2.heap.size + 1) va (.slice fa fs.length fc) (.slice oa fs.length oc) fs acts) (fun _ _ _ => False)
    ?own (fun _ _ _ _ _ h _ _ => h) HB4.out
    (fun x a' W => ∃ Bx, W4.heap.size ≤ Bx ∧ W.heap[Bx]? = some (.cells (ftV (ftAt fs x.1).1 (vs x.1)).toArray 47 (0, 0)) ∧ a' = Act.mk #[.pointer (some ⟨p, 0, none⟩), .pointer (some ⟨w.heap.size, 0, none⟩),
          .slice none 0 0, .int .i64 0, .pointer (some ⟨w2.heap.size, 0, none⟩),
          .pointer (some ⟨Bx, 0, none⟩), .int .i64 (pres acts (ftAt fs x.1)), .pointer (some ⟨p, 0, none⟩), .bool false,
          .pointer (some ⟨p, 0, none⟩), .pointer (some ⟨p, 0, none⟩),
          .pointer (some ⟨p, 1, none⟩), .slice fa fs.length fc, .slice oa fs.length oc,
          .pointer (some ⟨p, 0, none⟩),
          .func (.func 69) #[] #[.pointer (some ⟨w2.heap.size + 1, 0, none⟩)], .agg (ftV (ftAt fs x.1).1 (vs x.1)).toArray, .int .i64 (pres acts (ftAt fs x.1)),
          undef, undef, undef, undef, undef, undef, undef, undef, undef, undef, undef, undef, undef, undef] [])
    ?ax ?assign ?body ?done ?stop
  case own =>
    rintro pre A B row ⟨g1, g2, g3, g4, g5, g6, g7⟩ hgr hr
    have hb : ∀ b, b < W4.heap.size → B.heap[b]? = A.heap[b]? := fun b hb => hgr.block b (by omega) (fun e => by have := (hr b e.symm).1; omega)
    exact ⟨g1.kept (fun b h => hb b (hlt4 b h)) hgr.size, (hb _ (by omega)).trans g2, (hb _ (by omega)).trans g3, (hb _ (by omega)).trans g4, g5.turn hgr (fun r e => (hr r e).2), g6.grown hgr (by omega) (fun k e => by have := (hr k e).1; omega), Nat.le_trans g7 hgr.size⟩
  case ax =>
    rintro x a' _ A B row ⟨Bx, h1, h2, h3⟩ hgr hr
    refine ⟨Bx, h1, (hgr.block Bx (Array.getElem?_eq_some_iff.1 h2).1 (fun e => ?_)).trans h2, h3⟩
    obtain ⟨_, o, ho, hc⟩ := hr Bx e.symm
    rw [h2] at ho
    injection ho with ho
    subst ho
    cases hc
  case assign =>
    intro l pre x W K hI hK
    obtain ⟨oo, oc2, hvo, -, -⟩ := HOPT.out x.1 x.2.1
    have HI := Lib.hid hI
    revert hK
    simp only [encS]
    rw [hvo]
    generalize pres acts (ftAt fs x.1) = PV
    generalize ftAt fs x.1 = f
    obtain ⟨⟨p1, p2, p3, p4, p5⟩, os⟩ := f
    simp only [ftV]
    intro hK
    clear hI hvo
    gi_wp2
    have hba : Below W.heap.size W (W.alloc (.cells #[.int .i64 p1, .int .i64 p2, .int .i64 p3, .int .i64 p4, .int .i64 p5, .slice oo os.length oc2] 47)) := (Below.refl _ _).alloc (Nat.le_refl _) _
    refine hK _ _ ((KeepsOthers.alloc _ _).from _) (KpS.of_below hba (fun b hb => Nat.lt_of_lt_of_le (hlt4 b hb) HI.out.size)) ?_ ⟨W.heap.size, HI.out.size, heap_alloc_new _ _, rfl⟩
    exact ⟨HI.out.ses.below hba, (hba.block _ (by have := HI.out.size; omega)).trans HI.out.b1, (hba.block _ (by have := HI.out.size; omega)).trans HI.out.bo, (hba.block _ (by have := HI.out.size; omega)).trans HI.out.bs, HI.out.own.below hba, HI.out.below.trans (hba.mono HI.out.below.size), Nat.le_trans HI.out.size hba.size⟩
  case body =>
    rintro l pre x a' W hl ⟨r, hr⟩ hI ⟨Bx, hBx, hbx, rfl⟩ hlen
    have hif := x.2.1
    have HI := Lib.hid hI
    have HXI : Hid (plOf fs x = (ftAt fs x.1).1) := rfl
    obtain ⟨i, hix⟩ : ∃ i, x.1 = i := ⟨_, rfl⟩
    have HIX := Lib.hid hix
    rw [hix] at hif hbx HXI ⊢
    clear hix
    obtain ⟨ws, hwl, hrw, hop⟩ := hI.own
    rw [setL_len] at hwl hrw
    obtain ⟨go, hoa, hgl⟩ : ∃ go, oa = some ⟨go, 0, none⟩ ∧ w.heap.size + 1 ≤ go := by
      rcases hrw.2 with ⟨_, h0⟩ | ⟨g, cap, cur, hv, hbg, -⟩
      · omega
      · simp only [Value.slice.injEq] at hv
        exact ⟨g, hv.1, hbg⟩
    subst hoa
    obtain ⟨oo, oc2, hvo, -, -⟩ := HOPT.out i hif
    have b1 : W.cell? ⟨w.heap.size, 0, none⟩ = some (.pointer (some ⟨p, 0, none⟩)) := by rw [cell_of_row _ _ _ _ _ _ hI.b1]; rfl
    have bo : W.cell? ⟨w2.heap.size, 0, none⟩ = some (.slice (some ⟨go, 0, none⟩) fs.length oc) := by rw [cell_of_row _ _ _ _ _ _ hI.bo]; rfl
    have s2 : W.cell? ⟨p, 2, none⟩ = some (.map (some m)) := by rw [cell_of_row _ _ _ _ _ _ hI.ses.cells]; rfl
    have hat : atF fs (ftAt fs i).1 = some i := by rw [ftAt_get hif]; exact atF_at hg.apart hif
    have hwp := (hw _ (ftAt_mem hif)).1
    have hlk : ∀ W', Bw W W' → (Instr.lookup 75 (.map (some m)) (plA (ftAt fs i).1) false).run Tryz.prog W' = .ok (.int .i64 (i : Int)) W' := fun W' hb => by
      have := (hI.ses.map.below hb).look (p := (ftAt fs i).1) hwp
      rw [hat] at this
      exact this
    have gc : ∃ u, W.cell? ⟨go, i * 6 + 5, none⟩ = some u := by
      rw [hrw.cellAt (i * 6 + 5) (by omega)]
      have : i * 6 + 5 < (ftFlat (setL fs acts pre) ws).length := by rw [hrw.1]; omega
      exact ⟨_, List.getElem?_eq_getElem this⟩
    have gf : W.frozen? ⟨go, i * 6 + 5, none⟩ = false := hrw.frozenAt _
    simp only [hvo] at hbx
    have HXI' : plOf fs x = (ftAt fs i).1 := HXI.out
    have HXH := Lib.hid HXI'
    clear HXI'
    generalize hpv : pres acts (ftAt fs i) = PV at *
    generalize hff : ftAt fs i = f at *
    obtain ⟨⟨p1, p2, p3, p4, p5⟩, os⟩ := f
    simp only [ftV] at hbx
    simp only [plA] at hlk
    obtain ⟨u, gc⟩ := gc
    have x0 : W.cell? ⟨Bx, 0, none⟩ = some (.int .i64 p1) := by rw [cell_of_row _ _ _ _ _ _ hbx]; rfl
    have x1 : W.cell? ⟨Bx, 1, none⟩ = some (.int .i64 p2) := by rw [cell_of_row _ _ _ _ _ _ hbx]; rfl
    have x2 : W.cell? ⟨Bx, 2, none⟩ = some (.int .i64 p3) := by rw [cell_of_row _ _ _ _ _ _ hbx]; rfl
    have x3 : W.cell? ⟨Bx, 3, none⟩ = some (.int .i64 p4) := by rw [cell_of_row _ _ _ _ _ _ hbx]; rfl
    have x4 : W.cell? ⟨Bx, 4, none⟩ = some (.int .i64 p5) := by rw [cell_of_row _ _ _ _ _ _ hbx]; rfl
    have hi0 : (0 : Int) ≤ (i : Int) := by omega
    have hi1 : (i : Int) < (fs.length : Int) := by omega
    have l1 := hlk W.drew (Bw.drew _)
    have l2 := hlk (W.alloc (.cells #[.int .i64 PV, .int .i64 0] 41)).drew (Bw.d (Bw.alloc (Bw.refl _) _))
    have y1 : w.heap.size < W.heap.size := by have := hI.size; omega
    have y2 : w2.heap.size < W.heap.size := by have := hI.size; omega
    have y3' : p < w.heap.size := hp
    have y3 : p < W.heap.size := by have := hI.size; omega
    have y4 : Bx < W.heap.size := (Array.getElem?_eq_some_iff.1 hbx).1
    have y5 : go < W.heap.size := World.block_lt_of_cell? W _ gc
    have HRW := Lib.hid hrw
    have HWL := Lib.hid hwl
    have HOP := Lib.hid hop
    have HPV := Lib.hid hpv
    have hif' := hif
    have HFF := Lib.hid hff
    clear hI hrw hwl hop hlk hat hwp hpv hff hbx hvo
    have ngB : w2.heap.size ≠ go := fun e => by
      rcases HRW.out.2 with ⟨h, _⟩ | ⟨g, cap, cur, h, -, hgg, -⟩
      · cases h
      · simp only [Value.slice.injEq, Option.some.injEq, Addr.mk.injEq, and_true, true_and] at h
        obtain ⟨rfl, rfl⟩ := h
        rw [← e, HI.out.bo] at hgg
        injection hgg with hgg
        injection hgg with _ hgg
        exact absurd hgg (by decide)
    have hgo4 : go < W4.heap.size := by
      obtain ⟨_, _, h24, _⟩ := HB4.out.own
      exact (h24.lt go rfl).2
    have ngX : Bx ≠ go := by omega
    have ngS : w2.heap.size + 1 ≠ go := fun e => by
      rcases HRW.out.2 with ⟨h, _⟩ | ⟨g, cap, cur, h, -, hgg, -⟩
      · cases h
      · simp only [Value.slice.injEq, Option.some.injEq, Addr.mk.injEq, and_true, true_and] at h
        obtain ⟨rfl, rfl⟩ := h
        rw [← e, HI.out.bs] at hgg
        injection hgg with hgg
        injection hgg with _ hgg
        exact absurd hgg (by decide)
    have HSC : Hid (∀ w' : World, Kg W (some go) w' → (w'.cell? ⟨w2.heap.size, 0, none⟩ = some (.slice (some ⟨go, 0, none⟩) fs.length oc) ∧ w'.cell? ⟨w.heap.size, 0, none⟩ = some (.pointer (some ⟨p, 0, none⟩)) ∧ w'.cell? ⟨p, 2, none⟩ = some (.map (some m)) ∧ w'.cell? ⟨Bx, 0, none⟩ = some (.int .i64 p1) ∧ w'.cell? ⟨Bx, 1, none⟩ = some (.int .i64 p2) ∧ w'.cell? ⟨Bx, 2, none⟩ = some (.int .i64 p3) ∧ w'.cell? ⟨Bx, 3, none⟩ = some (.int .i64 p4) ∧ w'.cell? ⟨Bx, 4, none⟩ = some (.int .i64 p5) ∧ Kg W (some go) w')) :=
      fun w' K => ⟨K.cell bo (fun e => ngB (Option.some.inj e)), K.cell b1 (fun e => by have := Option.some.inj e; omega), K.cell s2 (fun e => by have := Option.some.inj e; omega), K.cell x0 (fun e => ngX (Option.some.inj e)), K.cell x1 (fun e => ngX (Option.some.inj e)), K.cell x2 (fun e => ngX (Option.some.inj e)), K.cell x3 (fun e => ngX (Option.some.inj e)), K.cell x4 (fun e => ngX (Option.some.inj e)), K⟩
    have FIN : Hid (KeepsFrom W4.heap.size W ((W.setCell ⟨go, i * 6 + 5, none⟩ (.slice (some ⟨W.heap.size, 0, none⟩) 1 1)).alloc (.cells #[.int .i64 PV, .int .i64 0] 41)).drew ∧ KpS (SesK p m flo fhi (w2.heap.size + 1) va) W ((W.setCell ⟨go, i * 6 + 5, none⟩ (.slice (some ⟨W.heap.size, 0, none⟩) 1 1)).alloc (.cells #[.int .i64 PV, .int .i64 0] 41)).drew ∧
        FtI w W4 lo p m flo fhi w.heap.size w2.heap.size (w2.heap.size + 1) va (.slice fa fs.length fc) (.slice (some ⟨go, 0, none⟩) fs.length oc) fs acts (pre ++ [x]) ((W.setCell ⟨go, i * 6 + 5, none⟩ (.slice (some ⟨W.heap.size, 0, none⟩) 1 1)).alloc (.cells #[.int .i64 PV, .int .i64 0] 41)).drew) := by
      have hK : Kg W (some go) ((W.setCell ⟨go, i * 6 + 5, none⟩ (.slice (some ⟨W.heap.size, 0, none⟩) 1 1)).alloc (.cells #[.int .i64 PV, .int .i64 0] 41)).drew := Kg.d (Kg.alloc (Kg.setg (Kg.refl _ _) _ _) _)
      have hst := (HRW.out.stored (i * 6 + 5) (.slice (some ⟨W.heap.size, 0, none⟩) 1 1)).1
      have hcel : ∀ o : Obj, W.heap[go]? = some o → o.isCells = true := fun o ho => by
        rcases HRW.out.2 with ⟨h, _⟩ | ⟨g, cap, cur, h, -, hgg, -⟩
        · cases h
        · simp only [Value.slice.injEq, Option.some.injEq, Addr.mk.injEq, and_true, true_and] at h
          obtain ⟨rfl, rfl⟩ := h
          rw [hgg] at ho
          injection ho with ho
          subst ho
          rfl
      generalize hWf : ((W.setCell ⟨go, i * 6 + 5, none⟩ (.slice (some ⟨W.heap.size, 0, none⟩) 1 1)).alloc (.cells #[.int .i64 PV, .int .i64 0] 41)).drew = Wf at *
      have hKB : ∀ b, b < W.heap.size → b ≠ go → Wf.heap[b]? = W.heap[b]? := fun b h1 h2 => hK.block b h1 (fun e => h2 (Option.some.inj e))
      have hses : ∀ b, SesK p m flo fhi (w2.heap.size + 1) va b → Wf.heap[b]? = W.heap[b]? := fun b hb => by
        have h1 := hlt4 b hb
        refine hKB b (by have := HI.out.size; omega) (fun e => ?_)
        have h2 : b ≠ w2.heap.size + 1 → b < w.heap.size := fun hn => by
          have := HS.out.lt (Bs := p) y3' (b := b) (hb.imp id (Or.imp id (Or.imp id (Or.imp id (fun h => absurd h hn)))))
          exact this
        by_cases hn : b = w2.heap.size + 1
        · exact ngS (hn.symm.trans e)
        · have := h2 hn
          omega
      refine ⟨⟨hK.size, fun k o _ hk ho => (hKB k (Array.getElem?_eq_some_iff.1 hk).1 (fun e => ?_)).trans hk⟩, ⟨hK.size, hses, fun k o hk ho => (hKB k (Array.getElem?_eq_some_iff.1 hk).1 (fun e => ?_)).trans hk⟩, ?_⟩
      · subst e
        rw [hcel o hk] at ho
        cases ho
      · subst e
        have := hcel o hk
        cases o <;> simp_all [Obj.isCells, Obj.isWalk]
      · refine ⟨HI.out.ses.kept hses hK.size, (hKB _ y1 (by omega)).trans HI.out.b1, (hKB _ y2 ngB).trans HI.out.bo, (hses _ (.inr (.inr (.inr (.inr rfl))))).trans HI.out.bs, ?_, HI.out.below.grown hK (by have := HI.out.below.size; omega) (fun k e => by obtain rfl := Option.some.inj e; omega), Nat.le_trans HI.out.size hK.size⟩
        have hse := OwnFeats.settle hg pre x hif' (by rw [HFF.out]; exact HXH.out) HWL.out HRW.out HOP.out (by have := HI.out.below.size; omega)
        rw [HFF.out, HPV.out, hWf] at hse
        exact hse
    clear b1 bo s2 x0 x1 x2 x3 x4 ngB ngX ngS
    gi_wp2
    -- BODY
    refine round_region (S := fun w' => w'.cell? ⟨w2.heap.size, 0, none⟩ = some (.slice (some ⟨go, 0, none⟩) fs.length oc) ∧ w'.cell? ⟨w.heap.size, 0, none⟩ = some (.pointer (some ⟨p, 0, none⟩)) ∧ w'.cell? ⟨p, 2, none⟩ = some (.map (some m)) ∧ w'.cell? ⟨Bx, 0, none⟩ = some (.int .i64 p1) ∧ w'.cell? ⟨Bx, 1, none⟩ = some (.int .i64 p2) ∧ w'.cell? ⟨Bx, 2, none⟩ = some (.int .i64 p3) ∧ w'.cell? ⟨Bx, 3, none⟩ = some (.int .i64 p4) ∧ w'.cell? ⟨Bx, 4, none⟩ = some (.int .i64 p5) ∧ Kg W (some go) w') (by kernel_rfl) (by kernel_rfl) (fun h => by obtain ⟨_, _, h⟩ := h; exact h) (HSC.out _ (Kg.d (Kg.refl _ _))) (fun hHeld => ?_)
    refine wpAnyH_take (i := 0) (v := ?v1) (arr_at rfl) (by kernel_rfl) (by kernel_rfl) (by kernel_rfl) (fun _ _ _ h => h) (Or.inl ⟨by rfl, ?hy1⟩) (by assumption) ?_
    case hy1 => (intro w hSw; (try dsimp only at hSw); go_simp <;> with_reducible rfl)
    try simp only [Act.put, List.setIfInBounds_toArray, List.set_cons_zero, List.set_cons_succ]
    refine wpAnyH_take (i := 1) (v := ?v2) (arr_at rfl) (by kernel_rfl) (by kernel_rfl) (by kernel_rfl) (fun _ _ _ h => h) (Or.inl ⟨by rfl, ?hy2⟩) (by assumption) ?_
    case hy2 => (intro w hSw; (try dsimp only at hSw); go_simp <;> with_reducible rfl)
    try simp only [Act.put, List.setIfInBounds_toArray, List.set_cons_zero, List.set_cons_succ]
    refine wpAnyH_take (i := 2) (v := ?v3) (arr_at rfl) (by kernel_rfl) (by kernel_rfl) (by kernel_rfl) (fun _ _ _ h => h) (Or.inl ⟨by rfl, ?hy3⟩) (by assumption) ?_
    case hy3 => (intro w hSw; (try dsimp only at hSw); go_simp <;> with_reducible rfl)
    try simp only [Act.put, List.setIfInBounds_toArray, List.set_cons_zero, List.set_cons_succ]
    refine wpAnyH_take (i := 3) (v := ?v4) (arr_at rfl) (by kernel_rfl) (by kernel_rfl) (by kernel_rfl) (fun _ _ _ h => h) (Or.inl ⟨by rfl, ?hy4⟩) (by assumption) ?_
    case hy4 => (intro w hSw; (try dsimp only at hSw); go_simp <;> with_reducible rfl)
    try simp only [Act.put, List.setIfInBounds_toArray, List.set_cons_zero, List.set_cons_succ]
    refine wpAnyH_take (i := 4) (v := ?v5) (arr_at rfl) (by kernel_rfl) (by kernel_rfl) (by kernel_rfl) (fun _ _ _ h => h) (Or.inl ⟨by rfl, ?hy5⟩) (by assumption) ?_
    case hy5 => (intro w hSw; (try dsimp only at hSw); go_simp <;> with_reducible rfl)
    try simp only [Act.put, List.setIfInBounds_toArray, List.set_cons_zero, List.set_cons_succ]
    refine wpAnyH_take (i := 5) (v := ?v6) (arr_at rfl) (by kernel_rfl) (by kernel_rfl) (by kernel_rfl) (fun _ _ _ h => h) (Or.inl ⟨by rfl, ?hy6⟩) (by assumption) ?_
    case hy6 => (intro w hSw; (try dsimp only at hSw); go_simp <;> with_reducible rfl)
    try simp only [Act.put, List.setIfInBounds_toArray, List.set_cons_zero, List.set_cons_succ]
    refine wpAnyH_take (i := 6) (v := ?v7) (arr_at rfl) (by kernel_rfl) (by kernel_rfl) (by kernel_rfl) (fun _ _ _ h => h) (Or.inl ⟨by rfl, ?hy7⟩) (by assumption) ?_
    case hy7 => (intro w hSw; (try dsimp only at hSw); go_simp <;> with_reducible rfl)
    try simp only [Act.put, List.setIfInBounds_toArray, List.set_cons_zero, List.set_cons_succ]
    refine wpAnyH_take (i := 8) (v := ?v8) (arr_at rfl) (by kernel_rfl) (by kernel_rfl) (by kernel_rfl) (fun _ _ _ h => h) (Or.inl ⟨by rfl, ?hy8⟩) (by assumption) ?_
    case hy8 => (intro w hSw; (try dsimp only at hSw); go_simp <;> with_reducible rfl)
    try simp only [Act.put, List.setIfInBounds_toArray, List.set_cons_zero, List.set_cons_succ]
    refine wpAnyH_take (i := 9) (v := ?v9) (arr_at rfl) (by kernel_rfl) (by kernel_rfl) (by kernel_rfl) (fun _ _ _ h => h) (Or.inl ⟨by rfl, ?hy9⟩) (by assumption) ?_
    case hy9 => (intro w hSw; (try dsimp only at hSw); go_simp <;> with_reducible rfl)
    try simp only [Act.put, List.setIfInBounds_toArray, List.set_cons_zero, List.set_cons_succ]
    refine wpAnyH_ready (rs := [7, 10]) (by kernel_rfl) (by simp) ?_
    refine AllReadyH.cons (arr_at rfl) (fun K hK => ?_) ?_
    · skip
      go_simp
      refine hK.out _ _ ?_ (fun hHeld => ?_)
      · refine HSC.out _ ?_
        with_reducible (first | exact Kg.d (Kg.refl _ _) | exact Kg.d (Kg.alloc (Kg.refl _ _) _) | exact Kg.d (Kg.alloc (Kg.setg (Kg.refl _ _) _ _) _))
      clear hK K
      try simp only [Act.put, List.setIfInBounds_toArray, List.set_cons_zero, List.set_cons_succ]
      refine wpAnyH_ready (rs := [10]) (by kernel_rfl) (by simp) ?_
      refine AllReadyH.cons (arr_at rfl) (fun K hK => ?_) ?_
      · skip
        go_simp
        refine hK.out _ _ ?_ (fun hHeld => ?_)
        · refine HSC.out _ ?_
          with_reducible (first | exact Kg.d (Kg.refl _ _) | exact Kg.d (Kg.alloc (Kg.refl _ _) _) | exact Kg.d (Kg.alloc (Kg.setg (Kg.refl _ _) _ _) _))
        clear hK K
        try simp only [Act.put, List.setIfInBounds_toArray, List.set_cons_zero, List.set_cons_succ]
        refine wpAnyH_take (i := 11) (v := ?v10) (arr_at rfl) (by kernel_rfl) (by kernel_rfl) (by kernel_rfl) (fun _ _ _ h => h) (Or.inl ⟨by rfl, ?hy10⟩) (by assumption) ?_
        case hy10 => (intro w hSw; (try dsimp only at hSw); go_simp <;> with_reducible rfl)
        try simp only [Act.put, List.setIfInBounds_toArray, List.set_cons_zero, List.set_cons_succ]
        refine wpAnyH_take (i := 12) (v := ?v11) (arr_at rfl) (by kernel_rfl) (by kernel_rfl) (by kernel_rfl) (fun _ _ _ h => h) (Or.inl ⟨by rfl, ?hy11⟩) (by assumption) ?_
        case hy11 => (intro w hSw; (try dsimp only at hSw); go_simp <;> with_reducible rfl)
        try simp only [Act.put, List.setIfInBounds_toArray, List.set_cons_zero, List.set_cons_succ]
        refine wpAnyH_ready (rs := [13]) (by kernel_rfl) (by simp) ?_
        refine AllReadyH.cons (arr_at rfl) (fun K hK => ?_) ?_
        · skip
          go_simp
          refine hK.out _ _ ?_ (fun hHeld => ?_)
          · refine HSC.out _ ?_
            with_reducible (first | exact Kg.d (Kg.refl _ _) | exact Kg.d (Kg.alloc (Kg.refl _ _) _) | exact Kg.d (Kg.alloc (Kg.setg (Kg.refl _ _) _ _) _))
          clear hK K
          try simp only [Act.put, List.setIfInBounds_toArray, List.set_cons_zero, List.set_cons_succ]
          refine wpAnyH_done (by kernel_rfl) ?_ _
          exact FIN.out
        exact AllReadyH.nil
      exact AllReadyH.nil
    refine AllReadyH.cons (arr_at rfl) (fun K hK => ?_) ?_
    · skip
      go_simp
      refine hK.out _ _ ?_ (fun hHeld => ?_)
      · refine HSC.out _ ?_
        with_reducible (first | exact Kg.d (Kg.refl _ _) | exact Kg.d (Kg.alloc (Kg.refl _ _) _) | exact Kg.d (Kg.alloc (Kg.setg (Kg.refl _ _) _ _) _))
      clear hK K
      try simp only [Act.put, List.setIfInBounds_toArray, List.set_cons_zero, List.set_cons_succ]
      refine wpAnyH_ready (rs := [7]) (by kernel_rfl) (by simp) ?_
      refine AllReadyH.cons (arr_at rfl) (fun K hK => ?_) ?_
      · skip
        go_simp
        refine hK.out _ _ ?_ (fun hHeld => ?_)
        · refine HSC.out _ ?_
          with_reducible (first | exact Kg.d (Kg.refl _ _) | exact Kg.d (Kg.alloc (Kg.refl _ _) _) | exact Kg.d (Kg.alloc (Kg.setg (Kg.refl _ _) _ _) _))
        clear hK K
        try simp only [Act.put, List.setIfInBounds_toArray, List.set_cons_zero, List.set_cons_succ]
        refine wpAnyH_take (i := 11) (v := ?v12) (arr_at rfl) (by kernel_rfl) (by kernel_rfl) (by kernel_rfl) (fun _ _ _ h => h) (Or.inl ⟨by rfl, ?hy12⟩) (by assumption) ?_
        case hy12 => (intro w hSw; (try dsimp only at hSw); go_simp <;> with_reducible rfl)
        try simp only [Act.put, List.setIfInBounds_toArray, List.set_cons_zero, List.set_cons_succ]
        refine wpAnyH_take (i := 12) (v := ?v13) (arr_at rfl) (by kernel_rfl) (by kernel_rfl) (by kernel_rfl) (fun _ _ _ h => h) (Or.inl ⟨by rfl, ?hy13⟩) (by assumption) ?_
        case hy13 => (intro w hSw; (try dsimp only at hSw); go_simp <;> with_reducible rfl)
        try simp only [Act.put, List.setIfInBounds_toArray, List.set_cons_zero, List.set_cons_succ]
        refine wpAnyH_ready (rs := [13]) (by kernel_rfl) (by simp) ?_
        refine AllReadyH.cons (arr_at rfl) (fun K hK => ?_) ?_
        · skip
          go_simp
          refine hK.out _ _ ?_ (fun hHeld => ?_)
          · refine HSC.out _ ?_
            with_reducible (first | exact Kg.d (Kg.refl _ _) | exact Kg.d (Kg.alloc (Kg.refl _ _) _) | exact Kg.d (Kg.alloc (Kg.setg (Kg.refl _ _) _ _) _))
          clear hK K
          try simp only [Act.put, List.setIfInBounds_toArray, List.set_cons_zero, List.set_cons_succ]
          refine wpAnyH_done (by kernel_rfl) ?_ _
          exact FIN.out
        exact AllReadyH.nil
      exact AllReadyH.nil
    exact AllReadyH.nil
    -- END
  case done =>
    rintro D xs W hD hS hI hk
    have bo : W.cell? ⟨w2.heap.size, 0, none⟩ = some (.slice oa fs.length oc) := by rw [cell_of_row _ _ _ _ _ _ hI.bo]; rfl
    have HI := Lib.hid hI
    have HEND : Hid (setL fs acts xs = feats fs acts) := setL_end hS
    clear hI
    gi_wp2
    refine ⟨by simp, .inl ⟨_, _, rfl, run_takeDeferred hk, ?_⟩⟩
    have hDc : ∀ r, some D = some r → ∃ o : Obj, W.heap[r]? = some o ∧ o.isCells = false := fun r e => by
      obtain rfl := Option.some.inj e
      exact ⟨_, hk, rfl⟩
    refine ⟨_, results_tmp2 rfl _ _ _, ⟨_, rfl, ?_⟩, ?_⟩
    · rw [← HEND.out]
      exact (HI.out.own.turn (grownBy_putObj' W D _) hDc).low (Nat.le_succ _)
    · exact HI.out.below.trans (belowK_b (w := w) (Nat.le_refl _) W D _ _ (by omega) hk rfl rfl)
  case stop =>
    intro D c pre W _ _ h _
    exact h.elim
end Go.Proofs.YtpcefaccoifejaaGreatDoor
