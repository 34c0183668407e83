/-
  The contract of the method Weights of a session. Conditions: the session lies in memory as K8 says; its features are good; its acts were done on them.
-/
import Derived.Test.YtpcefaccoifejaaGreatDoorK16
import Derived.Test.YtpcefaccoifejaaGreatDoorKC
namespace Go.Proofs.YtpcefaccoifejaaGreatDoor
open Go.RowKit Go.Maps
set_option linter.unusedSimpArgs false
set_option linter.unusedVariables false
set_option maxRecDepth 100000
attribute [local go_sem] Oper.semAt_some

/-- between two rounds -/
structure WtI (w W4 : World) (lo p m flo fhi Bw Bs : Nat) (va vf : Value) (fs : List Ft) (acts : List Ac) (pre : List (SetI fs acts)) (W : World) : Prop where
  ses : SesAt W lo p m flo fhi va vf fs acts
  b0 : WAt W w.heap.size (fun _ => 0)
  bw : WAt W Bw (fun n => 4 + (if 1 ≤ n then wPre pre n else 0))
  bs : W.heap[Bs]? = some (.cells #[.pointer (some ⟨p, 0, none⟩)] 48 (0, 0))
  below : Below w.heap.size w W
  size : W4.heap.size ≤ W.heap.size
theorem cells_not {W : World} {g : Nat} {f : Nat → Int} (h : WAt W g f) {o : Obj} (ho : W.heap[g]? = some o) : o.isCells = true := by
  rw [WAt] at h
  rw [h] at ho
  injection ho with ho
  subst ho
  rfl
/-- what one store into the row keeps -/
theorem one_kept {W W1 W' : World} {B g : Nat} {f : Nat → Int} {K : Nat → Prop} (hb : Below W.heap.size W W1) (hg : WAt W g f) (hK : ∀ b, K b → b < W.heap.size) (hn : ¬ K g) (hs : W1.heap.size ≤ W'.heap.size) (ho : ∀ b, b ≠ g → W'.heap[b]? = W1.heap[b]?) : KeepsFrom B W W' ∧ KpS K W W' := by
  have hs' := Nat.le_trans hb.size hs
  have e : ∀ (k : Nat) (o : Obj), W.heap[k]? = some o → k ≠ g → W'.heap[k]? = some o := fun k o hk hkg => (ho k hkg).trans ((hb.block k (Array.getElem?_eq_some_iff.1 hk).1).trans hk)
  refine ⟨⟨hs', fun k o _ hk hc => e k o hk fun x => ?_⟩, ⟨hs', fun b hb' => ?_, fun k o hk hc => e k o hk fun x => ?_⟩⟩
  · subst x; rw [cells_not hg hk] at hc; cases hc
  · have : b ≠ g := fun x => hn (x ▸ hb')
    exact (ho b this).trans (hb.block b (hK b hb'))
  · subst x
    have := cells_not hg hk
    cases o <;> simp_all [Obj.isCells, Obj.isWalk]
theorem results_row2 {P : Program} {fn : Func} {p q : Tmp} {ty : TypeId} (h : fn.results = #[.cell p ty, .tmp q]) (tmps : Array Value) (w : World) (g : Nat) (t : TypeId) (cs : Array Value) (fr : Nat × Nat) (d : TypeDesc) (u : Value)
    (hp : tmps.getD p undef = .pointer (some ⟨g, 0, none⟩)) (hq : tmps.getD q undef = u) (hg : w.heap[g]? = some (.cells cs t fr))
    (hu : P.underlying ty = some d) (hd : (match d with | .struct _ | .array _ _ => true | _ => false) = true) (hi : (P.info? ty).map (·.size) = some cs.size) :
    (results fn tmps).run P w = .ok (.tuple #[.agg cs, u]) w := by
  have hp' : tmps[p]?.getD undef = .pointer (some ⟨g, 0, none⟩) := by simpa using hp
  have hq' : tmps[q]?.getD undef = u := by simpa using hq
  simp [results, h, hp', hq', asAddr, run_loadVar_row w g t ty cs fr d hg hu hd hi]
set_option maxHeartbeats 4000000 in
theorem Weights_c (lo p m flo fhi : Nat) (va vf : Value) (fs : List Ft) (acts : List Ac) (w : World) (h : SesAt w lo p m flo fhi va vf fs acts) (hg : Good fs) (ha : Acted fs acts) (hw : wfFs fs) (hwa : wfAs acts) :
    Calls Tryz.prog 18 #[.pointer (some ⟨p, 0, none⟩)] w fun e w' => e = .returned (.tuple #[.agg (rowW (weight fs acts)), .int .i64 0]) ∧ Below w.heap.size w w' := by
  have HN := Lib.hid fun W (hb : Below w.heap.size w W) => none_c lo p m flo fhi va vf fs acts W (h.below hb)
  obtain ⟨fa, fc, vs, hvf, -, hrow, hopt⟩ := h.feats
  subst hvf
  have hp : p < w.heap.size := (Array.getElem?_eq_some_iff.1 h.cells).1
  have HS := Lib.hid h
  have HROW := Lib.hid hrow
  have HOPT := Lib.hid hopt
  clear h hrow hopt
  refine (callsIn_wide (n := 6)).1 ?_
  refine callsIn_of_wp_marks Tryz.func18 rfl trivial ?_ rfl
  simp only [Tryz.ntmps18, List.size_toArray, List.length_cons, List.length_nil, Nat.reduceAdd, Nat.reduceSub, Array.replicate_succ, Array.replicate_zero, List.push_toArray, List.append_toArray, List.nil_append, List.cons_append]
  refine wpIn_wide.2 ?_
  go_wp2_with fail
  refine (HN.out _ (by go_grown)).mono ?_
  rintro e w1 ⟨rfl, rfl⟩
  go_wp2_with fail
  refine (Plain_c _).mono ?_
  rintro e w2 ⟨rfl, hb2⟩
  have hz2 : w.heap.size < w2.heap.size := by have := hb2.size; simp at this; omega
  have hbb2 : Below w.heap.size w w2 := below_step (by go_grown) hb2
  have hC0 : WAt w2 w.heap.size (fun _ => 0) := (hb2.block _ (by simp)).trans ((heap_alloc_new _ _).trans (congrArg (fun c => some (Obj.cells c _ (0, 0))) (by kernel_rfl)))
  clear hb2
  have hsz : (rowW (fun _ => 4)).size = 17 := rowW_size _
  have hone := rowW_one (fun _ => 4)
  have hi : (Tryz.prog.info? 64).map (·.size) = some (rowW (fun _ => 4)).size := by rw [hsz]; exact infoW
  have hold : 17 = (rowW (fun _ => 4)).size := by rw [rowW_size]
  have X3 := Lib.hid hi
  have X4 := Lib.hid hold
  have X5 := Lib.hid hone
  clear hi hold hone hsz
  generalize hrow : rowW (fun _ => 4) = row at *
  have HRW := Lib.hid hrow
  clear hrow
  go_wp2_with (refine wpList_store_row rfl 64 (.tmp 4) (.tmp 11) rfl w2.heap.size row rfl rfl 64 _ (heap_alloc_new w2 _) X3.out X4.out X5.out ?_)
  refine (settled_c p _).mono ?_
  rintro e w3 ⟨rfl, hw3⟩
  go_wp2_with fail
  refine (wpIn_wide (n := 6)).1 ?_
  refine wpIn_named fun W4 hW4 => ?_
  have hb24 : Below w.heap.size w W4 := by rw [hW4]; exact (below_setRowW ((hbb2.alloc (Nat.le_of_lt hz2) _)) (Nat.le_of_lt hz2)).alloc (by simp; omega) _
  have hz4 : W4.heap.size = w2.heap.size + 2 := by rw [hW4]; simp
  have hBW4 : WAt W4 w2.heap.size (fun _ => 4) := by
    rw [hW4, WAt, Below.heap_alloc _ _ _ (by simp), setRow_heap _ _ _ _ _ _ (heap_alloc_new _ _), HRW.out]
  have hBS4 : W4.heap[w2.heap.size + 1]? = some (.cells #[.pointer (some ⟨p, 0, none⟩)] 48 (0, 0)) := by
    rw [hW4]
    have := heap_alloc_new ((w2.alloc (.cells #[.int .i64 0, .int .i64 0, .int .i64 0, .int .i64 0, .int .i64 0, .int .i64 0, .int .i64 0, .int .i64 0, .int .i64 0, .int .i64 0, .int .i64 0, .int .i64 0, .int .i64 0, .int .i64 0, .int .i64 0, .int .i64 0, .int .i64 0] 64)).setRow w2.heap.size row) (.cells #[.pointer (some ⟨p, 0, none⟩)] 48)
    simpa using this
  have hB04 : WAt W4 w.heap.size (fun _ => 0) := by
    rw [hW4, WAt, Below.heap_alloc _ _ _ (by simp; omega), setRow_other _ _ _ _ (by omega), Below.heap_alloc _ _ _ hz2]
    exact hC0
  have B4 : WtI w W4 lo p m flo fhi w2.heap.size (w2.heap.size + 1) va (.slice fa fs.length fc) fs acts [] W4 :=
    ⟨HS.out.below hb24, hB04, hBW4.ext fun i hi => by split <;> rfl, hBS4, hb24, Nat.le_refl _⟩
  have HB4 := Lib.hid B4
  have hlt4 : ∀ b, SesK p m flo fhi (w2.heap.size + 1) va b → b < W4.heap.size := fun b hb => B4.ses.lt (by omega) hb
  have hltw : ∀ b, SesK p m flo fhi (w2.heap.size + 1) va b → b < w.heap.size ∨ b = w2.heap.size + 1 := fun b hb => by
    by_cases hn : b = w2.heap.size + 1
    · exact .inr hn
    · exact .inl (HS.out.lt (Bs := p) hp (b := b) (hb.imp id (Or.imp id (Or.imp id (Or.imp id (fun h => absurd h hn))))))
  have HSM : Same flo fhi w W4 := Same.of_below (hb24.mono HS.out.hf)
  have HZ4 := Lib.hid hz4
  clear hW4 hb24 B4 hbb2 hC0 hBW4 hBS4 hB04 hz4
  refine wpIn_rangeFunc_ownH (α := SetI fs acts) rfl (by decide) (gf := 69) (lb := #[.pointer (some ⟨w2.heap.size + 1, 0, none⟩)]) rfl trivial (enters_of Tryz.func69 (by kernel_rfl) rfl)
    (settled1_stops 5 (by decide) lo p m flo fhi (w2.heap.size + 1) va fa fc vs fs acts W4 HB4.out.ses (HROW.out.move HSM) (fun i hi => (HOPT.out i hi).move HSM) HB4.out.bs hg ha hw hwa)
    (fun h k => KpS.t h k) (fun W l o o' h1 h2 h3 h4 => KpS.b hlt4 W l o o' h1 h2 h3 h4) (Below.refl _ _) (fun _ => rfl)
    (WtI w W4 lo p m flo fhi w2.heap.size (w2.heap.size + 1) va (.slice fa fs.length fc) fs acts) (fun _ _ _ => False)
    ?own (fun _ _ _ _ _ h _ _ => h) HB4.out
    (fun x a' W => ∃ Bx, W4.heap.size ≤ Bx ∧ W.heap[Bx]? = some (.cells (ftV (ftAt fs x.1).1 (vs x.1)).toArray 47 (0, 0)) ∧ a' = Act.mk #[.pointer (some ⟨p, 0, none⟩), undef, .pointer (some ⟨w.heap.size, 0, none⟩),
          .int .i64 0, .pointer (some ⟨w2.heap.size, 0, none⟩), .pointer (some ⟨Bx, 0, none⟩), .int .i64 (pres acts (ftAt fs x.1)), undef, .pointer (some ⟨p, 0, none⟩), .bool false, undef, .agg row, .pointer (some ⟨p, 0, none⟩),
          .func (.func 69) #[] #[.pointer (some ⟨w2.heap.size + 1, 0, none⟩)], .agg (ftV (ftAt fs x.1).1 (vs x.1)).toArray, .int .i64 (pres acts (ftAt fs x.1)),
          undef, undef, undef, undef, undef, undef, undef, undef, undef, undef, undef, undef, undef, undef, undef, undef, undef, undef, undef, undef, undef, undef, undef, undef,
          undef, undef, undef, undef, undef, undef, undef, undef, undef, undef, undef, undef, undef, undef, undef, undef] [])
    ?ax ?assign ?body ?done ?stop
  case own =>
    have hz4 := HZ4.out
    rintro pre A B row' ⟨g1, g2, g3, g4, g5, g6⟩ hgr hr
    have hb : ∀ b, b < W4.heap.size → B.heap[b]? = A.heap[b]? := fun b hb => hgr.block b (by omega) (fun e => by have := (hr b e.symm).1; omega)
    exact ⟨g1.kept (fun b h => hb b (hlt4 b h)) hgr.size, (hb _ (by omega)).trans g2, (hb _ (by omega)).trans g3, (hb _ (by omega)).trans g4, g5.grown hgr (by omega) (fun k e => by have := (hr k e).1; omega), Nat.le_trans g6 hgr.size⟩
  case ax =>
    rintro x a' _ A B row' ⟨Bx, h1, h2, h3⟩ hgr hr
    refine ⟨Bx, h1, (hgr.block Bx (Array.getElem?_eq_some_iff.1 h2).1 (fun e => ?_)).trans h2, h3⟩
    obtain ⟨_, o, ho, hc⟩ := hr Bx e.symm
    rw [h2] at ho
    injection ho with ho
    subst ho
    cases hc
  case assign =>
    intro l pre x W K hI hK
    obtain ⟨oo, oc2, hvo, -, -⟩ := HOPT.out x.1 x.2.1
    have HI := Lib.hid hI
    revert hK
    simp only [encS]
    rw [hvo]
    generalize pres acts (ftAt fs x.1) = PV
    generalize ftAt fs x.1 = f
    obtain ⟨⟨p1, p2, p3, p4, p5⟩, os⟩ := f
    simp only [ftV]
    intro hK
    clear hI hvo
    gi_wp2
    have hz4 := HZ4.out
    have hba : Below W.heap.size W (W.alloc (.cells #[.int .i64 p1, .int .i64 p2, .int .i64 p3, .int .i64 p4, .int .i64 p5, .slice oo os.length oc2] 47)) := (Below.refl _ _).alloc (Nat.le_refl _) _
    refine hK _ _ ((KeepsOthers.alloc _ _).from _) (KpS.of_below hba (fun b hb => Nat.lt_of_lt_of_le (hlt4 b hb) HI.out.size)) ?_ ⟨W.heap.size, HI.out.size, heap_alloc_new _ _, rfl⟩
    exact ⟨HI.out.ses.below hba, HI.out.b0.below hba, HI.out.bw.below hba, (hba.block _ (by have := HI.out.size; omega)).trans HI.out.bs, HI.out.below.trans (hba.mono HI.out.below.size), Nat.le_trans HI.out.size hba.size⟩
  case body =>
    rintro l pre x a' W hl ⟨r, hr⟩ hI ⟨Bx, hBx, hbx, rfl⟩ hlen
    have hif := x.2.1
    have HI := Lib.hid hI
    obtain ⟨i, hix⟩ : ∃ i, x.1 = i := ⟨_, rfl⟩
    have HIX := Lib.hid hix
    have hto := x.2.2
    rw [hix] at hif hbx hto ⊢
    clear hix
    have hop := (HOPT.out i hif).move (Same.of_below (hI.below.mono HS.out.hf))
    have hwo := (hw _ (ftAt_mem hif)).2.2
    have hne := hg.some _ (ftAt_mem hif)
    have hmi := hg.miss _ (ftAt_mem hif)
    have HONE : Hid (∀ n, wPre (pre ++ [x]) n = wPre pre n + if (ftAt fs i).1.2.2.2.1 = (n : Int) then (if pres acts (ftAt fs i) = best (ftAt fs i).2 then 1 else -1) else 0) := fun n => by
      rw [wPre_snoc, HIX.out, wOne]
      congr 1
      by_cases h : (ftAt fs i).1.2.2.2.1 = (n : Int)
      · rw [if_pos ⟨hto, h⟩, if_pos h]
      · rw [if_neg (fun h' => h h'.2), if_neg h]
    generalize hpv : pres acts (ftAt fs i) = PV at *
    generalize hff : ftAt fs i = f at *
    obtain ⟨⟨p1, p2, p3, p4, p5⟩, os⟩ := f
    simp only at hop hwo hne hmi HONE
    have HBE := Lib.hid (best_c p1 p2 p3 p4 p5 (vs i) os flo fhi W hop (Nat.le_trans HS.out.hf hI.below.size) hwo hne hmi)
    obtain ⟨oo, oc2, hvo, -, -⟩ := hop
    simp only [hvo, ftV] at hbx HBE ⊢
    have x0 : W.cell? ⟨Bx, 0, none⟩ = some (.int .i64 p1) := by rw [cell_of_row _ _ _ _ _ _ hbx]; rfl
    have x1 : W.cell? ⟨Bx, 1, none⟩ = some (.int .i64 p2) := by rw [cell_of_row _ _ _ _ _ _ hbx]; rfl
    have x2 : W.cell? ⟨Bx, 2, none⟩ = some (.int .i64 p3) := by rw [cell_of_row _ _ _ _ _ _ hbx]; rfl
    have x3 : W.cell? ⟨Bx, 3, none⟩ = some (.int .i64 p4) := by rw [cell_of_row _ _ _ _ _ _ hbx]; rfl
    have x4 : W.cell? ⟨Bx, 4, none⟩ = some (.int .i64 p5) := by rw [cell_of_row _ _ _ _ _ _ hbx]; rfl
    have x5 : W.cell? ⟨Bx, 5, none⟩ = some (.slice oo os.length oc2) := by rw [cell_of_row _ _ _ _ _ _ hbx]; rfl
    generalize best os = B at *
    have HL := Lib.hid hlen
    clear hI hpv hff hvo hwo hne hmi hr hto
    have HSKIP : Hid ((∀ n : Nat, n < 17 → 1 ≤ n → ¬ p4 = (n : Int)) → KeepsFrom W4.heap.size W W ∧ KpS (SesK p m flo fhi (w2.heap.size + 1) va) W W ∧ WtI w W4 lo p m flo fhi w2.heap.size (w2.heap.size + 1) va (.slice fa fs.length fc) fs acts (pre ++ [x]) W) := fun h =>
      ⟨KeepsFrom.refl _ _, KpS.of_below (Below.refl _ _) (fun b hb => Nat.lt_of_lt_of_le (hlt4 b hb) HI.out.size), HI.out.ses, HI.out.b0, HI.out.bw.ext fun n hn => by
        by_cases h1 : 1 ≤ n
        · rw [if_pos h1, if_pos h1, HONE.out, if_neg (h n hn h1), Int.add_zero]
        · rw [if_neg h1, if_neg h1], HI.out.bs, HI.out.below, HI.out.size⟩
    by_cases h1 : p4 < 1
    · gi_wp2
      exact HSKIP.out (fun n _ hn e => by omega)
    · by_cases h2 : 17 ≤ p4
      · gi_wp2
        exact HSKIP.out (fun n _ hn e => by omega)
      · obtain ⟨k, rfl⟩ : ∃ k : Nat, p4 = k := ⟨p4.toNat, by omega⟩
        have hk1 : 1 ≤ k := by omega
        have hk2 : k < 17 := by omega
        have i1 : (k : Int) < 17 := by omega
        have i0 : (0 : Int) ≤ k := by omega
        have ha2 := ha.len
        have hbd := wPre_bd k pre
        have e1 : -5000 ≤ wPre pre k := by omega
        have e2 : wPre pre k ≤ 5000 := by omega
        have hbx2 : Bx < W.heap.size := (Array.getElem?_eq_some_iff.1 hbx).1
        have hw2 : w2.heap.size < W.heap.size := HI.out.bw.lt
        clear HSKIP hbd ha2 h1 h2 hlen
        gi_wp2_with fail
        refine ⟨trivial, ?_⟩
        refine (callsIn_wide.2 HBE.out).mono ?_
        rintro rr w4 ⟨rfl, hb4⟩
        have t0 : w4.cell? ⟨Bx, 0, none⟩ = some (.int .i64 p1) := (hb4.cell (p := ⟨Bx, 0, none⟩) hbx2).trans x0
        have t1 : w4.cell? ⟨Bx, 1, none⟩ = some (.int .i64 p2) := (hb4.cell (p := ⟨Bx, 1, none⟩) hbx2).trans x1
        have t2 : w4.cell? ⟨Bx, 2, none⟩ = some (.int .i64 p3) := (hb4.cell (p := ⟨Bx, 2, none⟩) hbx2).trans x2
        have t3 : w4.cell? ⟨Bx, 3, none⟩ = some (.int .i64 k) := (hb4.cell (p := ⟨Bx, 3, none⟩) hbx2).trans x3
        have t4 : w4.cell? ⟨Bx, 4, none⟩ = some (.int .i64 p5) := (hb4.cell (p := ⟨Bx, 4, none⟩) hbx2).trans x4
        have hw4 := HI.out.bw.below hb4
        have c0 := hw4.at hk2
        have f0 := hw4.free k
        rw [if_pos hk1] at c0
        have HW4 := Lib.hid hw4
        have HB := Lib.hid hb4
        have HFIN : Hid (∀ (v : Int), v = 4 + wPre (pre ++ [x]) k → KeepsFrom W4.heap.size W (w4.setCell ⟨w2.heap.size, k, none⟩ (.int .i64 v)) ∧ KpS (SesK p m flo fhi (w2.heap.size + 1) va) W (w4.setCell ⟨w2.heap.size, k, none⟩ (.int .i64 v)) ∧ WtI w W4 lo p m flo fhi w2.heap.size (w2.heap.size + 1) va (.slice fa fs.length fc) fs acts (pre ++ [x]) (w4.setCell ⟨w2.heap.size, k, none⟩ (.int .i64 v))) := fun v hv => by
          have ho : ∀ b, b ≠ w2.heap.size → (w4.setCell ⟨w2.heap.size, k, none⟩ (.int .i64 v)).heap[b]? = w4.heap[b]? := fun b hb => Below.heap_setCell w4 ⟨w2.heap.size, k, none⟩ _ b hb
          have hs : w4.heap.size ≤ (w4.setCell ⟨w2.heap.size, k, none⟩ (.int .i64 v)).heap.size := by simp [World.setCell]
          have hKl : ∀ b, SesK p m flo fhi (w2.heap.size + 1) va b → b < W.heap.size := fun b hb => Nat.lt_of_lt_of_le (hlt4 b hb) HI.out.size
          have hk := one_kept (B := W4.heap.size) HB.out HI.out.bw hKl (fun hb => by rcases hltw _ hb with h | h <;> omega) hs ho
          have hs4 := HB.out.size
          have hs5 := HI.out.size
          have hz4 := HZ4.out
          refine ⟨hk.1, hk.2, HI.out.ses.kept hk.2.2.1 hk.2.1, (ho _ (by omega)).trans (HI.out.b0.below HB.out), ?_, (ho _ (by omega)).trans ((HB.out.block _ (by omega)).trans HI.out.bs), (HI.out.below.trans (HB.out.mono HI.out.below.size)).setCell (p := ⟨w2.heap.size, k, none⟩) (Nat.le_of_lt hz2) _, by omega⟩
          refine (HW4.out.set hk2 v).ext fun n hn => ?_
          dsimp only [updN]
          by_cases hnk : n = k
          · subst hnk
            rw [if_pos rfl, if_pos hk1, hv]
          · rw [if_neg hnk]
            by_cases h1 : 1 ≤ n
            · rw [if_pos h1, if_pos h1, HONE.out, if_neg (fun e => hnk (by have : (k : Int) = n := e; omega)), Int.add_zero]
            · rw [if_neg h1, if_neg h1]
        have HON := Lib.hid (HONE.out k)
        clear hw4 x0 x1 x2 x3 x4 x5 hb4 HONE
        by_cases hpb : PV = B
        · have HV : Hid (4 + wPre pre k + 1 = 4 + wPre (pre ++ [x]) k) := by
            rw [Hid, HON.out, if_pos rfl, if_pos hpb]; omega
          subst hpb
          gi_wp2
          exact HFIN.out _ HV.out
        · have HV : Hid (4 + wPre pre k - 1 = 4 + wPre (pre ++ [x]) k) := by
            rw [Hid, HON.out, if_pos rfl, if_neg hpb]; omega
          gi_wp2
          exact HFIN.out _ HV.out
  case done =>
    rintro D xs W hD hS hI hk
    have HWS : Hid (∀ n, wPre xs n = wSum acts n fs) := fun n => wPre_end hg.apart hS ha.place n
    have HI := Lib.hid hI
    have hb4 : D ≠ w2.heap.size := by have := HZ4.out; omega
    have hb5 : D ≠ w.heap.size := by have := HZ4.out; omega
    have HK := Lib.hid hk
    clear hI hk
    go_wp2
    go_loopw [7] (fun i wr => ∃ k : Nat, 1 ≤ k ∧ k ≤ 17 ∧ i = .int .i64 (k : Int) ∧ WAt wr w2.heap.size (fun n => if 1 ≤ n ∧ n < k then weight fs acts n else 4 + (if 1 ≤ n then wSum acts n fs else 0)) ∧ WAt wr w.heap.size (fun _ => 0) ∧ wr.heap[D]? = some (.deferred (some [])) ∧ Below w.heap.size w wr)
      (fun i wr => 17 - (intOf i).toNat)
    case atStart =>
      refine ⟨1, by omega, by omega, rfl, HI.out.bw.ext fun n hn => ?_, HI.out.b0, HK.out, HI.out.below⟩
      rw [if_neg (c := 1 ≤ n ∧ n < 1) (fun h => by omega), HWS.out]
    case round =>
      obtain ⟨k, hk1, hk2, rfl, hw1, hw0, hD, hB⟩ := hrel
      have H1 := Lib.hid hw1
      have H0 := Lib.hid hw0
      have HD := Lib.hid hD
      have HB := Lib.hid hB
      by_cases h : k < 17
      · have c0 := hw1.at h
        have f0 := hw1.free k
        rw [if_neg (fun h => by omega), if_pos hk1] at c0
        have i0 : (0 : Int) ≤ k := by omega
        have i1 : (k : Int) < 17 := by omega
        have hz1 := hw1.lt
        clear hw1 hw0 hB hD
        have HWE : Hid (weight fs acts k = min (max (4 + wSum acts k fs) 1) 16) := by
          show weight fs acts k = _
          rw [weight, if_neg (by omega)]; rfl
        generalize wSum acts k fs = z at *
        go_wp2
        go_roundw
        case rel =>
          refine ⟨k + 1, by omega, by omega, by go_num, ?_, ?_, ?_, ?_⟩
          · refine (H1.out.set h _).ext fun n hn => ?_
            dsimp only [updN]
            by_cases hnk : n = k
            · subst hnk
              rw [if_pos rfl, if_pos (c := 1 ≤ n ∧ n < n + 1) ⟨hk1, by omega⟩, HWE.out]
              omega
            · rw [if_neg hnk]
              by_cases h2 : 1 ≤ n ∧ n < k
              · rw [if_pos h2, if_pos ⟨h2.1, by omega⟩]
              · rw [if_neg h2, if_neg (c := 1 ≤ n ∧ n < k + 1) (by omega)]
          · exact (Below.heap_setCell wr ⟨w2.heap.size, k, none⟩ _ w.heap.size (fun e => by dsimp only at e; omega)).trans H0.out
          · exact (Below.heap_setCell wr ⟨w2.heap.size, k, none⟩ _ D hb4).trans HD.out
          · exact HB.out.setCell (p := ⟨w2.heap.size, k, none⟩) (Nat.le_of_lt hz2) _
        case measure => simp [intOf]; omega
      · obtain rfl : k = 17 := by omega
        have hr1 : WAt wr w2.heap.size (weight fs acts) := hw1.ext fun i hi => by
          by_cases h1 : 1 ≤ i
          · rw [if_pos ⟨h1, hi⟩]
          · obtain rfl : i = 0 := by omega
            rw [if_neg (fun h => h1 h.1), if_neg h1]
            rfl
        have X1 := Lib.hid (show wr.heap[w2.heap.size]? = some (.cells (rowW (weight fs acts)) 64 (0, 0)) from hr1)
        have hsz : (rowW (weight fs acts)).size = 17 := rowW_size _
        have hone := rowW_one (weight fs acts)
        have hi : (Tryz.prog.info? 64).map (·.size) = some (rowW (weight fs acts)).size := by rw [hsz]; exact infoW
        have hold : (rowW (fun _ => 0)).size = (rowW (weight fs acts)).size := by rw [rowW_size, rowW_size]
        clear X3 X4 X5
        have X3 := Lib.hid hi
        have X4 := Lib.hid hold
        have X5 := Lib.hid hone
        have X2 := Lib.hid (show wr.heap[w.heap.size]? = some (.cells (rowW (fun _ => 0)) 64 (0, 0)) from hw0)
        clear hr1 hi hold hone hsz hw1 hw0 hB H1 hD
        generalize hrow : rowW (weight fs acts) = row2 at *
        have HROW2 := Lib.hid hrow
        clear hrow
        generalize rowW (fun _ => 0) = old at *
        go_wp2_with (first | (refine wpList_load_row rfl 64 (.tmp 4) rfl w2.heap.size rfl 64 row2 (0, 0) _ X1.out Tryz.underlying64 rfl X3.out ?_) | (refine wpList_store_row rfl 64 (.tmp 2) (.tmp 55) rfl w.heap.size row2 rfl rfl 64 _ X2.out X3.out X4.out X5.out ?_))
        refine ⟨by simp, .inl ⟨_, _, rfl, run_takeDeferred ((setRow_other wr w.heap.size D row2 hb5).trans HD.out), ?_⟩⟩
        have hDW : (wr.setRow w.heap.size row2).heap[D]? = some (.deferred (some [])) := (setRow_other wr w.heap.size D row2 hb5).trans HD.out
        refine ⟨_, results_row2 Tryz.results18 _ _ w.heap.size 64 row2 (0, 0) _ _ rfl rfl ((World.putObj_heap_other (Ne.symm hb5)).trans (setRow_heap _ _ _ _ _ _ X2.out)) Tryz.underlying64 rfl X3.out, by rw [HROW2.out]; rfl, ?_⟩
        exact (below_setRowW HB.out (Nat.le_refl _)).trans (belowK_b (w := w) (Nat.le_refl _) _ D _ _ (by have := HZ4.out; omega) hDW rfl rfl)
  case stop =>
    intro D c pre W _ _ h _
    exact h.elim
end Go.Proofs.YtpcefaccoifejaaGreatDoor
