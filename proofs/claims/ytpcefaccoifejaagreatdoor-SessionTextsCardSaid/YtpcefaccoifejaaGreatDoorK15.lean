/-
  The iterator that session's settled returns: what it yields, in which order. Conditions: the session lies in memory as K8 says; its features are good; its acts were done on them.
-/
import Derived.Test.YtpcefaccoifejaaGreatDoorK14
import Derived.RangeFuncNested
import Derived.RangeFuncBound
import Derived.RangeFuncCalls
import Derived.RangeFuncLeaves
import Derived.OwnWalkIn
import Derived.TacticsInMore
import Derived.LoopNIn
import Derived.LoopIn
namespace Go.Proofs.YtpcefaccoifejaaGreatDoor
open Go.RowKit Go.Maps
set_option linter.unusedSimpArgs false
set_option linter.unusedVariables false
set_option maxRecDepth 100000

/-- the places of acts, each once, in the order in which they first come -/
def ordA (acts : List Ac) : List Pl := acts.foldl (fun l a => if a.2.1 ∈ l then l else l ++ [a.2.1]) []
theorem ordA_snoc (acts : List Ac) (a : Ac) : ordA (acts ++ [a]) = if a.2.1 ∈ ordA acts then ordA acts else ordA acts ++ [a.2.1] := by
  unfold ordA
  rw [List.foldl_append]
  rfl
theorem ordA_mem (p : Pl) (acts : List Ac) : p ∈ ordA acts ↔ touched acts p = true := by
  suffices h : ∀ n, ∀ acts : List Ac, acts.length = n → (p ∈ ordA acts ↔ touched acts p = true) from h _ acts rfl
  intro n
  induction n with
  | zero =>
    intro acts h
    rw [List.eq_nil_of_length_eq_zero h]
    simp [ordA, touched]
  | succ n ih =>
    intro acts h
    rcases List.eq_nil_or_concat acts with rfl | ⟨l, a, rfl⟩
    · simp at h
    · rw [List.concat_eq_append] at h ⊢
      have hl := ih l (by simpa using h)
      rw [ordA_snoc, touched_snoc, Bool.or_eq_true, decide_eq_true_eq, ← hl]
      by_cases e : a.2.1 ∈ ordA l
      · rw [if_pos e]
        exact ⟨fun x => .inl x, fun x => x.elim id (fun y => y ▸ e)⟩
      · rw [if_neg e, List.mem_append, List.mem_singleton]
        exact ⟨fun x => x.imp id Eq.symm, fun x => x.imp id Eq.symm⟩
theorem ordA_len : ∀ (n : Nat) (acts : List Ac), acts.length = n → (ordA acts).length ≤ n
  | 0, acts, h => by rw [List.eq_nil_of_length_eq_zero h]; simp [ordA]
  | n + 1, acts, h => by
    rcases List.eq_nil_or_concat acts with rfl | ⟨l, a, rfl⟩
    · simp at h
    · rw [List.concat_eq_append] at h ⊢
      have hl := ordA_len n l (by simpa using h)
      rw [ordA_snoc]
      split
      · omega
      · simp; omega
/-- what a round of the loop over settled features keeps: the blocks of K, and every map -/
def KpS (K : Nat → Prop) (W W' : World) : Prop := W.heap.size ≤ W'.heap.size ∧ (∀ b, K b → W'.heap[b]? = W.heap[b]?) ∧ ∀ (k : Nat) (o : Obj), W.heap[k]? = some o → o.isWalk = true → W'.heap[k]? = some o
theorem KpS.t {K : Nat → Prop} {A B C : World} (h : KpS K A B) (k : KpS K B C) : KpS K A C := ⟨Nat.le_trans h.1 k.1, fun b hb => (k.2.1 b hb).trans (h.2.1 b hb), fun i o hi ho => k.2.2 i o (h.2.2 i o hi ho) ho⟩
theorem KpS.b {K : Nat → Prop} {w : World} (hK : ∀ b, K b → b < w.heap.size) (W : World) (l : Nat) (o o' : Obj) (hl : w.heap.size ≤ l) (h : W.heap[l]? = some o) (_ : o.isCells = false) (hw : o.isWalk = false) : KpS K W (W.putObj l o') :=
  ⟨by simp, fun b hb => World.putObj_heap_other (by have := hK b hb; omega), fun k x hk hx => (World.putObj_heap_other (by
    intro e
    subst e
    rw [h] at hk
    injection hk with hk
    subst hk
    rw [hw] at hx
    cases hx)).trans hk⟩
theorem KpS.of_below {K : Nat → Prop} {W W' : World} (h : Below W.heap.size W W') (hK : ∀ b, K b → b < W.heap.size) : KpS K W W' :=
  ⟨h.size, fun b hb => h.block b (hK b hb), fun k o hk _ => (h.block k (Array.getElem?_eq_some_iff.1 hk).1).trans hk⟩
/-- the blocks of a session, and the box of its pointer -/
def SesK (p m flo fhi Bs : Nat) (va : Value) (b : Nat) : Prop := b = p ∨ b = m ∨ (flo ≤ b ∧ b < fhi) ∨ va.ownBlock = some b ∨ b = Bs
theorem SesAt.kept {w w' : World} {lo p m flo fhi Bs : Nat} {va vf : Value} {fs : List Ft} {acts : List Ac} (h : SesAt w lo p m flo fhi va vf fs acts) (hk : ∀ b, SesK p m flo fhi Bs va b → w'.heap[b]? = w.heap[b]?) (hs : w.heap.size ≤ w'.heap.size) : SesAt w' lo p m flo fhi va vf fs acts := by
  refine ⟨(hk p (.inl rfl)).trans h.cells, ?_, h.feats.move (fun b h1 h2 => hk b (.inr (.inr (.inl ⟨h1, h2⟩)))), h.map.move (hk m (.inr (.inl rfl))), h.pf, h.mf, h.af, h.lp, h.lm, h.lf, Nat.le_trans h.hf hs⟩
  refine ⟨h.acts.1, h.acts.2.imp id fun ⟨g, cap, cur, e1, e2, e3, r⟩ => ⟨g, cap, cur, e1, e2, (hk g (.inr (.inr (.inr (.inl (by rw [e1]; rfl)))))).trans e3, r⟩⟩
theorem SesAt.lt {w : World} {lo p m flo fhi Bs : Nat} {va vf : Value} {fs : List Ft} {acts : List Ac} (h : SesAt w lo p m flo fhi va vf fs acts) (hBs : Bs < w.heap.size) {b : Nat} (hb : SesK p m flo fhi Bs va b) : b < w.heap.size := by
  rcases hb with rfl | rfl | ⟨_, h2⟩ | h2 | rfl
  · exact (Array.getElem?_eq_some_iff.1 h.cells).1
  · exact h.map.lt
  · have := h.hf; omega
  · exact (h.acts.lt _ h2).2
  · exact hBs
/-- a settled feature -/
abbrev SetI (fs : List Ft) (acts : List Ac) := { i : Nat // i < fs.length ∧ touched acts (ftAt fs i).1 = true }
def plOf (fs : List Ft) {acts : List Ac} (x : SetI fs acts) : Pl := (ftAt fs x.1).1
/-- what is yielded of it -/
def encS (vs : Nat → Value) (fs : List Ft) (acts : List Ac) (x : SetI fs acts) : Array Value := #[.agg (ftV (ftAt fs x.1).1 (vs x.1)).toArray, .int .i64 (pres acts (ftAt fs x.1))]

theorem SetMap.mono {w : World} {b n m : Nat} {s : Pl → Bool} (h : SetMap w b n s) (hn : n ≤ m) : SetMap w b m s := by
  obtain ⟨D, h, hr⟩ := h
  exact ⟨D, h.mono hn, hr⟩
theorem SetMap.obj {w : World} {b n : Nat} {s : Pl → Bool} (h : SetMap w b n s) : ∃ o : Obj, w.heap[b]? = some o ∧ o.isWalk = true := by
  obtain ⟨D, ⟨es, clock, hb, r⟩, hr⟩ := h
  exact ⟨_, hb, rfl⟩
theorem SetMap.congr {w : World} {b n : Nat} {s s' : Pl → Bool} (h : SetMap w b n s) (e : s = s') : SetMap w b n s' := e ▸ h
/-- below W the world is as it was -/
def Bw (W w' : World) : Prop := Below W.heap.size W w'
theorem Bw.refl (W : World) : Bw W W := Below.refl _ _
theorem Bw.d {W w' : World} (h : Bw W w') : Bw W w'.drew := Below.drew h
theorem Bw.drew (W : World) : Bw W W.drew := (Below.refl _ _).drew
theorem Bw.alloc {W w' : World} (h : Bw W w') (o : Obj) : Bw W (w'.alloc o) := Below.alloc h h.size o
theorem Bw.set {W w' : World} (h : Bw W w') (o : Nat) (u : Value) : Bw W (w'.setCell ⟨W.heap.size, o, none⟩ u) := Below.setCell h (p := ⟨W.heap.size, o, none⟩) (Nat.le_refl _) u
set_option maxHeartbeats 4000000 in
theorem settled1_stops (n : Nat) (hn3 : 1 ≤ n) (lo p m flo fhi Bs : Nat) (va : Value) (fa : Option Addr) (fc : Nat) (vs : Nat → Value) (fs : List Ft) (acts : List Ac) (w : World) (h : SesAt w lo p m flo fhi va (.slice fa fs.length fc) fs acts)
    (hrow : Row w flo fhi 6 fa fs.length (fun i => ftV (ftAt fs i).1 (vs i))) (hopt : ∀ i, i < fs.length → OptsAt w flo fhi (vs i) (ftAt fs i).2)
    (hBs : w.heap[Bs]? = some (.cells #[.pointer (some ⟨p, 0, none⟩)] 48 (0, 0))) (hg : Good fs) (ha : Acted fs acts) (hw : wfFs fs) (hwa : wfAs acts) :
    SeqStopsK Fence.wide n Tryz.prog 69 #[.pointer (some ⟨Bs, 0, none⟩)] (encS vs fs acts) (KpS (SesK p m flo fhi Bs va)) (fun xs => xs.map (plOf fs) = ordA acts) (fun _ => True) acts.length w := by
  intro l J Jx W hW hJ hJx hY h0
  have hS := h.below hW
  have hBW : W.heap[Bs]? = some (.cells #[.pointer (some ⟨p, 0, none⟩)] 48 (0, 0)) := (hW.block _ (Array.getElem?_eq_some_iff.1 hBs).1).trans hBs
  have hBlt : Bs < W.heap.size := (Array.getElem?_eq_some_iff.1 hBW).1
  obtain ⟨pa, pc, hva⟩ := own_shape hS.acts
  subst hva
  have b0 : W.cell? ⟨Bs, 0, none⟩ = some (.pointer (some ⟨p, 0, none⟩)) := by rw [cell_of_row _ _ _ _ _ _ hBW]; rfl
  have c0 : W.cell? ⟨p, 0, none⟩ = some (.slice pa acts.length pc) := by rw [cell_of_row _ _ _ _ _ _ hS.cells]; rfl
  have hp : p < W.heap.size := (Array.getElem?_eq_some_iff.1 hS.cells).1
  have hmm := @run_makeMap Tryz.prog
  have hfw := h.hf
  obtain ⟨na, hna⟩ : ∃ na, acts.length = na := ⟨_, rfl⟩
  have HNA := Lib.hid hna
  have hna2 : na ≤ 4096 := by rw [← hna]; exact ha.len
  rw [hna] at c0
  clear hna
  refine callsIn_of_wp Tryz.func69 rfl trivial ?_ rfl
  simp only [Tryz.ntmps69, List.size_toArray, List.length_cons, List.length_nil, Nat.reduceAdd, Nat.reduceSub, Array.replicate_succ, Array.replicate_zero, List.push_toArray, List.append_toArray, List.nil_append, List.cons_append]
  gi_wp2
  have HY := Lib.hid hY
  have HJ := Lib.hid hJ
  have HS := Lib.hid hS
  have HROW := Lib.hid hrow
  have HOPT := Lib.hid hopt
  have HG := Lib.hid hg
  have HA := Lib.hid ha
  have HW := Lib.hid hw
  have HWA := Lib.hid hwa
  have HBW := Lib.hid hBW
  have HWW := Lib.hid hW
  clear hY hJ hJx hS hrow hopt hg ha hw hwa h hBs hBW
  gi_loopw [16] (fun i wr => ∃ (k : Nat) (pre : List (SetI fs acts)), k ≤ na ∧ i = .int .i64 (k : Int) ∧ SetMap wr W.heap.size k (fun q => decide (q ∈ ordA (acts.take k))) ∧ pre.map (plOf fs) = ordA (acts.take k) ∧ J pre wr ∧
      SesAt wr lo p m flo fhi (.slice pa acts.length pc) (.slice fa fs.length fc) fs acts ∧ wr.heap[Bs]? = some (.cells #[.pointer (some ⟨p, 0, none⟩)] 48 (0, 0)) ∧ Same flo fhi w wr)
    (fun i wr => na - (intOf i).toNat)
  case atStart =>
    have hb : Below W.heap.size W (W.alloc (.map #[] 0)) := (Below.refl _ _).alloc (Nat.le_refl _) _
    refine ⟨0, [], Nat.zero_le _, rfl, (SetMap.made W).congr (by funext q; simp [ordA]), by simp [ordA], HJ.out _ _ _ none h0 (World.grownBy_alloc _ _ _) (fun r e => by cases e), HS.out.below hb, (hb.block _ hBlt).trans HBW.out, ?_⟩
    exact fun b h1 h2 => (hb.block b (by have := HS.out.hf; omega)).trans (HWW.out.block b (by omega))
  case round =>
    obtain ⟨k, pre, hkn, rfl, hset, hpre, hJp, hSr, hBr, hsame⟩ := hrel
    have HSET := Lib.hid hset
    have HPRE := Lib.hid hpre
    have HJP := Lib.hid hJp
    have HSR := Lib.hid hSr
    have HBR := Lib.hid hBr
    have HSM := Lib.hid hsame
    have hmlt : W.heap.size < wr.heap.size := hset.lt
    clear hset hpre hJp hBr hsame b0 c0
    by_cases hk : k < na
    · have hkf : k < acts.length := by rw [HNA.out]; exact hk
      obtain ⟨xa, xc, hx, -, hrw⟩ := hSr.actsAt
      simp only [Value.slice.injEq] at hx
      obtain ⟨rfl, -, rfl⟩ := hx
      obtain ⟨ba, oa, rfl, hb1, hb2, hcell⟩ := hrw (by omega)
      have hcw : ∀ x u, (acV (acAt acts k))[x]? = some u → wr.cell? ⟨ba, oa + k * 7 + x, none⟩ = some u := fun x u hu => hcell k hkf x u hu
      have htk : acts.take (k + 1) = acts.take k ++ [acAt acts k] := by rw [take_snoc hkf, acAt_get hkf]
      have hwf := HWA.out _ (acAt_mem hkf)
      have hpl := HA.out.place _ (acAt_mem hkf)
      have hor := ordA_snoc (acts.take k) (acAt acts k)
      rw [← htk] at hor
      have htou : touched acts (acAt acts k).2.1 = true := List.any_eq_true.2 ⟨_, acAt_mem hkf, by simp⟩
      generalize acAt acts k = A at *
      obtain ⟨kd, ⟨q1, q2, q3, q4, q5⟩, v⟩ := A
      simp only at hor hpl htou
      have d0 := hcw 0 _ rfl
      have d1 := hcw 1 _ rfl
      have d2 := hcw 2 _ rfl
      have d3 := hcw 3 _ rfl
      have d4 := hcw 4 _ rfl
      have d5 := hcw 5 _ rfl
      have d6 := hcw 6 _ rfl
      simp only [Nat.add_zero] at d0
      have hk0 : (0 : Int) ≤ k := by omega
      have hk1 : (k : Int) < na := by omega
      have hwp : wfP (q1, q2, q3, q4, q5) := hwf.2.1
      have HOR := Lib.hid hor
      have hbx : Below wr.heap.size wr (wr.alloc (.cells #[.int .i64 kd, .int .i64 q1, .int .i64 q2, .int .i64 q3, .int .i64 q4, .int .i64 q5, .int .i64 v] 60)) := (Below.refl _ _).alloc (Nat.le_refl _) _
      have hlk : (Instr.lookup 122 (.map (some W.heap.size)) (.agg #[.int .i64 q1, .int .i64 q2, .int .i64 q3, .int .i64 q4, .int .i64 q5]) false).run Tryz.prog (wr.alloc (.cells #[.int .i64 kd, .int .i64 q1, .int .i64 q2, .int .i64 q3, .int .i64 q4, .int .i64 q5, .int .i64 v] 60)) = .ok (.bool (decide ((q1, q2, q3, q4, q5) ∈ ordA (acts.take k)))) (wr.alloc (.cells #[.int .i64 kd, .int .i64 q1, .int .i64 q2, .int .i64 q3, .int .i64 q4, .int .i64 q5, .int .i64 v] 60)) :=
        (HSET.out.below hbx).look (p := (q1, q2, q3, q4, q5)) hwp
      have HJB := Lib.hid (HJ.out _ _ _ none HJP.out (World.grownBy_alloc wr (.cells #[.int .i64 kd, .int .i64 q1, .int .i64 q2, .int .i64 q3, .int .i64 q4, .int .i64 q5, .int .i64 v] 60) none) (fun r e => by cases e))
      have HBX := Lib.hid hbx
      clear hcell hcw htk hor hrw hSr hbx hwf
      by_cases hin : (q1, q2, q3, q4, q5) ∈ ordA (acts.take k)
      · rw [decide_eq_true hin] at hlk
        have HIN : Hid (ordA (acts.take (k + 1)) = ordA (acts.take k)) := by
          have := HOR.out
          rw [if_pos hin] at this
          exact this
        clear hin
        gi_wp2
        go_roundw
        case rel => exact ⟨k + 1, pre, by omega, by go_num, ((HSET.out.below HBX.out).mono (Nat.le_succ _)).congr (by rw [HIN.out]), by rw [HIN.out]; exact HPRE.out, HJB.out, HSR.out.below HBX.out, (HBX.out.block _ (Array.getElem?_eq_some_iff.1 HBR.out).1).trans HBR.out, fun b h1 h2 => (HBX.out.block b (by have := HSR.out.hf; omega)).trans (HSM.out b h1 h2)⟩
        case measure => simp [intOf]; omega
      · rw [decide_eq_false hin] at hlk
        have HIN : Hid (ordA (acts.take (k + 1)) = ordA (acts.take k) ++ [(q1, q2, q3, q4, q5)]) := by
          have := HOR.out
          rw [if_neg hin] at this
          exact this
        clear hin
        obtain ⟨w2, hst, hset2, hg2⟩ := (HSET.out.below HBX.out).store (p := (q1, q2, q3, q4, q5)) hwp (by simp only [maxLen]; omega)
        have hst' : (Instr.mapUpdate 122 (.map (some W.heap.size)) (.agg #[.int .i64 q1, .int .i64 q2, .int .i64 q3, .int .i64 q4, .int .i64 q5]) (.bool true)).run Tryz.prog (wr.alloc (.cells #[.int .i64 kd, .int .i64 q1, .int .i64 q2, .int .i64 q3, .int .i64 q4, .int .i64 q5, .int .i64 v] 60)) = .ok () w2 := hst
        clear hst
        have hne : ∀ b, SesK p m flo fhi Bs (.slice (some ⟨ba, oa, none⟩) acts.length pc) b → w2.heap[b]? = wr.heap[b]? := fun b hb => by
          have hlt := HS.out.lt hBlt hb
          exact (hg2.block b (by simp; omega) (fun e => by have := Option.some.inj e; omega)).trans (HBX.out.block b (by omega))
        have hz2 : wr.heap.size + 1 ≤ w2.heap.size := by have := hg2.size; simpa using this
        have HS2 := Lib.hid (HSR.out.kept hne (by omega))
        have hB2 : w2.heap[Bs]? = some (.cells #[.pointer (some ⟨p, 0, none⟩)] 48 (0, 0)) := (hne Bs (.inr (.inr (.inr (.inr rfl))))).trans HBR.out
        have HB2 := Lib.hid hB2
        have HJ2 := Lib.hid (HJ.out _ _ _ (some W.heap.size) HJB.out hg2 (fun r e => by
          obtain rfl := Option.some.inj e
          exact ⟨Nat.le_refl _, (HSET.out.below HBX.out).obj⟩))
        have HSM2 : Hid (Same flo fhi w w2) := fun b h1 h2 => (hne b (.inr (.inr (.inl ⟨h1, h2⟩)))).trans (HSM.out b h1 h2)
        have HSET2 := Lib.hid hset2
        have e0 : w2.cell? ⟨Bs, 0, none⟩ = some (.pointer (some ⟨p, 0, none⟩)) := by rw [cell_of_row _ _ _ _ _ _ hB2]; rfl
        have e1 : w2.cell? ⟨p, 1, none⟩ = some (.slice fa fs.length fc) := by rw [cell_of_row _ _ _ _ _ _ HS2.out.cells]; rfl
        have e2 : w2.cell? ⟨p, 2, none⟩ = some (.map (some m)) := by rw [cell_of_row _ _ _ _ _ _ HS2.out.cells]; rfl
        have nb : some wr.heap.size ≠ some W.heap.size := fun e => by have := Option.some.inj e; omega
        have x1 : w2.cell? ⟨wr.heap.size, 1, none⟩ = some (.int .i64 q1) := hg2.cell (a := ⟨wr.heap.size, 1, none⟩) (by go_simp) nb
        have x2 : w2.cell? ⟨wr.heap.size, 2, none⟩ = some (.int .i64 q2) := hg2.cell (a := ⟨wr.heap.size, 2, none⟩) (by go_simp) nb
        have x3 : w2.cell? ⟨wr.heap.size, 3, none⟩ = some (.int .i64 q3) := hg2.cell (a := ⟨wr.heap.size, 3, none⟩) (by go_simp) nb
        have x4 : w2.cell? ⟨wr.heap.size, 4, none⟩ = some (.int .i64 q4) := hg2.cell (a := ⟨wr.heap.size, 4, none⟩) (by go_simp) nb
        have x5 : w2.cell? ⟨wr.heap.size, 5, none⟩ = some (.int .i64 q5) := hg2.cell (a := ⟨wr.heap.size, 5, none⟩) (by go_simp) nb
        cases hat : atF fs (q1, q2, q3, q4, q5) with
        | none => exact absurd hpl (atF_none.1 hat)
        | some i =>
          obtain ⟨hif, hip⟩ := atF_some hat
          rw [← ftAt_get hif] at hip
          have hlk2 : ∀ W', Bw w2 W' → (Instr.lookup 75 (.map (some m)) (.agg #[.int .i64 q1, .int .i64 q2, .int .i64 q3, .int .i64 q4, .int .i64 q5]) false).run Tryz.prog W' = .ok (.int .i64 (i : Int)) W' := fun W' hb => by
            have := (HS2.out.map.below hb).look (p := (q1, q2, q3, q4, q5)) hwp
            rw [hat] at this
            exact this
          have HLK := Lib.hid hlk2
          obtain ⟨bf, off, rfl, hf1, hf2, hfc⟩ := (HROW.out.move HSM2.out) (by omega)
          have hfc' : ∀ x u, (ftV (ftAt fs i).1 (vs i))[x]? = some u → w2.cell? ⟨bf, off + i * 6 + x, none⟩ = some u := fun x u hu => hfc i hif x u hu
          have hop := (HOPT.out i hif).move HSM2.out
          have hwo := (HW.out _ (ftAt_mem hif)).2.2
          have hne2 := HG.out.some _ (ftAt_mem hif)
          have hmi := HG.out.miss _ (ftAt_mem hif)
          have HX : Hid (∃ x : SetI fs acts, x.1 = i) := ⟨⟨i, hif, by rw [hip]; exact htou⟩, rfl⟩
          obtain ⟨x, hxi⟩ := HX.out
          have HYX := Lib.hid (HY.out pre x)
          have HPX : Hid (plOf fs x = (q1, q2, q3, q4, q5)) := by show (ftAt fs x.1).1 = _; rw [hxi]; exact hip
          have hencs : encS vs fs acts x = #[.agg (ftV (ftAt fs i).1 (vs i)).toArray, .int .i64 (pres acts (ftAt fs i))] := by unfold encS; rw [hxi]
          rw [hencs] at HYX
          clear hencs HX
          generalize ftAt fs i = f at *
          obtain ⟨⟨r1, r2, r3, r4, r5⟩, os⟩ := f
          simp only at hip hop hwo hne2 hmi
          obtain ⟨rfl, rfl, rfl, rfl, rfl⟩ : r1 = q1 ∧ r2 = q2 ∧ r3 = q3 ∧ r4 = q4 ∧ r5 = q5 := by
            simp only [Prod.mk.injEq] at hip
            exact hip
          have hhf := HS2.out.hf
          have HPR := Lib.hid fun W' (hb : Below w2.heap.size w2 W') => present_c lo p m flo fhi _ _ fs acts r1 r2 r3 r4 r5 (vs i) os flo fhi W' (HS2.out.below hb) (hop.move (Same.of_below (hb.mono hhf))) (Nat.le_trans hhf hb.size) hwo hne2 hmi (by rw [HNA.out]; omega)
          obtain ⟨oo, oc, hvo, -, -⟩ := hop
          rw [hvo] at hfc' HPR HYX
          have g0 := hfc' 0 _ rfl
          have g1 := hfc' 1 _ rfl
          have g2 := hfc' 2 _ rfl
          have g3 := hfc' 3 _ rfl
          have g4 := hfc' 4 _ rfl
          have g5 := hfc' 5 _ rfl
          simp only [Nat.add_zero] at g0
          have hi0 : (0 : Int) ≤ (i : Int) := by omega
          have hi1 : (i : Int) < (fs.length : Int) := by omega
          have HG2 := Lib.hid hg2
          generalize pres acts ((r1, r2, r3, r4, r5), os) = PV at *
          generalize touched acts (r1, r2, r3, r4, r5) = TV at *
          have hbs2 : Bs < w2.heap.size := by omega
          have hp2 : p < w2.heap.size := by omega
          have hbf2 : bf < w2.heap.size := by omega
          have hba2 : wr.heap.size < w2.heap.size := by omega
          clear hfc hfc' hat hip hwo hne2 hmi hvo hlk2 hxi hpl htou hset2
          gi_wp2
          clear hst' hlk d0 d1 d2 d3 d4 d5 d6
          refine wpIn_wide.2 ?_
          have HSC : Hid (∀ w', Bw w2 w' → (w'.cell? ⟨Bs, 0, none⟩ = some (.pointer (some ⟨p, 0, none⟩)) ∧ w'.cell? ⟨p, 1, none⟩ = some (.slice (some ⟨bf, off, none⟩) fs.length fc) ∧ w'.cell? ⟨p, 2, none⟩ = some (.map (some m)) ∧ w'.cell? ⟨wr.heap.size, 1, none⟩ = some (.int .i64 r1) ∧ w'.cell? ⟨wr.heap.size, 2, none⟩ = some (.int .i64 r2) ∧ w'.cell? ⟨wr.heap.size, 3, none⟩ = some (.int .i64 r3) ∧ w'.cell? ⟨wr.heap.size, 4, none⟩ = some (.int .i64 r4) ∧ w'.cell? ⟨wr.heap.size, 5, none⟩ = some (.int .i64 r5) ∧ w'.cell? ⟨bf, off + i * 6, none⟩ = some (.int .i64 r1) ∧ w'.cell? ⟨bf, off + i * 6 + 1, none⟩ = some (.int .i64 r2) ∧ w'.cell? ⟨bf, off + i * 6 + 2, none⟩ = some (.int .i64 r3) ∧ w'.cell? ⟨bf, off + i * 6 + 3, none⟩ = some (.int .i64 r4) ∧ w'.cell? ⟨bf, off + i * 6 + 4, none⟩ = some (.int .i64 r5) ∧ w'.cell? ⟨bf, off + i * 6 + 5, none⟩ = some (.slice oo os.length oc) ∧ Bw w2 w')) := fun w' hb =>
            ⟨(hb.cell (p := ⟨Bs, 0, none⟩) hbs2).trans e0, (hb.cell (p := ⟨p, 1, none⟩) hp2).trans e1, (hb.cell (p := ⟨p, 2, none⟩) hp2).trans e2, (hb.cell (p := ⟨wr.heap.size, 1, none⟩) hba2).trans x1, (hb.cell (p := ⟨wr.heap.size, 2, none⟩) hba2).trans x2, (hb.cell (p := ⟨wr.heap.size, 3, none⟩) hba2).trans x3, (hb.cell (p := ⟨wr.heap.size, 4, none⟩) hba2).trans x4, (hb.cell (p := ⟨wr.heap.size, 5, none⟩) hba2).trans x5,
              (hb.cell (p := ⟨bf, _, none⟩) hbf2).trans g0, (hb.cell (p := ⟨bf, _, none⟩) hbf2).trans g1, (hb.cell (p := ⟨bf, _, none⟩) hbf2).trans g2, (hb.cell (p := ⟨bf, _, none⟩) hbf2).trans g3, (hb.cell (p := ⟨bf, _, none⟩) hbf2).trans g4, (hb.cell (p := ⟨bf, _, none⟩) hbf2).trans g5, hb⟩
          have hlkd := HLK.out w2.drew (Bw.drew _)
          have hlka := HLK.out (w2.alloc (.cells #[.int .i64 0, .int .i64 0, .int .i64 0, .int .i64 0, .int .i64 0, .slice none 0 0] 47)).drew ((Below.refl _ _).alloc (Nat.le_refl _) _).drew
          go_region_held3 (fun w' => w'.cell? ⟨Bs, 0, none⟩ = some (.pointer (some ⟨p, 0, none⟩)) ∧ w'.cell? ⟨p, 1, none⟩ = some (.slice (some ⟨bf, off, none⟩) fs.length fc) ∧ w'.cell? ⟨p, 2, none⟩ = some (.map (some m)) ∧ w'.cell? ⟨wr.heap.size, 1, none⟩ = some (.int .i64 r1) ∧ w'.cell? ⟨wr.heap.size, 2, none⟩ = some (.int .i64 r2) ∧ w'.cell? ⟨wr.heap.size, 3, none⟩ = some (.int .i64 r3) ∧ w'.cell? ⟨wr.heap.size, 4, none⟩ = some (.int .i64 r4) ∧ w'.cell? ⟨wr.heap.size, 5, none⟩ = some (.int .i64 r5) ∧ w'.cell? ⟨bf, off + i * 6, none⟩ = some (.int .i64 r1) ∧ w'.cell? ⟨bf, off + i * 6 + 1, none⟩ = some (.int .i64 r2) ∧ w'.cell? ⟨bf, off + i * 6 + 2, none⟩ = some (.int .i64 r3) ∧ w'.cell? ⟨bf, off + i * 6 + 3, none⟩ = some (.int .i64 r4) ∧ w'.cell? ⟨bf, off + i * 6 + 4, none⟩ = some (.int .i64 r5) ∧ w'.cell? ⟨bf, off + i * 6 + 5, none⟩ = some (.slice oo os.length oc) ∧ Bw w2 w')
            ((refine HSC.out _ ?_; with_reducible (first | exact Bw.drew _ | assumption | exact Bw.d (Bw.alloc (Bw.refl _) _) | exact Bw.d (((((((Bw.alloc (Bw.refl _) _).set _ _).set _ _).set _ _).set _ _).set _ _).set _ _))))
            (fail)
          all_goals
            gi_wp2_with fail
            refine ⟨trivial, ?_⟩
            refine (callsIn_wide.2 (HPR.out _ (Bw.d (Bw.alloc (Bw.refl _) _)))).mono ?_
            rintro e w4 ⟨rfl, hb4⟩
            have t0 : w4.cell? ⟨w2.heap.size, 0, none⟩ = some (.int .i64 r1) := (hb4.cell (p := ⟨w2.heap.size, 0, none⟩) (by simp)).trans (by go_simp)
            have t1 : w4.cell? ⟨w2.heap.size, 1, none⟩ = some (.int .i64 r2) := (hb4.cell (p := ⟨w2.heap.size, 1, none⟩) (by simp)).trans (by go_simp)
            have t2 : w4.cell? ⟨w2.heap.size, 2, none⟩ = some (.int .i64 r3) := (hb4.cell (p := ⟨w2.heap.size, 2, none⟩) (by simp)).trans (by go_simp)
            have t3 : w4.cell? ⟨w2.heap.size, 3, none⟩ = some (.int .i64 r4) := (hb4.cell (p := ⟨w2.heap.size, 3, none⟩) (by simp)).trans (by go_simp)
            have t4 : w4.cell? ⟨w2.heap.size, 4, none⟩ = some (.int .i64 r5) := (hb4.cell (p := ⟨w2.heap.size, 4, none⟩) (by simp)).trans (by go_simp)
            have t5 : w4.cell? ⟨w2.heap.size, 5, none⟩ = some (.slice oo os.length oc) := (hb4.cell (p := ⟨w2.heap.size, 5, none⟩) (by simp)).trans (by go_simp)
            have HB4 : Hid (Below w2.heap.size w2 w4) := below_step (Bw.d (Bw.alloc (Bw.refl _) _)) hb4
            have hlen : pre.length < acts.length := by
              have := ordA_len _ (acts.take k) rfl
              rw [← HPRE.out, List.length_map, List.length_take] at this
              rw [HNA.out] at this ⊢
              omega
            obtain ⟨fn, tmps, assign, body, hy, hR⟩ := HYX.out w4 (HJ.out _ _ _ none HJ2.out (grown_of_below HB4.out none) (fun r e => by cases e)) hlen
            simp only [ftV] at hy
            clear hb4 e0 e1 e2 x1 x2 x3 x4 x5 g0 g1 g2 g3 g4 g5 hlkd hlka
            gi_wp2
            refine hR.mono ?_
            rintro e W' (⟨rfl, hJ', hk'⟩ | ⟨rfl, hJx'⟩)
            · have HJN := Lib.hid hJ'
              have HKN := Lib.hid hk'
              clear hJ' hk' hy t0 t1 t2 t3 t4 t5
              gi_wp2
              go_roundw
              case rel =>
                refine ⟨k + 1, pre ++ [x], by omega, by go_num, ?_, ?_, HJN.out, (HS2.out.below HB4.out).kept HKN.out.2.1 HKN.out.1, ?_, ?_⟩
                · obtain ⟨o, ho, hw⟩ := (HSET2.out.below HB4.out).obj
                  refine ((HSET2.out.below HB4.out).move ((HKN.out.2.2 _ o ho hw).trans ho.symm)).congr ?_
                  funext q
                  rw [HIN.out]
                  unfold updP
                  by_cases e : q = (r1, r2, r3, r4, r5)
                  · rw [if_pos e]; simp [e]
                  · rw [if_neg e]; simp [e]
                · rw [List.map_append, HPRE.out, HIN.out, List.map_cons, List.map_nil, HPX.out]
                · exact (HKN.out.2.1 Bs (.inr (.inr (.inr (.inr rfl))))).trans ((HB4.out.block _ hbs2).trans HB2.out)
                · exact fun b h1 h2 => (HKN.out.2.1 b (.inr (.inr (.inl ⟨h1, h2⟩)))).trans ((HB4.out.block b (by have := HS2.out.hf; omega)).trans (HSM2.out b h1 h2))
              case measure => simp [intOf]; omega
            · gi_wp2
              refine bodyPost_ret (results_none rfl _ _ _) rfl ?_
              exact ⟨⟨_, rfl⟩, .inr ⟨pre ++ [x], trivial, hJx'⟩⟩
    · have hk' : k = na := by omega
      subst hk'
      gi_wp2
      go_end0
      refine ⟨⟨_, rfl⟩, .inl ⟨pre, ?_, HJP.out⟩⟩
      rw [HPRE.out, ← HNA.out, List.take_length]
end Go.Proofs.YtpcefaccoifejaaGreatDoor
