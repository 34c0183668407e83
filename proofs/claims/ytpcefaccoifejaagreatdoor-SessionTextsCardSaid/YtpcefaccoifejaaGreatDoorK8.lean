/-
  A session in memory, and the contract of session.New. Conditions: what is read lies in memory as SW says, and is not too long.
-/
import Derived.Test.YtpcefaccoifejaaGreatDoorK7
namespace Go.Proofs.YtpcefaccoifejaaGreatDoor
open Go.RowKit Go.Maps
set_option linter.unusedSimpArgs false
set_option linter.unusedVariables false
set_option maxRecDepth 100000

/-- a session: the struct in block p, its map in block m, its features in the blocks from flo on, below fhi; all from lo on -/
structure SesAt (w : World) (lo p m flo fhi : Nat) (va vf : Value) (fs : List Ft) (acts : List Ac) : Prop where
  cells : w.heap[p]? = some (.cells #[va, vf, .map (some m)] 77 (0, 0))
  acts : w.ownsRow lo 60 7 va acts.length (acts.flatMap acV)
  feats : FeatsAt w flo fhi vf fs
  map : IdxMap w m fs.length (atF fs)
  pf : ¬ (flo ≤ p ∧ p < fhi)
  mf : ¬ (flo ≤ m ∧ m < fhi)
  af : ∀ g, va.ownBlock = some g → ¬ (flo ≤ g ∧ g < fhi)
  lp : lo ≤ p
  lm : lo ≤ m
  lf : lo ≤ flo
  hf : fhi ≤ w.heap.size

theorem atF_snoc (f : Ft) (p : Pl) : ∀ (l : List Ft), atF (l ++ [f]) p = match atF l p with | some i => some i | none => if f.1 = p then some l.length else none
  | [] => by simp [atF]
  | g :: r => by
    simp only [List.cons_append, atF]
    by_cases e : g.1 = p
    · rw [if_pos e, if_pos e]
    · rw [if_neg e, if_neg e, atF_snoc f p r]
      cases atF r p with
      | some i => rfl
      | none =>
        simp only [Option.map_none]
        by_cases h : f.1 = p
        · rw [if_pos h, if_pos h]; simp
        · rw [if_neg h, if_neg h]; rfl
theorem updP_atF {l : List Ft} {f : Ft} (h : atF l f.1 = none) : updP (atF l) f.1 (some l.length) = atF (l ++ [f]) := by
  funext q
  rw [atF_snoc]
  unfold updP
  by_cases e : q = f.1
  · subst e
    rw [if_pos rfl, h]
    simp
  · rw [if_neg e]
    cases atF l q with
    | some i => rfl
    | none => simp only; rw [if_neg (fun x => e x.symm)]
theorem newGo_cons (seen : List Pl) (f : Ft) (r : List Ft) : newGo seen (f :: r) = if newStep seen f = 0 then newGo (seen ++ [f.1]) r else newStep seen f := rfl
theorem badO_eq (os : List Opt) : badO os = os.any badB := rfl
theorem newStep_none {seen : List Pl} {f : Ft} (h : f.2 = []) : newStep seen f = 6 := if_pos h
theorem newStep_bad {seen : List Pl} {f : Ft} (h : f.2 ≠ []) (hb : f.2.any badB = true) : newStep seen f = 8 := by unfold newStep; rw [if_neg h, badO_eq, if_pos hb]
theorem newStep_twice {seen : List Pl} {f : Ft} (h : f.2 ≠ []) (hb : f.2.any badB = false) (hs : f.1 ∈ seen) : newStep seen f = 1 := by
  unfold newStep; rw [if_neg h, badO_eq, if_neg (by rw [hb]; exact Bool.false_ne_true), if_pos hs]
theorem newStep_ok {seen : List Pl} {f : Ft} (h : f.2 ≠ []) (hb : f.2.any badB = false) (hs : f.1 ∉ seen) : newStep seen f = 0 := by
  unfold newStep; rw [if_neg h, badO_eq, if_neg (by rw [hb]; exact Bool.false_ne_true), if_neg hs]
theorem drop_at {fs : List Ft} {k : Nat} (h : k < fs.length) : fs.drop k = ftAt fs k :: fs.drop (k + 1) := by
  rw [ftAt_get h]
  exact List.drop_eq_getElem_cons h

def NewRes (w : World) (fs : List Ft) (e : Ending) (w' : World) : Prop :=
  Below w.heap.size w w' ∧ ((newE fs ≠ 0 ∧ e = .returned (.tuple #[.pointer none, .int .i64 (newE fs)])) ∨
    (newE fs = 0 ∧ ∃ p m flo fhi vf, e = .returned (.tuple #[.pointer (some ⟨p, 0, none⟩), .int .i64 0]) ∧ SesAt w' w.heap.size p m flo fhi (.slice none 0 0) vf fs []))

set_option maxHeartbeats 2000000 in
theorem New_c (v : Value) (fs : List Ft) (lo hi : Nat) (w : World) (h : FeatsAt w lo hi v fs) (hh : hi ≤ w.heap.size) (hw : wfFs fs) (hlm : fs.length ≤ 4611686018427387904) :
    Calls Tryz.prog 13 #[v] w (NewRes w fs) := by
  by_cases hl : 20000 < fs.length
  · have hE : newE fs = 4 := if_pos hl
    obtain ⟨a, cap, vs, rfl, -, -, -⟩ := h
    have HE := Lib.hid hE
    have hl2 : 20000 < (fs.length : Int) := by omega
    clear hE hl
    obtain ⟨n, hn⟩ : ∃ n, fs.length = n := ⟨_, rfl⟩
    rw [hn] at hl2 hlm ⊢
    clear hn
    go_enter Tryz.func13, Tryz.ntmps13
    go_wp2
    go_ret2
    exact ⟨Below.refl _ _, .inl ⟨by rw [HE.out]; decide, by rw [HE.out]; rfl⟩⟩
  · have hl2 : (fs.length : Int) ≤ 20000 := by omega
    have hl3 : fs.length ≤ 20000 := by omega
    have hE : newE fs = newGo [] fs := if_neg hl
    have HE := Lib.hid hE
    have HCP := Lib.hid fun W (hb : Below w.heap.size w W) => copied_c v fs lo hi W (h.move (Same.of_below (hb.mono hh))) (Nat.le_trans hh hb.size) hl3 hw
    obtain ⟨a, cap, vs, rfl, -, hr, ho⟩ := h
    have HR := Lib.hid hr
    have HO := Lib.hid ho
    have HW := Lib.hid hw
    obtain ⟨n, hn⟩ : ∃ n, fs.length = n := ⟨_, rfl⟩
    have HN := Lib.hid hn
    have hmm := @run_makeMap Tryz.prog
    rw [hn] at hl2 hl3 hlm HCP ⊢
    clear hr ho hw hn hE hl
    go_enter Tryz.func13, Tryz.ntmps13
    go_wp2_with fail
    refine (HCP.out _ (by go_grown)).mono ?_
    rintro e w1 ⟨vf, rfl, hof, hb1⟩
    obtain ⟨fa, fc, rfl⟩ : ∃ fa fc, vf = .slice fa n fc := by
      obtain ⟨vs, h1, h2, h3⟩ := hof
      rw [HN.out] at h2
      exact own_shape h2
    have hB1 : Below w.heap.size w w1 := below_step (by go_grown) hb1
    have hm1 : IdxMap w1 w.heap.size 0 (fun _ => none) := (IdxMap.made w).below hb1
    have hz1 := hb1.size
    rw [World.size_alloc] at hz1
    have hF1 : FeatsAt w1 (w.heap.size + 1) w1.heap.size (.slice fa n fc) fs := by
      have := hof.feats
      rwa [World.size_alloc] at this
    have HF1 := Lib.hid hF1
    have HM1 := Lib.hid hm1
    have HB1 := Lib.hid hB1
    clear hof hb1 hB1 hm1 hF1 HCP
    go_wp2
    go_loopw [19] (fun i wr => ∃ (k : Nat), k ≤ n ∧ i = .int .i64 (k : Int) ∧ IdxMap wr w.heap.size k (atF (fs.take k)) ∧ newGo ((fs.take k).map (·.1)) (fs.drop k) = newE fs ∧
        wr.heap[w1.heap.size]? = some (.cells #[.slice none 0 0, .slice fa n fc, .map (some w.heap.size)] 77 (0, 0)) ∧ FeatsAt wr (w.heap.size + 1) w1.heap.size (.slice fa n fc) fs ∧ Below w.heap.size w wr)
      (fun i wr => n - (intOf i).toNat)
    case atStart =>
      have hb : Below w1.heap.size w1 (w1.alloc (.cells #[.slice none 0 0, .slice fa n fc, .map (some w.heap.size)] 77)) := (Below.refl _ _).alloc (Nat.le_refl _) _
      refine ⟨0, Nat.zero_le _, rfl, ?_, ?_, heap_alloc_new _ _, HF1.out.move (Same.of_below hb), HB1.out.trans (hb.mono (by omega))⟩
      · rw [List.take_zero]
        exact HM1.out.below hb
      · rw [HE.out]
        simp
    case round =>
      obtain ⟨k, hkn, rfl, hmap, hgo, hcell, hfe, hB⟩ := hrel
      have HM := Lib.hid hmap
      have HG := Lib.hid hgo
      have HC := Lib.hid hcell
      have HF := Lib.hid hfe
      clear hmap hgo hfe
      by_cases hk : k < n
      · have hkf : k < fs.length := by rw [HN.out]; exact hk
        obtain ⟨b, off, rfl, hb1, hb2, hc⟩ := HR.out (by omega)
        have hcw : ∀ j u, (ftV (ftAt fs k).1 (vs k))[j]? = some u → wr.cell? ⟨b, off + k * 6 + j, none⟩ = some u := fun j u hu => (hB.cell (p := ⟨b, off + k * 6 + j, none⟩) (show b < w.heap.size by omega)).trans (hc k hkf j u hu)
        have HOk := HO.out k hkf
        have hwk := HW.out _ (ftAt_mem hkf)
        have hft : fs.take (k + 1) = fs.take k ++ [ftAt fs k] := by rw [take_snoc hkf, ftAt_get hkf]
        have hdr := drop_at hkf
        have HFT := Lib.hid hft
        have HDR := Lib.hid hdr
        have hlen : (fs.take k).length = k := by rw [List.length_take]; omega
        have HL := Lib.hid hlen
        clear hft hdr hlen
        generalize ftAt fs k = f at *
        obtain ⟨⟨p1, p2, p3, p4, p5⟩, os⟩ := f
        have hgo := HG.out
        rw [HDR.out, newGo_cons] at hgo
        have HG2 := Lib.hid hgo
        clear hgo
        have HCF := Lib.hid fun W (hb : Below w.heap.size w W) => ContainsNew_c (vs k) os lo hi W (HOk.move (Same.of_below (hb.mono hh))) (Nat.le_trans hh hb.size) hwk.2.2
        obtain ⟨va, vc, hv, -⟩ := HOk
        rw [hv] at HCF hcw
        have c0 := hcw 0 _ rfl
        have c1 := hcw 1 _ rfl
        have c2 := hcw 2 _ rfl
        have c3 := hcw 3 _ rfl
        have c4 := hcw 4 _ rfl
        have c5 := hcw 5 _ rfl
        simp only [Nat.add_zero] at c0
        have hk0 : (0 : Int) ≤ k := by omega
        have hk1 : (k : Int) < n := by omega
        have HWP := Lib.hid hwk.1
        have HB := Lib.hid hB
        have hs := hB.size
        clear hcw hwk hB hv hcell
        by_cases ho : os = []
        · subst ho
          have h6 : newE fs = 6 := by
            have := HG2.out
            rw [newStep_none rfl, if_neg (by decide)] at this
            exact this.symm
          have H6 := Lib.hid h6
          clear h6
          go_wp2
          go_ret2
          exact ⟨HB.out.trans (by go_grown), .inl ⟨by rw [H6.out]; decide, by rw [H6.out]; rfl⟩⟩
        · have hol : ¬ ((os.length : Int) = 0) := by
            cases os with
            | nil => exact absurd rfl ho
            | cons x r => simp only [List.length_cons]; omega
          have HNE := Lib.hid ho
          clear ho
          go_wp2_with fail
          refine (HCF.out _ (HB.out.trans (by go_grown))).mono ?_
          rintro e w3 ⟨rfl, hb3⟩
          have k0 : w3.cell? ⟨wr.heap.size, 0, none⟩ = some (.int .i64 p1) := (hb3.cell (p := ⟨wr.heap.size, 0, none⟩) (by simp)).trans (by go_simp)
          have k1 : w3.cell? ⟨wr.heap.size, 1, none⟩ = some (.int .i64 p2) := (hb3.cell (p := ⟨wr.heap.size, 1, none⟩) (by simp)).trans (by go_simp)
          have k2 : w3.cell? ⟨wr.heap.size, 2, none⟩ = some (.int .i64 p3) := (hb3.cell (p := ⟨wr.heap.size, 2, none⟩) (by simp)).trans (by go_simp)
          have k3 : w3.cell? ⟨wr.heap.size, 3, none⟩ = some (.int .i64 p4) := (hb3.cell (p := ⟨wr.heap.size, 3, none⟩) (by simp)).trans (by go_simp)
          have k4 : w3.cell? ⟨wr.heap.size, 4, none⟩ = some (.int .i64 p5) := (hb3.cell (p := ⟨wr.heap.size, 4, none⟩) (by simp)).trans (by go_simp)
          have hbw : Below wr.heap.size wr w3 := below_step (by go_grown) hb3
          have hB3 : Below w.heap.size w w3 := HB.out.trans (hbw.mono hs)
          have hlt : w1.heap.size < wr.heap.size := (Array.getElem?_eq_some_iff.1 HC.out).1
          have hz3 : wr.heap.size < w3.heap.size := by have := hb3.size; simp at this; omega
          have hC3 : w3.heap[w1.heap.size]? = some (.cells #[.slice none 0 0, .slice fa n fc, .map (some w.heap.size)] 77 (0, 0)) := (hbw.block _ hlt).trans HC.out
          have s2 : w3.cell? ⟨w1.heap.size, 2, none⟩ = some (.map (some w.heap.size)) := by rw [cell_of_row _ _ _ _ _ _ hC3]; rfl
          have hM3 := HM.out.below hbw
          have hl3 : ∀ q, (Instr.lookup 75 (.map (some w.heap.size)) (.agg #[.int .i64 p1, .int .i64 p2, .int .i64 p3, .int .i64 p4, .int .i64 p5]) true).run Tryz.prog (w3.drewN q) = .ok (.tuple #[.int .i64 (((atF (fs.take k) (p1, p2, p3, p4, p5)).getD 0 : Nat) : Int), .bool (atF (fs.take k) (p1, p2, p3, p4, p5)).isSome]) (w3.drewN q) :=
            fun q => IdxMap.look_ok (w := w3.drewN q) (p := (p1, p2, p3, p4, p5)) hM3 HWP.out
          have HC3 := Lib.hid hC3
          have HM3 := Lib.hid hM3
          have HB3 := Lib.hid hB3
          have HF3 := Lib.hid (HF.out.move (Same.of_below (hbw.mono (by omega))))
          clear hb3 hbw hC3 hM3 hB3 c0 c1 c2 c3 c4 c5
          generalize hbad : os.any badB = r at *
          have HBAD := Lib.hid hbad
          clear hbad
          cases r
          · have HN2 := Lib.hid (Iff.trans atF_none Iff.rfl : atF (fs.take k) (p1, p2, p3, p4, p5) = none ↔ (p1, p2, p3, p4, p5) ∉ (fs.take k).map (·.1))
            generalize hat : atF (fs.take k) (p1, p2, p3, p4, p5) = at1 at *
            have HAT := Lib.hid hat
            clear hat
            cases at1 with
            | some i =>
              have h1 : newE fs = 1 := by
                have := HG2.out
                rw [newStep_twice HNE.out HBAD.out (Classical.byContradiction fun x => by have := HN2.out.2 x; cases this), if_neg (by decide)] at this
                exact this.symm
              have H1 := Lib.hid h1
              clear h1
              simp only [Option.getD_some, Option.isSome_some] at hl3
              go_wp2_with fail
              go_quiet (fail)
              go_wp2
              go_ret2
              exact ⟨below_drewN HB3.out _, .inl ⟨by rw [H1.out]; decide, by rw [H1.out]; rfl⟩⟩
            | none =>
              simp only [Option.getD_none, Option.isSome_none] at hl3
              have hst := HG2.out
              rw [newStep_ok HNE.out HBAD.out (HN2.out.1 rfl), if_pos rfl] at hst
              have HST := Lib.hid hst
              clear hst
              go_wp2_with fail
              go_quiet (fail)
              go_wp2_with fail
              refine wp_named fun W hW => ?_
              have hbW : Below w3.heap.size w3 W := by rw [hW]; exact below_drewN (Below.refl _ _) _
              have m0 : W.cell? ⟨wr.heap.size, 0, none⟩ = some (.int .i64 p1) := by rw [hW]; exact k0
              have m1 : W.cell? ⟨wr.heap.size, 1, none⟩ = some (.int .i64 p2) := by rw [hW]; exact k1
              have m2 : W.cell? ⟨wr.heap.size, 2, none⟩ = some (.int .i64 p3) := by rw [hW]; exact k2
              have m3 : W.cell? ⟨wr.heap.size, 3, none⟩ = some (.int .i64 p4) := by rw [hW]; exact k3
              have m4 : W.cell? ⟨wr.heap.size, 4, none⟩ = some (.int .i64 p5) := by rw [hW]; exact k4
              have t2 : W.cell? ⟨w1.heap.size, 2, none⟩ = some (.map (some w.heap.size)) := by rw [hW]; exact s2
              clear hW k0 k1 k2 k3 k4 s2 hl3
              obtain ⟨w2, hst2, hM2, hg2⟩ := IdxMap.store (w := W.drew) (p := (p1, p2, p3, p4, p5)) (i := k) (HM3.out.below hbW.drew) HWP.out (by omega) (by simp only [maxLen]; omega)
              have hst2' : (Instr.mapUpdate 75 (.map (some w.heap.size)) (.agg #[.int .i64 p1, .int .i64 p2, .int .i64 p3, .int .i64 p4, .int .i64 p5]) (.int .i64 (k : Int))).run Tryz.prog W.drew = .ok () w2 := hst2
              have hK2 : Kg W (some w.heap.size) w2 := ⟨hg2.os, hg2.tape, hg2.output, hg2.size, fun i hi hn => hg2.block i hi hn⟩
              have HM2 := Lib.hid hM2
              have HG3 := Lib.hid hg2
              have n1 : some wr.heap.size ≠ some w.heap.size := fun e => by have := Option.some.inj e; omega
              have n2 : some w1.heap.size ≠ some w.heap.size := fun e => by have := Option.some.inj e; omega
              have HS : Hid (∀ w', Kg W (some w.heap.size) w' → (w'.cell? ⟨wr.heap.size, 0, none⟩ = some (.int .i64 p1) ∧ w'.cell? ⟨wr.heap.size, 1, none⟩ = some (.int .i64 p2) ∧ w'.cell? ⟨wr.heap.size, 2, none⟩ = some (.int .i64 p3) ∧ w'.cell? ⟨wr.heap.size, 3, none⟩ = some (.int .i64 p4) ∧ w'.cell? ⟨wr.heap.size, 4, none⟩ = some (.int .i64 p5) ∧ w'.cell? ⟨w1.heap.size, 2, none⟩ = some (.map (some w.heap.size)) ∧ Kg W (some w.heap.size) w')) :=
                fun w' K => ⟨K.cell m0 n1, K.cell m1 n1, K.cell m2 n1, K.cell m3 n1, K.cell m4 n1, K.cell t2 n2, K⟩
              clear m0 m1 m2 m3 m4 t2 hst2 hM2 hg2
              go_region_held3 (fun w' => w'.cell? ⟨wr.heap.size, 0, none⟩ = some (.int .i64 p1) ∧ w'.cell? ⟨wr.heap.size, 1, none⟩ = some (.int .i64 p2) ∧ w'.cell? ⟨wr.heap.size, 2, none⟩ = some (.int .i64 p3) ∧ w'.cell? ⟨wr.heap.size, 3, none⟩ = some (.int .i64 p4) ∧ w'.cell? ⟨wr.heap.size, 4, none⟩ = some (.int .i64 p5) ∧ w'.cell? ⟨w1.heap.size, 2, none⟩ = some (.map (some w.heap.size)) ∧ Kg W (some w.heap.size) w')
                ((refine HS.out _ ?_; with_reducible (first | exact Kg.drew _ _ | assumption))) (fail)
              have hz2 : w3.heap.size ≤ w2.heap.size := Nat.le_trans hbW.size HG3.out.size
              have hB2 : Below w.heap.size w w2 := (HB3.out.trans (hbW.mono (by omega))).drew.grown HG3.out (by have := hbW.size; simp; omega) (fun j hj => by injection hj with hj; omega)
              have hC2 : w2.heap[w1.heap.size]? = some (.cells #[.slice none 0 0, .slice fa n fc, .map (some w.heap.size)] 77 (0, 0)) :=
                (HG3.out.block _ (by have := hbW.size; simp; omega) n2).trans ((hbW.block _ (by omega)).trans HC3.out)
              have hF2 : FeatsAt w2 (w.heap.size + 1) w1.heap.size (.slice fa n fc) fs :=
                (HF3.out.move (Same.of_below (hbW.mono (by omega)))).move (fun j h1 h2 => HG3.out.block j (by have := hbW.size; simp; omega) (fun e => by injection e with e; omega))
              have HX := Lib.hid (show IdxMap w2 w.heap.size (k + 1) (atF (fs.take (k + 1))) ∧ newGo ((fs.take (k + 1)).map (·.1)) (fs.drop (k + 1)) = newE fs from ⟨by
                rw [HFT.out, ← updP_atF (by exact HAT.out), HL.out]; exact HM2.out, by rw [HFT.out, List.map_append]; exact HST.out⟩)
              have HY := Lib.hid (And.intro hC2 (And.intro hF2 hB2))
              clear hB2 hC2 hF2 hbW hK2 hst2'
              go_wp2
              go_roundw
              case rel => exact ⟨k + 1, by omega, by go_num, HX.out.1, HX.out.2, HY.out.1, HY.out.2.1, HY.out.2.2⟩
              case measure => simp [intOf]; omega
          · have h8 : newE fs = 8 := by
              have := HG2.out
              rw [newStep_bad HNE.out HBAD.out, if_neg (by decide)] at this
              exact this.symm
            have H8 := Lib.hid h8
            clear h8
            go_wp2
            go_ret2
            exact ⟨HB3.out, .inl ⟨by rw [H8.out]; decide, by rw [H8.out]; rfl⟩⟩
      · have hk' : k = n := by omega
        subst hk'
        have h0 : newE fs = 0 := by
          have := HG.out
          rw [← HN.out, List.drop_length] at this
          exact this.symm
        have hm := HM.out
        rw [← HN.out, List.take_length, HN.out] at hm
        have HB := Lib.hid hB
        clear hcell hB
        go_wp2
        go_ret2
        refine ⟨HB.out, .inr ⟨h0, w1.heap.size, w.heap.size, w.heap.size + 1, w1.heap.size, _, rfl, ⟨HC.out, World.ownsRow_nil _ _ _ _, HF.out, by rw [HN.out]; exact hm, by omega, by omega, fun g hg => (by cases hg), by omega, Nat.le_refl _, by omega, ?_⟩⟩⟩
        have := (Array.getElem?_eq_some_iff.1 HC.out).1
        omega
end Go.Proofs.YtpcefaccoifejaaGreatDoor
