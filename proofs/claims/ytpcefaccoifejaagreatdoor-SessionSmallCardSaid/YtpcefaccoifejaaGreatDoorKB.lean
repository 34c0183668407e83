/-
  Contracts of slices.MinFunc at options and of session's best. Conditions: what is read lies in memory as SW says; there is an option; misses are within their bounds.
-/
import Derived.Test.YtpcefaccoifejaaGreatDoorKA
import Derived.Deep.AppendLies
import Derived.Deep.RegionLaw
import Derived.Laws.EntriesVeiled
namespace Go.Proofs.YtpcefaccoifejaaGreatDoor
open Go.RowKit Go.Maps
set_option linter.unusedSimpArgs false
set_option linter.unusedVariables false
set_option maxRecDepth 100000

/-- a session: the struct in block p, its map in block m, its features in the blocks from flo on, below fhi; all from lo on -/
structure SesAt (w : World) (lo p m flo fhi : Nat) (va vf : Value) (fs : List Ft) (acts : List Ac) : Prop where
  cells : w.heap[p]? = some (.cells #[va, vf, .map (some m)] 77 (0, 0))
  acts : w.ownsRow lo 60 7 va acts.length (acts.flatMap acV)
  feats : FeatsAt w flo fhi vf fs
  map : IdxMap w m fs.length (atF fs)
  pf : ¬ (flo ≤ p ∧ p < fhi)
  mf : ¬ (flo ≤ m ∧ m < fhi)
  af : ∀ g, va.ownBlock = some g → ¬ (flo ≤ g ∧ g < fhi)
  lp : lo ≤ p
  lm : lo ≤ m
  lf : lo ≤ flo
  hf : fhi ≤ w.heap.size

theorem atF_snoc (f : Ft) (p : Pl) : ∀ (l : List Ft), atF (l ++ [f]) p = match atF l p with | some i => some i | none => if f.1 = p then some l.length else none
  | [] => by simp [atF]
  | g :: r => by
    simp only [List.cons_append, atF]
    by_cases e : g.1 = p
    · rw [if_pos e, if_pos e]
    · rw [if_neg e, if_neg e, atF_snoc f p r]
      cases atF r p with
      | some i => rfl
      | none =>
        simp only [Option.map_none]
        by_cases h : f.1 = p
        · rw [if_pos h, if_pos h]; simp
        · rw [if_neg h, if_neg h]; rfl
theorem updP_atF {l : List Ft} {f : Ft} (h : atF l f.1 = none) : updP (atF l) f.1 (some l.length) = atF (l ++ [f]) := by
  funext q
  rw [atF_snoc]
  unfold updP
  by_cases e : q = f.1
  · subst e
    rw [if_pos rfl, h]
    simp
  · rw [if_neg e]
    cases atF l q with
    | some i => rfl
    | none => simp only; rw [if_neg (fun x => e x.symm)]
theorem newGo_cons (seen : List Pl) (f : Ft) (r : List Ft) : newGo seen (f :: r) = if newStep seen f = 0 then newGo (seen ++ [f.1]) r else newStep seen f := rfl
theorem badO_eq (os : List Opt) : badO os = os.any badB := rfl
theorem newStep_none {seen : List Pl} {f : Ft} (h : f.2 = []) : newStep seen f = 6 := if_pos h
theorem newStep_bad {seen : List Pl} {f : Ft} (h : f.2 ≠ []) (hb : f.2.any badB = true) : newStep seen f = 8 := by unfold newStep; rw [if_neg h, badO_eq, if_pos hb]
theorem newStep_twice {seen : List Pl} {f : Ft} (h : f.2 ≠ []) (hb : f.2.any badB = false) (hs : f.1 ∈ seen) : newStep seen f = 1 := by
  unfold newStep; rw [if_neg h, badO_eq, if_neg (by rw [hb]; exact Bool.false_ne_true), if_pos hs]
theorem newStep_ok {seen : List Pl} {f : Ft} (h : f.2 ≠ []) (hb : f.2.any badB = false) (hs : f.1 ∉ seen) : newStep seen f = 0 := by
  unfold newStep; rw [if_neg h, badO_eq, if_neg (by rw [hb]; exact Bool.false_ne_true), if_neg hs]
theorem drop_at {fs : List Ft} {k : Nat} (h : k < fs.length) : fs.drop k = ftAt fs k :: fs.drop (k + 1) := by
  rw [ftAt_get h]
  exact List.drop_eq_getElem_cons h

def NewRes (w : World) (fs : List Ft) (e : Ending) (w' : World) : Prop :=
  Below w.heap.size w w' ∧ ((newE fs ≠ 0 ∧ e = .returned (.tuple #[.pointer none, .int .i64 (newE fs)])) ∨
    (newE fs = 0 ∧ ∃ p m flo fhi vf, e = .returned (.tuple #[.pointer (some ⟨p, 0, none⟩), .int .i64 0]) ∧ SesAt w' w.heap.size p m flo fhi (.slice none 0 0) vf fs []))

set_option maxHeartbeats 2000000 in
theorem New_c (v : Value) (fs : List Ft) (lo hi : Nat) (w : World) (h : FeatsAt w lo hi v fs) (hh : hi ≤ w.heap.size) (hw : wfFs fs) (hlm : fs.length ≤ 4611686018427387904) :
    Calls Tryz.prog 13 #[v] w (NewRes w fs) := by
  by_cases hl : 20000 < fs.length
  · have hE : newE fs = 4 := if_pos hl
    obtain ⟨a, cap, vs, rfl, -, -, -⟩ := h
    have HE := Lib.hid hE
    have hl2 : 20000 < (fs.length : Int) := by omega
    clear hE hl
    obtain ⟨n, hn⟩ : ∃ n, fs.length = n := ⟨_, rfl⟩
    rw [hn] at hl2 hlm ⊢
    clear hn
    go_enter Tryz.func13, Tryz.ntmps13
    go_wp2
    go_ret2
    exact ⟨Below.refl _ _, .inl ⟨by rw [HE.out]; decide, by rw [HE.out]; rfl⟩⟩
  · have hl2 : (fs.length : Int) ≤ 20000 := by omega
    have hl3 : fs.length ≤ 20000 := by omega
    have hE : newE fs = newGo [] fs := if_neg hl
    have HE := Lib.hid hE
    have HCP := Lib.hid fun W (hb : Below w.heap.size w W) => copied_c v fs lo hi W (h.move (Same.of_below (hb.mono hh))) (Nat.le_trans hh hb.size) hl3 hw
    obtain ⟨a, cap, vs, rfl, -, hr, ho⟩ := h
    have HR := Lib.hid hr
    have HO := Lib.hid ho
    have HW := Lib.hid hw
    obtain ⟨n, hn⟩ : ∃ n, fs.length = n := ⟨_, rfl⟩
    have HN := Lib.hid hn
    have hmm := @run_makeMap Tryz.prog
    rw [hn] at hl2 hl3 hlm HCP ⊢
    clear hr ho hw hn hE hl
    go_enter Tryz.func13, Tryz.ntmps13
    go_wp2_with fail
    refine (HCP.out _ (by go_grown)).mono ?_
    rintro e w1 ⟨vf, rfl, hof, hb1⟩
    obtain ⟨fa, fc, rfl⟩ : ∃ fa fc, vf = .slice fa n fc := by
      obtain ⟨vs, h1, h2, h3⟩ := hof
      rw [HN.out] at h2
      exact own_shape h2
    have hB1 : Below w.heap.size w w1 := below_step (by go_grown) hb1
    have hm1 : IdxMap w1 w.heap.size 0 (fun _ => none) := (IdxMap.made w).below hb1
    have hz1 := hb1.size
    rw [World.size_alloc] at hz1
    have hF1 : FeatsAt w1 (w.heap.size + 1) w1.heap.size (.slice fa n fc) fs := by
      have := hof.feats
      rwa [World.size_alloc] at this
    have HF1 := Lib.hid hF1
    have HM1 := Lib.hid hm1
    have HB1 := Lib.hid hB1
    clear hof hb1 hB1 hm1 hF1 HCP
    go_wp2
    go_loopw [19] (fun i wr => ∃ (k : Nat), k ≤ n ∧ i = .int .i64 (k : Int) ∧ IdxMap wr w.heap.size k (atF (fs.take k)) ∧ newGo ((fs.take k).map (·.1)) (fs.drop k) = newE fs ∧
        wr.heap[w1.heap.size]? = some (.cells #[.slice none 0 0, .slice fa n fc, .map (some w.heap.size)] 77 (0, 0)) ∧ FeatsAt wr (w.heap.size + 1) w1.heap.size (.slice fa n fc) fs ∧ Below w.heap.size w wr)
      (fun i wr => n - (intOf i).toNat)
    case atStart =>
      have hb : Below w1.heap.size w1 (w1.alloc (.cells #[.slice none 0 0, .slice fa n fc, .map (some w.heap.size)] 77)) := (Below.refl _ _).alloc (Nat.le_refl _) _
      refine ⟨0, Nat.zero_le _, rfl, ?_, ?_, heap_alloc_new _ _, HF1.out.move (Same.of_below hb), HB1.out.trans (hb.mono (by omega))⟩
      · rw [List.take_zero]
        exact HM1.out.below hb
      · rw [HE.out]
        simp
    case round =>
      obtain ⟨k, hkn, rfl, hmap, hgo, hcell, hfe, hB⟩ := hrel
      have HM := Lib.hid hmap
      have HG := Lib.hid hgo
      have HC := Lib.hid hcell
      have HF := Lib.hid hfe
      clear hmap hgo hfe
      by_cases hk : k < n
      · have hkf : k < fs.length := by rw [HN.out]; exact hk
        obtain ⟨b, off, rfl, hb1, hb2, hc⟩ := HR.out (by omega)
        have hcw : ∀ j u, (ftV (ftAt fs k).1 (vs k))[j]? = some u → wr.cell? ⟨b, off + k * 6 + j, none⟩ = some u := fun j u hu => (hB.cell (p := ⟨b, off + k * 6 + j, none⟩) (show b < w.heap.size by omega)).trans (hc k hkf j u hu)
        have HOk := HO.out k hkf
        have hwk := HW.out _ (ftAt_mem hkf)
        have hft : fs.take (k + 1) = fs.take k ++ [ftAt fs k] := by rw [take_snoc hkf, ftAt_get hkf]
        have hdr := drop_at hkf
        have HFT := Lib.hid hft
        have HDR := Lib.hid hdr
        have hlen : (fs.take k).length = k := by rw [List.length_take]; omega
        have HL := Lib.hid hlen
        clear hft hdr hlen
        generalize ftAt fs k = f at *
        obtain ⟨⟨p1, p2, p3, p4, p5⟩, os⟩ := f
        have hgo := HG.out
        rw [HDR.out, newGo_cons] at hgo
        have HG2 := Lib.hid hgo
        clear hgo
        have HCF := Lib.hid fun W (hb : Below w.heap.size w W) => ContainsNew_c (vs k) os lo hi W (HOk.move (Same.of_below (hb.mono hh))) (Nat.le_trans hh hb.size) hwk.2.2
        obtain ⟨va, vc, hv, -⟩ := HOk
        rw [hv] at HCF hcw
        have c0 := hcw 0 _ rfl
        have c1 := hcw 1 _ rfl
        have c2 := hcw 2 _ rfl
        have c3 := hcw 3 _ rfl
        have c4 := hcw 4 _ rfl
        have c5 := hcw 5 _ rfl
        simp only [Nat.add_zero] at c0
        have hk0 : (0 : Int) ≤ k := by omega
        have hk1 : (k : Int) < n := by omega
        have HWP := Lib.hid hwk.1
        have HB := Lib.hid hB
        have hs := hB.size
        clear hcw hwk hB hv hcell
        by_cases ho : os = []
        · subst ho
          have h6 : newE fs = 6 := by
            have := HG2.out
            rw [newStep_none rfl, if_neg (by decide)] at this
            exact this.symm
          have H6 := Lib.hid h6
          clear h6
          go_wp2
          go_ret2
          exact ⟨HB.out.trans (by go_grown), .inl ⟨by rw [H6.out]; decide, by rw [H6.out]; rfl⟩⟩
        · have hol : ¬ ((os.length : Int) = 0) := by
            cases os with
            | nil => exact absurd rfl ho
            | cons x r => simp only [List.length_cons]; omega
          have HNE := Lib.hid ho
          clear ho
          go_wp2_with fail
          refine (HCF.out _ (HB.out.trans (by go_grown))).mono ?_
          rintro e w3 ⟨rfl, hb3⟩
          have k0 : w3.cell? ⟨wr.heap.size, 0, none⟩ = some (.int .i64 p1) := (hb3.cell (p := ⟨wr.heap.size, 0, none⟩) (by simp)).trans (by go_simp)
          have k1 : w3.cell? ⟨wr.heap.size, 1, none⟩ = some (.int .i64 p2) := (hb3.cell (p := ⟨wr.heap.size, 1, none⟩) (by simp)).trans (by go_simp)
          have k2 : w3.cell? ⟨wr.heap.size, 2, none⟩ = some (.int .i64 p3) := (hb3.cell (p := ⟨wr.heap.size, 2, none⟩) (by simp)).trans (by go_simp)
          have k3 : w3.cell? ⟨wr.heap.size, 3, none⟩ = some (.int .i64 p4) := (hb3.cell (p := ⟨wr.heap.size, 3, none⟩) (by simp)).trans (by go_simp)
          have k4 : w3.cell? ⟨wr.heap.size, 4, none⟩ = some (.int .i64 p5) := (hb3.cell (p := ⟨wr.heap.size, 4, none⟩) (by simp)).trans (by go_simp)
          have hbw : Below wr.heap.size wr w3 := below_step (by go_grown) hb3
          have hB3 : Below w.heap.size w w3 := HB.out.trans (hbw.mono hs)
          have hlt : w1.heap.size < wr.heap.size := (Array.getElem?_eq_some_iff.1 HC.out).1
          have hz3 : wr.heap.size < w3.heap.size := by have := hb3.size; simp at this; omega
          have hC3 : w3.heap[w1.heap.size]? = some (.cells #[.slice none 0 0, .slice fa n fc, .map (some w.heap.size)] 77 (0, 0)) := (hbw.block _ hlt).trans HC.out
          have s2 : w3.cell? ⟨w1.heap.size, 2, none⟩ = some (.map (some w.heap.size)) := by rw [cell_of_row _ _ _ _ _ _ hC3]; rfl
          have hM3 := HM.out.below hbw
          have hl3 : ∀ q, (Instr.lookup 75 (.map (some w.heap.size)) (.agg #[.int .i64 p1, .int .i64 p2, .int .i64 p3, .int .i64 p4, .int .i64 p5]) true).run Tryz.prog (w3.drewN q) = .ok (.tuple #[.int .i64 (((atF (fs.take k) (p1, p2, p3, p4, p5)).getD 0 : Nat) : Int), .bool (atF (fs.take k) (p1, p2, p3, p4, p5)).isSome]) (w3.drewN q) :=
            fun q => IdxMap.look_ok (w := w3.drewN q) (p := (p1, p2, p3, p4, p5)) hM3 HWP.out
          have HC3 := Lib.hid hC3
          have HM3 := Lib.hid hM3
          have HB3 := Lib.hid hB3
          have HF3 := Lib.hid (HF.out.move (Same.of_below (hbw.mono (by omega))))
          clear hb3 hbw hC3 hM3 hB3 c0 c1 c2 c3 c4 c5
          generalize hbad : os.any badB = r at *
          have HBAD := Lib.hid hbad
          clear hbad
          cases r
          · have HN2 := Lib.hid (Iff.trans atF_none Iff.rfl : atF (fs.take k) (p1, p2, p3, p4, p5) = none ↔ (p1, p2, p3, p4, p5) ∉ (fs.take k).map (·.1))
            generalize hat : atF (fs.take k) (p1, p2, p3, p4, p5) = at1 at *
            have HAT := Lib.hid hat
            clear hat
            cases at1 with
            | some i =>
              have h1 : newE fs = 1 := by
                have := HG2.out
                rw [newStep_twice HNE.out HBAD.out (Classical.byContradiction fun x => by have := HN2.out.2 x; cases this), if_neg (by decide)] at this
                exact this.symm
              have H1 := Lib.hid h1
              clear h1
              simp only [Option.getD_some, Option.isSome_some] at hl3
              go_wp2_with fail
              go_quiet (fail)
              go_wp2
              go_ret2
              exact ⟨below_drewN HB3.out _, .inl ⟨by rw [H1.out]; decide, by rw [H1.out]; rfl⟩⟩
            | none =>
              simp only [Option.getD_none, Option.isSome_none] at hl3
              have hst := HG2.out
              rw [newStep_ok HNE.out HBAD.out (HN2.out.1 rfl), if_pos rfl] at hst
              have HST := Lib.hid hst
              clear hst
              go_wp2_with fail
              go_quiet (fail)
              go_wp2_with fail
              refine wp_named fun W hW => ?_
              have hbW : Below w3.heap.size w3 W := by rw [hW]; exact below_drewN (Below.refl _ _) _
              have m0 : W.cell? ⟨wr.heap.size, 0, none⟩ = some (.int .i64 p1) := by rw [hW]; exact k0
              have m1 : W.cell? ⟨wr.heap.size, 1, none⟩ = some (.int .i64 p2) := by rw [hW]; exact k1
              have m2 : W.cell? ⟨wr.heap.size, 2, none⟩ = some (.int .i64 p3) := by rw [hW]; exact k2
              have m3 : W.cell? ⟨wr.heap.size, 3, none⟩ = some (.int .i64 p4) := by rw [hW]; exact k3
              have m4 : W.cell? ⟨wr.heap.size, 4, none⟩ = some (.int .i64 p5) := by rw [hW]; exact k4
              have t2 : W.cell? ⟨w1.heap.size, 2, none⟩ = some (.map (some w.heap.size)) := by rw [hW]; exact s2
              clear hW k0 k1 k2 k3 k4 s2 hl3
              obtain ⟨w2, hst2, hM2, hg2⟩ := IdxMap.store (w := W.drew) (p := (p1, p2, p3, p4, p5)) (i := k) (HM3.out.below hbW.drew) HWP.out (by omega) (by simp only [maxLen]; omega)
              have hst2' : (Instr.mapUpdate 75 (.map (some w.heap.size)) (.agg #[.int .i64 p1, .int .i64 p2, .int .i64 p3, .int .i64 p4, .int .i64 p5]) (.int .i64 (k : Int))).run Tryz.prog W.drew = .ok () w2 := hst2
              have hK2 : Kg W (some w.heap.size) w2 := ⟨hg2.os, hg2.tape, hg2.output, hg2.size, fun i hi hn => hg2.block i hi hn⟩
              have HM2 := Lib.hid hM2
              have HG3 := Lib.hid hg2
              have n1 : some wr.heap.size ≠ some w.heap.size := fun e => by have := Option.some.inj e; omega
              have n2 : some w1.heap.size ≠ some w.heap.size := fun e => by have := Option.some.inj e; omega
              have HS : Hid (∀ w', Kg W (some w.heap.size) w' → (w'.cell? ⟨wr.heap.size, 0, none⟩ = some (.int .i64 p1) ∧ w'.cell? ⟨wr.heap.size, 1, none⟩ = some (.int .i64 p2) ∧ w'.cell? ⟨wr.heap.size, 2, none⟩ = some (.int .i64 p3) ∧ w'.cell? ⟨wr.heap.size, 3, none⟩ = some (.int .i64 p4) ∧ w'.cell? ⟨wr.heap.size, 4, none⟩ = some (.int .i64 p5) ∧ w'.cell? ⟨w1.heap.size, 2, none⟩ = some (.map (some w.heap.size)) ∧ Kg W (some w.heap.size) w')) :=
                fun w' K => ⟨K.cell m0 n1, K.cell m1 n1, K.cell m2 n1, K.cell m3 n1, K.cell m4 n1, K.cell t2 n2, K⟩
              clear m0 m1 m2 m3 m4 t2 hst2 hM2 hg2
              go_region_held3 (fun w' => w'.cell? ⟨wr.heap.size, 0, none⟩ = some (.int .i64 p1) ∧ w'.cell? ⟨wr.heap.size, 1, none⟩ = some (.int .i64 p2) ∧ w'.cell? ⟨wr.heap.size, 2, none⟩ = some (.int .i64 p3) ∧ w'.cell? ⟨wr.heap.size, 3, none⟩ = some (.int .i64 p4) ∧ w'.cell? ⟨wr.heap.size, 4, none⟩ = some (.int .i64 p5) ∧ w'.cell? ⟨w1.heap.size, 2, none⟩ = some (.map (some w.heap.size)) ∧ Kg W (some w.heap.size) w')
                ((refine HS.out _ ?_; with_reducible (first | exact Kg.drew _ _ | assumption))) (fail)
              have hz2 : w3.heap.size ≤ w2.heap.size := Nat.le_trans hbW.size HG3.out.size
              have hB2 : Below w.heap.size w w2 := (HB3.out.trans (hbW.mono (by omega))).drew.grown HG3.out (by have := hbW.size; simp; omega) (fun j hj => by injection hj with hj; omega)
              have hC2 : w2.heap[w1.heap.size]? = some (.cells #[.slice none 0 0, .slice fa n fc, .map (some w.heap.size)] 77 (0, 0)) :=
                (HG3.out.block _ (by have := hbW.size; simp; omega) n2).trans ((hbW.block _ (by omega)).trans HC3.out)
              have hF2 : FeatsAt w2 (w.heap.size + 1) w1.heap.size (.slice fa n fc) fs :=
                (HF3.out.move (Same.of_below (hbW.mono (by omega)))).move (fun j h1 h2 => HG3.out.block j (by have := hbW.size; simp; omega) (fun e => by injection e with e; omega))
              have HX := Lib.hid (show IdxMap w2 w.heap.size (k + 1) (atF (fs.take (k + 1))) ∧ newGo ((fs.take (k + 1)).map (·.1)) (fs.drop (k + 1)) = newE fs from ⟨by
                rw [HFT.out, ← updP_atF (by exact HAT.out), HL.out]; exact HM2.out, by rw [HFT.out, List.map_append]; exact HST.out⟩)
              have HY := Lib.hid (And.intro hC2 (And.intro hF2 hB2))
              clear hB2 hC2 hF2 hbW hK2 hst2'
              go_wp2
              go_roundw
              case rel => exact ⟨k + 1, by omega, by go_num, HX.out.1, HX.out.2, HY.out.1, HY.out.2.1, HY.out.2.2⟩
              case measure => simp [intOf]; omega
          · have h8 : newE fs = 8 := by
              have := HG2.out
              rw [newStep_bad HNE.out HBAD.out, if_neg (by decide)] at this
              exact this.symm
            have H8 := Lib.hid h8
            clear h8
            go_wp2
            go_ret2
            exact ⟨HB3.out, .inl ⟨by rw [H8.out]; decide, by rw [H8.out]; rfl⟩⟩
      · have hk' : k = n := by omega
        subst hk'
        have h0 : newE fs = 0 := by
          have := HG.out
          rw [← HN.out, List.drop_length] at this
          exact this.symm
        have hm := HM.out
        rw [← HN.out, List.take_length, HN.out] at hm
        have HB := Lib.hid hB
        clear hcell hB
        go_wp2
        go_ret2
        refine ⟨HB.out, .inr ⟨h0, w1.heap.size, w.heap.size, w.heap.size + 1, w1.heap.size, _, rfl, ⟨HC.out, World.ownsRow_nil _ _ _ _, HF.out, by rw [HN.out]; exact hm, by omega, by omega, fun g hg => (by cases hg), by omega, Nat.le_refl _, by omega, ?_⟩⟩⟩
        have := (Array.getElem?_eq_some_iff.1 HC.out).1
        omega
end Go.Proofs.YtpcefaccoifejaaGreatDoor

namespace Go.Proofs.YtpcefaccoifejaaGreatDoor
open Go.RowKit Go.Maps
set_option linter.unusedSimpArgs false
set_option linter.unusedVariables false
set_option maxRecDepth 100000

/-- w' is w but for block p and the row that va leads to; va' leads to that row or to a new one -/
structure Turn (w w' : World) (p : Nat) (va va' : Value) : Prop where
  os : w'.os = w.os
  tape : w'.tape = w.tape
  output : w'.output = w.output
  size : w.heap.size ≤ w'.heap.size
  block : ∀ b, b < w.heap.size → b ≠ p → some b ≠ va.ownBlock → w'.heap[b]? = w.heap[b]?
  new : ∀ g, va'.ownBlock = some g → va.ownBlock = some g ∨ w.heap.size ≤ g
theorem Turn.of_below {w w' : World} (h : Below w.heap.size w w') (p : Nat) (va : Value) : Turn w w' p va va := ⟨h.os, h.tape, h.output, h.size, fun b hb _ _ => h.block b hb, fun g hg => .inl hg⟩
theorem Turn.trans {a b c : World} {p : Nat} {u v x : Value} (h : Turn a b p u v) (k : Turn b c p v x) : Turn a c p u x :=
  ⟨k.os.trans h.os, k.tape.trans h.tape, k.output.trans h.output, Nat.le_trans h.size k.size, fun i hi h1 h2 => (k.block i (Nat.lt_of_lt_of_le hi h.size) h1 (fun e => by
    rcases h.new i e.symm with h3 | h3
    · exact h2 h3.symm
    · omega)).trans (h.block i hi h1 h2), fun g hg => by
    rcases k.new g hg with h3 | h3
    · exact h.new g h3
    · exact .inr (Nat.le_trans h.size h3)⟩
theorem Turn.below {w w' : World} {p B : Nat} {va va' : Value} (h : Turn w w' p va va') (hB : B ≤ w.heap.size) (hp : B ≤ p) (hv : ∀ g, va.ownBlock = some g → B ≤ g) : Below B w w' :=
  ⟨h.os, h.tape, h.output, h.size, fun i hi => h.block i (by omega) (by omega) (fun e => by have := hv i e.symm; omega)⟩

theorem none_c (lo p m flo fhi : Nat) (va vf : Value) (fs : List Ft) (acts : List Ac) (w : World) (h : SesAt w lo p m flo fhi va vf fs acts) :
    Calls Tryz.prog 40 #[.pointer (some ⟨p, 0, none⟩)] w fun e w' => e = .returned (.bool false) ∧ w = w' := by
  have c2 : w.cell? ⟨p, 2, none⟩ = some (.map (some m)) := by rw [cell_of_row _ _ _ _ _ _ h.cells]; rfl
  have hm := run_eql_map_nil (P := Tryz.prog) w _ _ _ (some m) Tryz.underlying75
  clear h
  go_enter Tryz.func40, Tryz.ntmps40
  go_wp2
  go_ret
  exact ⟨rfl, rfl⟩
theorem add_end {w W2 w1 : World} {lo p g n cap : Nat} {va vf vm : Value} {ks : List Value} (hp : p < w.heap.size) (hBW : Below w.heap.size w W2) (hgrow : W2.grownBy w1 va.ownBlock) (hC1 : w1.heap[p]? = some (.cells #[va, vf, vm] 77 (0, 0)))
    (hown : w1.ownsRow lo 60 7 (.slice (some ⟨g, 0, none⟩) n cap) n ks) (hat : va.ownBlock = some g ∨ w.heap.size ≤ g) :
    ∃ va', (w1.setCell ⟨p, 0, none⟩ (.slice (some ⟨g, 0, none⟩) n cap)).heap[p]? = some (.cells #[va', vf, vm] 77 (0, 0)) ∧ (w1.setCell ⟨p, 0, none⟩ (.slice (some ⟨g, 0, none⟩) n cap)).ownsRow lo 60 7 va' n ks ∧ Turn w (w1.setCell ⟨p, 0, none⟩ (.slice (some ⟨g, 0, none⟩) n cap)) p va va' := by
  have hgs : w1.grownBy (w1.setCell ⟨p, 0, none⟩ (.slice (some ⟨g, 0, none⟩) n cap)) (some p) := ⟨rfl, rfl, rfl, by simp [World.setCell], fun i hi hn => Below.heap_setCell w1 ⟨p, 0, none⟩ _ i (fun e => hn (by rw [e]))⟩
  refine ⟨.slice (some ⟨g, 0, none⟩) n cap, ?_, hown.kept hgs (.inr fun x => ?_), ⟨?_, ?_, ?_, ?_, fun b hb h1 h2 => ?_, fun g' hg' => ?_⟩⟩
  · rw [heap_setCell_same w1 p 0 _ _ _ hC1]; rfl
  · simp only [Value.ownBlock, Option.some.injEq] at x
    subst x
    rcases hown.2 with ⟨h, _⟩ | ⟨g2, cap2, cur, h, -, hg, -⟩
    · cases h
    · simp only [Value.slice.injEq, Option.some.injEq, Addr.mk.injEq, and_true, true_and] at h
      obtain ⟨rfl, rfl⟩ := h
      rw [hC1] at hg
      injection hg with hg
      injection hg with _ h2
      exact absurd h2 (by decide)
  · exact hgs.os.trans (hgrow.os.trans hBW.os)
  · exact hgs.tape.trans (hgrow.tape.trans hBW.tape)
  · exact hgs.output.trans (hgrow.output.trans hBW.output)
  · exact Nat.le_trans hBW.size (Nat.le_trans hgrow.size hgs.size)
  · exact (hgs.block b (by have := hBW.size; have := hgrow.size; omega) (fun e => h1 (by injection e))).trans ((hgrow.block b (by have := hBW.size; omega) h2).trans (hBW.block b hb))
  · simp only [Value.ownBlock, Option.some.injEq] at hg'
    subst hg'
    exact hat
set_option maxHeartbeats 1000000 in
theorem add_c (lo p n : Nat) (va vf vm : Value) (ks : List Value) (k a b c d e v : Int) (w : World) (hc : w.heap[p]? = some (.cells #[va, vf, vm] 77 (0, 0))) (ho : w.ownsRow lo 60 7 va n ks) (hn : n ≤ 1000000) (hlo : lo ≤ w.heap.size) :
    Calls Tryz.prog 43 #[.pointer (some ⟨p, 0, none⟩), .agg #[.int .i64 k, .int .i64 a, .int .i64 b, .int .i64 c, .int .i64 d, .int .i64 e, .int .i64 v]] w fun r w' => r = .returned (.tuple #[]) ∧
      ∃ va', w'.heap[p]? = some (.cells #[va', vf, vm] 77 (0, 0)) ∧ w'.ownsRow lo 60 7 va' (n + 1) (ks ++ [.int .i64 k, .int .i64 a, .int .i64 b, .int .i64 c, .int .i64 d, .int .i64 e, .int .i64 v]) ∧ Turn w w' p va va' := by
  obtain ⟨pa, pc, rfl⟩ := own_shape ho
  have hp : p < w.heap.size := (Array.getElem?_eq_some_iff.1 hc).1
  have c0 : w.cell? ⟨p, 0, none⟩ = some (.slice pa n pc) := by rw [cell_of_row _ _ _ _ _ _ hc]; rfl
  have f0 : w.frozen? ⟨p, 0, none⟩ = false := frozen_of_row w p 0 _ _ hc
  have hpo : some p ≠ (Value.slice pa n pc).ownBlock := by
    intro x
    rcases ho.2 with ⟨h1, _⟩ | ⟨g, cap, cur, h1, -, hg, -⟩
    · rw [h1] at x; cases x
    · rw [h1] at x
      simp only [Value.ownBlock, Option.some.injEq] at x
      subst x
      rw [hc] at hg
      injection hg with hg
      injection hg with _ h2
      exact absurd h2 (by decide)
  have hI := Lib.hid infoAct
  have HO := Lib.hid ho
  have HC := Lib.hid hc
  have HP := Lib.hid hpo
  clear ho hc hpo
  go_enter Tryz.func43, Tryz.ntmps43
  go_wp2_with fail
  refine wp_named fun W hW => ?_
  have k0 : W.cell? ⟨w.heap.size, 0, none⟩ = some (.int .i64 k) := by rw [hW]; go_simp
  have k1 : W.cell? ⟨w.heap.size, 1, none⟩ = some (.int .i64 a) := by rw [hW]; go_simp
  have k2 : W.cell? ⟨w.heap.size, 2, none⟩ = some (.int .i64 b) := by rw [hW]; go_simp
  have k3 : W.cell? ⟨w.heap.size, 3, none⟩ = some (.int .i64 c) := by rw [hW]; go_simp
  have k4 : W.cell? ⟨w.heap.size, 4, none⟩ = some (.int .i64 d) := by rw [hW]; go_simp
  have k5 : W.cell? ⟨w.heap.size, 5, none⟩ = some (.int .i64 e) := by rw [hW]; go_simp
  have k6 : W.cell? ⟨w.heap.size, 6, none⟩ = some (.int .i64 v) := by rw [hW]; go_simp
  have hB : Below w.heap.size w W := by rw [hW]; go_grown
  have c0W : W.cell? ⟨p, 0, none⟩ = some (.slice pa n pc) := (hB.cell (p := ⟨p, 0, none⟩) hp).trans c0
  have hz : w.heap.size < W.heap.size := by rw [hW]; simp
  have HB := Lib.hid hB
  have HOW := Lib.hid (own_below HO.out hB)
  have HCW : Hid (W.heap[p]? = some (.cells #[.slice pa n pc, vf, vm] 77 (0, 0))) := (hB.block p hp).trans HC.out
  have hpW : p < W.heap.size := by omega
  clear hW hB c0 f0
  go_region_law (refine step_append_lies _ rfl (.tmp 8) (.tmp 10) _ rfl lo 60 Tryz.t60 _ 7 56 rfl hI.out rfl rfl rfl rfl (by omega) (.slice pa n pc) n ks rfl (own_below HOW.out (by go_grown)) ⟨W.heap.size, 0, none⟩ 1 1 [.int .i64 k, .int .i64 a, .int .i64 b, .int .i64 c, .int .i64 d, .int .i64 e, .int .i64 v] rfl rfl (newCells _ _ _) (by simp [Value.oneCell']) (by omega) (by simp only [maxLen]; omega) (by omega) (by simp; omega) _ rfl ?_; intro g cap w1 hown hgrow hat hlt; have hC1 := (hgrow.block p (by simp; omega) HP.out).trans (((by go_grown : Below W.heap.size W _).block p hpW).trans HCW.out); have c1 : w1.cell? ⟨p, 0, none⟩ = some (.slice pa n pc) := (by rw [cell_of_row _ _ _ _ _ _ hC1]; rfl); have f1 : w1.frozen? ⟨p, 0, none⟩ = false := frozen_of_row w1 p 0 _ _ hC1; have HC1 := Lib.hid hC1; clear hC1)
  all_goals
    go_wp2
    go_end0
    exact ⟨rfl, add_end hp (HB.out.trans ((by go_grown : Below W.heap.size W _).mono HB.out.size)) hgrow HC1.out hown (hat.imp id (fun x => by simp at x; omega))⟩
end Go.Proofs.YtpcefaccoifejaaGreatDoor

namespace Go.Proofs.YtpcefaccoifejaaGreatDoor
open Go.RowKit Go.Maps
set_option linter.unusedSimpArgs false
set_option linter.unusedVariables false
set_option maxRecDepth 100000

theorem SesAt.below {w w' : World} {lo p m flo fhi : Nat} {va vf : Value} {fs : List Ft} {acts : List Ac} (h : SesAt w lo p m flo fhi va vf fs acts) (hb : Below w.heap.size w w') : SesAt w' lo p m flo fhi va vf fs acts :=
  ⟨(hb.block p (Array.getElem?_eq_some_iff.1 h.cells).1).trans h.cells, own_below h.acts hb, h.feats.move (Same.of_below (hb.mono h.hf)), h.map.below hb, h.pf, h.mf, h.af, h.lp, h.lm, h.lf, Nat.le_trans h.hf hb.size⟩
theorem SesAt.p_ne {w : World} {lo p m flo fhi : Nat} {va vf : Value} {fs : List Ft} {acts : List Ac} (h : SesAt w lo p m flo fhi va vf fs acts) : some p ≠ va.ownBlock ∧ m ≠ p ∧ some m ≠ va.ownBlock := by
  obtain ⟨es, c, hm⟩ := h.map.obj
  refine ⟨fun x => ?_, fun x => ?_, fun x => ?_⟩
  · rcases h.acts.2 with ⟨h1, _⟩ | ⟨g, cap, cur, h1, -, hg, -⟩
    · rw [h1] at x; cases x
    · rw [h1] at x
      simp only [Value.ownBlock, Option.some.injEq] at x
      subst x
      rw [h.cells] at hg
      injection hg with hg
      injection hg with _ h2
      exact absurd h2 (by decide)
  · subst x
    rw [h.cells] at hm
    cases hm
  · rcases h.acts.2 with ⟨h1, _⟩ | ⟨g, cap, cur, h1, -, hg, -⟩
    · rw [h1] at x; cases x
    · rw [h1] at x
      simp only [Value.ownBlock, Option.some.injEq] at x
      subst x
      rw [hm] at hg
      cases hg
/-- the session behind a turn of its struct and of its log -/
theorem SesAt.turned {w w' : World} {lo p m flo fhi : Nat} {va va' vf : Value} {fs : List Ft} {acts acts' : List Ac} (h : SesAt w lo p m flo fhi va vf fs acts) (ht : Turn w w' p va va')
    (hc : w'.heap[p]? = some (.cells #[va', vf, .map (some m)] 77 (0, 0))) (ho : w'.ownsRow lo 60 7 va' acts'.length (acts'.flatMap acV)) : SesAt w' lo p m flo fhi va' vf fs acts' := by
  obtain ⟨n1, n2, n3⟩ := h.p_ne
  refine ⟨hc, ho, h.feats.move (fun b h1 h2 => ht.block b (by have := h.hf; omega) (fun e => h.pf (e ▸ ⟨h1, h2⟩)) (fun e => h.af b e.symm ⟨h1, h2⟩)), h.map.move (ht.block m h.map.lt n2 n3), h.pf, h.mf, fun g hg => ?_, h.lp, h.lm, h.lf, Nat.le_trans h.hf ht.size⟩
  rcases ht.new g hg with h1 | h1
  · exact h.af g h1
  · have := h.hf
    omega
theorem mayConfirm_c (p : Nat) (a b c d e v : Int) (x : Option Addr) (n cap : Nat) (w : World) :
    Calls Tryz.prog 42 #[.pointer (some ⟨p, 0, none⟩), .agg #[.int .i64 a, .int .i64 b, .int .i64 c, .int .i64 d, .int .i64 e, .slice x n cap], .int .i64 v] w fun r w' => r = .returned (.int .i64 0) ∧ Below w.heap.size w w' := by
  go_enter Tryz.func42, Tryz.ntmps42
  go_wp2
  go_ret
  exact ⟨rfl, by go_grown⟩
/-- is there an option of this value -/
def hasV (os : List Opt) (v : Int) : Bool := os.any fun o => decide (o.1 = v)
def mayE (os : List Opt) (v : Int) : Int := if hasV os v = true then 0 else 8
theorem mayCorrect_c (p : Nat) (a b c d e v : Int) (vo : Value) (os : List Opt) (lo hi : Nat) (w : World) (h : OptsAt w lo hi vo os) (hh : hi ≤ w.heap.size) (hl : os.length ≤ 1000000) :
    Calls Tryz.prog 41 #[.pointer (some ⟨p, 0, none⟩), .agg #[.int .i64 a, .int .i64 b, .int .i64 c, .int .i64 d, .int .i64 e, vo], .int .i64 v] w fun r w' => r = .returned (.int .i64 (mayE os v)) ∧ Below w.heap.size w w' := by
  have HC := Lib.hid fun W (hb : Below w.heap.size w W) (hB : W.cell? ⟨w.heap.size + 1, 0, none⟩ = some (.int .i64 v)) (hBs : w.heap.size + 1 < W.heap.size) => ContainsMay_c v (w.heap.size + 1) vo os lo hi W (h.move (Same.of_below (hb.mono hh))) (Nat.le_trans hh hb.size) hl hB hBs
  obtain ⟨av, cap, rfl, -, -⟩ := h
  have HM : Hid (mayE os v = if hasV os v = true then 0 else 8) := rfl
  change Hid (∀ W, _ → _ → _ → Calls _ _ _ _ fun e w' => e = .returned (.bool (hasV os v)) ∧ _) at HC
  generalize hasV os v = r at *
  generalize mayE os v = x at *
  generalize os.length = n at *
  clear hl
  go_enter Tryz.func41, Tryz.ntmps41
  go_wp2_with fail
  refine (HC.out _ (by go_grown) (by go_simp) (by simp)).mono ?_
  rintro e w3 ⟨rfl, hb3⟩
  have hB3 : Below w.heap.size w w3 := below_step (by go_grown) hb3
  have hx := HM.out
  clear hb3 HM
  cases r
  · rw [if_neg Bool.false_ne_true] at hx
    subst hx
    go_wp2
    go_ret
    exact ⟨rfl, hB3⟩
  · rw [if_pos rfl] at hx
    subst hx
    go_wp2
    go_ret
    exact ⟨rfl, hB3⟩
theorem doE_kind {fs : List Ft} {acts : List Ac} {a : Ac} (h : a.1 ≠ 1 ∧ a.1 ≠ 2) : doE fs acts a = 1 := if_pos h
theorem doE_stale {fs : List Ft} {acts : List Ac} {a : Ac} (h : ¬ (a.1 ≠ 1 ∧ a.1 ≠ 2)) (ha : atF fs a.2.1 = none) : doE fs acts a = 82 := by
  unfold doE; rw [if_neg h, ha]
theorem all_has (os : List Opt) (v : Int) : (os.all fun o => decide (o.1 ≠ v)) = !hasV os v := by
  unfold hasV
  rw [List.not_any_eq_all_not]
  congr 1
  funext o
  by_cases h : o.1 = v <;> simp [h]
theorem doE_at {fs : List Ft} {acts : List Ac} {a : Ac} {i : Nat} (h : ¬ (a.1 ≠ 1 ∧ a.1 ≠ 2)) (ha : atF fs a.2.1 = some i) : doE fs acts a = if a.1 = 1 ∧ hasV (ftAt fs i).2 a.2.2 = false then 8 else if 4096 ≤ acts.length then 4 else 0 := by
  unfold doE
  rw [if_neg h, ha]
  simp only
  rw [all_has]
  unfold ftAt
  congr 1
  simp
def DoRes (w : World) (lo p m flo fhi : Nat) (va vf : Value) (fs : List Ft) (acts : List Ac) (a : Ac) (e : Ending) (w' : World) : Prop :=
  e = .returned (.int .i64 (doE fs acts a)) ∧ ∃ va', SesAt w' lo p m flo fhi va' vf fs (doA fs acts a) ∧ Turn w w' p va va'
theorem DoRes.bad {w w' : World} {lo p m flo fhi : Nat} {va vf : Value} {fs : List Ft} {acts : List Ac} {a : Ac} {x : Int} (h : SesAt w lo p m flo fhi va vf fs acts) (hb : Below w.heap.size w w') (hx : doE fs acts a = x) (h0 : x ≠ 0) : DoRes w lo p m flo fhi va vf fs acts a (.returned (.int .i64 x)) w' := by
  refine ⟨by rw [hx], va, ?_, Turn.of_below hb p va⟩
  rw [show doA fs acts a = acts from if_neg (by rw [hx]; exact h0)]
  exact h.below hb

set_option maxHeartbeats 2000000 in
theorem Do1_c (lo p m flo fhi : Nat) (va vf : Value) (fs : List Ft) (acts : List Ac) (a b c d e v : Int) (w : World) (h : SesAt w lo p m flo fhi va vf fs acts) (hlo : lo ≤ w.heap.size) (hw : wfFs fs) (hwp : wfP (a, b, c, d, e)) (hn : acts.length ≤ 100000) (hnf : fs.length ≤ 20000) :
    Calls Tryz.prog 15 #[.pointer (some ⟨p, 0, none⟩), .agg #[.int .i64 1, .int .i64 a, .int .i64 b, .int .i64 c, .int .i64 d, .int .i64 e, .int .i64 v]] w (DoRes w lo p m flo fhi va vf fs acts (1, (a, b, c, d, e), v)) := by
  have HS := Lib.hid h
  have HN := Lib.hid fun W (hb : Below w.heap.size w W) => none_c lo p m flo fhi va vf fs acts W (h.below hb)
  obtain ⟨pa, pc, hva⟩ := own_shape h.acts
  obtain ⟨fa, fc, vs, hvf, -, hrow, hopt⟩ := h.feats
  subst hva
  subst hvf
  have hp : p < w.heap.size := (Array.getElem?_eq_some_iff.1 h.cells).1
  have c0 : w.cell? ⟨p, 0, none⟩ = some (.slice pa acts.length pc) := by rw [cell_of_row _ _ _ _ _ _ h.cells]; rfl
  have c1 : w.cell? ⟨p, 1, none⟩ = some (.slice fa fs.length fc) := by rw [cell_of_row _ _ _ _ _ _ h.cells]; rfl
  have c2 : w.cell? ⟨p, 2, none⟩ = some (.map (some m)) := by rw [cell_of_row _ _ _ _ _ _ h.cells]; rfl
  have hlk : ∀ q, (Instr.lookup 75 (.map (some m)) (.agg #[.int .i64 a, .int .i64 b, .int .i64 c, .int .i64 d, .int .i64 e]) true).run Tryz.prog ((w.alloc (.cells #[.int .i64 1, .int .i64 a, .int .i64 b, .int .i64 c, .int .i64 d, .int .i64 e, .int .i64 v] 60)).drewN q) = .ok (.tuple #[.int .i64 (((atF fs (a, b, c, d, e)).getD 0 : Nat) : Int), .bool (atF fs (a, b, c, d, e)).isSome]) ((w.alloc (.cells #[.int .i64 1, .int .i64 a, .int .i64 b, .int .i64 c, .int .i64 d, .int .i64 e, .int .i64 v] 60)).drewN q) :=
    fun q => IdxMap.look_ok (w := (w.alloc _).drewN q) (p := (a, b, c, d, e)) (h.map.below (below_drewN ((Below.refl w.heap.size w).alloc (Nat.le_refl _) _) q)) hwp
  have HSt : Hid (atF fs (a, b, c, d, e) = none → doE fs acts (1, (a, b, c, d, e), v) = 82) := fun x => doE_stale (a := (1, (a, b, c, d, e), v)) (by simp) x
  have HAt : Hid (∀ i, atF fs (a, b, c, d, e) = some i → doE fs acts (1, (a, b, c, d, e), v) = if (1 : Int) = 1 ∧ hasV (ftAt fs i).2 v = false then 8 else if 4096 ≤ acts.length then 4 else 0) := fun i x => doE_at (a := (1, (a, b, c, d, e), v)) (by simp) x
  have HAS : Hid (∀ i, atF fs (a, b, c, d, e) = some i → i < fs.length) := fun i x => (atF_some x).1
  have HROW := Lib.hid hrow
  have HOPT := Lib.hid hopt
  have HW := Lib.hid hw
  obtain ⟨nf, hnf'⟩ : ∃ nf, fs.length = nf := ⟨_, rfl⟩
  have HNF := Lib.hid hnf'
  rw [hnf'] at hnf c1
  obtain ⟨na, hna'⟩ : ∃ na, acts.length = na := ⟨_, rfl⟩
  have HNA := Lib.hid hna'
  rw [hna'] at hn c0
  clear h hrow hopt hw hna' hnf'
  generalize hat : atF fs (a, b, c, d, e) = at1 at *
  have HATE := Lib.hid hat
  clear hat
  cases at1 with
  | none =>
    simp only [Option.getD_none, Option.isSome_none] at hlk
    go_enter Tryz.func15, Tryz.ntmps15
    go_wp2_with fail
    refine (HN.out _ (by go_grown)).mono ?_
    rintro e w3 ⟨rfl, rfl⟩
    go_wp2_with fail
    go_quiet (fail)
    go_wp2
    go_ret
    exact DoRes.bad HS.out (below_drewN (by go_grown) _) (HSt.out (by first | rfl | trivial)) (by decide)
  | some i =>
    simp only [Option.getD_some, Option.isSome_some] at hlk
    have hi := HAS.out i rfl
    have hE := HAt.out i rfl
    have hif : i < fs.length := hi
    rw [HNF.out] at hi
    have hi0 : (0 : Int) ≤ (i : Int) := by omega
    have hi1 : (i : Int) < (nf : Int) := by omega
    obtain ⟨bf, off, hfa, hb1, hb2, hcf⟩ := HROW.out (by rw [HNF.out]; omega)
    subst hfa
    have hcf' : ∀ j u, (ftV (ftAt fs i).1 (vs i))[j]? = some u → w.cell? ⟨bf, off + i * 6 + j, none⟩ = some u := fun j u hu => hcf i hif j u hu
    have hop := HOPT.out i hif
    have hwo := (HW.out _ (ftAt_mem hif)).2.2
    have hhf := HS.out.hf
    clear hcf
    generalize ftAt fs i = f at *
    obtain ⟨⟨q1, q2, q3, q4, q5⟩, os⟩ := f
    simp only at hop hwo hE
    have HM := Lib.hid fun W (hb : Below w.heap.size w W) => mayCorrect_c p q1 q2 q3 q4 q5 v (vs i) os flo fhi W (hop.move (Same.of_below (hb.mono hhf))) (Nat.le_trans hhf hb.size) hwo
    obtain ⟨oa, oc, hvo, -, -⟩ := hop
    rw [hvo] at hcf' HM
    clear hvo
    have f0 := hcf' 0 _ rfl
    have f1 := hcf' 1 _ rfl
    have f2 := hcf' 2 _ rfl
    have f3 := hcf' 3 _ rfl
    have f4 := hcf' 4 _ rfl
    have f5 := hcf' 5 _ rfl
    simp only [Nat.add_zero] at f0
    have hbf : bf < w.heap.size := by omega
    have hX : ∃ x : Int, mayE os v = x ∧ ((x = 8 ∧ doE fs acts (1, (a, b, c, d, e), v) = 8) ∨ (x = 0 ∧ doE fs acts (1, (a, b, c, d, e), v) = if 4096 ≤ na then 4 else 0)) := by
      refine ⟨_, rfl, ?_⟩
      unfold mayE
      cases hh : hasV os v
      · refine .inl ⟨rfl, ?_⟩
        rw [hE, if_pos (by simp [hh])]
      · refine .inr ⟨rfl, ?_⟩
        rw [hE, if_neg (by simp [hh]), HNA.out]
    obtain ⟨x, hmx, hX⟩ := hX
    rw [hmx] at HM
    have HX := Lib.hid hX
    clear hcf' hE hwo hX hmx
    go_enter Tryz.func15, Tryz.ntmps15
    go_wp2_with fail
    refine (HN.out _ (by go_grown)).mono ?_
    rintro e w3 ⟨rfl, rfl⟩
    go_wp2_with fail
    go_quiet (fail)
    go_wp2_with fail
    refine wp_named fun W hW => ?_
    have a0 : W.cell? ⟨w.heap.size, 0, none⟩ = some (.int .i64 1) := by rw [hW]; go_simp
    have a1 : W.cell? ⟨w.heap.size, 1, none⟩ = some (.int .i64 a) := by rw [hW]; go_simp
    have a2 : W.cell? ⟨w.heap.size, 2, none⟩ = some (.int .i64 b) := by rw [hW]; go_simp
    have a3 : W.cell? ⟨w.heap.size, 3, none⟩ = some (.int .i64 c) := by rw [hW]; go_simp
    have a4 : W.cell? ⟨w.heap.size, 4, none⟩ = some (.int .i64 d) := by rw [hW]; go_simp
    have a5 : W.cell? ⟨w.heap.size, 5, none⟩ = some (.int .i64 e) := by rw [hW]; go_simp
    have a6 : W.cell? ⟨w.heap.size, 6, none⟩ = some (.int .i64 v) := by rw [hW]; go_simp
    have z6 : W.frozen? ⟨w.heap.size, 6, none⟩ = false := by rw [hW]; go_simp
    have g1 : W.cell? ⟨w.heap.size + 1, 1, none⟩ = some (.func (.func 41) #[.pointer (some ⟨p, 0, none⟩)] #[]) := by rw [hW]; go_simp
    have hB : Below w.heap.size w W := by
      rw [hW]
      go_grown
      exact below_drewN (by go_grown) _
    have hs2 : w.heap.size + 1 < W.heap.size := by rw [hW]; simp
    clear hW
    have s0 : W.cell? ⟨p, 0, none⟩ = some (.slice pa na pc) := (hB.cell (p := ⟨p, 0, none⟩) hp).trans c0
    have s1 : W.cell? ⟨p, 1, none⟩ = some (.slice (some ⟨bf, off, none⟩) nf fc) := (hB.cell (p := ⟨p, 1, none⟩) hp).trans c1
    have t0 : W.cell? ⟨bf, off + i * 6, none⟩ = some (.int .i64 q1) := (hB.cell (p := ⟨bf, _, none⟩) hbf).trans f0
    have t1 : W.cell? ⟨bf, off + i * 6 + 1, none⟩ = some (.int .i64 q2) := (hB.cell (p := ⟨bf, _, none⟩) hbf).trans f1
    have t2 : W.cell? ⟨bf, off + i * 6 + 2, none⟩ = some (.int .i64 q3) := (hB.cell (p := ⟨bf, _, none⟩) hbf).trans f2
    have t3 : W.cell? ⟨bf, off + i * 6 + 3, none⟩ = some (.int .i64 q4) := (hB.cell (p := ⟨bf, _, none⟩) hbf).trans f3
    have t4 : W.cell? ⟨bf, off + i * 6 + 4, none⟩ = some (.int .i64 q5) := (hB.cell (p := ⟨bf, _, none⟩) hbf).trans f4
    have t5 : W.cell? ⟨bf, off + i * 6 + 5, none⟩ = some (.slice oa os.length oc) := (hB.cell (p := ⟨bf, _, none⟩) hbf).trans f5
    have y0 : w.heap.size < W.heap.size := by omega
    have y1 : p < W.heap.size := by omega
    have y2 : bf < W.heap.size := by omega
    have HB := Lib.hid hB
    clear c0 c1 c2 f0 f1 f2 f3 f4 f5 hlk hB
    go_region_held3 (fun w' => Sk W w') (first | assumption | exact Sk_drew _ | with_reducible exact Sk_call (by assumption) (by assumption))
      ((go_at_call 41; refine (HM.out _ (HB.out.trans ((by assumption : Sk W _).2.mono HB.out.size)) ).mono ?_; rintro rr w4 ⟨rfl, hb4⟩))
    have hSk := (by assumption : Sk W w4)
    have hB4 : Below w.heap.size w w4 := HB.out.trans (hSk.2.mono HB.out.size)
    have HB4 := Lib.hid hB4
    have b0 : w4.cell? ⟨w.heap.size, 0, none⟩ = some (.int .i64 1) := (hSk.1 _ _ y0).trans a0
    have b1 : w4.cell? ⟨w.heap.size, 1, none⟩ = some (.int .i64 a) := (hSk.1 _ _ y0).trans a1
    have b2 : w4.cell? ⟨w.heap.size, 2, none⟩ = some (.int .i64 b) := (hSk.1 _ _ y0).trans a2
    have b3 : w4.cell? ⟨w.heap.size, 3, none⟩ = some (.int .i64 c) := (hSk.1 _ _ y0).trans a3
    have b4 : w4.cell? ⟨w.heap.size, 4, none⟩ = some (.int .i64 d) := (hSk.1 _ _ y0).trans a4
    have b5 : w4.cell? ⟨w.heap.size, 5, none⟩ = some (.int .i64 e) := (hSk.1 _ _ y0).trans a5
    have b6 : w4.cell? ⟨w.heap.size, 6, none⟩ = some (.int .i64 v) := (hSk.1 _ _ y0).trans a6
    have z64 : w4.frozen? ⟨w.heap.size, 6, none⟩ = false := (hSk.2.frozen (p := ⟨w.heap.size, 6, none⟩) y0).trans z6
    have r0 : w4.cell? ⟨p, 0, none⟩ = some (.slice pa na pc) := (hSk.1 _ _ y1).trans s0
    have hs4 : W.heap.size ≤ w4.heap.size := hSk.2.size
    have HBB := Lib.hid (And.intro b0 (And.intro b1 (And.intro b2 (And.intro b3 (And.intro b4 (And.intro b5 b6))))))
    clear hSk hB4 z6 g1 s1 t0 t1 t2 t3 t4 t5 b0 b1 b2 b3 b4 b5 b6 r0
    rcases HX.out with ⟨rfl, hd⟩ | ⟨rfl, hd⟩
    · have HD := Lib.hid hd
      clear hd
      go_wp2
      go_ret
      exact DoRes.bad HS.out HB4.out HD.out (by decide)
    · by_cases h4 : 4096 ≤ na
      · rw [if_pos h4] at hd
        have HD := Lib.hid hd
        have h4' : (4096 : Int) ≤ na := by omega
        clear hd h4
        go_wp2
        go_ret
        exact DoRes.bad HS.out HB4.out HD.out (by decide)
      · rw [if_neg h4] at hd
        have HD := Lib.hid hd
        have h4' : (na : Int) < 4096 := by omega
        clear hd h4
        go_wp2_with fail
        refine wp_named fun W5 hW5 => ?_
        have b0 : W5.cell? ⟨w.heap.size, 0, none⟩ = some (.int .i64 1) := by rw [hW5]; go_simp
        have b1 : W5.cell? ⟨w.heap.size, 1, none⟩ = some (.int .i64 a) := by rw [hW5]; go_simp
        have b2 : W5.cell? ⟨w.heap.size, 2, none⟩ = some (.int .i64 b) := by rw [hW5]; go_simp
        have b3 : W5.cell? ⟨w.heap.size, 3, none⟩ = some (.int .i64 c) := by rw [hW5]; go_simp
        have b4 : W5.cell? ⟨w.heap.size, 4, none⟩ = some (.int .i64 d) := by rw [hW5]; go_simp
        have b5 : W5.cell? ⟨w.heap.size, 5, none⟩ = some (.int .i64 e) := by rw [hW5]; go_simp
        have b6 : W5.cell? ⟨w.heap.size, 6, none⟩ = some (.int .i64 v) := by rw [hW5]; go_simp
        have hB5 : Below w.heap.size w W5 := by rw [hW5]; exact HB4.out
        have HB5 := Lib.hid hB5
        clear hW5 hB5 a0 a1 a2 a3 a4 a5 a6 s0 z64
        have hS5 := HS.out.below HB5.out
        have HP := Lib.hid hS5.p_ne
        have HADD := Lib.hid (add_c lo p na (.slice pa acts.length pc) _ (.map (some m)) (acts.flatMap acV) 1 a b c d e v W5.drew hS5.cells (by rw [← HNA.out]; exact hS5.acts) (by omega) (Nat.le_trans hlo HB5.out.size))
        have HS5 := Lib.hid hS5
        clear hS5
        have HK : Hid (∀ w' : World, w'.heap[w.heap.size]? = W5.heap[w.heap.size]? → (w'.cell? ⟨w.heap.size, 0, none⟩ = some (.int .i64 1) ∧ w'.cell? ⟨w.heap.size, 1, none⟩ = some (.int .i64 a) ∧ w'.cell? ⟨w.heap.size, 2, none⟩ = some (.int .i64 b) ∧ w'.cell? ⟨w.heap.size, 3, none⟩ = some (.int .i64 c) ∧ w'.cell? ⟨w.heap.size, 4, none⟩ = some (.int .i64 d) ∧ w'.cell? ⟨w.heap.size, 5, none⟩ = some (.int .i64 e) ∧ w'.cell? ⟨w.heap.size, 6, none⟩ = some (.int .i64 v))) :=
          fun w' hx => ⟨(World.cell?_of_block (a := ⟨w.heap.size, 0, none⟩) hx).trans b0, (World.cell?_of_block (a := ⟨w.heap.size, 1, none⟩) hx).trans b1, (World.cell?_of_block (a := ⟨w.heap.size, 2, none⟩) hx).trans b2, (World.cell?_of_block (a := ⟨w.heap.size, 3, none⟩) hx).trans b3, (World.cell?_of_block (a := ⟨w.heap.size, 4, none⟩) hx).trans b4, (World.cell?_of_block (a := ⟨w.heap.size, 5, none⟩) hx).trans b5, (World.cell?_of_block (a := ⟨w.heap.size, 6, none⟩) hx).trans b6⟩
        have hdrew : W5.drew.heap[w.heap.size]? = W5.heap[w.heap.size]? := rfl
        have hlt5 : w.heap.size < W5.heap.size := by
          have := World.block_lt_of_cell? W5 _ b0
          exact this
        have HO : Hid (some w.heap.size ≠ (Value.slice pa acts.length pc).ownBlock) := fun x => by
          have := (HS.out.acts.lt _ x.symm).2
          omega
        clear b0 b1 b2 b3 b4 b5 b6
        go_region_held3 (fun w' => w'.cell? ⟨w.heap.size, 0, none⟩ = some (.int .i64 1) ∧ w'.cell? ⟨w.heap.size, 1, none⟩ = some (.int .i64 a) ∧ w'.cell? ⟨w.heap.size, 2, none⟩ = some (.int .i64 b) ∧ w'.cell? ⟨w.heap.size, 3, none⟩ = some (.int .i64 c) ∧ w'.cell? ⟨w.heap.size, 4, none⟩ = some (.int .i64 d) ∧ w'.cell? ⟨w.heap.size, 5, none⟩ = some (.int .i64 e) ∧ w'.cell? ⟨w.heap.size, 6, none⟩ = some (.int .i64 v))
          ((refine HK.out _ ?_; with_reducible (first | assumption | exact hdrew)))
          ((go_at_call 43; refine HADD.out.mono ?_; rintro rr w6 ⟨rfl, va', hc6, ho6, ht6⟩; have hk6 : w6.heap[w.heap.size]? = W5.heap[w.heap.size]? := ht6.block _ hlt5 (by omega) HO.out))
        have hE := HD.out
        have hSf : SesAt w6 lo p m flo fhi va' _ fs (acts ++ [kept (1, (a, b, c, d, e), v)]) := SesAt.turned (w := W5.drew) (HS5.out.below (w := W5) (Below.refl _ W5).drew) ht6 hc6 (by
          rw [List.length_append, List.flatMap_append, HNA.out]; exact ho6)
        have HSF := Lib.hid hSf
        have HTF := Lib.hid ((Turn.of_below HB5.out.drew p (.slice pa acts.length pc)).trans ht6)
        clear hSf ht6 ho6 hc6 hk6 hE
        go_wp2
        go_ret
        exact ⟨by rw [HD.out]; rfl, va', by rw [show doA fs acts (1, (a, b, c, d, e), v) = acts ++ [kept (1, (a, b, c, d, e), v)] from if_pos HD.out]; exact HSF.out, HTF.out⟩

set_option maxHeartbeats 2000000 in
theorem Do2_c (lo p m flo fhi : Nat) (va vf : Value) (fs : List Ft) (acts : List Ac) (a b c d e v : Int) (w : World) (h : SesAt w lo p m flo fhi va vf fs acts) (hlo : lo ≤ w.heap.size) (hw : wfFs fs) (hwp : wfP (a, b, c, d, e)) (hn : acts.length ≤ 100000) (hnf : fs.length ≤ 20000) :
    Calls Tryz.prog 15 #[.pointer (some ⟨p, 0, none⟩), .agg #[.int .i64 2, .int .i64 a, .int .i64 b, .int .i64 c, .int .i64 d, .int .i64 e, .int .i64 v]] w (DoRes w lo p m flo fhi va vf fs acts (2, (a, b, c, d, e), v)) := by
  have HS := Lib.hid h
  have HN := Lib.hid fun W (hb : Below w.heap.size w W) => none_c lo p m flo fhi va vf fs acts W (h.below hb)
  obtain ⟨pa, pc, hva⟩ := own_shape h.acts
  obtain ⟨fa, fc, vs, hvf, -, hrow, hopt⟩ := h.feats
  subst hva
  subst hvf
  have hp : p < w.heap.size := (Array.getElem?_eq_some_iff.1 h.cells).1
  have c0 : w.cell? ⟨p, 0, none⟩ = some (.slice pa acts.length pc) := by rw [cell_of_row _ _ _ _ _ _ h.cells]; rfl
  have c1 : w.cell? ⟨p, 1, none⟩ = some (.slice fa fs.length fc) := by rw [cell_of_row _ _ _ _ _ _ h.cells]; rfl
  have c2 : w.cell? ⟨p, 2, none⟩ = some (.map (some m)) := by rw [cell_of_row _ _ _ _ _ _ h.cells]; rfl
  have hlk : ∀ q, (Instr.lookup 75 (.map (some m)) (.agg #[.int .i64 a, .int .i64 b, .int .i64 c, .int .i64 d, .int .i64 e]) true).run Tryz.prog ((w.alloc (.cells #[.int .i64 2, .int .i64 a, .int .i64 b, .int .i64 c, .int .i64 d, .int .i64 e, .int .i64 v] 60)).drewN q) = .ok (.tuple #[.int .i64 (((atF fs (a, b, c, d, e)).getD 0 : Nat) : Int), .bool (atF fs (a, b, c, d, e)).isSome]) ((w.alloc (.cells #[.int .i64 2, .int .i64 a, .int .i64 b, .int .i64 c, .int .i64 d, .int .i64 e, .int .i64 v] 60)).drewN q) :=
    fun q => IdxMap.look_ok (w := (w.alloc _).drewN q) (p := (a, b, c, d, e)) (h.map.below (below_drewN ((Below.refl w.heap.size w).alloc (Nat.le_refl _) _) q)) hwp
  have HSt : Hid (atF fs (a, b, c, d, e) = none → doE fs acts (2, (a, b, c, d, e), v) = 82) := fun x => doE_stale (a := (2, (a, b, c, d, e), v)) (by simp) x
  have HAt : Hid (∀ i, atF fs (a, b, c, d, e) = some i → doE fs acts (2, (a, b, c, d, e), v) = if (2 : Int) = 1 ∧ hasV (ftAt fs i).2 v = false then 8 else if 4096 ≤ acts.length then 4 else 0) := fun i x => doE_at (a := (2, (a, b, c, d, e), v)) (by simp) x
  have HAS : Hid (∀ i, atF fs (a, b, c, d, e) = some i → i < fs.length) := fun i x => (atF_some x).1
  have HROW := Lib.hid hrow
  have HOPT := Lib.hid hopt
  have HW := Lib.hid hw
  obtain ⟨nf, hnf'⟩ : ∃ nf, fs.length = nf := ⟨_, rfl⟩
  have HNF := Lib.hid hnf'
  rw [hnf'] at hnf c1
  obtain ⟨na, hna'⟩ : ∃ na, acts.length = na := ⟨_, rfl⟩
  have HNA := Lib.hid hna'
  rw [hna'] at hn c0
  clear h hrow hopt hw hna' hnf'
  generalize hat : atF fs (a, b, c, d, e) = at1 at *
  have HATE := Lib.hid hat
  clear hat
  cases at1 with
  | none =>
    simp only [Option.getD_none, Option.isSome_none] at hlk
    go_enter Tryz.func15, Tryz.ntmps15
    go_wp2_with fail
    refine (HN.out _ (by go_grown)).mono ?_
    rintro e w3 ⟨rfl, rfl⟩
    go_wp2_with fail
    go_quiet (fail)
    go_wp2
    go_ret
    exact DoRes.bad HS.out (below_drewN (by go_grown) _) (HSt.out (by first | rfl | trivial)) (by decide)
  | some i =>
    simp only [Option.getD_some, Option.isSome_some] at hlk
    have hi := HAS.out i rfl
    have hE := HAt.out i rfl
    have hif : i < fs.length := hi
    rw [HNF.out] at hi
    have hi0 : (0 : Int) ≤ (i : Int) := by omega
    have hi1 : (i : Int) < (nf : Int) := by omega
    obtain ⟨bf, off, hfa, hb1, hb2, hcf⟩ := HROW.out (by rw [HNF.out]; omega)
    subst hfa
    have hcf' : ∀ j u, (ftV (ftAt fs i).1 (vs i))[j]? = some u → w.cell? ⟨bf, off + i * 6 + j, none⟩ = some u := fun j u hu => hcf i hif j u hu
    have hop := HOPT.out i hif
    have hwo := (HW.out _ (ftAt_mem hif)).2.2
    have hhf := HS.out.hf
    clear hcf
    generalize ftAt fs i = f at *
    obtain ⟨⟨q1, q2, q3, q4, q5⟩, os⟩ := f
    simp only at hop hwo hE
    have HM := Lib.hid fun W (hb : Below w.heap.size w W) => (fun (x : Option Addr) (n cap : Nat) => mayConfirm_c p q1 q2 q3 q4 q5 v x n cap W)
    obtain ⟨oa, oc, hvo, -, -⟩ := hop
    rw [hvo] at hcf'
    clear hvo
    have f0 := hcf' 0 _ rfl
    have f1 := hcf' 1 _ rfl
    have f2 := hcf' 2 _ rfl
    have f3 := hcf' 3 _ rfl
    have f4 := hcf' 4 _ rfl
    have f5 := hcf' 5 _ rfl
    simp only [Nat.add_zero] at f0
    have hbf : bf < w.heap.size := by omega
    have hX : ∃ x : Int, x = 0 ∧ ((x = 8 ∧ doE fs acts (2, (a, b, c, d, e), v) = 8) ∨ (x = 0 ∧ doE fs acts (2, (a, b, c, d, e), v) = if 4096 ≤ na then 4 else 0)) := by
      refine ⟨0, rfl, .inr ⟨rfl, ?_⟩⟩
      rw [hE, if_neg (by simp), HNA.out]
    obtain ⟨x, hmx, hX⟩ := hX
    rw [← hmx] at HM
    have HX := Lib.hid hX
    clear hcf' hE hwo hX hmx
    go_enter Tryz.func15, Tryz.ntmps15
    go_wp2_with fail
    refine (HN.out _ (by go_grown)).mono ?_
    rintro e w3 ⟨rfl, rfl⟩
    go_wp2_with fail
    go_quiet (fail)
    go_wp2_with fail
    refine wp_named fun W hW => ?_
    have a0 : W.cell? ⟨w.heap.size, 0, none⟩ = some (.int .i64 2) := by rw [hW]; go_simp
    have a1 : W.cell? ⟨w.heap.size, 1, none⟩ = some (.int .i64 a) := by rw [hW]; go_simp
    have a2 : W.cell? ⟨w.heap.size, 2, none⟩ = some (.int .i64 b) := by rw [hW]; go_simp
    have a3 : W.cell? ⟨w.heap.size, 3, none⟩ = some (.int .i64 c) := by rw [hW]; go_simp
    have a4 : W.cell? ⟨w.heap.size, 4, none⟩ = some (.int .i64 d) := by rw [hW]; go_simp
    have a5 : W.cell? ⟨w.heap.size, 5, none⟩ = some (.int .i64 e) := by rw [hW]; go_simp
    have a6 : W.cell? ⟨w.heap.size, 6, none⟩ = some (.int .i64 v) := by rw [hW]; go_simp
    have z6 : W.frozen? ⟨w.heap.size, 6, none⟩ = false := by rw [hW]; go_simp
    have g1 : W.cell? ⟨w.heap.size + 1, 2, none⟩ = some (.func (.func 42) #[.pointer (some ⟨p, 0, none⟩)] #[]) := by rw [hW]; go_simp
    have hB : Below w.heap.size w W := by
      rw [hW]
      go_grown
      exact below_drewN (by go_grown) _
    have hs2 : w.heap.size + 1 < W.heap.size := by rw [hW]; simp
    clear hW
    have s0 : W.cell? ⟨p, 0, none⟩ = some (.slice pa na pc) := (hB.cell (p := ⟨p, 0, none⟩) hp).trans c0
    have s1 : W.cell? ⟨p, 1, none⟩ = some (.slice (some ⟨bf, off, none⟩) nf fc) := (hB.cell (p := ⟨p, 1, none⟩) hp).trans c1
    have t0 : W.cell? ⟨bf, off + i * 6, none⟩ = some (.int .i64 q1) := (hB.cell (p := ⟨bf, _, none⟩) hbf).trans f0
    have t1 : W.cell? ⟨bf, off + i * 6 + 1, none⟩ = some (.int .i64 q2) := (hB.cell (p := ⟨bf, _, none⟩) hbf).trans f1
    have t2 : W.cell? ⟨bf, off + i * 6 + 2, none⟩ = some (.int .i64 q3) := (hB.cell (p := ⟨bf, _, none⟩) hbf).trans f2
    have t3 : W.cell? ⟨bf, off + i * 6 + 3, none⟩ = some (.int .i64 q4) := (hB.cell (p := ⟨bf, _, none⟩) hbf).trans f3
    have t4 : W.cell? ⟨bf, off + i * 6 + 4, none⟩ = some (.int .i64 q5) := (hB.cell (p := ⟨bf, _, none⟩) hbf).trans f4
    have t5 : W.cell? ⟨bf, off + i * 6 + 5, none⟩ = some (.slice oa os.length oc) := (hB.cell (p := ⟨bf, _, none⟩) hbf).trans f5
    have y0 : w.heap.size < W.heap.size := by omega
    have y1 : p < W.heap.size := by omega
    have y2 : bf < W.heap.size := by omega
    have HB := Lib.hid hB
    clear c0 c1 c2 f0 f1 f2 f3 f4 f5 hlk hB
    go_region_held3 (fun w' => Sk W w') (first | assumption | exact Sk_drew _ | with_reducible exact Sk_call (by assumption) (by assumption))
      ((go_at_call 42; refine (HM.out _ (HB.out.trans ((by assumption : Sk W _).2.mono HB.out.size)) _ _ _).mono ?_; rintro rr w4 ⟨rfl, hb4⟩))
    have hSk := (by assumption : Sk W w4)
    have hB4 : Below w.heap.size w w4 := HB.out.trans (hSk.2.mono HB.out.size)
    have HB4 := Lib.hid hB4
    have b0 : w4.cell? ⟨w.heap.size, 0, none⟩ = some (.int .i64 2) := (hSk.1 _ _ y0).trans a0
    have b1 : w4.cell? ⟨w.heap.size, 1, none⟩ = some (.int .i64 a) := (hSk.1 _ _ y0).trans a1
    have b2 : w4.cell? ⟨w.heap.size, 2, none⟩ = some (.int .i64 b) := (hSk.1 _ _ y0).trans a2
    have b3 : w4.cell? ⟨w.heap.size, 3, none⟩ = some (.int .i64 c) := (hSk.1 _ _ y0).trans a3
    have b4 : w4.cell? ⟨w.heap.size, 4, none⟩ = some (.int .i64 d) := (hSk.1 _ _ y0).trans a4
    have b5 : w4.cell? ⟨w.heap.size, 5, none⟩ = some (.int .i64 e) := (hSk.1 _ _ y0).trans a5
    have b6 : w4.cell? ⟨w.heap.size, 6, none⟩ = some (.int .i64 v) := (hSk.1 _ _ y0).trans a6
    have z64 : w4.frozen? ⟨w.heap.size, 6, none⟩ = false := (hSk.2.frozen (p := ⟨w.heap.size, 6, none⟩) y0).trans z6
    have r0 : w4.cell? ⟨p, 0, none⟩ = some (.slice pa na pc) := (hSk.1 _ _ y1).trans s0
    have hs4 : W.heap.size ≤ w4.heap.size := hSk.2.size
    have HBB := Lib.hid (And.intro b0 (And.intro b1 (And.intro b2 (And.intro b3 (And.intro b4 (And.intro b5 b6))))))
    clear hSk hB4 z6 g1 s1 t0 t1 t2 t3 t4 t5 b0 b1 b2 b3 b4 b5 b6 r0
    rcases HX.out with ⟨rfl, hd⟩ | ⟨rfl, hd⟩
    · have HD := Lib.hid hd
      clear hd
      go_wp2
      go_ret
      exact DoRes.bad HS.out HB4.out HD.out (by decide)
    · by_cases h4 : 4096 ≤ na
      · rw [if_pos h4] at hd
        have HD := Lib.hid hd
        have h4' : (4096 : Int) ≤ na := by omega
        clear hd h4
        go_wp2
        go_ret
        exact DoRes.bad HS.out HB4.out HD.out (by decide)
      · rw [if_neg h4] at hd
        have HD := Lib.hid hd
        have h4' : (na : Int) < 4096 := by omega
        clear hd h4
        go_wp2_with fail
        refine wp_named fun W5 hW5 => ?_
        have b0 : W5.cell? ⟨w.heap.size, 0, none⟩ = some (.int .i64 2) := by rw [hW5]; go_simp
        have b1 : W5.cell? ⟨w.heap.size, 1, none⟩ = some (.int .i64 a) := by rw [hW5]; go_simp
        have b2 : W5.cell? ⟨w.heap.size, 2, none⟩ = some (.int .i64 b) := by rw [hW5]; go_simp
        have b3 : W5.cell? ⟨w.heap.size, 3, none⟩ = some (.int .i64 c) := by rw [hW5]; go_simp
        have b4 : W5.cell? ⟨w.heap.size, 4, none⟩ = some (.int .i64 d) := by rw [hW5]; go_simp
        have b5 : W5.cell? ⟨w.heap.size, 5, none⟩ = some (.int .i64 e) := by rw [hW5]; go_simp
        have b6 : W5.cell? ⟨w.heap.size, 6, none⟩ = some (.int .i64 0) := by rw [hW5]; go_simp
        have hB5 : Below w.heap.size w W5 := by rw [hW5]; exact HB4.out.setCell (p := ⟨w.heap.size, 6, none⟩) (Nat.le_refl _) _
        have HB5 := Lib.hid hB5
        clear hW5 hB5 a0 a1 a2 a3 a4 a5 a6 s0 z64
        have hS5 := HS.out.below HB5.out
        have HP := Lib.hid hS5.p_ne
        have HADD := Lib.hid (add_c lo p na (.slice pa acts.length pc) _ (.map (some m)) (acts.flatMap acV) 2 a b c d e 0 W5.drew hS5.cells (by rw [← HNA.out]; exact hS5.acts) (by omega) (Nat.le_trans hlo HB5.out.size))
        have HS5 := Lib.hid hS5
        clear hS5
        have HK : Hid (∀ w' : World, w'.heap[w.heap.size]? = W5.heap[w.heap.size]? → (w'.cell? ⟨w.heap.size, 0, none⟩ = some (.int .i64 2) ∧ w'.cell? ⟨w.heap.size, 1, none⟩ = some (.int .i64 a) ∧ w'.cell? ⟨w.heap.size, 2, none⟩ = some (.int .i64 b) ∧ w'.cell? ⟨w.heap.size, 3, none⟩ = some (.int .i64 c) ∧ w'.cell? ⟨w.heap.size, 4, none⟩ = some (.int .i64 d) ∧ w'.cell? ⟨w.heap.size, 5, none⟩ = some (.int .i64 e) ∧ w'.cell? ⟨w.heap.size, 6, none⟩ = some (.int .i64 0))) :=
          fun w' hx => ⟨(World.cell?_of_block (a := ⟨w.heap.size, 0, none⟩) hx).trans b0, (World.cell?_of_block (a := ⟨w.heap.size, 1, none⟩) hx).trans b1, (World.cell?_of_block (a := ⟨w.heap.size, 2, none⟩) hx).trans b2, (World.cell?_of_block (a := ⟨w.heap.size, 3, none⟩) hx).trans b3, (World.cell?_of_block (a := ⟨w.heap.size, 4, none⟩) hx).trans b4, (World.cell?_of_block (a := ⟨w.heap.size, 5, none⟩) hx).trans b5, (World.cell?_of_block (a := ⟨w.heap.size, 6, none⟩) hx).trans b6⟩
        have hdrew : W5.drew.heap[w.heap.size]? = W5.heap[w.heap.size]? := rfl
        have hlt5 : w.heap.size < W5.heap.size := by
          have := World.block_lt_of_cell? W5 _ b0
          exact this
        have HO : Hid (some w.heap.size ≠ (Value.slice pa acts.length pc).ownBlock) := fun x => by
          have := (HS.out.acts.lt _ x.symm).2
          omega
        clear b0 b1 b2 b3 b4 b5 b6
        go_region_held3 (fun w' => w'.cell? ⟨w.heap.size, 0, none⟩ = some (.int .i64 2) ∧ w'.cell? ⟨w.heap.size, 1, none⟩ = some (.int .i64 a) ∧ w'.cell? ⟨w.heap.size, 2, none⟩ = some (.int .i64 b) ∧ w'.cell? ⟨w.heap.size, 3, none⟩ = some (.int .i64 c) ∧ w'.cell? ⟨w.heap.size, 4, none⟩ = some (.int .i64 d) ∧ w'.cell? ⟨w.heap.size, 5, none⟩ = some (.int .i64 e) ∧ w'.cell? ⟨w.heap.size, 6, none⟩ = some (.int .i64 0))
          ((refine HK.out _ ?_; with_reducible (first | assumption | exact hdrew)))
          ((go_at_call 43; refine HADD.out.mono ?_; rintro rr w6 ⟨rfl, va', hc6, ho6, ht6⟩; have hk6 : w6.heap[w.heap.size]? = W5.heap[w.heap.size]? := ht6.block _ hlt5 (by omega) HO.out))
        have hE := HD.out
        have hSf : SesAt w6 lo p m flo fhi va' _ fs (acts ++ [kept (2, (a, b, c, d, e), v)]) := SesAt.turned (w := W5.drew) (HS5.out.below (w := W5) (Below.refl _ W5).drew) ht6 hc6 (by
          rw [List.length_append, List.flatMap_append, HNA.out]; exact ho6)
        have HSF := Lib.hid hSf
        have HTF := Lib.hid ((Turn.of_below HB5.out.drew p (.slice pa acts.length pc)).trans ht6)
        clear hSf ht6 ho6 hc6 hk6 hE
        go_wp2
        go_ret
        exact ⟨by rw [HD.out]; rfl, va', by rw [show doA fs acts (2, (a, b, c, d, e), v) = acts ++ [kept (2, (a, b, c, d, e), v)] from if_pos HD.out]; exact HSF.out, HTF.out⟩

set_option maxHeartbeats 1000000 in
theorem Do0_c (lo p m flo fhi : Nat) (va vf : Value) (fs : List Ft) (acts : List Ac) (k a b c d e v : Int) (w : World) (h : SesAt w lo p m flo fhi va vf fs acts) (hk1 : ¬ k = 1) (hk2 : ¬ k = 2) :
    Calls Tryz.prog 15 #[.pointer (some ⟨p, 0, none⟩), .agg #[.int .i64 k, .int .i64 a, .int .i64 b, .int .i64 c, .int .i64 d, .int .i64 e, .int .i64 v]] w (DoRes w lo p m flo fhi va vf fs acts (k, (a, b, c, d, e), v)) := by
  have HS := Lib.hid h
  have HN := Lib.hid fun W (hb : Below w.heap.size w W) => none_c lo p m flo fhi va vf fs acts W (h.below hb)
  have HE := Lib.hid (doE_kind (fs := fs) (acts := acts) (a := (k, (a, b, c, d, e), v)) ⟨hk1, hk2⟩)
  have e1 : (k != 1) = true := by simp [hk1]
  have e2 : (k != 2) = true := by simp [hk2]
  clear h
  go_enter Tryz.func15, Tryz.ntmps15
  go_wp2_with fail
  refine (HN.out _ (by go_grown)).mono ?_
  rintro e w3 ⟨rfl, rfl⟩
  go_wp2
  go_ret
  exact DoRes.bad HS.out (by go_grown) HE.out (by decide)
theorem Do_c (lo p m flo fhi : Nat) (va vf : Value) (fs : List Ft) (acts : List Ac) (k a b c d e v : Int) (w : World) (h : SesAt w lo p m flo fhi va vf fs acts) (hlo : lo ≤ w.heap.size) (hw : wfFs fs) (hwp : wfP (a, b, c, d, e)) (hn : acts.length ≤ 100000) (hnf : fs.length ≤ 20000) :
    Calls Tryz.prog 15 #[.pointer (some ⟨p, 0, none⟩), .agg #[.int .i64 k, .int .i64 a, .int .i64 b, .int .i64 c, .int .i64 d, .int .i64 e, .int .i64 v]] w (DoRes w lo p m flo fhi va vf fs acts (k, (a, b, c, d, e), v)) := by
  by_cases h1 : k = 1
  · subst h1
    exact Do1_c lo p m flo fhi va vf fs acts a b c d e v w h hlo hw hwp hn hnf
  · by_cases h2 : k = 2
    · subst h2
      exact Do2_c lo p m flo fhi va vf fs acts a b c d e v w h hlo hw hwp hn hnf
    · exact Do0_c lo p m flo fhi va vf fs acts k a b c d e v w h h1 h2
end Go.Proofs.YtpcefaccoifejaaGreatDoor

namespace Go.Proofs.YtpcefaccoifejaaGreatDoor
open Go.RowKit Go.Maps
set_option linter.unusedSimpArgs false
set_option linter.unusedVariables false
set_option maxRecDepth 100000

def RNewRes (w : World) (fs : List Ft) (e : Ending) (w' : World) : Prop :=
  Below w.heap.size w w' ∧ ((newE fs ≠ 0 ∧ e = .returned (.tuple #[.agg #[.slice none 0 0, .slice none 0 0], .int .i64 (newE fs)])) ∨
    (newE fs = 0 ∧ ∃ vf, e = .returned (.tuple #[.agg #[vf, .slice none 0 0], .int .i64 0]) ∧ OwnFeats w' w.heap.size vf fs))
theorem retBlock (w W : World) (g : Nat) (T : TypeId) (x y : Value) (h : W.heap[g]? = some (.cells #[x, y] T (0, 0))) : W.cell? ⟨g, 0, none⟩ = some x ∧ W.cell? ⟨g, 1, none⟩ = some y ∧ W.frozen? ⟨g, 0, none⟩ = false ∧ W.frozen? ⟨g, 1, none⟩ = false :=
  ⟨by rw [cell_of_row _ _ _ _ _ _ h]; rfl, by rw [cell_of_row _ _ _ _ _ _ h]; rfl, frozen_of_row _ _ _ _ _ h, frozen_of_row _ _ _ _ _ h⟩

set_option maxHeartbeats 2000000 in
theorem RNew_c (v : Value) (fs : List Ft) (lo hi : Nat) (w : World) (h : FeatsAt w lo hi v fs) (hh : hi ≤ w.heap.size) (hw : wfFs fs) (hlm : fs.length ≤ 4611686018427387904) :
    Calls Tryz.prog 14 #[v] w (RNewRes w fs) := by
  by_cases hl : 20000 < fs.length
  · have hE : newE fs = 4 := if_pos hl
    obtain ⟨a, cap, vs, rfl, -, -, -⟩ := h
    have HE := Lib.hid hE
    have hl2 : 20000 < (fs.length : Int) := by omega
    clear hE hl
    obtain ⟨n, hn⟩ : ∃ n, fs.length = n := ⟨_, rfl⟩
    rw [hn] at hl2 hlm ⊢
    clear hn
    go_enter Tryz.func14, Tryz.ntmps14
    go_wp2
    (try simp only [Exit.inBlock, Exit.then]); refine bodyPost_ret (by simp [results, Tryz.results14, go_sem, *]; try rfl) rfl ?_
    exact ⟨by go_grown, .inl ⟨by rw [HE.out]; decide, by rw [HE.out]⟩⟩
  · have hl2 : (fs.length : Int) ≤ 20000 := by omega
    have hl3 : fs.length ≤ 20000 := by omega
    have hE : newE fs = newGo [] fs := if_neg hl
    have HE := Lib.hid hE
    have HCP := Lib.hid fun W (hb : Below w.heap.size w W) => CopyFeatures_c v fs lo hi W (h.move (Same.of_below (hb.mono hh))) (Nat.le_trans hh hb.size) hl3 hw
    obtain ⟨a, cap, vs, rfl, -, hr, ho⟩ := h
    have HR := Lib.hid hr
    have HO := Lib.hid ho
    have HW := Lib.hid hw
    obtain ⟨n, hn⟩ : ∃ n, fs.length = n := ⟨_, rfl⟩
    have HN := Lib.hid hn
    rw [hn] at hl2 hl3 hlm HCP ⊢
    clear hr ho hw hn hE hl
    go_enter Tryz.func14, Tryz.ntmps14
    go_wp2
    go_loopw [4] (fun i wr => ∃ (k : Nat), k ≤ n ∧ i = .int .i64 (k : Int) ∧ newGo ((fs.take k).map (·.1)) (fs.drop k) = newE fs ∧ wr.heap[w.heap.size]? = some (.cells #[.slice none 0 0, .slice none 0 0] 52 (0, 0)) ∧ Below w.heap.size w wr)
      (fun i wr => n - (intOf i).toNat)
    case atStart => exact ⟨0, Nat.zero_le _, rfl, by rw [HE.out]; simp, heap_alloc_new _ _, by go_grown⟩
    case round =>
      obtain ⟨k, hkn, rfl, hgo, hblk, hB⟩ := hrel
      have HG := Lib.hid hgo
      obtain ⟨r0, r1, rf0, rf1⟩ := retBlock w wr _ _ _ _ hblk
      have HBK := Lib.hid hblk
      clear hgo hblk
      by_cases hk : k < n
      · have hkf : k < fs.length := by rw [HN.out]; exact hk
        obtain ⟨b, off, rfl, hb1, hb2, hc⟩ := HR.out (by omega)
        have HCW : Hid (∀ (W : World), Below w.heap.size w W → ∀ i, i < fs.length → ∀ j u, (ftV (ftAt fs i).1 (vs i))[j]? = some u → W.cell? ⟨b, off + i * 6 + j, none⟩ = some u) := fun W hB i hi j u hu => (hB.cell (p := ⟨b, off + i * 6 + j, none⟩) (show b < w.heap.size by omega)).trans (hc i hi j u hu)
        have hdr := drop_at hkf
        have hgo := HG.out
        rw [hdr, newGo_cons] at hgo
        have HG2 := Lib.hid hgo
        have hft : fs.take (k + 1) = fs.take k ++ [ftAt fs k] := by rw [take_snoc hkf, ftAt_get hkf]
        have HFT := Lib.hid hft
        have hop := HO.out k hkf
        have hwo := (HW.out _ (ftAt_mem hkf)).2.2
        obtain ⟨oa, oc, hvo, -, hro⟩ := hop
        have HRO := Lib.hid hro
        have HVO := Lib.hid hvo
        obtain ⟨m, hm⟩ : ∃ m, (ftAt fs k).2.length = m := ⟨_, rfl⟩
        have HM := Lib.hid hm
        rw [hm] at hwo
        have hk0 : (0 : Int) ≤ k := by omega
        have hk1 : (k : Int) < n := by omega
        have c5 : wr.cell? ⟨b, off + k * 6 + 5, none⟩ = some (.slice oa m oc) := HCW.out wr hB k hkf 5 _ (by rw [HVO.out, HM.out]; rfl)
        have HB := Lib.hid hB
        clear hc hdr hgo hft hro hvo hm hB
        by_cases ho : (ftAt fs k).2 = []
        · have h6 : newE fs = 6 := by
            have := HG2.out
            rw [newStep_none ho, if_neg (by decide)] at this
            exact this.symm
          have H6 := Lib.hid h6
          have hm0 : m = 0 := by rw [← HM.out, ho]; rfl
          subst hm0
          clear h6 ho
          go_wp2
          (try simp only [Exit.inBlock, Exit.then]); refine bodyPost_ret (by simp [results, Tryz.results14, go_sem, *]; try rfl) rfl ?_
          refine ⟨HB.out.trans (by go_grown), .inl ⟨by rw [H6.out]; decide, by rw [H6.out]⟩⟩
        · have hol : ¬ ((m : Int) = 0) := by
            intro x
            apply ho
            apply List.eq_nil_of_length_eq_zero
            rw [HM.out]
            omega
          have HNE := Lib.hid ho
          have HOB : Hid (((m : Int) == 0) = false) := Lib.hid (beq_false_of_ne hol)
          clear ho
          go_wp2
          clear r0 r1 rf0 rf1 c5 hol
          go_loopw [5] (fun i wq => ∃ (j : Nat), j ≤ m ∧ i = .int .i64 (j : Int) ∧ (∀ j', j' < j → badB (optAt (ftAt fs k).2 j') = false) ∧ wq.heap[w.heap.size]? = some (.cells #[.slice none 0 0, .slice none 0 0] 52 (0, 0)) ∧ Below w.heap.size w wq)
            (fun i wq => m - (intOf i).toNat)
          case atStart => exact ⟨0, Nat.zero_le _, rfl, fun j hj => absurd hj (Nat.not_lt_zero _), HBK.out, HB.out⟩
          case round =>
            obtain ⟨j, hjm, rfl, hno, hblk, hBq⟩ := hrel
            have HNO := Lib.hid hno
            obtain ⟨r0, r1, rf0, rf1⟩ := retBlock w wr _ _ _ _ hblk
            have HBK2 := Lib.hid hblk
            have c5 : wr.cell? ⟨b, off + k * 6 + 5, none⟩ = some (.slice oa m oc) := HCW.out wr hBq k hkf 5 _ (by rw [HVO.out, HM.out]; rfl)
            have HBQ := Lib.hid hBq
            clear hno hblk
            by_cases hj : j < m
            · obtain ⟨b2, off2, rfl, h1, h2, hc2⟩ := HRO.out (by rw [HM.out]; omega)
              have d1 : wr.cell? ⟨b2, off2 + j * 2 + 1, none⟩ = some (.int .i64 (optAt (ftAt fs k).2 j).2) := (hBq.cell (p := ⟨b2, _, none⟩) (show b2 < _ by omega)).trans (hc2 j (by rw [HM.out]; exact hj) 1 _ rfl)
              have hj0 : (0 : Int) ≤ j := by omega
              have hj1 : (j : Int) < m := by omega
              have HY : Hid (badB (optAt (ftAt fs k).2 j) = (decide ((optAt (ftAt fs k).2 j).2 < 0) || decide (10000 < (optAt (ftAt fs k).2 j).2))) := rfl
              have HAY : Hid (badB (optAt (ftAt fs k).2 j) = true → (ftAt fs k).2.any badB = true) := fun x => any_yes (by rw [HM.out]; exact hj) x
              generalize (optAt (ftAt fs k).2 j).2 = y at *
              clear hc2 hBq
              have h8 : Hid (badB (optAt (ftAt fs k).2 j) = true → newE fs = 8) := fun x => by
                have := HG2.out
                rw [newStep_bad HNE.out (HAY.out x), if_neg (by decide)] at this
                exact this.symm
              by_cases y0 : y < 0
              · have H8 := Lib.hid (h8.out (by rw [HY.out, decide_eq_true y0, Bool.true_or]))
                clear h8
                go_wp2
                (try simp only [Exit.inBlock, Exit.then]); refine bodyPost_ret (by simp [results, Tryz.results14, go_sem, *]; try rfl) rfl ?_
                exact ⟨HBQ.out.trans (by go_grown), .inl ⟨by rw [H8.out]; decide, by rw [H8.out]⟩⟩
              · by_cases y1 : 10000 < y
                · have H8 := Lib.hid (h8.out (by rw [HY.out, decide_eq_true y1, Bool.or_true]))
                  have y0' : 0 ≤ y := by omega
                  clear h8
                  go_wp2
                  (try simp only [Exit.inBlock, Exit.then]); refine bodyPost_ret (by simp [results, Tryz.results14, go_sem, *]; try rfl) rfl ?_
                  exact ⟨HBQ.out.trans (by go_grown), .inl ⟨by rw [H8.out]; decide, by rw [H8.out]⟩⟩
                · have HF := Lib.hid (by rw [HY.out, decide_eq_false y0, decide_eq_false y1]; rfl : badB (optAt (ftAt fs k).2 j) = false)
                  have y0' : 0 ≤ y := by omega
                  have y1' : y ≤ 10000 := by omega
                  clear h8
                  go_wp2
                  go_roundw
                  case rel => exact ⟨j + 1, by omega, by go_num, fun j' hj' => by
                    rcases Nat.lt_succ_iff_lt_or_eq.1 hj' with h | rfl
                    · exact HNO.out j' h
                    · exact HF.out, HBK2.out, HBQ.out⟩
                  case measure => simp [intOf]; omega
            · have hj' : j = m := by omega
              subst hj'
              have HBAD := Lib.hid (any_no (p := badB) (os := (ftAt fs k).2) (fun j' h => HNO.out j' (by rw [← HM.out]; exact h)))
              clear hBq
              go_wp2
              clear r0 r1 rf0 rf1 c5
              go_loopw [6] (fun i wq => ∃ (l : Nat), l ≤ k ∧ i = .int .i64 (l : Int) ∧ (∀ j', j' < l → (ftAt fs j').1 ≠ (ftAt fs k).1) ∧ wq.heap[w.heap.size]? = some (.cells #[.slice none 0 0, .slice none 0 0] 52 (0, 0)) ∧ Below w.heap.size w wq)
                (fun i wq => k - (intOf i).toNat)
              case atStart => exact ⟨0, Nat.zero_le _, rfl, fun j hj => absurd hj (Nat.not_lt_zero _), HBK2.out, HBQ.out⟩
              case round =>
                obtain ⟨l, hlk, rfl, hne, hblk, hBx⟩ := hrel
                have HNE2 := Lib.hid hne
                obtain ⟨r0, r1, rf0, rf1⟩ := retBlock w wr _ _ _ _ hblk
                have HBK3 := Lib.hid hblk
                have HBX := Lib.hid hBx
                clear hne hblk
                by_cases hl' : l < k
                · have hlf : l < fs.length := by omega
                  have hcl := HCW.out wr hBx l hlf
                  have hck := HCW.out wr hBx k hkf
                  have HTW : Hid ((ftAt fs l).1 = (ftAt fs k).1 → newE fs = 1) := fun x => by
                    have := HG2.out
                    rw [newStep_twice HNE.out HBAD.out (by rw [← x]; exact List.mem_map_of_mem (by rw [← ftAt_take hl']; exact ftAt_mem (by rw [List.length_take]; omega))), if_neg (by decide)] at this
                    exact this.symm
                  have HEQ : Hid (∀ x, (ftAt fs l).1 = x → ∀ y, (ftAt fs k).1 = y → ((ftAt fs l).1 = (ftAt fs k).1 ↔ x = y)) := fun x hx y hy => by rw [hx, hy]
                  have hk0' : (0 : Int) ≤ k := by omega
                  have hl0 : (0 : Int) ≤ l := by omega
                  have hl1 : (l : Int) < n := by omega
                  have hl2' : (l : Int) < k := by omega
                  obtain ⟨⟨p1, p2, p3, p4, p5⟩, hpl⟩ : ∃ x, (ftAt fs l).1 = x := ⟨_, rfl⟩
                  obtain ⟨⟨q1, q2, q3, q4, q5⟩, hpk⟩ : ∃ x, (ftAt fs k).1 = x := ⟨_, rfl⟩
                  have HIF := Lib.hid (HEQ.out _ hpl _ hpk)
                  rw [hpl] at hcl
                  rw [hpk] at hck
                  have d0 := hcl 0 _ rfl
                  have d1 := hcl 1 _ rfl
                  have d2 := hcl 2 _ rfl
                  have d3 := hcl 3 _ rfl
                  have d4 := hcl 4 _ rfl
                  have e0 := hck 0 _ rfl
                  have e1 := hck 1 _ rfl
                  have e2 := hck 2 _ rfl
                  have e3 := hck 3 _ rfl
                  have e4 := hck 4 _ rfl
                  simp only [Nat.add_zero] at d0 e0
                  clear hcl hck hpl hpk HEQ hBx
                  by_cases hpq : (p1, p2, p3, p4, p5) = (q1, q2, q3, q4, q5)
                  · have he : ∀ w, (Op.equalIn 10000 44 (.agg #[.int .i64 p1, .int .i64 p2, .int .i64 p3, .int .i64 p4, .int .i64 p5]) (.agg #[.int .i64 q1, .int .i64 q2, .int .i64 q3, .int .i64 q4, .int .i64 q5])).run Tryz.prog w = .ok true w := fun w => by rw [ein_pl, decide_eq_true hpq]
                    have H1 := Lib.hid (HTW.out (HIF.out.2 hpq))
                    clear hpq
                    go_wp2_with fail
                    go_quiet (fail)
                    go_wp2
                    (try simp only [Exit.inBlock, Exit.then]); refine bodyPost_ret (by simp [results, Tryz.results14, go_sem, *]; try rfl) rfl ?_
                    exact ⟨HBX.out.trans (by go_grown; exact ⟨rfl, rfl, rfl, Nat.le_refl _, fun _ _ => rfl⟩), .inl ⟨by rw [H1.out]; decide, by rw [H1.out]⟩⟩
                  · have he : ∀ w, (Op.equalIn 10000 44 (.agg #[.int .i64 p1, .int .i64 p2, .int .i64 p3, .int .i64 p4, .int .i64 p5]) (.agg #[.int .i64 q1, .int .i64 q2, .int .i64 q3, .int .i64 q4, .int .i64 q5])).run Tryz.prog w = .ok false w := fun w => by rw [ein_pl, decide_eq_false hpq]
                    have H1 := Lib.hid (fun x => hpq (HIF.out.1 x))
                    clear hpq
                    go_wp2_with fail
                    go_quiet (fail)
                    go_wp2
                    go_roundw
                    case rel =>
                      have hall : ∀ j', j' < l + 1 → (ftAt fs j').1 ≠ (ftAt fs k).1 := fun j' hj' => by
                        rcases Nat.lt_succ_iff_lt_or_eq.1 hj' with h | rfl
                        · exact HNE2.out j' h
                        · exact H1.out
                      (repeat apply Exists.intro)
                      refine ⟨⟨l + 1, ?a1, ?a2, hall, HBK3.out, below_drewN HBX.out _⟩, ?a3⟩
                      case a3 => first | (rw [HOB.out]; done) | (rw [HOB.out]; rfl)
                      case a1 => omega
                      case a2 => go_num
                    case measure => simp [intOf]; omega
                · have hlk' : l = k := by omega
                  subst hlk'
                  have hnot : (ftAt fs l).1 ∉ (fs.take l).map (·.1) := fun x => by
                    obtain ⟨f, hf, hfe⟩ := List.mem_map.1 x
                    obtain ⟨i, hi, rfl⟩ := List.getElem_of_mem hf
                    rw [List.length_take] at hi
                    refine HNE2.out i (by omega) ?_
                    rw [← hfe, List.getElem_take, ftAt_get (by omega)]
                  have hnext : newGo ((fs.take (l + 1)).map (·.1)) (fs.drop (l + 1)) = newE fs := by
                    have := HG2.out
                    rw [newStep_ok HNE.out HBAD.out hnot, if_pos rfl] at this
                    rw [HFT.out, List.map_append]
                    exact this
                  have HX := Lib.hid hnext
                  clear hnot hnext hBx
                  go_wp2
                  go_roundw
                  case rel => exact ⟨l + 1, by omega, by go_num, HX.out, HBK3.out, HBX.out⟩
                  case measure => simp [intOf]; omega
      · have hk' : k = n := by omega
        subst hk'
        have h0 : newE fs = 0 := by
          have := HG.out
          rw [← HN.out, List.drop_length] at this
          exact this.symm
        have HB := Lib.hid hB
        have H0 := Lib.hid h0
        clear hB h0
        go_wp2_with fail
        refine (HCP.out _ HB.out).mono ?_
        rintro e w3 ⟨vf, rfl, hof, hb3⟩
        obtain ⟨fa, fc, rfl⟩ : ∃ fa fc, vf = .slice fa k fc := by
          obtain ⟨vs, h1, h2, h3⟩ := hof
          rw [HN.out] at h2
          exact own_shape h2
        have hblk3 := (hb3.block _ (Array.getElem?_eq_some_iff.1 HBK.out).1).trans HBK.out
        obtain ⟨u0, u1, uf0, uf1⟩ := retBlock w w3 _ _ _ _ hblk3
        have HB3 := Lib.hid (below_step HB.out hb3)
        have HOF := Lib.hid hof
        have hsz := HB.out.size
        have hwl : w.heap.size < wr.heap.size := (Array.getElem?_eq_some_iff.1 HBK.out).1
        clear r0 r1 rf0 rf1 hblk3 hb3 hof
        go_wp2
        (try simp only [Exit.inBlock, Exit.then]); refine bodyPost_ret (by simp [results, Tryz.results14, go_sem, *]; try rfl) rfl ?_
        refine ⟨HB3.out.trans (by go_grown), .inr ⟨H0.out, _, rfl, ?_⟩⟩
        obtain ⟨vs', g1, g2, g3⟩ := HOF.out
        refine ⟨vs', g1, own_low (own_off (own_off g2 ?_ _ _) ?_ _ _) hsz, fun i hi => own_low (own_off (own_off (g3 i hi) ?_ _ _) ?_ _ _) hsz⟩ <;> omega
end Go.Proofs.YtpcefaccoifejaaGreatDoor

namespace Go.Proofs.YtpcefaccoifejaaGreatDoor
open Go.RowKit Go.Maps
set_option linter.unusedSimpArgs false
set_option linter.unusedVariables false
set_option maxRecDepth 100000

theorem best1_c (x y x' y' : Int) (w : World) (h0 : 0 ≤ y ∧ y ≤ 10000) (h1 : 0 ≤ y' ∧ y' ≤ 10000) :
    Calls Tryz.prog 71 #[.agg #[.int .i64 x, .int .i64 y], .agg #[.int .i64 x', .int .i64 y']] w fun e w' => e = .returned (.int .i64 (y - y')) ∧ Below w.heap.size w w' := by
  obtain ⟨h0a, h0b⟩ := h0
  obtain ⟨h1a, h1b⟩ := h1
  go_enter Tryz.func71, Tryz.ntmps71
  go_wp2
  go_ret
  exact ⟨by first | rfl | (congr 3; go_num), by go_grown⟩
def bestO : List Opt → Opt
  | [] => (0, 0)
  | o :: r => bestGo o r
theorem best_eq : ∀ os : List Opt, best os = (bestO os).1
  | [] => rfl
  | _ :: _ => rfl
theorem opt_drop {os : List Opt} {k : Nat} (h : k < os.length) : os.drop k = optAt os k :: os.drop (k + 1) := by
  rw [optAt_get h]
  exact List.drop_eq_getElem_cons h
theorem Sk_set {W w2 : World} (h : Sk W w2) {a : Addr} (ha : W.heap.size ≤ a.block) (u : Value) : Sk W (w2.setCell a u) := Sk_of (h.2.setCell ha u)
set_option maxHeartbeats 1000000 in
theorem MinFunc_c (v : Value) (os : List Opt) (lo hi : Nat) (w : World) (h : OptsAt w lo hi v os) (hh : hi ≤ w.heap.size) (hl : os.length ≤ 1000000) (hne : os ≠ []) (hm : ∀ o ∈ os, 0 ≤ o.2 ∧ o.2 ≤ 10000) :
    Calls Tryz.prog 70 #[v, .func (.func 71) #[] #[]] w fun e w' => e = .returned (.agg #[.int .i64 (bestO os).1, .int .i64 (bestO os).2]) ∧ Below w.heap.size w w' := by
  obtain ⟨a, cap, rfl, -, hr⟩ := h
  have hpos : 0 < os.length := List.length_pos_iff.2 hne
  obtain ⟨b, off, rfl, hb1, hb2, hc⟩ := hr hpos
  have HC : Hid (∀ W, Below w.heap.size w W → ∀ k, k < os.length → W.cell? ⟨b, off + k * 2, none⟩ = some (.int .i64 (optAt os k).1) ∧ W.cell? ⟨b, off + k * 2 + 1, none⟩ = some (.int .i64 (optAt os k).2)) := fun W hB k hk =>
    ⟨(hB.cell (p := ⟨b, _, none⟩) (show b < _ by omega)).trans (hc k hk 0 _ rfl), (hB.cell (p := ⟨b, _, none⟩) (show b < _ by omega)).trans (hc k hk 1 _ rfl)⟩
  have HM : Hid (∀ k, k < os.length → 0 ≤ (optAt os k).2 ∧ (optAt os k).2 ≤ 10000) := fun k hk => hm _ (optAt_mem hk)
  have HB0 : Hid (bestO os = bestGo (optAt os 0) (os.drop 1)) := by
    cases os with
    | nil => exact absurd rfl hne
    | cons o r => rfl
  obtain ⟨n, hn⟩ : ∃ n, os.length = n := ⟨_, rfl⟩
  have HN := Lib.hid hn
  have HD : Hid (∀ k, k < n → os.drop k = optAt os k :: os.drop (k + 1)) := fun k hk => opt_drop (by omega)
  have HE : Hid (os.drop n = []) := by rw [← hn]; exact List.drop_length
  rw [hn] at hl hpos ⊢
  have c0 := (HC.out w (Below.refl _ _) 0 (by omega)).1
  have c1 := (HC.out w (Below.refl _ _) 0 (by omega)).2
  simp only [Nat.zero_mul, Nat.add_zero] at c0 c1
  have hn0 : (0 : Int) < n := by omega
  have hn1 : (1 : Int) ≤ n := by omega
  have hbw : b < w.heap.size := by omega
  obtain ⟨R, hR⟩ : ∃ R, bestO os = R := ⟨_, rfl⟩
  have HR := Lib.hid hR
  rw [hR]
  have HB1 := Lib.hid (HB0.out.symm.trans hR)
  have HM0 := HM.out 0 (by omega)
  generalize hq0 : optAt os 0 = q0 at *
  obtain ⟨x0, y0⟩ := q0
  obtain ⟨rx, ry⟩ := R
  clear hr hc hn hR hm hne HB0
  have HMM := Lib.hid HM0
  clear HM0 hq0
  go_enter Tryz.func70, Tryz.ntmps70
  go_wp2
  go_loopw [6] (fun i wr => ∃ (k : Nat) (x y : Int), 1 ≤ k ∧ k ≤ n ∧ i = .int .i64 (k : Int) ∧ (0 ≤ y ∧ y ≤ 10000) ∧ bestGo (x, y) (os.drop k) = (rx, ry) ∧ wr.heap[w.heap.size + 1]? = some (.cells #[.int .i64 x, .int .i64 y] 41 (0, 0)) ∧
      (∃ u v, wr.heap[w.heap.size]? = some (.cells #[u, v] 41 (0, 0))) ∧ Below w.heap.size w wr)
    (fun i wr => n - (intOf i).toNat)
  case atStart =>
    refine ⟨1, x0, y0, Nat.le_refl _, hpos, rfl, HMM.out, HB1.out, ?_, ⟨.int .i64 0, .int .i64 0, ?_⟩, by go_grown⟩
    · first | exact heap_alloc2_new w _ _ | go_simp
    · first | exact heap_alloc2_old w _ _ | go_simp
  case round =>
    obtain ⟨k, x, y, hk1, hkn, rfl, hy, hbg, hblk, ⟨u, v, hblk0⟩, hB⟩ := hrel
    have HY := Lib.hid hy
    have HBG := Lib.hid hbg
    have HBLK := Lib.hid hblk
    have HBLK0 := Lib.hid hblk0
    have m0 : wr.cell? ⟨w.heap.size + 1, 0, none⟩ = some (.int .i64 x) := by rw [cell_of_row _ _ _ _ _ _ hblk]; rfl
    have m1 : wr.cell? ⟨w.heap.size + 1, 1, none⟩ = some (.int .i64 y) := by rw [cell_of_row _ _ _ _ _ _ hblk]; rfl
    have hlt1 : w.heap.size + 1 < wr.heap.size := (Array.getElem?_eq_some_iff.1 hblk).1
    clear c0 c1 hy hbg hblk hblk0
    by_cases hk : k < n
    · have d0 := (HC.out wr hB k (by rw [HN.out]; exact hk)).1
      have d1 := (HC.out wr hB k (by rw [HN.out]; exact hk)).2
      have HMk := HM.out k (by rw [HN.out]; exact hk)
      have hdk := HD.out k hk
      have hbk := HBG.out
      rw [hdk] at hbk
      generalize optAt os k = q at *
      obtain ⟨x1, y1⟩ := q
      have HBK : Hid (bestGo (if y1 < y then (x1, y1) else (x, y)) (os.drop (k + 1)) = (rx, ry)) := hbk
      have HCL := Lib.hid fun W => best1_c x1 y1 x y W HMk HY.out
      have hk0 : (0 : Int) ≤ k := by omega
      have hkn' : (k : Int) < n := by omega
      have hbwr : b < wr.heap.size := by omega
      have hs := hB.size
      have HB := Lib.hid hB
      have HMKH := Lib.hid HMk
      clear hdk hbk HMk hB
      go_wp2_with fail
      go_region_held3 (fun w' => Sk wr w') (first | assumption | exact Sk_drew _ | with_reducible exact Sk_call (by assumption) (by assumption))
        ((go_at_call 71; refine (HCL.out _).mono ?_; rintro rr w3 ⟨rfl, hb3⟩))
      have hSk := (by assumption : Sk wr w3)
      have hblk3 := (hSk.2.block _ hlt1).trans HBLK.out
      have hblk03 := (hSk.2.block _ (by omega)).trans HBLK0.out
      have HB3 := Lib.hid (HB.out.trans (hSk.2.mono hs))
      by_cases hyy : y1 < y
      · have hlt : y1 - y < 0 := by omega
        have hbg := HBK.out
        rw [if_pos hyy] at hbg
        have HBG2 := Lib.hid hbg
        have fz0 : w3.frozen? ⟨w.heap.size + 1, 0, none⟩ = false := frozen_of_row _ _ _ _ _ hblk3
        have fz1 : w3.frozen? ⟨w.heap.size + 1, 1, none⟩ = false := frozen_of_row _ _ _ _ _ hblk3
        have H3 := Lib.hid (And.intro hblk3 hblk03)
        clear hSk hblk3 hblk03 hbg hyy
        go_wp2
        go_roundw
        case rel =>
          refine ⟨k + 1, x1, y1, by omega, by omega, by go_num, HMKH.out, HBG2.out, ?_, ⟨u, v, ?_⟩, ?_⟩
          · rw [heap_setCell_same _ _ _ _ _ _ (heap_setCell_same _ _ _ _ _ _ H3.out.1)]; rfl
          · exact (Below.heap_setCell _ _ _ _ (by simp)).trans ((Below.heap_setCell _ _ _ _ (by simp)).trans H3.out.2)
          · exact (HB3.out.setCell (p := ⟨w.heap.size + 1, 0, none⟩) (Nat.le_succ _) _).setCell (p := ⟨w.heap.size + 1, 1, none⟩) (Nat.le_succ _) _
        case measure => simp [intOf]; omega
      · have hlt : 0 ≤ y1 - y := by omega
        have hbg := HBK.out
        rw [if_neg hyy] at hbg
        have HBG2 := Lib.hid hbg
        have H3 := Lib.hid (And.intro hblk3 hblk03)
        clear hSk hblk3 hblk03 hbg hyy
        go_wp2
        go_roundw
        case rel => exact ⟨k + 1, x, y, by omega, by omega, by go_num, HY.out, HBG2.out, H3.out.1, ⟨u, v, H3.out.2⟩, HB3.out⟩
        case measure => simp [intOf]; omega
    · have hk' : k = n := by omega
      subst hk'
      have hbg := HBG.out
      rw [HE.out] at hbg
      have hxy : x = rx ∧ y = ry := by
        have : (x, y) = (rx, ry) := hbg
        injection this with h1 h2
        exact ⟨h1, h2⟩
      obtain ⟨rfl, rfl⟩ := hxy
      have fz0 : wr.frozen? ⟨w.heap.size, 0, none⟩ = false := frozen_of_row _ _ _ _ _ HBLK0.out
      have fz1 : wr.frozen? ⟨w.heap.size, 1, none⟩ = false := frozen_of_row _ _ _ _ _ HBLK0.out
      have g0 : wr.cell? ⟨w.heap.size, 0, none⟩ = some u := by rw [cell_of_row _ _ _ _ _ _ HBLK0.out]; rfl
      have g1 : wr.cell? ⟨w.heap.size, 1, none⟩ = some v := by rw [cell_of_row _ _ _ _ _ _ HBLK0.out]; rfl
      have HB := Lib.hid hB
      clear hB hbg
      go_wp2
      (try simp only [Exit.inBlock, Exit.then]); refine bodyPost_ret (by simp [results, Tryz.results70, go_sem, *]; try rfl) rfl ?_
      exact ⟨rfl, (HB.out.setCell (p := ⟨w.heap.size, 0, none⟩) (Nat.le_refl _) _).setCell (p := ⟨w.heap.size, 1, none⟩) (Nat.le_refl _) _⟩
theorem run_field_opt (x y : Int) (w : World) : (Instr.field 41 (.agg #[.int .i64 x, .int .i64 y]) 0).run Tryz.prog w = .ok (.int .i64 x) w := by
  have u3 := Tryz.underlying3
  have a3 := Tryz.isAgg3
  have z3 := Tryz.sizeOf3
  have hu := Tryz.underlying41
  unfold Instr.field
  rw [Sem.run_bind, run_underlying hu]
  go_simp
  simp [asAgg, Result.andThen]
theorem best_c (a b c d e : Int) (v : Value) (os : List Opt) (lo hi : Nat) (w : World) (h : OptsAt w lo hi v os) (hh : hi ≤ w.heap.size) (hl : os.length ≤ 1000000) (hne : os ≠ []) (hm : ∀ o ∈ os, 0 ≤ o.2 ∧ o.2 ≤ 10000) :
    Calls Tryz.prog 47 #[.agg #[.int .i64 a, .int .i64 b, .int .i64 c, .int .i64 d, .int .i64 e, v]] w fun r w' => r = .returned (.int .i64 (best os)) ∧ Below w.heap.size w w' := by
  have HC := Lib.hid fun W (hb : Below w.heap.size w W) => MinFunc_c v os lo hi W (h.move (Same.of_below (hb.mono hh))) (Nat.le_trans hh hb.size) hl hne hm
  obtain ⟨av, cap, rfl, -, -⟩ := h
  rw [best_eq]
  generalize bestO os = q at *
  obtain ⟨x, y⟩ := q
  generalize os.length = n at *
  clear hm hne hl
  go_enter Tryz.func47, Tryz.ntmps47
  go_wp2_with fail
  refine (HC.out _ (by go_grown)).mono ?_
  rintro rr w3 ⟨rfl, hb3⟩
  have hf := fun w => run_field_opt x y w
  go_wp2
  go_ret
  exact ⟨rfl, below_step (by go_grown) hb3⟩
end Go.Proofs.YtpcefaccoifejaaGreatDoor
