/-
  The contract of custosref13.Replay. Conditions: what is read lies in memory as SW says; numbers are of their type; lists are not too long.
-/
import Derived.Test.YtpcefaccoifejaaDoorR3
import Derived.Test.YtpcefaccoifejaaDoorK19
namespace Go.Proofs.YtpcefaccoifejaaDoor
open Go.RowKit Go.Maps
set_option linter.unusedSimpArgs false
set_option linter.unusedVariables false
set_option maxRecDepth 100000

/-- acts in memory, in one block that is none of those of P -/
def ActsIn (w : World) (v : Value) (acts : List Ac) (P : Nat → Prop) : Prop := (acts = [] ∧ v = .slice none 0 0) ∨ ∃ b, ActsAt w b (b + 1) v acts ∧ b < w.heap.size ∧ ¬ P b
theorem ActsIn.at {w : World} {v : Value} {acts : List Ac} {P : Nat → Prop} (h : ActsIn w v acts P) : ActsAt w 0 w.heap.size v acts := by
  rcases h with ⟨rfl, rfl⟩ | ⟨b, h, h2, -⟩
  · exact ⟨none, 0, rfl, fun _ => rfl, Row.none _ _ _ _ _ _⟩
  · exact h.wider (Nat.zero_le _) h2
theorem ActsIn.move {w w' : World} {v : Value} {acts : List Ac} {P P' : Nat → Prop} (h : ActsIn w v acts P) (hs : w.heap.size ≤ w'.heap.size) (hk : ∀ b, ¬ P b → b < w.heap.size → w'.heap[b]? = w.heap[b]?) (hp : ∀ b, b < w.heap.size → P' b → P b) : ActsIn w' v acts P' := by
  refine h.imp id fun ⟨b, h1, h2, h3⟩ => ⟨b, h1.move (fun c c1 c2 => ?_), Nat.lt_of_lt_of_le h2 hs, fun x => h3 (hp b h2 x)⟩
  obtain rfl : c = b := by omega
  exact hk c h3 h2
theorem ActsIn.of_at {w : World} {v : Value} {acts : List Ac} {lo hi : Nat} {P : Nat → Prop} (h : ActsAt w lo hi v acts) (hh : hi ≤ w.heap.size) (hn : acts ≠ []) (hP : ∀ b, lo ≤ b → b < hi → ¬ P b) : ActsIn w v acts P := by
  obtain ⟨a, cap, e, hz, hr⟩ := h
  obtain ⟨b, off, e1, h1, h2, h3⟩ := hr (List.length_pos_iff.2 hn)
  exact .inr ⟨b, ⟨a, cap, e, hz, fun _ => ⟨b, off, e1, Nat.le_refl _, Nat.lt_succ_self _, h3⟩⟩, by omega, hP b h1 h2⟩
theorem ActsIn.shape {w : World} {v : Value} {acts : List Ac} {P : Nat → Prop} (h : ActsIn w v acts P) : ∃ a cap, v = .slice a acts.length cap := by
  rcases h with ⟨rfl, rfl⟩ | ⟨b, ⟨a, cap, e, -⟩, -⟩
  · exact ⟨none, 0, rfl⟩
  · exact ⟨a, cap, e⟩
theorem exit_named {Q : Exit → Act → World → Prop} {e : Exit} {a : Act} {w : World} (h : ∀ W, W = w → Q e a W) : Q e a w := h w rfl
theorem Bw.setAt {W w' : World} (h : Bw W w') {b : Nat} (hb : W.heap.size ≤ b) (o : Nat) (u : Value) : Bw W (w'.setCell ⟨b, o, none⟩ u) := Below.setCell h (p := ⟨b, o, none⟩) hb u
def RRepRes (w : World) (gs : List Ft) (acts : List Ac) (e : Ending) (w' : World) : Prop :=
  Below w.heap.size w w' ∧ ((newE gs ≠ 0 ∧ e = .returned (.tuple #[.agg #[.slice none 0 0, .slice none 0 0], .slice none 0 0, .int .i64 (newE gs)])) ∨
    (newE gs = 0 ∧ ∃ vf va lv, e = .returned (.tuple #[.agg #[vf, va], lv, .int .i64 0]) ∧ FeatsAt w' w.heap.size w'.heap.size vf gs ∧ ActsAt w' 0 w'.heap.size va (playGo gs [] [] acts).1 ∧ ActsAt w' w.heap.size w'.heap.size lv (playGo gs [] [] acts).2))
set_option maxHeartbeats 4000000 in
theorem rReplay_c (vf va : Value) (nf : Nat) (xf : Option Addr) (cf : Nat) (hvf : vf = .slice xf nf cf) (acts : List Ac) (alo ahi : Nat) (lv : Value) (gs : List Ft) (llo lhi : Nat) (w : World) (hA : ActsAt w alo ahi va acts) (hah : ahi ≤ w.heap.size) (hl : FeatsAt w llo lhi lv gs) (hlh : lhi ≤ w.heap.size) (hw : wfFs gs)
    (hn : acts.length ≤ 100000) (hlm : gs.length ≤ 4611686018427387904) :
    Calls Tryd.prog 11 #[.agg #[vf, va], lv] w (RRepRes w gs acts) := by
  subst hvf
  have HNEW := Lib.hid fun W (hb : Below w.heap.size w W) => RNew_c lv gs llo lhi W (hl.move (Same.of_below (hb.mono hlh))) (Nat.le_trans hlh hb.size) hw hlm
  obtain ⟨la, lc, lvs, rfl, -, -, -⟩ := hl
  obtain ⟨aa, ac, rfl, -, hrow⟩ := hA
  have HROW := Lib.hid hrow
  have hI := Lib.hid infoRAct
  obtain ⟨n, hn'⟩ : ∃ n, acts.length = n := ⟨_, rfl⟩
  have HNA := Lib.hid hn'
  rw [hn'] at hn ⊢
  clear hrow hn'
  unfold RRepRes
  go_enter Tryd.func11, Tryd.ntmps11
  go_wp2_with fail
  refine (HNEW.out _ (by go_grown)).mono ?_
  rintro e w1 ⟨hb1, hres⟩
  have hz1 : w.heap.size + 1 < w1.heap.size := by have := hb1.size; simp at this; omega
  have hS1 : w1.heap[w.heap.size]? = some (.cells #[.slice xf nf cf, .slice aa n ac] 31 (0, 0)) := (hb1.block _ (by simp; omega)).trans (heap_alloc2_old _ _ _)
  have hR1 : w1.heap[w.heap.size + 1]? = some (.cells #[.slice none 0 0, .slice none 0 0] 31 (0, 0)) := (hb1.block _ (by simp)).trans (heap_alloc2_new _ _ _)
  have hB1 : Below w.heap.size w w1 := below_step (by go_grown) hb1
  have HSR := Lib.hid (And.intro hS1 (And.intro hR1 hB1))
  rcases hres with ⟨hne, rfl⟩ | ⟨he0, vT, rfl, hof⟩
  · have HNE := Lib.hid hne
    obtain ⟨E, hEq⟩ : ∃ E, newE gs = E := ⟨_, rfl⟩
    have HEQ := Lib.hid hEq
    rw [hEq] at HNE ⊢
    obtain ⟨r0, r1, rf0, rf1⟩ := sesBlock hR1
    clear hne hb1 hEq hS1 hR1 hB1
    have hE : ¬ E = 0 := HNE.out
    go_wp2
    (try simp only [Exit.inBlock, Exit.then]); refine bodyPost_ret (by simp [results, Tryd.results11, go_sem, *]; try rfl) rfl ?_
    exact ⟨(((HSR.out.2.2.setCell (p := ⟨w.heap.size + 1, 0, none⟩) (Nat.le_succ _) _).setCell (p := ⟨w.heap.size + 1, 1, none⟩) (Nat.le_succ _) _).alloc (by simp [World.setCell]; omega) _), .inl ⟨by rw [HEQ.out]; exact HNE.out, by rw [HEQ.out]⟩⟩
  · have HE0 := Lib.hid he0
    obtain ⟨ta, tc, rfl⟩ : ∃ ta tc, vT = .slice ta gs.length tc := by
      obtain ⟨vs, h1, h2, h3⟩ := hof
      exact own_shape h2
    have HF1 : Hid (FeatsAt w1 (w.heap.size + 2) w1.heap.size (.slice ta gs.length tc) gs) := by
      have := hof.feats
      rw [World.size_alloc, World.size_alloc] at this
      exact this
    clear he0 hof hb1 hS1 hR1 hB1
    go_wp2
    go_loopw [9, 10] (fun o i wr => ∃ (k : Nat) (dn lf : List Ac) (xa : Option Addr) (xc : Nat) (va2 : Value), k ≤ n ∧ i = .int .i64 (k : Int) ∧ o = .slice xa lf.length xc ∧ dn.length ≤ k ∧ lf.length ≤ k ∧ playGo gs dn lf (acts.drop k) = playGo gs [] [] acts ∧
        Below w1.heap.size w1 wr ∧ wr.heap[w1.heap.size]? = some (.cells #[.slice ta gs.length tc, va2] 31 (0, 0)) ∧ ActsIn wr va2 dn (fun b => b ≤ w1.heap.size ∨ (Value.slice xa lf.length xc).ownBlock = some b) ∧ wr.ownsRow (w1.heap.size + 1) 57 7 (.slice xa lf.length xc) lf.length (lf.flatMap acV))
      (fun o i wr => n - (intOf i).toNat)
    case atStart => exact ⟨0, [], [], none, 0, .slice none 0 0, Nat.zero_le _, rfl, rfl, Nat.le_refl _, Nat.le_refl _, rfl, (Below.refl _ _).alloc (Nat.le_refl _) _, heap_alloc_new _ _, .inl ⟨rfl, rfl⟩, World.ownsRow_nil _ _ _ _⟩
    case round =>
      obtain ⟨k, dn, lf, xa, xc, va2, hkn, rfl, rfl, hdk, hlk, hplay, hb1, hT, hai, hown⟩ := hrel
      have HPL := Lib.hid hplay
      have HB1 := Lib.hid hb1
      have HT := Lib.hid hT
      have HAI := Lib.hid hai
      have HOW := Lib.hid hown
      obtain ⟨ya, yc, rfl⟩ := hai.shape
      obtain ⟨t0, t1, tf0, tf1⟩ := sesBlock hT
      have hS : wr.heap[w.heap.size]? = some (.cells #[.slice xf nf cf, .slice aa n ac] 31 (0, 0)) := (hb1.block _ (by omega)).trans HSR.out.1
      have hR : wr.heap[w.heap.size + 1]? = some (.cells #[.slice none 0 0, .slice none 0 0] 31 (0, 0)) := (hb1.block _ (by omega)).trans HSR.out.2.1
      obtain ⟨s0, s1, -, -⟩ := sesBlock hS
      obtain ⟨r0, r1, rf0, rf1⟩ := sesBlock hR
      have hzr : w1.heap.size < wr.heap.size := (Array.getElem?_eq_some_iff.1 hT).1
      have hBB : Below w.heap.size w wr := HSR.out.2.2.trans (hb1.mono HSR.out.2.2.size)
      have HBB := Lib.hid hBB
      clear hplay hS hR hT hown hai
      by_cases hk : k < n
      · have hkf : k < acts.length := by rw [HNA.out]; exact hk
        obtain ⟨bf, off, rfl, hb1', hb2, hc⟩ := HROW.out (by omega)
        have hcw : ∀ j u, (acV (acAt acts k))[j]? = some u → wr.cell? ⟨bf, off + k * 7 + j, none⟩ = some u := fun j u hu => (hBB.cell (p := ⟨bf, off + k * 7 + j, none⟩) (show bf < w.heap.size by omega)).trans (hc k hkf j u hu)
        have hpl : playGo gs (doA gs dn (acAt acts k)) (if doE gs dn (acAt acts k) = 0 then lf else lf ++ [acAt acts k]) (acts.drop (k + 1)) = playGo gs [] [] acts := by
          rw [← playGo_cons, ← drop_ac hkf, HPL.out]
        have HP2 := Lib.hid hpl
        have HDL := Lib.hid (doA_len gs dn (acAt acts k))
        have HDA : Hid (doE gs dn (acAt acts k) ≠ 0 → doA gs dn (acAt acts k) = dn) := fun h => if_neg h
        have HDB : Hid (doE gs dn (acAt acts k) = 0 → doA gs dn (acAt acts k) ≠ []) := fun h => by unfold doA; rw [if_pos h]; simp
        generalize acAt acts k = A at *
        obtain ⟨kd, ⟨q1, q2, q3, q4, q5⟩, av⟩ := A
        have c0 := hcw 0 _ rfl
        have c1 := hcw 1 _ rfl
        have c2 := hcw 2 _ rfl
        have c3 := hcw 3 _ rfl
        have c4 := hcw 4 _ rfl
        have c5 := hcw 5 _ rfl
        have c6 := hcw 6 _ rfl
        simp only [Nat.add_zero] at c0
        have hk0 : (0 : Int) ≤ k := by omega
        have hk1 : (k : Int) < n := by omega
        have hk2 : (k : Int) ≤ 100000 := by omega
        have hgl : gs.length ≤ 20000 := (good_of_newE HE0.out).len
        have HDO := Lib.hid fun W (hb : Bw wr W) => rDo_c (.slice ta gs.length tc) (.slice ya dn.length yc) gs dn 0 (w.heap.size + 2) w1.heap.size kd q1 q2 q3 q4 q5 av W ((HF1.out.move (Same.of_below HB1.out)).move (Same.of_below (hb.mono HB1.out.size))) (Nat.le_trans HB1.out.size hb.size) (HAI.out.at.below hb) (Nat.zero_le _) hw (by omega) hgl
        have y1 : w.heap.size < wr.heap.size := by omega
        have y2 : bf < wr.heap.size := by omega
        clear hcw hc hpl hBB hb1
        have HSC : Hid (∀ w', Bw wr w' → (w'.cell? ⟨w1.heap.size, 0, none⟩ = some (.slice ta gs.length tc) ∧ w'.cell? ⟨w1.heap.size, 1, none⟩ = some (.slice ya dn.length yc) ∧ w'.cell? ⟨w.heap.size, 1, none⟩ = some (.slice (some ⟨bf, off, none⟩) n ac) ∧ w'.cell? ⟨bf, off + k * 7, none⟩ = some (.int .i64 kd) ∧ w'.cell? ⟨bf, off + k * 7 + 1, none⟩ = some (.int .i64 q1) ∧ w'.cell? ⟨bf, off + k * 7 + 2, none⟩ = some (.int .i64 q2) ∧ w'.cell? ⟨bf, off + k * 7 + 3, none⟩ = some (.int .i64 q3) ∧ w'.cell? ⟨bf, off + k * 7 + 4, none⟩ = some (.int .i64 q4) ∧ w'.cell? ⟨bf, off + k * 7 + 5, none⟩ = some (.int .i64 q5) ∧ w'.cell? ⟨bf, off + k * 7 + 6, none⟩ = some (.int .i64 av) ∧ Bw wr w')) := fun w' hb =>
          ⟨(hb.cell (p := ⟨w1.heap.size, 0, none⟩) hzr).trans t0, (hb.cell (p := ⟨w1.heap.size, 1, none⟩) hzr).trans t1, (hb.cell (p := ⟨w.heap.size, 1, none⟩) y1).trans s1, (hb.cell (p := ⟨bf, _, none⟩) y2).trans c0, (hb.cell (p := ⟨bf, _, none⟩) y2).trans c1, (hb.cell (p := ⟨bf, _, none⟩) y2).trans c2, (hb.cell (p := ⟨bf, _, none⟩) y2).trans c3, (hb.cell (p := ⟨bf, _, none⟩) y2).trans c4, (hb.cell (p := ⟨bf, _, none⟩) y2).trans c5, (hb.cell (p := ⟨bf, _, none⟩) y2).trans c6, hb⟩
        have HDOD := Lib.hid (HDO.out wr.drew (Bw.drew _))
        go_wp2_with fail
        go_region_held3 (fun w' => w'.cell? ⟨w1.heap.size, 0, none⟩ = some (.slice ta gs.length tc) ∧ w'.cell? ⟨w1.heap.size, 1, none⟩ = some (.slice ya dn.length yc) ∧ w'.cell? ⟨w.heap.size, 1, none⟩ = some (.slice (some ⟨bf, off, none⟩) n ac) ∧ w'.cell? ⟨bf, off + k * 7, none⟩ = some (.int .i64 kd) ∧ w'.cell? ⟨bf, off + k * 7 + 1, none⟩ = some (.int .i64 q1) ∧ w'.cell? ⟨bf, off + k * 7 + 2, none⟩ = some (.int .i64 q2) ∧ w'.cell? ⟨bf, off + k * 7 + 3, none⟩ = some (.int .i64 q3) ∧ w'.cell? ⟨bf, off + k * 7 + 4, none⟩ = some (.int .i64 q4) ∧ w'.cell? ⟨bf, off + k * 7 + 5, none⟩ = some (.int .i64 q5) ∧ w'.cell? ⟨bf, off + k * 7 + 6, none⟩ = some (.int .i64 av) ∧ Bw wr w')
          ((refine HSC.out _ ?_; with_reducible (first | exact Bw.drew _ | assumption | exact Bw.d (Bw.alloc (Bw.refl _) _) | exact Bw.alloc (by assumption) _ | exact Bw.setAt (Bw.setAt (Bw.alloc (by assumption) _) hle3 _ _) hle3 _ _ | exact Bw.setAt (Bw.setAt (by assumption) (Nat.le_refl _) _ _) (Nat.le_refl _) _ _)))
          ((go_at_call 21; first
            | (refine HDOD.out.mono ?_; rintro rr w3 ⟨va3, rfl, hok, hno, hb3⟩; have hle3 : wr.heap.size ≤ w3.heap.size := hb3.size; have hBw3 : Bw wr w3 := below_step (Bw.drew _) hb3; have HRES := Lib.hid (And.intro hok hno); obtain ⟨za, zl, zc, rfl⟩ : ∃ za zl zc, va3 = .slice za zl zc := (by
              by_cases h : doE gs dn (kd, (q1, q2, q3, q4, q5), av) = 0
              · obtain ⟨a, c, e, _⟩ := hok h; exact ⟨_, _, _, e⟩
              · exact ⟨_, _, _, hno h⟩); clear hb3 hok hno)
            | (refine (HDO.out _ (Bw.d (Bw.alloc (Bw.refl _) _))).mono ?_; rintro rr w3 ⟨va3, rfl, hok, hno, hb3⟩; have hle3 : wr.heap.size + 1 ≤ w3.heap.size := (by have := hb3.size; simpa using this); have hbx := Lib.hid ((hb3.block wr.heap.size (by simp)).trans (heap_alloc_new wr _)); obtain ⟨n0, n1, nf0, nf1⟩ := sesBlock hbx.out; have hBw3 : Bw wr w3 := below_step (Bw.d (Bw.alloc (Bw.refl _) _)) hb3; have HRES := Lib.hid (And.intro hok hno); obtain ⟨za, zl, zc, rfl⟩ : ∃ za zl zc, va3 = .slice za zl zc := (by
              by_cases h : doE gs dn (kd, (q1, q2, q3, q4, q5), av) = 0
              · obtain ⟨a, c, e, _⟩ := hok h; exact ⟨_, _, _, e⟩
              · exact ⟨_, _, _, hno h⟩); clear hb3 hok hno)))
        · skip
          refine exit_named (Q := Exit.then _ _) fun WF hWF => ?_
          have hX : WF.heap[w3.heap.size]? = some (.cells #[.slice ta gs.length tc, .slice za zl zc] 31 (0, 0)) := by rw [hWF]; exact heap_alloc_new _ _
          have hXW : Bw wr WF := by rw [hWF]; exact Bw.alloc hBw3 _
          have hXb : wr.heap.size ≤ w3.heap.size := hle3
          have HOK : Hid (doE gs dn (kd, (q1, q2, q3, q4, q5), av) = 0 → ActsIn WF (.slice za zl zc) (doA gs dn (kd, (q1, q2, q3, q4, q5), av)) (fun b => b < wr.heap.size ∨ b = w3.heap.size)) := fun h =>
            (ActsIn.of_at (P := fun b => b < wr.heap.size ∨ b = w3.heap.size) (HRES.out.1 h) (Nat.le_refl _) (HDB.out h) (fun b h1 h2 x => by
              have h3 : wr.heap.size ≤ b := h1
              omega)).move (by rw [hWF]; simp) (fun b _ h2 => by rw [hWF]; exact Below.heap_alloc _ _ _ h2) (fun b _ x => x)
          have HNO := Lib.hid HRES.out.2
          obtain ⟨bx, hbx⟩ : ∃ bx, w3.heap.size = bx := ⟨_, rfl⟩
          rw [hbx] at hX hXb HOK ⊢
          clear hWF hbx hle3 hBw3 HRES
          have HX := Lib.hid hX
          have HXW := Lib.hid hXW
          obtain ⟨x0, x1, -, -⟩ := sesBlock hX
          have hxlt : bx < WF.heap.size := (Array.getElem?_eq_some_iff.1 hX).1
          have HTF : Hid (WF.heap[w1.heap.size]? = some (.cells #[.slice ta gs.length tc, .slice ya dn.length yc] 31 (0, 0))) := (hXW.block _ hzr).trans HT.out
          obtain ⟨g0, g1, gf0, gf1⟩ := sesBlock HTF.out
          obtain ⟨-, -, u1, e0, e1, e2, e3, e4, e5, e6, -⟩ := HSC.out WF hXW
          have hzF := hXW.size
          clear hX hXW t0 t1 tf0 tf1 s0 s1 r0 r1 rf0 rf1 c0 c1 c2 c3 c4 c5 c6
          generalize hE : doE gs dn (kd, (q1, q2, q3, q4, q5), av) = E at *
          clear hE
          by_cases he : E = 0
          · subst he
            have HP3 := Lib.hid ((congrArg (fun l => playGo gs _ l _) (if_pos rfl)).symm.trans HP2.out)
            go_wp2
            go_roundw
            case rel =>
              have hoth : ∀ (b : Nat), b ≠ w1.heap.size → ((WF.setCell ⟨w1.heap.size, 0, none⟩ (.slice ta gs.length tc)).setCell ⟨w1.heap.size, 1, none⟩ (.slice za zl zc)).heap[b]? = WF.heap[b]? := fun b hb => by
                rw [Below.heap_setCell _ _ _ _ hb, Below.heap_setCell _ _ _ _ hb]
              have hsz : WF.heap.size ≤ ((WF.setCell ⟨w1.heap.size, 0, none⟩ (.slice ta gs.length tc)).setCell ⟨w1.heap.size, 1, none⟩ (.slice za zl zc)).heap.size := by simp [World.setCell]
              refine ⟨k + 1, _, lf, xa, xc, .slice za zl zc, by omega, by go_num, rfl, by have := HDL.out; omega, by omega, HP3.out, ?_, ?_, ?_, ?_⟩
              · exact ((HB1.out.trans (HXW.out.mono HB1.out.size)).setCell (p := ⟨w1.heap.size, 0, none⟩) (Nat.le_refl _) _).setCell (p := ⟨w1.heap.size, 1, none⟩) (Nat.le_refl _) _
              · rw [heap_setCell_same _ _ _ _ _ _ (heap_setCell_same _ _ _ _ _ _ HTF.out)]; rfl
              · refine (HOK.out rfl).move hsz (fun b h1 h2 => hoth b (fun x => h1 (.inl (by omega)))) (fun b _ x => ?_)
                rcases x with x | x
                · exact .inl (by omega)
                · exact .inl (HOW.out.lt b x).2
              · exact own_off (own_off (own_below HOW.out HXW.out) (Nat.lt_succ_self _) _ _) (Nat.lt_succ_self _) _ _
            case measure => simp [intOf]; omega
          · have HP3 := Lib.hid ((congrArg (fun l => playGo gs _ l _) (if_neg he)).symm.trans HP2.out)
            have HEN := Lib.hid he
            have HOWF := Lib.hid (own_below HOW.out HXW.out)
            go_wp2_with (at_builtin; go_loud (refine wpList_append_lies _ rfl (.tmp 41) (.tmp 47) _ rfl (w1.heap.size + 1) 57 Tryd.t57 _ 7 56 rfl hI.out rfl rfl rfl rfl (by omega) (.slice xa lf.length xc) lf.length _ rfl (HOWF.out.alloc _) ⟨WF.heap.size, 0, none⟩ 1 1 (acV (kd, (q1, q2, q3, q4, q5), av)) rfl rfl (newCells _ _ _) (by simp [acV, Value.oneCell']) (by omega) (by simp only [maxLen]; omega) (by omega) (by simp; omega) _ rfl ?_); intro g cap w5 hao hag hat hglt)
            have hA5 : Hid (ActsIn w5 (.slice ya dn.length yc) dn (fun b => b ≤ w1.heap.size ∨ (Value.slice (some ⟨g, 0, none⟩) (lf.length + 1) cap).ownBlock = some b)) := by
              refine HAI.out.move (Nat.le_trans hzF (Nat.le_trans (by simp) hag.size)) (fun b h1 h2 => ?_) (fun b h2 x => ?_)
              · exact (hag.block b (by simp; omega) (fun e => h1 (.inr e.symm))).trans ((Below.heap_alloc _ _ _ (by omega)).trans (HXW.out.block b h2))
              · rcases x with x | x
                · exact .inl x
                · simp only [Value.ownBlock, Option.some.injEq] at x
                  subst x
                  rcases hat with h | h
                  · exact .inr h
                  · simp at h; omega
            have hT5 : Hid (w5.heap[w1.heap.size]? = some (.cells #[.slice ta gs.length tc, .slice ya dn.length yc] 31 (0, 0))) :=
              (hag.block _ (by simp; omega) (fun e => by have := (HOWF.out.lt _ e.symm).1; omega)).trans ((Below.heap_alloc _ _ _ (by omega)).trans HTF.out)
            have HB5 : Hid (Below w1.heap.size w1 w5) := ((HB1.out.trans (HXW.out.mono HB1.out.size)).alloc (by omega) _).grown hag (by simp; omega) (fun j hj => by have := (HOWF.out.lt j hj).1; omega)
            have HO5 := Lib.hid hao
            clear hao hag hat hglt x0 x1 g0 g1 gf0 gf1 u1 e0 e1 e2 e3 e4 e5 e6
            go_wp2_with fail
            go_roundw
            case rel => exact ⟨k + 1, dn, lf ++ [(kd, (q1, q2, q3, q4, q5), av)], some ⟨g, 0, none⟩, cap, .slice ya dn.length yc, by omega, by go_num, by simp, by omega, by simp; omega, by rw [← HP3.out, HDA.out HEN.out], HB5.out, hT5.out, by simpa using hA5.out, by simpa using HO5.out⟩
            case measure => simp [intOf]; omega
        · skip
          refine exit_named (Q := Exit.then _ _) fun WF hWF => ?_
          have hX : WF.heap[wr.heap.size]? = some (.cells #[.slice ta gs.length tc, .slice za zl zc] 31 (0, 0)) := by
            rw [hWF, heap_setCell_same _ _ _ _ _ _ (heap_setCell_same _ _ _ _ _ _ hbx.out)]; rfl
          have hXW : Bw wr WF := by rw [hWF]; exact Bw.setAt (Bw.setAt hBw3 (Nat.le_refl _) _ _) (Nat.le_refl _) _ _
          have hXb : wr.heap.size ≤ wr.heap.size := Nat.le_refl _
          have HOK : Hid (doE gs dn (kd, (q1, q2, q3, q4, q5), av) = 0 → ActsIn WF (.slice za zl zc) (doA gs dn (kd, (q1, q2, q3, q4, q5), av)) (fun b => b < wr.heap.size ∨ b = wr.heap.size)) := fun h =>
            (ActsIn.of_at (P := fun b => b < wr.heap.size ∨ b = wr.heap.size) (HRES.out.1 h) (Nat.le_refl _) (HDB.out h) (fun b h1 h2 x => by
              have h3 : wr.heap.size + 1 ≤ b := by simpa using h1
              omega)).move (by rw [hWF]; simp [World.setCell]) (fun b h1 h2 => by rw [hWF, Below.heap_setCell _ _ _ _ (fun x => h1 (.inr x)), Below.heap_setCell _ _ _ _ (fun x => h1 (.inr x))]) (fun b _ x => x)
          have HNO := Lib.hid HRES.out.2
          obtain ⟨bx, hbx2⟩ : ∃ bx, wr.heap.size = bx := ⟨_, rfl⟩
          have hX2 : WF.heap[bx]? = some (.cells #[.slice ta gs.length tc, .slice za zl zc] 31 (0, 0)) := by rw [← hbx2]; exact hX
          have hXb2 : wr.heap.size ≤ bx := Nat.le_of_eq hbx2
          have HOK2 : Hid (doE gs dn (kd, (q1, q2, q3, q4, q5), av) = 0 → ActsIn WF (.slice za zl zc) (doA gs dn (kd, (q1, q2, q3, q4, q5), av)) (fun b => b < wr.heap.size ∨ b = bx)) := by rw [← hbx2]; exact HOK
          clear hX hXb HOK
          have hX := hX2
          have hXb := hXb2
          have HOK := HOK2
          rw [show (wr.heap.size) = bx from hbx2]
          clear hWF hbx2 hle3 hBw3 HRES hX2 hXb2 HOK2 hbx n0 n1 nf0 nf1
          have HX := Lib.hid hX
          have HXW := Lib.hid hXW
          obtain ⟨x0, x1, -, -⟩ := sesBlock hX
          have hxlt : bx < WF.heap.size := (Array.getElem?_eq_some_iff.1 hX).1
          have HTF : Hid (WF.heap[w1.heap.size]? = some (.cells #[.slice ta gs.length tc, .slice ya dn.length yc] 31 (0, 0))) := (hXW.block _ hzr).trans HT.out
          obtain ⟨g0, g1, gf0, gf1⟩ := sesBlock HTF.out
          obtain ⟨-, -, u1, e0, e1, e2, e3, e4, e5, e6, -⟩ := HSC.out WF hXW
          have hzF := hXW.size
          clear hX hXW t0 t1 tf0 tf1 s0 s1 r0 r1 rf0 rf1 c0 c1 c2 c3 c4 c5 c6
          generalize hE : doE gs dn (kd, (q1, q2, q3, q4, q5), av) = E at *
          clear hE
          by_cases he : E = 0
          · subst he
            have HP3 := Lib.hid ((congrArg (fun l => playGo gs _ l _) (if_pos rfl)).symm.trans HP2.out)
            go_wp2
            go_roundw
            case rel =>
              have hoth : ∀ (b : Nat), b ≠ w1.heap.size → ((WF.setCell ⟨w1.heap.size, 0, none⟩ (.slice ta gs.length tc)).setCell ⟨w1.heap.size, 1, none⟩ (.slice za zl zc)).heap[b]? = WF.heap[b]? := fun b hb => by
                rw [Below.heap_setCell _ _ _ _ hb, Below.heap_setCell _ _ _ _ hb]
              have hsz : WF.heap.size ≤ ((WF.setCell ⟨w1.heap.size, 0, none⟩ (.slice ta gs.length tc)).setCell ⟨w1.heap.size, 1, none⟩ (.slice za zl zc)).heap.size := by simp [World.setCell]
              refine ⟨k + 1, _, lf, xa, xc, .slice za zl zc, by omega, by go_num, rfl, by have := HDL.out; omega, by omega, HP3.out, ?_, ?_, ?_, ?_⟩
              · exact ((HB1.out.trans (HXW.out.mono HB1.out.size)).setCell (p := ⟨w1.heap.size, 0, none⟩) (Nat.le_refl _) _).setCell (p := ⟨w1.heap.size, 1, none⟩) (Nat.le_refl _) _
              · rw [heap_setCell_same _ _ _ _ _ _ (heap_setCell_same _ _ _ _ _ _ HTF.out)]; rfl
              · refine (HOK.out rfl).move hsz (fun b h1 h2 => hoth b (fun x => h1 (.inl (by omega)))) (fun b _ x => ?_)
                rcases x with x | x
                · exact .inl (by omega)
                · exact .inl (HOW.out.lt b x).2
              · exact own_off (own_off (own_below HOW.out HXW.out) (Nat.lt_succ_self _) _ _) (Nat.lt_succ_self _) _ _
            case measure => simp [intOf]; omega
          · have HP3 := Lib.hid ((congrArg (fun l => playGo gs _ l _) (if_neg he)).symm.trans HP2.out)
            have HEN := Lib.hid he
            have HOWF := Lib.hid (own_below HOW.out HXW.out)
            go_wp2_with (at_builtin; go_loud (refine wpList_append_lies _ rfl (.tmp 41) (.tmp 47) _ rfl (w1.heap.size + 1) 57 Tryd.t57 _ 7 56 rfl hI.out rfl rfl rfl rfl (by omega) (.slice xa lf.length xc) lf.length _ rfl (HOWF.out.alloc _) ⟨WF.heap.size, 0, none⟩ 1 1 (acV (kd, (q1, q2, q3, q4, q5), av)) rfl rfl (newCells _ _ _) (by simp [acV, Value.oneCell']) (by omega) (by simp only [maxLen]; omega) (by omega) (by simp; omega) _ rfl ?_); intro g cap w5 hao hag hat hglt)
            have hA5 : Hid (ActsIn w5 (.slice ya dn.length yc) dn (fun b => b ≤ w1.heap.size ∨ (Value.slice (some ⟨g, 0, none⟩) (lf.length + 1) cap).ownBlock = some b)) := by
              refine HAI.out.move (Nat.le_trans hzF (Nat.le_trans (by simp) hag.size)) (fun b h1 h2 => ?_) (fun b h2 x => ?_)
              · exact (hag.block b (by simp; omega) (fun e => h1 (.inr e.symm))).trans ((Below.heap_alloc _ _ _ (by omega)).trans (HXW.out.block b h2))
              · rcases x with x | x
                · exact .inl x
                · simp only [Value.ownBlock, Option.some.injEq] at x
                  subst x
                  rcases hat with h | h
                  · exact .inr h
                  · simp at h; omega
            have hT5 : Hid (w5.heap[w1.heap.size]? = some (.cells #[.slice ta gs.length tc, .slice ya dn.length yc] 31 (0, 0))) :=
              (hag.block _ (by simp; omega) (fun e => by have := (HOWF.out.lt _ e.symm).1; omega)).trans ((Below.heap_alloc _ _ _ (by omega)).trans HTF.out)
            have HB5 : Hid (Below w1.heap.size w1 w5) := ((HB1.out.trans (HXW.out.mono HB1.out.size)).alloc (by omega) _).grown hag (by simp; omega) (fun j hj => by have := (HOWF.out.lt j hj).1; omega)
            have HO5 := Lib.hid hao
            clear hao hag hat hglt x0 x1 g0 g1 gf0 gf1 u1 e0 e1 e2 e3 e4 e5 e6
            go_wp2_with fail
            go_roundw
            case rel => exact ⟨k + 1, dn, lf ++ [(kd, (q1, q2, q3, q4, q5), av)], some ⟨g, 0, none⟩, cap, .slice ya dn.length yc, by omega, by go_num, by simp, by omega, by simp; omega, by rw [← HP3.out, HDA.out HEN.out], HB5.out, hT5.out, by simpa using hA5.out, by simpa using HO5.out⟩
            case measure => simp [intOf]; omega
      · obtain rfl : k = n := by omega
        have hfin : playGo gs [] [] acts = (dn, lf) := by
          rw [← HPL.out, ← HNA.out, List.drop_length]; rfl
        have HFIN := Lib.hid hfin
        clear hBB hb1 hfin
        go_wp2
        (try simp only [Exit.inBlock, Exit.then]); refine bodyPost_ret (by simp [results, Tryd.results11, go_sem, *]; try rfl) rfl ?_
        have hoff : ∀ b, b ≠ w.heap.size + 1 → ((wr.setCell ⟨w.heap.size + 1, 0, none⟩ (.slice ta gs.length tc)).setCell ⟨w.heap.size + 1, 1, none⟩ (.slice ya dn.length yc)).heap[b]? = wr.heap[b]? := fun b hb => by
          rw [Below.heap_setCell _ _ _ _ hb, Below.heap_setCell _ _ _ _ hb]
        have hsz : ((wr.setCell ⟨w.heap.size + 1, 0, none⟩ (.slice ta gs.length tc)).setCell ⟨w.heap.size + 1, 1, none⟩ (.slice ya dn.length yc)).heap.size = wr.heap.size := by simp [World.setCell]
        refine ⟨(HBB.out.setCell (p := ⟨w.heap.size + 1, 0, none⟩) (Nat.le_succ _) _).setCell (p := ⟨w.heap.size + 1, 1, none⟩) (Nat.le_succ _) _, .inr ⟨HE0.out, _, _, _, rfl, ?_, ?_, ?_⟩⟩
        · exact ((HF1.out.move (Same.of_below HB1.out)).move (fun b h1 _ => hoff b (by omega))).wider (by omega) (by rw [hsz]; omega)
        · rw [HFIN.out]
          exact (HAI.out.move (P' := fun _ => False) (Nat.le_of_eq hsz.symm) (fun b h1 h2 => hoff b (fun e => h1 (.inl (by omega)))) (fun b _ x => x.elim)).at
        · rw [HFIN.out]
          exact (acts_of_own (own_off (own_off HOW.out (by omega) _ _) (by omega) _ _)).wider (by omega) (Nat.le_refl _)
end Go.Proofs.YtpcefaccoifejaaDoor
