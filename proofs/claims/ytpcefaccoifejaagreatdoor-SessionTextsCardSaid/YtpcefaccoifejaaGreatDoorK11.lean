/-
  The contract of custosref13.New. Conditions: what is read lies in memory as SW says, and is not too long.
-/
import Derived.Test.YtpcefaccoifejaaGreatDoorK10
namespace Go.Proofs.YtpcefaccoifejaaGreatDoor
open Go.RowKit Go.Maps
set_option linter.unusedSimpArgs false
set_option linter.unusedVariables false
set_option maxRecDepth 100000

def RNewRes (w : World) (fs : List Ft) (e : Ending) (w' : World) : Prop :=
  Below w.heap.size w w' ∧ ((newE fs ≠ 0 ∧ e = .returned (.tuple #[.agg #[.slice none 0 0, .slice none 0 0], .int .i64 (newE fs)])) ∨
    (newE fs = 0 ∧ ∃ vf, e = .returned (.tuple #[.agg #[vf, .slice none 0 0], .int .i64 0]) ∧ OwnFeats w' w.heap.size vf fs))
theorem retBlock (w W : World) (g : Nat) (T : TypeId) (x y : Value) (h : W.heap[g]? = some (.cells #[x, y] T (0, 0))) : W.cell? ⟨g, 0, none⟩ = some x ∧ W.cell? ⟨g, 1, none⟩ = some y ∧ W.frozen? ⟨g, 0, none⟩ = false ∧ W.frozen? ⟨g, 1, none⟩ = false :=
  ⟨by rw [cell_of_row _ _ _ _ _ _ h]; rfl, by rw [cell_of_row _ _ _ _ _ _ h]; rfl, frozen_of_row _ _ _ _ _ h, frozen_of_row _ _ _ _ _ h⟩

set_option maxHeartbeats 2000000 in
theorem RNew_c (v : Value) (fs : List Ft) (lo hi : Nat) (w : World) (h : FeatsAt w lo hi v fs) (hh : hi ≤ w.heap.size) (hw : wfFs fs) (hlm : fs.length ≤ 4611686018427387904) :
    Calls Tryz.prog 14 #[v] w (RNewRes w fs) := by
  by_cases hl : 20000 < fs.length
  · have hE : newE fs = 4 := if_pos hl
    obtain ⟨a, cap, vs, rfl, -, -, -⟩ := h
    have HE := Lib.hid hE
    have hl2 : 20000 < (fs.length : Int) := by omega
    clear hE hl
    obtain ⟨n, hn⟩ : ∃ n, fs.length = n := ⟨_, rfl⟩
    rw [hn] at hl2 hlm ⊢
    clear hn
    go_enter Tryz.func14, Tryz.ntmps14
    go_wp2
    (try simp only [Exit.inBlock, Exit.then]); refine bodyPost_ret (by simp [results, Tryz.results14, go_sem, *]; try rfl) rfl ?_
    exact ⟨by go_grown, .inl ⟨by rw [HE.out]; decide, by rw [HE.out]⟩⟩
  · have hl2 : (fs.length : Int) ≤ 20000 := by omega
    have hl3 : fs.length ≤ 20000 := by omega
    have hE : newE fs = newGo [] fs := if_neg hl
    have HE := Lib.hid hE
    have HCP := Lib.hid fun W (hb : Below w.heap.size w W) => CopyFeatures_c v fs lo hi W (h.move (Same.of_below (hb.mono hh))) (Nat.le_trans hh hb.size) hl3 hw
    obtain ⟨a, cap, vs, rfl, -, hr, ho⟩ := h
    have HR := Lib.hid hr
    have HO := Lib.hid ho
    have HW := Lib.hid hw
    obtain ⟨n, hn⟩ : ∃ n, fs.length = n := ⟨_, rfl⟩
    have HN := Lib.hid hn
    rw [hn] at hl2 hl3 hlm HCP ⊢
    clear hr ho hw hn hE hl
    go_enter Tryz.func14, Tryz.ntmps14
    go_wp2
    go_loopw [4] (fun i wr => ∃ (k : Nat), k ≤ n ∧ i = .int .i64 (k : Int) ∧ newGo ((fs.take k).map (·.1)) (fs.drop k) = newE fs ∧ wr.heap[w.heap.size]? = some (.cells #[.slice none 0 0, .slice none 0 0] 52 (0, 0)) ∧ Below w.heap.size w wr)
      (fun i wr => n - (intOf i).toNat)
    case atStart => exact ⟨0, Nat.zero_le _, rfl, by rw [HE.out]; simp, heap_alloc_new _ _, by go_grown⟩
    case round =>
      obtain ⟨k, hkn, rfl, hgo, hblk, hB⟩ := hrel
      have HG := Lib.hid hgo
      obtain ⟨r0, r1, rf0, rf1⟩ := retBlock w wr _ _ _ _ hblk
      have HBK := Lib.hid hblk
      clear hgo hblk
      by_cases hk : k < n
      · have hkf : k < fs.length := by rw [HN.out]; exact hk
        obtain ⟨b, off, rfl, hb1, hb2, hc⟩ := HR.out (by omega)
        have HCW : Hid (∀ (W : World), Below w.heap.size w W → ∀ i, i < fs.length → ∀ j u, (ftV (ftAt fs i).1 (vs i))[j]? = some u → W.cell? ⟨b, off + i * 6 + j, none⟩ = some u) := fun W hB i hi j u hu => (hB.cell (p := ⟨b, off + i * 6 + j, none⟩) (show b < w.heap.size by omega)).trans (hc i hi j u hu)
        have hdr := drop_at hkf
        have hgo := HG.out
        rw [hdr, newGo_cons] at hgo
        have HG2 := Lib.hid hgo
        have hft : fs.take (k + 1) = fs.take k ++ [ftAt fs k] := by rw [take_snoc hkf, ftAt_get hkf]
        have HFT := Lib.hid hft
        have hop := HO.out k hkf
        have hwo := (HW.out _ (ftAt_mem hkf)).2.2
        obtain ⟨oa, oc, hvo, -, hro⟩ := hop
        have HRO := Lib.hid hro
        have HVO := Lib.hid hvo
        obtain ⟨m, hm⟩ : ∃ m, (ftAt fs k).2.length = m := ⟨_, rfl⟩
        have HM := Lib.hid hm
        rw [hm] at hwo
        have hk0 : (0 : Int) ≤ k := by omega
        have hk1 : (k : Int) < n := by omega
        have c5 : wr.cell? ⟨b, off + k * 6 + 5, none⟩ = some (.slice oa m oc) := HCW.out wr hB k hkf 5 _ (by rw [HVO.out, HM.out]; rfl)
        have HB := Lib.hid hB
        clear hc hdr hgo hft hro hvo hm hB
        by_cases ho : (ftAt fs k).2 = []
        · have h6 : newE fs = 6 := by
            have := HG2.out
            rw [newStep_none ho, if_neg (by decide)] at this
            exact this.symm
          have H6 := Lib.hid h6
          have hm0 : m = 0 := by rw [← HM.out, ho]; rfl
          subst hm0
          clear h6 ho
          go_wp2
          (try simp only [Exit.inBlock, Exit.then]); refine bodyPost_ret (by simp [results, Tryz.results14, go_sem, *]; try rfl) rfl ?_
          refine ⟨HB.out.trans (by go_grown), .inl ⟨by rw [H6.out]; decide, by rw [H6.out]⟩⟩
        · have hol : ¬ ((m : Int) = 0) := by
            intro x
            apply ho
            apply List.eq_nil_of_length_eq_zero
            rw [HM.out]
            omega
          have HNE := Lib.hid ho
          have HOB : Hid (((m : Int) == 0) = false) := Lib.hid (beq_false_of_ne hol)
          clear ho
          go_wp2
          clear r0 r1 rf0 rf1 c5 hol
          go_loopw [5] (fun i wq => ∃ (j : Nat), j ≤ m ∧ i = .int .i64 (j : Int) ∧ (∀ j', j' < j → badB (optAt (ftAt fs k).2 j') = false) ∧ wq.heap[w.heap.size]? = some (.cells #[.slice none 0 0, .slice none 0 0] 52 (0, 0)) ∧ Below w.heap.size w wq)
            (fun i wq => m - (intOf i).toNat)
          case atStart => exact ⟨0, Nat.zero_le _, rfl, fun j hj => absurd hj (Nat.not_lt_zero _), HBK.out, HB.out⟩
          case round =>
            obtain ⟨j, hjm, rfl, hno, hblk, hBq⟩ := hrel
            have HNO := Lib.hid hno
            obtain ⟨r0, r1, rf0, rf1⟩ := retBlock w wr _ _ _ _ hblk
            have HBK2 := Lib.hid hblk
            have c5 : wr.cell? ⟨b, off + k * 6 + 5, none⟩ = some (.slice oa m oc) := HCW.out wr hBq k hkf 5 _ (by rw [HVO.out, HM.out]; rfl)
            have HBQ := Lib.hid hBq
            clear hno hblk
            by_cases hj : j < m
            · obtain ⟨b2, off2, rfl, h1, h2, hc2⟩ := HRO.out (by rw [HM.out]; omega)
              have d1 : wr.cell? ⟨b2, off2 + j * 2 + 1, none⟩ = some (.int .i64 (optAt (ftAt fs k).2 j).2) := (hBq.cell (p := ⟨b2, _, none⟩) (show b2 < _ by omega)).trans (hc2 j (by rw [HM.out]; exact hj) 1 _ rfl)
              have hj0 : (0 : Int) ≤ j := by omega
              have hj1 : (j : Int) < m := by omega
              have HY : Hid (badB (optAt (ftAt fs k).2 j) = (decide ((optAt (ftAt fs k).2 j).2 < 0) || decide (10000 < (optAt (ftAt fs k).2 j).2))) := rfl
              have HAY : Hid (badB (optAt (ftAt fs k).2 j) = true → (ftAt fs k).2.any badB = true) := fun x => any_yes (by rw [HM.out]; exact hj) x
              generalize (optAt (ftAt fs k).2 j).2 = y at *
              clear hc2 hBq
              have h8 : Hid (badB (optAt (ftAt fs k).2 j) = true → newE fs = 8) := fun x => by
                have := HG2.out
                rw [newStep_bad HNE.out (HAY.out x), if_neg (by decide)] at this
                exact this.symm
              by_cases y0 : y < 0
              · have H8 := Lib.hid (h8.out (by rw [HY.out, decide_eq_true y0, Bool.true_or]))
                clear h8
                go_wp2
                (try simp only [Exit.inBlock, Exit.then]); refine bodyPost_ret (by simp [results, Tryz.results14, go_sem, *]; try rfl) rfl ?_
                exact ⟨HBQ.out.trans (by go_grown), .inl ⟨by rw [H8.out]; decide, by rw [H8.out]⟩⟩
              · by_cases y1 : 10000 < y
                · have H8 := Lib.hid (h8.out (by rw [HY.out, decide_eq_true y1, Bool.or_true]))
                  have y0' : 0 ≤ y := by omega
                  clear h8
                  go_wp2
                  (try simp only [Exit.inBlock, Exit.then]); refine bodyPost_ret (by simp [results, Tryz.results14, go_sem, *]; try rfl) rfl ?_
                  exact ⟨HBQ.out.trans (by go_grown), .inl ⟨by rw [H8.out]; decide, by rw [H8.out]⟩⟩
                · have HF := Lib.hid (by rw [HY.out, decide_eq_false y0, decide_eq_false y1]; rfl : badB (optAt (ftAt fs k).2 j) = false)
                  have y0' : 0 ≤ y := by omega
                  have y1' : y ≤ 10000 := by omega
                  clear h8
                  go_wp2
                  go_roundw
                  case rel => exact ⟨j + 1, by omega, by go_num, fun j' hj' => by
                    rcases Nat.lt_succ_iff_lt_or_eq.1 hj' with h | rfl
                    · exact HNO.out j' h
                    · exact HF.out, HBK2.out, HBQ.out⟩
                  case measure => simp [intOf]; omega
            · have hj' : j = m := by omega
              subst hj'
              have HBAD := Lib.hid (any_no (p := badB) (os := (ftAt fs k).2) (fun j' h => HNO.out j' (by rw [← HM.out]; exact h)))
              clear hBq
              go_wp2
              clear r0 r1 rf0 rf1 c5
              go_loopw [6] (fun i wq => ∃ (l : Nat), l ≤ k ∧ i = .int .i64 (l : Int) ∧ (∀ j', j' < l → (ftAt fs j').1 ≠ (ftAt fs k).1) ∧ wq.heap[w.heap.size]? = some (.cells #[.slice none 0 0, .slice none 0 0] 52 (0, 0)) ∧ Below w.heap.size w wq)
                (fun i wq => k - (intOf i).toNat)
              case atStart => exact ⟨0, Nat.zero_le _, rfl, fun j hj => absurd hj (Nat.not_lt_zero _), HBK2.out, HBQ.out⟩
              case round =>
                obtain ⟨l, hlk, rfl, hne, hblk, hBx⟩ := hrel
                have HNE2 := Lib.hid hne
                obtain ⟨r0, r1, rf0, rf1⟩ := retBlock w wr _ _ _ _ hblk
                have HBK3 := Lib.hid hblk
                have HBX := Lib.hid hBx
                clear hne hblk
                by_cases hl' : l < k
                · have hlf : l < fs.length := by omega
                  have hcl := HCW.out wr hBx l hlf
                  have hck := HCW.out wr hBx k hkf
                  have HTW : Hid ((ftAt fs l).1 = (ftAt fs k).1 → newE fs = 1) := fun x => by
                    have := HG2.out
                    rw [newStep_twice HNE.out HBAD.out (by rw [← x]; exact List.mem_map_of_mem (by rw [← ftAt_take hl']; exact ftAt_mem (by rw [List.length_take]; omega))), if_neg (by decide)] at this
                    exact this.symm
                  have HEQ : Hid (∀ x, (ftAt fs l).1 = x → ∀ y, (ftAt fs k).1 = y → ((ftAt fs l).1 = (ftAt fs k).1 ↔ x = y)) := fun x hx y hy => by rw [hx, hy]
                  have hk0' : (0 : Int) ≤ k := by omega
                  have hl0 : (0 : Int) ≤ l := by omega
                  have hl1 : (l : Int) < n := by omega
                  have hl2' : (l : Int) < k := by omega
                  obtain ⟨⟨p1, p2, p3, p4, p5⟩, hpl⟩ : ∃ x, (ftAt fs l).1 = x := ⟨_, rfl⟩
                  obtain ⟨⟨q1, q2, q3, q4, q5⟩, hpk⟩ : ∃ x, (ftAt fs k).1 = x := ⟨_, rfl⟩
                  have HIF := Lib.hid (HEQ.out _ hpl _ hpk)
                  rw [hpl] at hcl
                  rw [hpk] at hck
                  have d0 := hcl 0 _ rfl
                  have d1 := hcl 1 _ rfl
                  have d2 := hcl 2 _ rfl
                  have d3 := hcl 3 _ rfl
                  have d4 := hcl 4 _ rfl
                  have e0 := hck 0 _ rfl
                  have e1 := hck 1 _ rfl
                  have e2 := hck 2 _ rfl
                  have e3 := hck 3 _ rfl
                  have e4 := hck 4 _ rfl
                  simp only [Nat.add_zero] at d0 e0
                  clear hcl hck hpl hpk HEQ hBx
                  by_cases hpq : (p1, p2, p3, p4, p5) = (q1, q2, q3, q4, q5)
                  · have he : ∀ w, (Op.equalIn 10000 44 (.agg #[.int .i64 p1, .int .i64 p2, .int .i64 p3, .int .i64 p4, .int .i64 p5]) (.agg #[.int .i64 q1, .int .i64 q2, .int .i64 q3, .int .i64 q4, .int .i64 q5])).run Tryz.prog w = .ok true w := fun w => by rw [ein_pl, decide_eq_true hpq]
                    have H1 := Lib.hid (HTW.out (HIF.out.2 hpq))
                    clear hpq
                    go_wp2_with fail
                    go_quiet (fail)
                    go_wp2
                    (try simp only [Exit.inBlock, Exit.then]); refine bodyPost_ret (by simp [results, Tryz.results14, go_sem, *]; try rfl) rfl ?_
                    exact ⟨HBX.out.trans (by go_grown; exact ⟨rfl, rfl, rfl, Nat.le_refl _, fun _ _ => rfl⟩), .inl ⟨by rw [H1.out]; decide, by rw [H1.out]⟩⟩
                  · have he : ∀ w, (Op.equalIn 10000 44 (.agg #[.int .i64 p1, .int .i64 p2, .int .i64 p3, .int .i64 p4, .int .i64 p5]) (.agg #[.int .i64 q1, .int .i64 q2, .int .i64 q3, .int .i64 q4, .int .i64 q5])).run Tryz.prog w = .ok false w := fun w => by rw [ein_pl, decide_eq_false hpq]
                    have H1 := Lib.hid (fun x => hpq (HIF.out.1 x))
                    clear hpq
                    go_wp2_with fail
                    go_quiet (fail)
                    go_wp2
                    go_roundw
                    case rel =>
                      have hall : ∀ j', j' < l + 1 → (ftAt fs j').1 ≠ (ftAt fs k).1 := fun j' hj' => by
                        rcases Nat.lt_succ_iff_lt_or_eq.1 hj' with h | rfl
                        · exact HNE2.out j' h
                        · exact H1.out
                      (repeat apply Exists.intro)
                      refine ⟨⟨l + 1, ?a1, ?a2, hall, HBK3.out, below_drewN HBX.out _⟩, ?a3⟩
                      case a3 => first | (rw [HOB.out]; done) | (rw [HOB.out]; rfl)
                      case a1 => omega
                      case a2 => go_num
                    case measure => simp [intOf]; omega
                · have hlk' : l = k := by omega
                  subst hlk'
                  have hnot : (ftAt fs l).1 ∉ (fs.take l).map (·.1) := fun x => by
                    obtain ⟨f, hf, hfe⟩ := List.mem_map.1 x
                    obtain ⟨i, hi, rfl⟩ := List.getElem_of_mem hf
                    rw [List.length_take] at hi
                    refine HNE2.out i (by omega) ?_
                    rw [← hfe, List.getElem_take, ftAt_get (by omega)]
                  have hnext : newGo ((fs.take (l + 1)).map (·.1)) (fs.drop (l + 1)) = newE fs := by
                    have := HG2.out
                    rw [newStep_ok HNE.out HBAD.out hnot, if_pos rfl] at this
                    rw [HFT.out, List.map_append]
                    exact this
                  have HX := Lib.hid hnext
                  clear hnot hnext hBx
                  go_wp2
                  go_roundw
                  case rel => exact ⟨l + 1, by omega, by go_num, HX.out, HBK3.out, HBX.out⟩
                  case measure => simp [intOf]; omega
      · have hk' : k = n := by omega
        subst hk'
        have h0 : newE fs = 0 := by
          have := HG.out
          rw [← HN.out, List.drop_length] at this
          exact this.symm
        have HB := Lib.hid hB
        have H0 := Lib.hid h0
        clear hB h0
        go_wp2_with fail
        refine (HCP.out _ HB.out).mono ?_
        rintro e w3 ⟨vf, rfl, hof, hb3⟩
        obtain ⟨fa, fc, rfl⟩ : ∃ fa fc, vf = .slice fa k fc := by
          obtain ⟨vs, h1, h2, h3⟩ := hof
          rw [HN.out] at h2
          exact own_shape h2
        have hblk3 := (hb3.block _ (Array.getElem?_eq_some_iff.1 HBK.out).1).trans HBK.out
        obtain ⟨u0, u1, uf0, uf1⟩ := retBlock w w3 _ _ _ _ hblk3
        have HB3 := Lib.hid (below_step HB.out hb3)
        have HOF := Lib.hid hof
        have hsz := HB.out.size
        have hwl : w.heap.size < wr.heap.size := (Array.getElem?_eq_some_iff.1 HBK.out).1
        clear r0 r1 rf0 rf1 hblk3 hb3 hof
        go_wp2
        (try simp only [Exit.inBlock, Exit.then]); refine bodyPost_ret (by simp [results, Tryz.results14, go_sem, *]; try rfl) rfl ?_
        refine ⟨HB3.out.trans (by go_grown), .inr ⟨H0.out, _, rfl, ?_⟩⟩
        obtain ⟨vs', g1, g2, g3⟩ := HOF.out
        refine ⟨vs', g1, own_low (own_off (own_off g2 ?_ _ _) ?_ _ _) hsz, fun i hi => own_low (own_off (own_off (g3 i hi) ?_ _ _) ?_ _ _) hsz⟩ <;> omega
end Go.Proofs.YtpcefaccoifejaaGreatDoor
