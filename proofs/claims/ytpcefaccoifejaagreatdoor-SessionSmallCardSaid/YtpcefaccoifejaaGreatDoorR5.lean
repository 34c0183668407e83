/-
  The contract of custosref13.Weights. Conditions: what is read lies in memory as SW says; the features are good; lists are not too long.
-/
import Derived.Test.YtpcefaccoifejaaGreatDoorR2
import Derived.Test.YtpcefaccoifejaaGreatDoorKC
namespace Go.Proofs.YtpcefaccoifejaaGreatDoor
open Go.RowKit Go.Maps
set_option linter.unusedSimpArgs false
set_option linter.unusedVariables false
set_option maxRecDepth 100000

/-- block b is a row of seventeen numbers -/
def VAt (w : World) (b : Nat) (f : Nat → Int) : Prop := w.heap[b]? = some (.cells (rowW f) 63 (0, 0))
theorem infoV : (Tryz.prog.info? 63).map (·.size) = some 17 := by kernel_rfl
section
variable {w w' : World} {b : Nat} {f : Nat → Int}
theorem VAt.lt (h : VAt w b f) : b < w.heap.size := (Array.getElem?_eq_some_iff.1 h).1
theorem VAt.at (h : VAt w b f) {i : Nat} (hi : i < 17) : w.cell? ⟨b, i, none⟩ = some (.int .i64 (f i)) := by rw [cell_of_row w b _ _ _ _ h, rowW_at f hi]
theorem VAt.free (h : VAt w b f) (i : Nat) : w.frozen? ⟨b, i, none⟩ = false := frozen_of_row w b i _ _ h
theorem VAt.set (h : VAt w b f) {i : Nat} (hi : i < 17) (v : Int) : VAt (w.setCell ⟨b, i, none⟩ (.int .i64 v)) b (updN f i v) := by
  have := heap_setCell_same w b i _ _ (.int .i64 v) h
  rwa [rowW_set f v hi] at this
theorem VAt.below (h : VAt w b f) (hb : Below w.heap.size w w') : VAt w' b f := (hb.block b h.lt).trans h
theorem VAt.ext {g : Nat → Int} (h : VAt w b f) (e : ∀ i, i < 17 → f i = g i) : VAt w b g := by rw [VAt, ← rowW_ext e]; exact h
end
theorem wSum_snoc {fs : List Ft} {k : Nat} (h : k < fs.length) (acts : List Ac) (n : Nat) : wSum acts n (fs.take (k + 1)) = wSum acts n (fs.take k) + wOne acts n (ftAt fs k) := by
  unfold wSum
  rw [take_snoc h, ← ftAt_get h, List.map_append, List.sum_append]
  simp
theorem wSum_bd (acts : List Ac) (n : Nat) : ∀ (l : List Ft), -(l.length : Int) ≤ wSum acts n l ∧ wSum acts n l ≤ l.length
  | [] => by simp [wSum]
  | x :: r => by
    have ih := wSum_bd acts n r
    have h1 := wOne_bd acts n x
    have e : wSum acts n (x :: r) = wOne acts n x + wSum acts n r := by simp [wSum]
    rw [e, List.length_cons]
    omega
/-- the row while number n is reckoned -/
def midW (fs : List Ft) (acts : List Ac) (n k : Nat) : Nat → Int := fun j => if j < n then weight fs acts j else if j = n then 4 + wSum acts n (fs.take k) else 0
def outW (fs : List Ft) (acts : List Ac) (n : Nat) : Nat → Int := fun j => if j < n then weight fs acts j else 0
set_option maxHeartbeats 4000000 in
theorem rWeights_c (vf va : Value) (fs : List Ft) (acts : List Ac) (lo hi alo ahi : Nat) (w : World) (h : FeatsAt w lo hi vf fs) (hh : hi ≤ w.heap.size) (hA : ActsAt w alo ahi va acts) (hah : ahi ≤ w.heap.size) (hg : Good fs) (hw : wfFs fs) (hn : acts.length ≤ 100000) :
    Calls Tryz.prog 19 #[.agg #[vf, va]] w fun r w' => r = .returned (.agg (rowW (weight fs acts))) ∧ Below w.heap.size w w' := by
  have HA := Lib.hid hA
  obtain ⟨aa, ac, rfl, -, -⟩ := hA
  obtain ⟨fa, fc, vs, rfl, -, hr, ho⟩ := h
  have HR := Lib.hid hr
  have HO := Lib.hid ho
  have HW := Lib.hid hw
  have HG := Lib.hid hg
  obtain ⟨na, hna⟩ : ∃ na, acts.length = na := ⟨_, rfl⟩
  have HNA := Lib.hid hna
  rw [hna] at HA hn ⊢
  obtain ⟨n, hnf⟩ : ∃ n, fs.length = n := ⟨_, rfl⟩
  have HN := Lib.hid hnf
  have hl : n ≤ 20000 := by rw [← hnf]; exact hg.len
  rw [hnf]
  clear hr ho hw hg hna hnf
  go_enter Tryz.func19, Tryz.ntmps19
  go_wp2
  go_loopw [4] (fun i wr => ∃ (m : Nat), m ≤ 17 ∧ i = .int .i64 (m : Int) ∧ wr.heap[w.heap.size]? = some (.cells #[.slice fa n fc, .slice aa na ac] 52 (0, 0)) ∧ VAt wr (w.heap.size + 1) (fun _ => 0) ∧ VAt wr (w.heap.size + 2) (outW fs acts m) ∧ Below w.heap.size w wr)
    (fun i wr => 17 - (intOf i).toNat)
  case atStart =>
    refine ⟨0, Nat.zero_le _, rfl, ?_, ?_, ?_, by go_grown⟩
    · rw [Below.heap_alloc _ _ _ (by simp; omega)]; exact heap_alloc2_old _ _ _
    · rw [VAt, Below.heap_alloc _ _ _ (by simp)]; exact (heap_alloc2_new _ _ _).trans (congrArg (fun c => some (Obj.cells c _ (0, 0))) (by kernel_rfl))
    · have := heap_alloc_new ((w.alloc (.cells #[.slice fa n fc, .slice aa na ac] 52)).alloc (.cells #[.int .i64 0, .int .i64 0, .int .i64 0, .int .i64 0, .int .i64 0, .int .i64 0, .int .i64 0, .int .i64 0, .int .i64 0, .int .i64 0, .int .i64 0, .int .i64 0, .int .i64 0, .int .i64 0, .int .i64 0, .int .i64 0, .int .i64 0] 63)) (.cells #[.int .i64 0, .int .i64 0, .int .i64 0, .int .i64 0, .int .i64 0, .int .i64 0, .int .i64 0, .int .i64 0, .int .i64 0, .int .i64 0, .int .i64 0, .int .i64 0, .int .i64 0, .int .i64 0, .int .i64 0, .int .i64 0, .int .i64 0] 63)
      simp only [World.size_alloc] at this
      exact this.trans (congrArg (fun c => some (Obj.cells c _ (0, 0))) (by kernel_rfl))
  case round =>
    obtain ⟨m, hm, rfl, hS, hV1, hV2, hB⟩ := hrel
    by_cases h : m < 17
    · have c0 := hV2.at h
      have f0 := hV2.free m
      have i0 : (0 : Int) ≤ m := by omega
      have i1 : (m : Int) < 17 := by omega
      have y0 : w.heap.size + 2 < wr.heap.size := hV2.lt
      have hW4 : VAt (wr.setCell ⟨w.heap.size + 2, m, none⟩ (.int .i64 4)) (w.heap.size + 2) (midW fs acts m 0) := (hV2.set h 4).ext fun i hi => by
        unfold updN midW outW
        try dsimp only
        have : wSum acts m (fs.take 0) = 0 := rfl
        rw [this]
        (repeat' split) <;> omega
      have ho : ∀ b, b ≠ w.heap.size + 2 → (wr.setCell ⟨w.heap.size + 2, m, none⟩ (.int .i64 4)).heap[b]? = wr.heap[b]? := fun b hb => Below.heap_setCell wr ⟨w.heap.size + 2, m, none⟩ _ b hb
      have H0 := Lib.hid (And.intro ((ho _ (by omega)).trans hS) (And.intro (show VAt (wr.setCell ⟨w.heap.size + 2, m, none⟩ (.int .i64 4)) (w.heap.size + 1) (fun _ => 0) from (ho _ (by omega)).trans hV1) (And.intro hW4 (hB.setCell (p := ⟨w.heap.size + 2, m, none⟩) (by dsimp only; omega) (.int .i64 4)))))
      clear hS hV1 hV2 hB hW4 ho
      generalize outW fs acts m m = z at c0
      go_wp2
      go_loopw [5] (fun i wr => ∃ (k : Nat), k ≤ n ∧ i = .int .i64 (k : Int) ∧ (m = 0 → k = 0) ∧ wr.heap[w.heap.size]? = some (.cells #[.slice fa n fc, .slice aa na ac] 52 (0, 0)) ∧ VAt wr (w.heap.size + 1) (fun _ => 0) ∧ VAt wr (w.heap.size + 2) (midW fs acts m k) ∧ Below w.heap.size w wr)
        (fun i wr => n - (intOf i).toNat)
      case atStart => exact ⟨0, Nat.zero_le _, rfl, fun _ => rfl, H0.out.1, H0.out.2.1, H0.out.2.2.1, H0.out.2.2.2⟩
      case round =>
        obtain ⟨k, hkn, rfl, hm0, hS, hV1, hV2, hB⟩ := hrel
        have HB := Lib.hid hB
        have HSB := Lib.hid hS
        have HV1 := Lib.hid hV1
        have HV2 := Lib.hid hV2
        clear H0 c0 f0
        have s0 : wr.cell? ⟨w.heap.size, 0, none⟩ = some (.slice fa n fc) := by rw [cell_of_row _ _ _ _ _ _ hS]; rfl
        by_cases hk : k < n ∧ 0 < m
        · obtain ⟨hk, hmp⟩ := hk
          have hkf : k < fs.length := by rw [HN.out]; exact hk
          obtain ⟨bf, off, rfl, hb1, hb2, hc⟩ := HR.out (by rw [HN.out]; omega)
          have hcw : ∀ j u, (ftV (ftAt fs k).1 (vs k))[j]? = some u → wr.cell? ⟨bf, off + k * 6 + j, none⟩ = some u := fun j u hu => (hB.cell (p := ⟨bf, off + k * 6 + j, none⟩) (show bf < w.heap.size by omega)).trans (hc k hkf j u hu)
          have hop := (HO.out k hkf).move (Same.of_below (hB.mono hh))
          have hwo := (HW.out _ (ftAt_mem hkf)).2.2
          have hne := HG.out.some _ (ftAt_mem hkf)
          have HSN := Lib.hid (wSum_snoc hkf acts m)
          have HBD : Hid (-20000 ≤ wSum acts m (fs.take k) ∧ wSum acts m (fs.take k) ≤ 20000) := by
            have := wSum_bd acts m (fs.take k)
            rw [List.length_take] at this
            show _ ∧ _
            omega
          unfold wOne at HSN
          generalize ftAt fs k = f at *
          obtain ⟨⟨q1, q2, q3, q4, q5⟩, os⟩ := f
          have HPR := Lib.hid fun W (hb : Below wr.heap.size wr W) => rPresent_c (some ⟨bf, off, none⟩) n fc (.slice aa na ac) acts alo ahi q1 q2 q3 q4 q5 (vs k) os lo hi W (hop.move (Same.of_below (hb.mono (Nat.le_trans hh hB.size)))) (Nat.le_trans hh (Nat.le_trans hB.size hb.size)) hwo hne ((HA.out.move (Same.of_below (hB.mono hah))).move (Same.of_below (hb.mono (Nat.le_trans hah hB.size)))) (Nat.le_trans hah (Nat.le_trans hB.size hb.size)) (by rw [HNA.out]; exact hn)
          have HBE := Lib.hid fun W (hb : Below wr.heap.size wr W) => rBest_c q1 q2 q3 q4 q5 (vs k) os lo hi W (hop.move (Same.of_below (hb.mono (Nat.le_trans hh hB.size)))) (Nat.le_trans hh (Nat.le_trans hB.size hb.size)) hwo hne
          obtain ⟨oo, oc2, hvo, -, -⟩ := hop
          rw [hvo] at hcw HPR HBE
          have d0 := hcw 0 _ rfl
          have d1 := hcw 1 _ rfl
          have d2 := hcw 2 _ rfl
          have d3 := hcw 3 _ rfl
          have d4 := hcw 4 _ rfl
          have d5 := hcw 5 _ rfl
          simp only [Nat.add_zero] at d0
          have s1 : wr.cell? ⟨w.heap.size, 1, none⟩ = some (.slice aa na ac) := by rw [cell_of_row _ _ _ _ _ _ hS]; rfl
          have y1 : w.heap.size < wr.heap.size := (Array.getElem?_eq_some_iff.1 hS).1
          have y2 : bf < wr.heap.size := by omega
          have y3 : w.heap.size + 2 < wr.heap.size := hV2.lt
          have hk0 : (0 : Int) ≤ k := by omega
          have hk1 : (k : Int) < n := by omega
          have hk2 : (k : Int) ≤ 20000 := by omega
          have hmp2 : (0 : Int) < m := by omega
          simp only at HSN
          have HMID := Lib.hid (show ∀ v, v = 4 + wSum acts m (fs.take (k + 1)) → ∀ i, i < 17 → updN (midW fs acts m k) m v i = midW fs acts m (k + 1) i from fun v hv i hi => by
            unfold updN midW
            subst hv
            (repeat' split) <;> first | rfl | omega)
          have HSAME := Lib.hid (show wSum acts m (fs.take (k + 1)) = wSum acts m (fs.take k) → ∀ i, i < 17 → midW fs acts m k i = midW fs acts m (k + 1) i from fun hv i hi => by
            unfold midW
            rw [hv])
          obtain ⟨X, hX⟩ : ∃ X, pres acts ((q1, q2, q3, q4, q5), os) = X := ⟨_, rfl⟩
          obtain ⟨Y, hY⟩ : ∃ Y, best os = Y := ⟨_, rfl⟩
          rw [hX] at HPR HSN
          rw [hY] at HBE HSN
          clear hc hcw hwo hne hvo hB hS hV1 hV2 hX hY
          have HSC : Hid (∀ w', Bw wr w' → (w'.cell? ⟨w.heap.size, 0, none⟩ = some (.slice (some ⟨bf, off, none⟩) n fc) ∧ w'.cell? ⟨w.heap.size, 1, none⟩ = some (.slice aa na ac) ∧ w'.cell? ⟨bf, off + k * 6, none⟩ = some (.int .i64 q1) ∧ w'.cell? ⟨bf, off + k * 6 + 1, none⟩ = some (.int .i64 q2) ∧ w'.cell? ⟨bf, off + k * 6 + 2, none⟩ = some (.int .i64 q3) ∧ w'.cell? ⟨bf, off + k * 6 + 3, none⟩ = some (.int .i64 q4) ∧ w'.cell? ⟨bf, off + k * 6 + 4, none⟩ = some (.int .i64 q5) ∧ w'.cell? ⟨bf, off + k * 6 + 5, none⟩ = some (.slice oo os.length oc2) ∧ Bw wr w')) := fun w' hb =>
            ⟨(hb.cell (p := ⟨w.heap.size, 0, none⟩) y1).trans s0, (hb.cell (p := ⟨w.heap.size, 1, none⟩) y1).trans s1, (hb.cell (p := ⟨bf, _, none⟩) y2).trans d0, (hb.cell (p := ⟨bf, _, none⟩) y2).trans d1, (hb.cell (p := ⟨bf, _, none⟩) y2).trans d2, (hb.cell (p := ⟨bf, _, none⟩) y2).trans d3, (hb.cell (p := ⟨bf, _, none⟩) y2).trans d4, (hb.cell (p := ⟨bf, _, none⟩) y2).trans d5, hb⟩
          cases ht : touched acts (q1, q2, q3, q4, q5) with
          | false =>
            rw [ht] at HPR HSN
            have HW0 : Hid (wSum acts m (fs.take (k + 1)) = wSum acts m (fs.take k)) := HSN.out.trans (by rw [if_neg (fun x => Bool.false_ne_true x.1), Int.add_zero])
            clear ht
            go_wp2_with fail
            go_region_held3 (fun w' => w'.cell? ⟨w.heap.size, 0, none⟩ = some (.slice (some ⟨bf, off, none⟩) n fc) ∧ w'.cell? ⟨w.heap.size, 1, none⟩ = some (.slice aa na ac) ∧ w'.cell? ⟨bf, off + k * 6, none⟩ = some (.int .i64 q1) ∧ w'.cell? ⟨bf, off + k * 6 + 1, none⟩ = some (.int .i64 q2) ∧ w'.cell? ⟨bf, off + k * 6 + 2, none⟩ = some (.int .i64 q3) ∧ w'.cell? ⟨bf, off + k * 6 + 3, none⟩ = some (.int .i64 q4) ∧ w'.cell? ⟨bf, off + k * 6 + 4, none⟩ = some (.int .i64 q5) ∧ w'.cell? ⟨bf, off + k * 6 + 5, none⟩ = some (.slice oo os.length oc2) ∧ Bw wr w')
              ((refine HSC.out _ ?_; with_reducible (first | exact Bw.drew _ | assumption)))
              ((go_at_call 48; refine (HPR.out _ (Bw.drew _)).mono ?_; rintro rr w3 ⟨rfl, hb3⟩; have hBw3 : Bw wr w3 := below_step (Bw.drew _) hb3; clear hb3))
            have HBK := Lib.hid (by assumption : Bw wr w3)
            obtain ⟨t0, t1, u0, u1, u2, u3, u4, u5, -⟩ := HSC.out w3 HBK.out
            clear s0 s1 d0 d1 d2 d3 d4 d5
            go_wp2
            go_roundw
            case rel => exact ⟨k + 1, by omega, by go_num, fun e => by omega, (HBK.out.block _ y1).trans HSB.out, HV1.out.below HBK.out, (HV2.out.below HBK.out).ext (HSAME.out HW0.out), HB.out.trans (HBK.out.mono HB.out.size)⟩
            case measure => simp [intOf]; omega
          | true =>
            rw [ht] at HPR HSN
            clear ht
            by_cases hq : q4 = (m : Int)
            · have HPS : Hid (wSum acts m (fs.take (k + 1)) = wSum acts m (fs.take k) + (if X = Y then 1 else -1)) := HSN.out.trans (by rw [if_pos ⟨rfl, hq⟩])
              subst hq
              go_wp2_with fail
              go_region_held3 (fun w' => w'.cell? ⟨w.heap.size, 0, none⟩ = some (.slice (some ⟨bf, off, none⟩) n fc) ∧ w'.cell? ⟨w.heap.size, 1, none⟩ = some (.slice aa na ac) ∧ w'.cell? ⟨bf, off + k * 6, none⟩ = some (.int .i64 q1) ∧ w'.cell? ⟨bf, off + k * 6 + 1, none⟩ = some (.int .i64 q2) ∧ w'.cell? ⟨bf, off + k * 6 + 2, none⟩ = some (.int .i64 q3) ∧ w'.cell? ⟨bf, off + k * 6 + 3, none⟩ = some (.int .i64 (m : Int)) ∧ w'.cell? ⟨bf, off + k * 6 + 4, none⟩ = some (.int .i64 q5) ∧ w'.cell? ⟨bf, off + k * 6 + 5, none⟩ = some (.slice oo os.length oc2) ∧ Bw wr w')
                ((refine HSC.out _ ?_; with_reducible (first | exact Bw.drew _ | assumption)))
                ((go_at_call 48; refine (HPR.out _ (Bw.drew _)).mono ?_; rintro rr w3 ⟨rfl, hb3⟩; have hBw3 : Bw wr w3 := below_step (Bw.drew _) hb3; clear hb3))
              have HBK := Lib.hid (by assumption : Bw wr w3)
              obtain ⟨t0, t1, u0, u1, u2, u3, u4, u5, -⟩ := HSC.out w3 HBK.out
              clear s0 s1 d0 d1 d2 d3 d4 d5
              go_wp2_with fail
              refine (HBE.out _ HBK.out).mono ?_
              rintro rr w4 ⟨rfl, hb4⟩
              have hB4 : Below wr.heap.size wr w4 := HBK.out.trans (hb4.mono HBK.out.size)
              have hv4 := HV2.out.below hB4
              have r0 := hv4.at h
              have rf := hv4.free m
              have hmid : midW fs acts m k m = 4 + wSum acts m (fs.take k) := by unfold midW; rw [if_neg (Nat.lt_irrefl _), if_pos rfl]
              rw [hmid] at r0
              obtain ⟨bd1, bd2⟩ := HBD.out
              have H4 := Lib.hid (And.intro hB4 hv4)
              have hz4 : w.heap.size + 2 < w4.heap.size := hv4.lt
              have e0 : w4.cell? ⟨w.heap.size, 0, none⟩ = some (.slice (some ⟨bf, off, none⟩) n fc) := (hb4.cell (p := ⟨w.heap.size, 0, none⟩) (by have := HBK.out.size; dsimp only; omega)).trans t0
              have HOTH := Lib.hid (show ∀ (v : Value) b, b ≠ w.heap.size + 2 → (w4.setCell ⟨w.heap.size + 2, m, none⟩ v).heap[b]? = w4.heap[b]? from fun v b hb => Below.heap_setCell w4 ⟨w.heap.size + 2, m, none⟩ _ b hb)
              clear hb4 hB4 hv4 hmid t0 t1 u0 u1 u2 u3 u4 u5
              by_cases hxy : X = Y
              · have HV : Hid (4 + wSum acts m (fs.take k) + 1 = 4 + wSum acts m (fs.take (k + 1))) := by
                  rw [Hid, HPS.out, if_pos hxy]; omega
                subst hxy
                go_wp2
                go_roundw
                case rel => exact ⟨k + 1, by omega, by go_num, fun e => by omega, (HOTH.out _ _ (by omega)).trans ((H4.out.1.block _ y1).trans HSB.out), (HOTH.out _ _ (by omega)).trans (HV1.out.below H4.out.1), (H4.out.2.set h _).ext (HMID.out _ HV.out), (HB.out.trans (H4.out.1.mono HB.out.size)).setCell (p := ⟨w.heap.size + 2, m, none⟩) (by dsimp only; omega) _⟩
                case measure => simp [intOf]; omega
              · have HV : Hid (4 + wSum acts m (fs.take k) - 1 = 4 + wSum acts m (fs.take (k + 1))) := by
                  rw [Hid, HPS.out, if_neg hxy]; omega
                go_wp2
                go_roundw
                case rel => exact ⟨k + 1, by omega, by go_num, fun e => by omega, (HOTH.out _ _ (by omega)).trans ((H4.out.1.block _ y1).trans HSB.out), (HOTH.out _ _ (by omega)).trans (HV1.out.below H4.out.1), (H4.out.2.set h _).ext (HMID.out _ HV.out), (HB.out.trans (H4.out.1.mono HB.out.size)).setCell (p := ⟨w.heap.size + 2, m, none⟩) (by dsimp only; omega) _⟩
                case measure => simp [intOf]; omega
            · have HW0 : Hid (wSum acts m (fs.take (k + 1)) = wSum acts m (fs.take k)) := HSN.out.trans (by rw [if_neg (fun x => hq x.2), Int.add_zero])
              have hqb : (q4 != (m : Int)) = true := by simpa using hq
              go_wp2_with fail
              go_region_held3 (fun w' => w'.cell? ⟨w.heap.size, 0, none⟩ = some (.slice (some ⟨bf, off, none⟩) n fc) ∧ w'.cell? ⟨w.heap.size, 1, none⟩ = some (.slice aa na ac) ∧ w'.cell? ⟨bf, off + k * 6, none⟩ = some (.int .i64 q1) ∧ w'.cell? ⟨bf, off + k * 6 + 1, none⟩ = some (.int .i64 q2) ∧ w'.cell? ⟨bf, off + k * 6 + 2, none⟩ = some (.int .i64 q3) ∧ w'.cell? ⟨bf, off + k * 6 + 3, none⟩ = some (.int .i64 q4) ∧ w'.cell? ⟨bf, off + k * 6 + 4, none⟩ = some (.int .i64 q5) ∧ w'.cell? ⟨bf, off + k * 6 + 5, none⟩ = some (.slice oo os.length oc2) ∧ Bw wr w')
                ((refine HSC.out _ ?_; with_reducible (first | exact Bw.drew _ | assumption)))
                ((go_at_call 48; refine (HPR.out _ (Bw.drew _)).mono ?_; rintro rr w3 ⟨rfl, hb3⟩; have hBw3 : Bw wr w3 := below_step (Bw.drew _) hb3; clear hb3))
              have HBK := Lib.hid (by assumption : Bw wr w3)
              obtain ⟨t0, t1, u0, u1, u2, u3, u4, u5, -⟩ := HSC.out w3 HBK.out
              clear s0 s1 d0 d1 d2 d3 d4 d5
              go_wp2
              go_roundw
              case rel => exact ⟨k + 1, by omega, by go_num, fun e => by omega, (HBK.out.block _ y1).trans HSB.out, HV1.out.below HBK.out, (HV2.out.below HBK.out).ext (HSAME.out HW0.out), HB.out.trans (HBK.out.mono HB.out.size)⟩
              case measure => simp [intOf]; omega
        · have HFIN : Hid (4 + (if m = 0 then 0 else wSum acts m fs) = midW fs acts m k m) := by
            show _ = _
            unfold midW
            rw [if_neg (Nat.lt_irrefl _), if_pos rfl]
            by_cases e : m = 0
            · rw [if_pos e, hm0 e]; rfl
            · rw [if_neg e, show fs.take k = fs from by rw [show k = n by omega, ← HN.out, List.take_length]]
          have c0 := hV2.at h
          have f0 := hV2.free m
          rw [← HFIN.out] at c0
          have HB2 := Lib.hid (show weight fs acts m = clamp (4 + (if m = 0 then 0 else wSum acts m fs)) from by
            unfold weight
            by_cases e : m = 0
            · rw [if_pos e, if_pos e]; rfl
            · rw [if_neg e, if_neg e])
          have hbd : -20000 ≤ (if m = 0 then 0 else wSum acts m fs) ∧ (if m = 0 then 0 else wSum acts m fs) ≤ 20000 := by
            have := wSum_bd acts m fs
            rw [HN.out] at this
            split <;> omega
          generalize (if m = 0 then 0 else wSum acts m fs) = z at *
          obtain ⟨bd1, bd2⟩ := hbd
          have y3 : w.heap.size + 2 < wr.heap.size := hV2.lt
          have HWM : Hid (weight fs acts m = min (max (4 + z) 1) 16) := HB2.out
          have HOTH := Lib.hid (show ∀ (v : Value) b, b ≠ w.heap.size + 2 → (wr.setCell ⟨w.heap.size + 2, m, none⟩ v).heap[b]? = wr.heap[b]? from fun v b hb => Below.heap_setCell wr ⟨w.heap.size + 2, m, none⟩ _ b hb)
          clear hS hV1 hV2 hB
          by_cases hkk : k < n
          · have hm00 : m = 0 := by omega
            subst hm00
            go_wp2
            go_roundw
            case rel =>
              refine ⟨0 + 1, by omega, by go_num, (HOTH.out _ _ (by omega)).trans HSB.out, (HOTH.out _ _ (by omega)).trans HV1.out, (HV2.out.set h _).ext fun i hi => ?_, HB.out.setCell (p := ⟨w.heap.size + 2, 0, none⟩) (by dsimp only; omega) _⟩
              unfold updN midW outW
              try dsimp only
              by_cases e : i = 0
              · subst e
                rw [if_pos rfl, if_pos (Nat.lt_succ_self _), HWM.out]
                omega
              · rw [if_neg e]
                by_cases e2 : i < 0
                · rw [if_pos e2, if_pos (by omega)]
                · rw [if_neg e2, if_neg e, if_neg (by omega)]
            case measure => simp [intOf]
          · obtain rfl : k = n := by omega
            go_wp2
            go_roundw
            case rel =>
              refine ⟨m + 1, by omega, by go_num, (HOTH.out _ _ (by omega)).trans HSB.out, (HOTH.out _ _ (by omega)).trans HV1.out, (HV2.out.set h _).ext fun i hi => ?_, HB.out.setCell (p := ⟨w.heap.size + 2, m, none⟩) (by dsimp only; omega) _⟩
              unfold updN midW outW
              try dsimp only
              by_cases e : i = m
              · subst e
                rw [if_pos rfl, if_pos (Nat.lt_succ_self _), HWM.out]
                omega
              · rw [if_neg e]
                by_cases e2 : i < m
                · rw [if_pos e2, if_pos (by omega)]
                · rw [if_neg e2, if_neg e, if_neg (by omega)]
            case measure => simp [intOf]; omega
    · obtain rfl : m = 17 := by omega
      have hr1 : VAt wr (w.heap.size + 2) (weight fs acts) := hV2.ext fun i hi => by unfold outW; exact if_pos hi
      have X1 := Lib.hid (show wr.heap[w.heap.size + 2]? = some (.cells (rowW (weight fs acts)) 63 (0, 0)) from hr1)
      have hsz : (rowW (weight fs acts)).size = 17 := rowW_size _
      have hone := rowW_one (weight fs acts)
      have hi : (Tryz.prog.info? 63).map (·.size) = some (rowW (weight fs acts)).size := by rw [hsz]; exact infoV
      have hold : (rowW (fun _ => 0)).size = (rowW (weight fs acts)).size := by rw [rowW_size, rowW_size]
      have X3 := Lib.hid hi
      have X4 := Lib.hid hold
      have X5 := Lib.hid hone
      have X2 := Lib.hid (show wr.heap[w.heap.size + 1]? = some (.cells (rowW (fun _ => 0)) 63 (0, 0)) from hV1)
      have HB := Lib.hid hB
      clear hr1 hi hold hone hsz hV1 hV2 hB hS
      generalize hrow : rowW (weight fs acts) = row2 at *
      have HROW2 := Lib.hid hrow
      clear hrow
      generalize rowW (fun _ => 0) = old at *
      go_wp2_with (first | (refine wpList_load_row rfl 63 (.tmp 3) rfl (w.heap.size + 2) rfl 63 row2 (0, 0) _ X1.out Tryz.underlying63 rfl X3.out ?_) | (refine wpList_store_row rfl 63 (.tmp 2) (.tmp 73) rfl (w.heap.size + 1) row2 rfl rfl 63 _ X2.out X3.out X4.out X5.out ?_))
      exact bodyPost_ret (results_cell_row Tryz.results19 _ _ (w.heap.size + 1) 63 row2 (0, 0) _ rfl (setRow_heap _ _ _ _ _ _ X2.out) Tryz.underlying63 rfl X3.out) rfl ⟨by rw [HROW2.out], below_setRowW HB.out (Nat.le_succ _)⟩
end Go.Proofs.YtpcefaccoifejaaGreatDoor
