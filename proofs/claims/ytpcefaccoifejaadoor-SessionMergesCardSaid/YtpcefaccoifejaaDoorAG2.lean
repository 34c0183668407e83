/-
  The contract of custoslaw13.agree: a session and one of the reference that hold the same show the same, and what is changed in what was returned changes neither. Conditions: both lie in memory as the words say, with the same features and acts, which are good and were done.
-/
import Derived.Test.YtpcefaccoifejaaDoorAG1
import Derived.Test.YtpcefaccoifejaaDoorK16
namespace Go.Proofs.YtpcefaccoifejaaDoor
open Go.RowKit
set_option linter.unusedSimpArgs false
set_option linter.unusedVariables false
set_option maxRecDepth 100000

theorem own_offT {w w' : World} {lo k n gl : Nat} {T A : TypeId} {v : Value} {ks : List Value} (h : w.ownsRow lo T k v n ks) (hk : ∀ b, b ≠ gl → w'.heap[b]? = w.heap[b]?) (hT : T ≠ A)
    (ht : ∀ b c Y z, w.heap[b]? = some (.cells c Y z) → Y ≠ A → b ≠ gl) : w'.ownsRow lo T k v n ks := by
  refine ⟨h.1, h.2.imp id fun ⟨g, cap, cur, e1, e2, e3, r⟩ => ⟨g, cap, cur, e1, e2, (hk g (ht g _ _ _ e3 hT)).trans e3, r⟩⟩
theorem OwnFeats.off {w w' : World} {lo gl : Nat} {v : Value} {fs : List Ft} (h : OwnFeats w lo v fs) (hk : ∀ b, b ≠ gl → w'.heap[b]? = w.heap[b]?)
    (ht : ∀ b c Y z, w.heap[b]? = some (.cells c Y z) → Y ≠ 63 → b ≠ gl) : OwnFeats w' lo v fs := by
  obtain ⟨vs, h1, h2, h3⟩ := h
  exact ⟨vs, h1, own_offT h2 hk (by decide) ht, fun i hi => own_offT (h3 i hi) hk (by decide) ht⟩
/-- a log of its own, or nothing -/
theorem log_block {w : World} {lo n : Nat} {v : Value} {ks : List Value} (h : w.ownsRow lo 63 7 v n ks) : ∃ gl, (0 < n → ∃ cap, v = .slice (some ⟨gl, 0, none⟩) n cap ∧ lo ≤ gl ∧ Soft w gl 63 (n * 7)) ∧
    ∀ b c Y z, w.heap[b]? = some (.cells c Y z) → Y ≠ 63 → b ≠ gl := by
  rcases Nat.eq_zero_or_pos n with rfl | hn
  · exact ⟨w.heap.size, fun h => absurd h (Nat.lt_irrefl 0), fun b c Y z hb _ => Nat.ne_of_lt (Array.getElem?_eq_some_iff.1 hb).1⟩
  · obtain ⟨g, cap, rfl, hl, hs⟩ := soft_own h hn
    refine ⟨g, fun _ => ⟨cap, rfl, hl, hs⟩, fun b c Y z hb hY e => ?_⟩
    subst e
    obtain ⟨c', hc, _⟩ := hs
    rw [hc] at hb
    simp only [Option.some.injEq, Obj.cells.injEq] at hb
    exact hY hb.2.1.symm

set_option maxHeartbeats 8000000 in
theorem agree_c (lo p m flo fhi : Nat) (va vf : Value) (fs : List Ft) (acts : List Ac) (tf ta : Value) (tlo thi alo ahi : Nat) (q1 q2 q3 q4 q5 : Int) (w : World)
    (h : SesAt w lo p m flo fhi va vf fs acts) (hT : FeatsAt w tlo thi tf fs) (hth : thi ≤ w.heap.size) (hA : ActsAt w alo ahi ta acts) (hah : ahi ≤ w.heap.size)
    (hg : Good fs) (ha : Acted fs acts) (hw : wfFs fs) (hwa : wfAs acts) (hwp : wfP (q1, q2, q3, q4, q5)) :
    Calls Tryd.prog 13 #[.pointer (some ⟨p, 0, none⟩), .agg #[tf, ta], .agg #[.int .i64 q1, .int .i64 q2, .int .i64 q3, .int .i64 q4, .int .i64 q5]] w fun e w' => e = .returned (.bool true) ∧ Below w.heap.size w w' := by
  have hn : acts.length ≤ 100000 := by have := ha.len; omega
  have HLOG := Lib.hid fun W (hb : Below w.heap.size w W) => Log_c lo p m flo fhi va vf fs acts W (h.below hb) hn
  have HFEA := Lib.hid fun W (hb : Below w.heap.size w W) => Features_c lo p m flo fhi va vf fs acts W (h.below hb) hg ha hw hwa
  have HWEI := Lib.hid fun W (hb : Below w.heap.size w W) => Weights_c lo p m flo fhi va vf fs acts W (h.below hb) hg ha hw hwa
  have HVAL := Lib.hid fun W (hb : Below w.heap.size w W) a b c d e (hp : wfP (a, b, c, d, e)) => Value_c lo p m flo fhi va vf fs acts a b c d e W (h.below hb) hg hw hp hn
  have HTM := fun W (hb : Below w.heap.size w W) => hT.move (Same.of_below (hb.mono hth))
  have HAM := fun W (hb : Below w.heap.size w W) => hA.move (Same.of_below (hb.mono hah))
  have HRF := Lib.hid fun W (hb : Below w.heap.size w W) => rFeatures_c tf ta fs acts tlo thi alo ahi W (HTM W hb) (Nat.le_trans hth hb.size) (HAM W hb) (Nat.le_trans hah hb.size) hg hw hn
  have HRW := Lib.hid fun W (hb : Below w.heap.size w W) => rWeights_c tf ta fs acts tlo thi alo ahi W (HTM W hb) (Nat.le_trans hth hb.size) (HAM W hb) (Nat.le_trans hah hb.size) hg hw hn
  have HRV := Lib.hid fun W (hb : Below w.heap.size w W) a b c d e => rValue_c tf ta fs acts tlo thi alo ahi a b c d e W (HTM W hb) (Nat.le_trans hth hb.size) (HAM W hb) (Nat.le_trans hah hb.size) hg hw hn
  have HSA : Hid (∀ W (lv : Value) (L : Nat), Below w.heap.size w W → W.ownsRow L 63 7 lv acts.length (acts.flatMap acV) → Calls Tryd.prog 12 #[lv, ta] W fun e w' => e = .returned (.bool true) ∧ Below W.heap.size W w') := fun W lv L hb hl => by
    have := sameActs_c lv ta acts acts L W.heap.size alo ahi W (acts_of_own hl) (HAM W hb) (Nat.le_refl _) (Nat.le_trans hah hb.size) (by omega)
    rwa [decide_eq_true rfl] at this
  have hwG : wfFs (feats fs acts) := feats_wf hw hwa
  have hlG : (feats fs acts).length = fs.length := feats_len fs acts
  have hsG := feats_some (acts := acts) hg
  have hfl := hg.len
  have HSF : Hid (∀ W (fv gv : Value) (L L2 : Nat), OwnFeats W L fv (feats fs acts) → OwnFeats W L2 gv (feats fs acts) → Calls Tryd.prog 17 #[fv, gv] W fun e w' => e = .returned (.bool true) ∧ Below W.heap.size W w') := fun W fv gv L L2 h1 h2 => by
    have := SameFeatures_c fv gv (feats fs acts) (feats fs acts) L W.heap.size L2 W.heap.size W h1.feats h2.feats (Nat.le_refl _) (Nat.le_refl _) (by omega) hwG
    rwa [decide_eq_true rfl] at this
  have HWP := Lib.hid hwp
  have HWF : Hid (∀ i, i < fs.length → wfP (ftAt fs i).1) := fun i hi => (hw _ (ftAt_mem hi)).1
  obtain ⟨aa, ac, rfl, -, -⟩ := hA
  obtain ⟨fa, fc, vs, rfl, -, hr, -⟩ := hT
  have HR := Lib.hid hr
  have HTH := Lib.hid hth
  obtain ⟨G, hG⟩ : ∃ G, feats fs acts = G := ⟨_, rfl⟩
  rw [hG] at HFEA HRF HSF hlG hsG
  have HSG := Lib.hid hsG
  obtain ⟨n, hnf⟩ : ∃ n, fs.length = n := ⟨_, rfl⟩
  have HN := Lib.hid hnf
  rw [hnf] at hlG hfl HR HWF HRF HRV HRW ⊢
  have HLG := Lib.hid hlG
  obtain ⟨na, hna⟩ : ∃ na, acts.length = na := ⟨_, rfl⟩
  have HNA := Lib.hid hna
  rw [hna] at HLOG HSA HRF HRW HRV hn ⊢
  obtain ⟨KS, hKS⟩ : ∃ KS, acts.flatMap acV = KS := ⟨_, rfl⟩
  rw [hKS] at HLOG HSA
  have hrw1 : (rowW (weight fs acts)).size = 17 := rowW_size _
  have hone := rowW_one (weight fs acts)
  have hi : (Tryd.prog.info? 89).map (·.size) = some (rowW (weight fs acts)).size := by rw [hrw1]; exact infoW
  have hold : 17 = (rowW (weight fs acts)).size := hrw1.symm
  have he : ∀ w, (Op.equalIn 10000 88 (.agg (rowW (weight fs acts))) (.agg (rowW (weight fs acts)))).run Tryd.prog w = .ok true w := fun w => ein_row _ w
  obtain ⟨row, hrow⟩ : ∃ r, rowW (weight fs acts) = r := ⟨_, rfl⟩
  rw [hrow] at HWEI HRW hone hi hold he
  have X3 := Lib.hid hi
  have X4 := Lib.hid hold
  have X5 := Lib.hid hone
  have X6 := Lib.hid he
  clear hone hi hold he hrow hrw1 hKS hna hnf hG hlG hsG hwG hr hth hah hwp HTM HAM h hg ha hw hwa
  go_enter Tryd.func13, Tryd.ntmps13
  go_wp2_with fail
  refine calls_named fun W1 hW1 => ?_
  have hB1 : Below w.heap.size w W1 := by rw [hW1]; go_grown
  have hS1 : W1.heap[w.heap.size]? = some (.cells #[.slice fa n fc, .slice aa na ac] 31 (0, 0)) := by rw [hW1]; exact heap_alloc2_old _ _ _
  have hP1 : W1.heap[w.heap.size + 1]? = some (.cells #[.int .i64 q1, .int .i64 q2, .int .i64 q3, .int .i64 q4, .int .i64 q5] 26 (0, 0)) := by rw [hW1]; exact heap_alloc2_new _ _ _
  have HB1 := Lib.hid hB1
  have HS1 := Lib.hid hS1
  have HP1 := Lib.hid hP1
  have y0 : w.heap.size < W1.heap.size := (Array.getElem?_eq_some_iff.1 hS1).1
  have y1 : w.heap.size + 1 < W1.heap.size := (Array.getElem?_eq_some_iff.1 hP1).1
  clear hW1 hB1 hS1 hP1
  refine (HLOG.out _ HB1.out).mono ?_
  rintro rr w2 ⟨⟨lv, rfl, hlog⟩, hb2⟩
  obtain ⟨la, lc, rfl⟩ := own_shape hlog
  have HL2 := Lib.hid hlog
  have HB2 : Hid (Below W1.heap.size W1 w2) := hb2
  clear hlog hb2
  go_wp2_with fail
  refine (HFEA.out _ (below_step HB1.out HB2.out)).mono ?_
  rintro rr w3 ⟨⟨fv, rfl, hof⟩, hb3⟩
  obtain ⟨oa, oc, rfl⟩ : ∃ oa oc, fv = .slice oa n oc := by
    obtain ⟨vs', h1, h2, h3⟩ := hof
    rw [HLG.out] at h2
    exact own_shape h2
  have HF3 : Hid (OwnFeats w3 W1.heap.size (.slice oa n oc) G) := hof.low HB2.out.size
  have HL3 : Hid (w3.ownsRow W1.heap.size 63 7 (.slice la na lc) na KS) := own_below HL2.out hb3
  have HB3 : Hid (Below W1.heap.size W1 w3) := below_step HB2.out hb3
  clear hof hb3 HL2 HB2
  go_wp2_with fail
  refine (HWEI.out _ (below_step HB1.out HB3.out)).mono ?_
  rintro rr w4 ⟨rfl, hb4⟩
  have HF4 : Hid (OwnFeats w4 W1.heap.size (.slice oa n oc) G) := HF3.out.below hb4
  have HL4 : Hid (w4.ownsRow W1.heap.size 63 7 (.slice la na lc) na KS) := own_below HL3.out hb4
  have HB4 : Hid (Below W1.heap.size W1 w4) := below_step HB3.out hb4
  clear hb4 HF3 HL3 HB3
  go_wp2_with (refine wpList_store_row rfl 89 (.tmp 11) (.tmp 39) rfl w4.heap.size row rfl rfl 89 _ (heap_alloc_new w4 _) X3.out X4.out X5.out ?_)
  refine wp_named fun W5 hW5 => ?_
  have hB45 : Below w4.heap.size w4 W5 := by rw [hW5]; exact below_setRowW ((Below.refl _ _).alloc (Nat.le_refl _) _) (Nat.le_refl _)
  have hR5 : W5.heap[w4.heap.size]? = some (.cells row 89 (0, 0)) := by rw [hW5, setRow_heap _ _ _ _ _ _ (heap_alloc_new _ _)]
  have HF5 : Hid (OwnFeats W5 W1.heap.size (.slice oa n oc) G) := HF4.out.below hB45
  have HL5 : Hid (W5.ownsRow W1.heap.size 63 7 (.slice la na lc) na KS) := own_below HL4.out hB45
  have HB5 : Hid (Below W1.heap.size W1 W5) := below_step HB4.out hB45
  have HR5 := Lib.hid hR5
  have y5 : w4.heap.size < W5.heap.size := (Array.getElem?_eq_some_iff.1 hR5).1
  have y15 := HB5.out.size
  clear hW5 hB45 hR5 HF4 HL4 HB4
  have s0 : W5.cell? ⟨w.heap.size, 0, none⟩ = some (.slice fa n fc) := by rw [cell_of_row _ _ _ _ _ _ ((HB5.out.block _ y0).trans HS1.out)]; rfl
  have s1 : W5.cell? ⟨w.heap.size, 1, none⟩ = some (.slice aa na ac) := by rw [cell_of_row _ _ _ _ _ _ ((HB5.out.block _ y0).trans HS1.out)]; rfl
  have HSC : Hid (∀ w', Bw W5 w' → (w'.cell? ⟨w.heap.size, 0, none⟩ = some (.slice fa n fc) ∧ w'.cell? ⟨w.heap.size, 1, none⟩ = some (.slice aa na ac) ∧ Bw W5 w')) := fun w' hb => ⟨(hb.cell (p := ⟨w.heap.size, 0, none⟩) (Nat.lt_of_lt_of_le y0 y15)).trans s0, (hb.cell (p := ⟨w.heap.size, 1, none⟩) (Nat.lt_of_lt_of_le y0 y15)).trans s1, hb⟩
  have HB05 : Hid (Below w.heap.size w W5) := below_step HB1.out HB5.out
  have he := X6.out
  clear s0 s1
  refine wp_region_noPanic ?_
  refine wp_region_held_drew (S := fun w' => w'.cell? ⟨w.heap.size, 0, none⟩ = some (.slice fa n fc) ∧ w'.cell? ⟨w.heap.size, 1, none⟩ = some (.slice aa na ac) ∧ Bw W5 w') (by kernel_rfl) (HSC.out _ (Bw.drew _)) (fun hHeld => ?_)
  refine wpAnyH_take (i := 0) (v := ?v1) (arr_at rfl) (by kernel_rfl) (by kernel_rfl) (by kernel_rfl) (fun _ _ _ h => h) (Or.inl ⟨by rfl, ?hy1⟩) (by assumption) ?_
  case hy1 => (intro w hSw; (try dsimp only at hSw); go_simp <;> with_reducible rfl)
  try simp only [Act.put, List.setIfInBounds_toArray, List.set_cons_zero, List.set_cons_succ]
  refine wpAnyH_take (i := 1) (v := ?v2) (arr_at rfl) (by kernel_rfl) (by kernel_rfl) (by kernel_rfl) (fun _ _ _ h => h) (Or.inl ⟨by rfl, ?hy2⟩) (by assumption) ?_
  case hy2 => (intro w hSw; (try dsimp only at hSw); go_simp <;> with_reducible rfl)
  try simp only [Act.put, List.setIfInBounds_toArray, List.set_cons_zero, List.set_cons_succ]
  refine wpAnyH_take (i := 2) (v := ?v3) (arr_at rfl) (by kernel_rfl) (by kernel_rfl) (by kernel_rfl) (fun _ _ _ h => h) (Or.inl ⟨by rfl, ?hy3⟩) (by assumption) ?_
  case hy3 => (intro w hSw; (try dsimp only at hSw); go_simp <;> with_reducible rfl)
  try simp only [Act.put, List.setIfInBounds_toArray, List.set_cons_zero, List.set_cons_succ]
  refine wpAnyH_take (i := 3) (v := ?v4) (arr_at rfl) (by kernel_rfl) (by kernel_rfl) (by kernel_rfl) (fun _ _ _ h => h) (Or.inl ⟨by rfl, ?hy4⟩) (by assumption) ?_
  case hy4 => (intro w hSw; (try dsimp only at hSw); go_simp <;> with_reducible rfl)
  try simp only [Act.put, List.setIfInBounds_toArray, List.set_cons_zero, List.set_cons_succ]
  refine wpAnyH_take (i := 4) (v := ?v5) (arr_at rfl) (by kernel_rfl) (by kernel_rfl) (by kernel_rfl) (fun _ _ _ h => h) (Or.inl ⟨by rfl, ?hy5⟩) (by assumption) ?_
  case hy5 => (intro w hSw; (try dsimp only at hSw); go_simp <;> with_reducible rfl)
  try simp only [Act.put, List.setIfInBounds_toArray, List.set_cons_zero, List.set_cons_succ]
  refine wpAnyH_take (i := 5) (v := ?v6) (arr_at rfl) (by kernel_rfl) (by kernel_rfl) (by kernel_rfl) (fun _ _ _ h => h) (Or.inl ⟨by rfl, ?hy6⟩) (by assumption) ?_
  case hy6 => (intro w hSw; (try dsimp only at hSw); go_simp <;> with_reducible rfl)
  try simp only [Act.put, List.setIfInBounds_toArray, List.set_cons_zero, List.set_cons_succ]
  refine wpAnyH_take (i := 6) (v := ?v7) (arr_at rfl) (by kernel_rfl) (by kernel_rfl) (by kernel_rfl) (fun _ _ _ h => h) (Or.inl ⟨by rfl, ?hy7⟩) (by assumption) ?_
  case hy7 => (intro w hSw; (try dsimp only at hSw); go_simp <;> with_reducible rfl)
  try simp only [Act.put, List.setIfInBounds_toArray, List.set_cons_zero, List.set_cons_succ]
  refine wpAnyH_take (i := 7) (v := ?v8) (arr_at rfl) (by kernel_rfl) (by kernel_rfl) (by kernel_rfl) (fun _ _ _ h => h) (Or.inl ⟨by rfl, ?hy8⟩) (by assumption) ?_
  case hy8 => (intro w hSw; (try dsimp only at hSw); go_simp <;> with_reducible rfl)
  try simp only [Act.put, List.setIfInBounds_toArray, List.set_cons_zero, List.set_cons_succ]
  refine wpAnyH_take (i := 8) (v := ?v9) (arr_at rfl) (by kernel_rfl) (by kernel_rfl) (by kernel_rfl) (fun _ _ _ h => h) (Or.inl ⟨by rfl, ?hy9⟩) (by assumption) ?_
  case hy9 => (intro w hSw; (try dsimp only at hSw); go_simp <;> with_reducible rfl)
  try simp only [Act.put, List.setIfInBounds_toArray, List.set_cons_zero, List.set_cons_succ]
  refine wpAnyH_take (i := 9) (v := ?v10) (arr_at rfl) (by kernel_rfl) (by kernel_rfl) (by kernel_rfl) (fun _ _ _ h => h) (Or.inl ⟨by rfl, ?hy10⟩) (by assumption) ?_
  case hy10 => (intro w hSw; (try dsimp only at hSw); go_simp <;> with_reducible rfl)
  try simp only [Act.put, List.setIfInBounds_toArray, List.set_cons_zero, List.set_cons_succ]
  refine wpAnyH_take (i := 10) (v := ?v11) (arr_at rfl) (by kernel_rfl) (by kernel_rfl) (by kernel_rfl) (fun _ _ _ h => h) (Or.inl ⟨by rfl, ?hy11⟩) (by assumption) ?_
  case hy11 => (intro w hSw; (try dsimp only at hSw); go_simp <;> with_reducible rfl)
  try simp only [Act.put, List.setIfInBounds_toArray, List.set_cons_zero, List.set_cons_succ]
  refine wpAnyH_take (i := 11) (v := ?v12) (arr_at rfl) (by kernel_rfl) (by kernel_rfl) (by kernel_rfl) (fun _ _ _ h => h) (Or.inl ⟨by rfl, ?hy12⟩) (by assumption) ?_
  case hy12 => (intro w hSw; (try dsimp only at hSw); go_simp <;> with_reducible rfl)
  try simp only [Act.put, List.setIfInBounds_toArray, List.set_cons_zero, List.set_cons_succ]
  refine wpAnyH_take (i := 12) (v := ?v13) (arr_at rfl) (by kernel_rfl) (by kernel_rfl) (by kernel_rfl) (fun _ _ _ h => h) (Or.inl ⟨by rfl, ?hy13⟩) (by assumption) ?_
  case hy13 => (intro w hSw; (try dsimp only at hSw); go_simp <;> with_reducible rfl)
  try simp only [Act.put, List.setIfInBounds_toArray, List.set_cons_zero, List.set_cons_succ]
  refine wpAnyH_take (i := 13) (v := ?v14) (arr_at rfl) (by kernel_rfl) (by kernel_rfl) (by kernel_rfl) (fun _ _ _ h => h) (Or.inl ⟨by rfl, ?hy14⟩) (by assumption) ?_
  case hy14 => (intro w hSw; (try dsimp only at hSw); go_simp <;> with_reducible rfl)
  try simp only [Act.put, List.setIfInBounds_toArray, List.set_cons_zero, List.set_cons_succ]
  refine wpAnyH_ready (rs := [14]) (by kernel_rfl) (by simp) ?_
  refine AllReadyH.cons (arr_at rfl) (fun K hK => ?_) ?_
  · go_simp; refine (HSA.out _ _ _ (below_step HB05.out (Bw.drew _)) (own_below HL5.out (Bw.drew _))).mono ?_; rintro rr w6 ⟨rfl, hb6⟩; have HB6 : Hid (Bw W5 w6) := below_step (Bw.drew _) hb6; clear hb6
    refine hK.out _ _ ?_ (fun hHeld => ?_)
    · exact HSC.out _ HB6.out
    clear hK K
    try simp only [Act.put, List.setIfInBounds_toArray, List.set_cons_zero, List.set_cons_succ]
    refine wpAnyH_take (i := 15) (v := ?v15) (arr_at rfl) (by kernel_rfl) (by kernel_rfl) (by kernel_rfl) (fun _ _ _ h => h) (Or.inl ⟨by rfl, ?hy15⟩) (by assumption) ?_
    case hy15 => (intro w hSw; (try dsimp only at hSw); go_simp <;> with_reducible rfl)
    try simp only [Act.put, List.setIfInBounds_toArray, List.set_cons_zero, List.set_cons_succ]
    refine wpAnyH_take (i := 16) (v := ?v16) (arr_at rfl) (by kernel_rfl) (by kernel_rfl) (by kernel_rfl) (fun _ _ _ h => h) (Or.inl ⟨by rfl, ?hy16⟩) (by assumption) ?_
    case hy16 => (intro w hSw; (try dsimp only at hSw); go_simp <;> with_reducible rfl)
    try simp only [Act.put, List.setIfInBounds_toArray, List.set_cons_zero, List.set_cons_succ]
    refine wpAnyH_take (i := 17) (v := ?v17) (arr_at rfl) (by kernel_rfl) (by kernel_rfl) (by kernel_rfl) (fun _ _ _ h => h) (Or.inl ⟨by rfl, ?hy17⟩) (by assumption) ?_
    case hy17 => (intro w hSw; (try dsimp only at hSw); go_simp <;> with_reducible rfl)
    try simp only [Act.put, List.setIfInBounds_toArray, List.set_cons_zero, List.set_cons_succ]
    refine wpAnyH_take (i := 18) (v := ?v18) (arr_at rfl) (by kernel_rfl) (by kernel_rfl) (by kernel_rfl) (fun _ _ _ h => h) (Or.inl ⟨by rfl, ?hy18⟩) (by assumption) ?_
    case hy18 => (intro w hSw; (try dsimp only at hSw); go_simp <;> with_reducible rfl)
    try simp only [Act.put, List.setIfInBounds_toArray, List.set_cons_zero, List.set_cons_succ]
    refine wpAnyH_take (i := 19) (v := ?v19) (arr_at rfl) (by kernel_rfl) (by kernel_rfl) (by kernel_rfl) (fun _ _ _ h => h) (Or.inl ⟨by rfl, ?hy19⟩) (by assumption) ?_
    case hy19 => (intro w hSw; (try dsimp only at hSw); go_simp <;> with_reducible rfl)
    try simp only [Act.put, List.setIfInBounds_toArray, List.set_cons_zero, List.set_cons_succ]
    refine wpAnyH_ready (rs := [20]) (by kernel_rfl) (by simp) ?_
    refine AllReadyH.cons (arr_at rfl) (fun K hK => ?_) ?_
    · go_simp; refine (HRF.out _ (below_step HB05.out HB6.out)).mono ?_; rintro rr w7 ⟨gv, rfl, hgv, hb7⟩; have HB7 : Hid (Bw W5 w7) := below_step HB6.out hb7; have HGV := Lib.hid hgv; clear hb7 hgv
      refine hK.out _ _ ?_ (fun hHeld => ?_)
      · exact HSC.out _ HB7.out
      clear hK K
      try simp only [Act.put, List.setIfInBounds_toArray, List.set_cons_zero, List.set_cons_succ]
      refine wpAnyH_ready (rs := [21]) (by kernel_rfl) (by simp) ?_
      refine AllReadyH.cons (arr_at rfl) (fun K hK => ?_) ?_
      · go_simp; refine (HSF.out _ _ _ _ _ (HF5.out.below HB7.out) HGV.out).mono ?_; rintro rr w8 ⟨rfl, hb8⟩; have HB8 : Hid (Bw W5 w8) := below_step HB7.out hb8; clear hb8
        refine hK.out _ _ ?_ (fun hHeld => ?_)
        · exact HSC.out _ HB8.out
        clear hK K
        try simp only [Act.put, List.setIfInBounds_toArray, List.set_cons_zero, List.set_cons_succ]
        refine wpAnyH_take (i := 22) (v := ?v20) (arr_at rfl) (by kernel_rfl) (by kernel_rfl) (by kernel_rfl) (fun _ _ _ h => h) (Or.inl ⟨by rfl, ?hy20⟩) (by assumption) ?_
        case hy20 => (intro w hSw; (try dsimp only at hSw); go_simp <;> with_reducible rfl)
        try simp only [Act.put, List.setIfInBounds_toArray, List.set_cons_zero, List.set_cons_succ]
        refine wpAnyH_take (i := 23) (v := ?v21) (arr_at rfl) (by kernel_rfl) (by kernel_rfl) (by kernel_rfl) (fun _ _ _ h => h) (Or.inl ⟨by rfl, ?hy21⟩) (by assumption) ?_
        case hy21 => (intro w hSw; (try dsimp only at hSw); go_simp <;> with_reducible rfl)
        try simp only [Act.put, List.setIfInBounds_toArray, List.set_cons_zero, List.set_cons_succ]
        refine wpAnyH_take (i := 24) (v := ?v22) (arr_at rfl) (by kernel_rfl) (by kernel_rfl) (by kernel_rfl) (fun _ _ _ h => h) (Or.inl ⟨by rfl, ?hy22⟩) (by assumption) ?_
        case hy22 => (intro w hSw; (try dsimp only at hSw); go_simp <;> with_reducible rfl)
        try simp only [Act.put, List.setIfInBounds_toArray, List.set_cons_zero, List.set_cons_succ]
        refine wpAnyH_take (i := 25) (v := (.agg row)) (arr_at rfl) (by kernel_rfl) (by kernel_rfl) (by kernel_rfl) (fun _ _ _ h => h) (Or.inl ⟨by rfl, ?hy23⟩) (by assumption) ?_
        case hy23 => (intro w hSw; exact exec_load_row 89 (.tmp 11) (by rfl) w4.heap.size (by rfl) 89 row (0, 0) _ ((hSw.2.2.block _ y5).trans HR5.out) Tryd.underlying89 rfl X3.out)
        try simp only [Act.put, List.setIfInBounds_toArray, List.set_cons_zero, List.set_cons_succ]
        refine wpAnyH_take (i := 26) (v := ?v24) (arr_at rfl) (by kernel_rfl) (by kernel_rfl) (by kernel_rfl) (fun _ _ _ h => h) (Or.inl ⟨by rfl, ?hy24⟩) (by assumption) ?_
        case hy24 => (intro w hSw; (try dsimp only at hSw); go_simp <;> with_reducible rfl)
        try simp only [Act.put, List.setIfInBounds_toArray, List.set_cons_zero, List.set_cons_succ]
        refine wpAnyH_ready (rs := [27]) (by kernel_rfl) (by simp) ?_
        refine AllReadyH.cons (arr_at rfl) (fun K hK => ?_) ?_
        · go_simp; refine (HRW.out _ (below_step HB05.out HB8.out)).mono ?_; rintro rr w9 ⟨rfl, hb9⟩; have HB9 : Hid (Bw W5 w9) := below_step HB8.out hb9; clear hb9
          refine hK.out _ _ ?_ (fun hHeld => ?_)
          · exact HSC.out _ HB9.out
          clear hK K
          try simp only [Act.put, List.setIfInBounds_toArray, List.set_cons_zero, List.set_cons_succ]
          refine wpAnyH_take (i := 28) (v := ?v25) (arr_at rfl) (by kernel_rfl) (by kernel_rfl) (by kernel_rfl) (fun _ _ _ h => h) (Or.inl ⟨by rfl, ?hy25⟩) (by assumption) ?_
          case hy25 => (intro w hSw; (try dsimp only at hSw); go_simp <;> with_reducible rfl)
          try simp only [Act.put, List.setIfInBounds_toArray, List.set_cons_zero, List.set_cons_succ]
          refine wpAnyH_take (i := 29) (v := ?v26) (arr_at rfl) (by kernel_rfl) (by kernel_rfl) (by kernel_rfl) (fun _ _ _ h => h) (Or.inl ⟨by rfl, ?hy26⟩) (by assumption) ?_
          case hy26 => (intro w hSw; (try dsimp only at hSw); go_simp <;> with_reducible rfl)
          try simp only [Act.put, List.setIfInBounds_toArray, List.set_cons_zero, List.set_cons_succ]
          refine wpAnyH_done (by kernel_rfl) ?_ _
          refine NoPanic.normal ?_
          obtain ⟨s0, s1, -⟩ := HSC.out _ HB9.out
          go_wp2
          go_loopw [13] (fun i wr => ∃ (k : Nat), k ≤ n ∧ i = .int .i64 (k : Int) ∧ Bw W5 wr) (fun i wr => n - (intOf i).toNat)
          case atStart => exact ⟨0, Nat.zero_le _, rfl, HB9.out⟩
          case round =>
            obtain ⟨k, hkn, rfl, hB⟩ := hrel
            have HB := Lib.hid hB
            have HBW : Hid (Below w.heap.size w wr) := below_step HB05.out hB
            obtain ⟨s0, s1, -⟩ := HSC.out _ hB
            have hzr := HBW.out.size
            clear hB
            by_cases hk : k < n
            · obtain ⟨bf, off, hfa, hb1, hb2, hc⟩ := HR.out (by omega)
              subst hfa
              have hbw : bf < w.heap.size := Nat.lt_of_lt_of_le hb2 HTH.out
              have hcw : ∀ j u, (ftV (ftAt fs k).1 (vs k))[j]? = some u → wr.cell? ⟨bf, off + k * 6 + j, none⟩ = some u := fun j u hu => (HBW.out.cell (p := ⟨bf, off + k * 6 + j, none⟩) hbw).trans (hc k hk j u hu)
              have hwq := HWF.out k hk
              generalize (ftAt fs k).1 = q at *
              obtain ⟨r1, r2, r3, r4, r5⟩ := q
              have d0 := hcw 0 _ rfl
              have d1 := hcw 1 _ rfl
              have d2 := hcw 2 _ rfl
              have d3 := hcw 3 _ rfl
              have d4 := hcw 4 _ rfl
              simp only [Nat.add_zero] at d0
              have y2 : bf < wr.heap.size := Nat.lt_of_lt_of_le hbw hzr
              have y3 : w.heap.size < wr.heap.size := Nat.lt_of_lt_of_le y0 (Nat.le_trans y15 HB.out.size)
              have hk0 : (0 : Int) ≤ k := by omega
              have hk1 : (k : Int) < n := by omega
              have hk2 : (k : Int) ≤ 20000 := by omega
              have hv1 := HVAL.out wr HBW.out r1 r2 r3 r4 r5 hwq
              have hv2 := fun W (hb : Below w.heap.size w W) => HRV.out W hb r1 r2 r3 r4 r5
              obtain ⟨X, hX⟩ : ∃ X, valE fs acts (r1, r2, r3, r4, r5) = X := ⟨_, rfl⟩
              rw [hX] at hv1 hv2
              have HV1 := Lib.hid hv1
              have HV2 := Lib.hid hv2
              clear hv1 hv2 hX hcw hc hwq hzr
              go_wp2_with fail
              refine HV1.out.mono ?_
              rintro rr w10 ⟨rfl, hb10⟩
              have HBR : Hid (Below w.heap.size w w10) := below_step HBW.out hb10
              have HBX : Hid (Bw W5 w10) := below_step HB.out hb10
              have e0 := (hb10.cell (p := ⟨w.heap.size, 0, none⟩) y3).trans s0
              have e1 := (hb10.cell (p := ⟨w.heap.size, 1, none⟩) y3).trans s1
              have f0 := (hb10.cell (p := ⟨bf, off + k * 6, none⟩) y2).trans d0
              have f1 := (hb10.cell (p := ⟨bf, off + k * 6 + 1, none⟩) y2).trans d1
              have f2 := (hb10.cell (p := ⟨bf, off + k * 6 + 2, none⟩) y2).trans d2
              have f3 := (hb10.cell (p := ⟨bf, off + k * 6 + 3, none⟩) y2).trans d3
              have f4 := (hb10.cell (p := ⟨bf, off + k * 6 + 4, none⟩) y2).trans d4
              have z2 : bf < w10.heap.size := Nat.lt_of_lt_of_le y2 hb10.size
              have z3 : w.heap.size < w10.heap.size := Nat.lt_of_lt_of_le y3 hb10.size
              clear hb10 d0 d1 d2 d3 d4 s0 s1 y2 y3
              have HSD : Hid (∀ w', Bw w10 w' → (w'.cell? ⟨w.heap.size, 0, none⟩ = some (.slice (some ⟨bf, off, none⟩) n fc) ∧ w'.cell? ⟨w.heap.size, 1, none⟩ = some (.slice aa na ac) ∧ w'.cell? ⟨bf, off + k * 6, none⟩ = some (.int .i64 r1) ∧ w'.cell? ⟨bf, off + k * 6 + 1, none⟩ = some (.int .i64 r2) ∧ w'.cell? ⟨bf, off + k * 6 + 2, none⟩ = some (.int .i64 r3) ∧ w'.cell? ⟨bf, off + k * 6 + 3, none⟩ = some (.int .i64 r4) ∧ w'.cell? ⟨bf, off + k * 6 + 4, none⟩ = some (.int .i64 r5) ∧ Bw w10 w')) := fun w' hb =>
                ⟨(hb.cell (p := ⟨w.heap.size, 0, none⟩) z3).trans e0, (hb.cell (p := ⟨w.heap.size, 1, none⟩) z3).trans e1, (hb.cell (p := ⟨bf, _, none⟩) z2).trans f0, (hb.cell (p := ⟨bf, _, none⟩) z2).trans f1, (hb.cell (p := ⟨bf, _, none⟩) z2).trans f2, (hb.cell (p := ⟨bf, _, none⟩) z2).trans f3, (hb.cell (p := ⟨bf, _, none⟩) z2).trans f4, hb⟩
              go_wp2_with fail
              go_region_held3 (fun w' => w'.cell? ⟨w.heap.size, 0, none⟩ = some (.slice (some ⟨bf, off, none⟩) n fc) ∧ w'.cell? ⟨w.heap.size, 1, none⟩ = some (.slice aa na ac) ∧ w'.cell? ⟨bf, off + k * 6, none⟩ = some (.int .i64 r1) ∧ w'.cell? ⟨bf, off + k * 6 + 1, none⟩ = some (.int .i64 r2) ∧ w'.cell? ⟨bf, off + k * 6 + 2, none⟩ = some (.int .i64 r3) ∧ w'.cell? ⟨bf, off + k * 6 + 3, none⟩ = some (.int .i64 r4) ∧ w'.cell? ⟨bf, off + k * 6 + 4, none⟩ = some (.int .i64 r5) ∧ Bw w10 w')
                ((refine HSD.out _ ?_; with_reducible (first | exact Bw.drew _ | assumption)))
                ((go_at_call 40; refine (HV2.out _ (below_step HBR.out (Bw.drew _))).mono ?_; rintro rr w11 ⟨rfl, hb11⟩; have hBw11 : Bw w10 w11 := below_step (Bw.drew _) hb11; clear hb11))
              have HBK := Lib.hid (by assumption : Bw w10 _)
              go_wp2
              go_roundw
              case rel => exact ⟨k + 1, by omega, by go_num, Below.trans HBX.out (HBK.out.mono HBX.out.size)⟩
              case measure => simp [intOf]; omega
            · obtain rfl : n = k := by omega
              have HWQ := HVAL.out wr HBW.out q1 q2 q3 q4 q5 HWP.out
              have HRQ := fun W (hb : Below w.heap.size w W) => HRV.out W hb q1 q2 q3 q4 q5
              obtain ⟨X, hX⟩ : ∃ X, valE fs acts (q1, q2, q3, q4, q5) = X := ⟨_, rfl⟩
              rw [hX] at HWQ HRQ
              have HV1 := Lib.hid HWQ
              have HV2 := Lib.hid HRQ
              have HX5 : Hid (Below W1.heap.size W1 wr) := below_step HB5.out HB.out
              have hpl := (HX5.out.block _ y1).trans HP1.out
              have p0 : wr.cell? ⟨w.heap.size + 1, 0, none⟩ = some (.int .i64 q1) := by rw [cell_of_row _ _ _ _ _ _ hpl]; rfl
              have p1 : wr.cell? ⟨w.heap.size + 1, 1, none⟩ = some (.int .i64 q2) := by rw [cell_of_row _ _ _ _ _ _ hpl]; rfl
              have p2 : wr.cell? ⟨w.heap.size + 1, 2, none⟩ = some (.int .i64 q3) := by rw [cell_of_row _ _ _ _ _ _ hpl]; rfl
              have p3 : wr.cell? ⟨w.heap.size + 1, 3, none⟩ = some (.int .i64 q4) := by rw [cell_of_row _ _ _ _ _ _ hpl]; rfl
              have p4 : wr.cell? ⟨w.heap.size + 1, 4, none⟩ = some (.int .i64 q5) := by rw [cell_of_row _ _ _ _ _ _ hpl]; rfl
              clear HWQ HRQ hX hpl hzr
              go_wp2_with fail
              refine HV1.out.mono ?_
              rintro rr w10 ⟨rfl, hb10⟩
              have HY : Hid (Below W1.heap.size W1 w10) := below_step HX5.out hb10
              have HZ : Hid (Bw W5 w10) := below_step HB.out hb10
              have hpl := (HY.out.block _ y1).trans HP1.out
              have hsl := (HY.out.block _ y0).trans HS1.out
              have g0 : w10.cell? ⟨w.heap.size + 1, 0, none⟩ = some (.int .i64 q1) := by rw [cell_of_row _ _ _ _ _ _ hpl]; rfl
              have g1 : w10.cell? ⟨w.heap.size + 1, 1, none⟩ = some (.int .i64 q2) := by rw [cell_of_row _ _ _ _ _ _ hpl]; rfl
              have g2 : w10.cell? ⟨w.heap.size + 1, 2, none⟩ = some (.int .i64 q3) := by rw [cell_of_row _ _ _ _ _ _ hpl]; rfl
              have g3 : w10.cell? ⟨w.heap.size + 1, 3, none⟩ = some (.int .i64 q4) := by rw [cell_of_row _ _ _ _ _ _ hpl]; rfl
              have g4 : w10.cell? ⟨w.heap.size + 1, 4, none⟩ = some (.int .i64 q5) := by rw [cell_of_row _ _ _ _ _ _ hpl]; rfl
              have e0 : w10.cell? ⟨w.heap.size, 0, none⟩ = some (.slice fa n fc) := by rw [cell_of_row _ _ _ _ _ _ hsl]; rfl
              have e1 : w10.cell? ⟨w.heap.size, 1, none⟩ = some (.slice aa na ac) := by rw [cell_of_row _ _ _ _ _ _ hsl]; rfl
              clear hb10 hpl hsl p0 p1 p2 p3 p4 s0 s1 HB HBW HX5
              go_wp2_with fail
              refine (HV2.out _ (below_step HB1.out HY.out)).mono ?_
              rintro rr w11 ⟨rfl, hb11⟩
              have HY11 : Hid (Below W1.heap.size W1 w11) := below_step HY.out hb11
              have HZ11 : Hid (Bw W5 w11) := below_step HZ.out hb11
              have HL11 := Lib.hid (own_below HL5.out HZ11.out)
              have HF11 := Lib.hid (HF5.out.below HZ11.out)
              clear hb11 HY HZ e0 e1 g0 g1 g2 g3 g4 HV1 HV2
              obtain ⟨gl, hgl1, hgl2⟩ := log_block HL11.out
              have HG1 := Lib.hid hgl1
              have HG2 := Lib.hid hgl2
              clear hgl1 hgl2
              go_wp2
              go_loopw [20] (fun i wr => ∃ (j : Nat), j ≤ na ∧ i = .int .i64 (j : Int) ∧ Below W1.heap.size W1 wr ∧ (0 < na → Soft wr gl 63 (na * 7)) ∧ ∀ b, b ≠ gl → wr.heap[b]? = w11.heap[b]?) (fun i wr => na - (intOf i).toNat)
              case atStart => exact ⟨0, Nat.zero_le _, rfl, HY11.out, fun h => by obtain ⟨cap, -, -, hs⟩ := HG1.out h; exact hs, fun _ _ => rfl⟩
              case round =>
                obtain ⟨j, hjn, rfl, hB, hS, hK⟩ := hrel
                have HB := Lib.hid hB
                have HS := Lib.hid hS
                have HK := Lib.hid hK
                clear hB hS hK
                by_cases hj : j < na
                · obtain ⟨cap, hla, hgl, -⟩ := HG1.out (by omega)
                  simp only [Value.slice.injEq, true_and] at hla
                  obtain ⟨rfl, rfl⟩ := hla
                  have hso := HS.out (by omega)
                  obtain ⟨u, hu⟩ := hso.cell (j := j * 7 + 6) (by omega)
                  have hfz := hso.free (j * 7 + 6)
                  have hj0 : (0 : Int) ≤ j := by omega
                  have hj1 : (j : Int) < na := by omega
                  have hj2 : (j : Int) ≤ 100000 := by omega
                  clear hso
                  go_wp2
                  go_roundw
                  case rel => exact ⟨j + 1, by omega, by go_num, HB.out.setCell (p := ⟨gl, j * 7 + 6, none⟩) hgl _, fun h => (HS.out h).set _ _ _, fun b hb => (Below.heap_setCell wr ⟨gl, j * 7 + 6, none⟩ _ b hb).trans (HK.out b hb)⟩
                  case measure => simp [intOf]; omega
                · obtain rfl : na = j := by omega
                  obtain ⟨w12, rfl⟩ : ∃ wo : World, wo = wr := ⟨_, rfl⟩
                  have HF12 := Lib.hid (HF11.out.off HK.out HG2.out)
                  have HB12 := HB
                  clear HB HS HK HG1 HG2 HL11 HF11 HY11 HZ11
                  go_wp2
                  go_loopw [21] (fun i wr => ∃ (m : Nat), m ≤ n ∧ i = .int .i64 (m : Int) ∧ Below W1.heap.size W1 wr ∧ (∀ (b : Nat) (c : Array Value), w12.heap[b]? = some (Obj.cells c 54 (0, 0)) → wr.heap[b]? = w12.heap[b]?) ∧ ∀ b, Soft w12 b 51 1 → Soft wr b 51 1) (fun i wr => n - (intOf i).toNat)
                  case atStart => exact ⟨0, Nat.zero_le _, rfl, HB12.out, fun _ _ _ => rfl, fun _ h => h⟩
                  case round =>
                    obtain ⟨m, hmn, rfl, hB, hK, hS⟩ := hrel
                    have HB := Lib.hid hB
                    have HS := Lib.hid hS
                    have HK := Lib.hid hK
                    clear hB hS hK
                    by_cases hm : m < n
                    · have hmG : m < G.length := by rw [HLG.out]; exact hm
                      obtain ⟨g, cap, o, n2, cap2, hv, ⟨c, hc⟩, hcell, hlo, hso, h0⟩ := own_one HF12.out hmG (HSG.out _ (ftAt_mem hmG))
                      rw [HLG.out] at hv
                      simp only [Value.slice.injEq, true_and] at hv
                      obtain ⟨rfl, rfl⟩ := hv
                      have hc5 : wr.cell? ⟨g, m * 6 + 5, none⟩ = some (.slice (some ⟨o, 0, none⟩) n2 cap2) := (World.cell?_of_block (HK.out _ _ hc)).trans hcell
                      have hsw := HS.out _ hso
                      obtain ⟨u, hu⟩ := hsw.cell (j := 0) (by omega)
                      have hfz := hsw.free 0
                      have HSW := Lib.hid hsw
                      have hm0 : (0 : Int) ≤ m := by omega
                      have hm1 : (m : Int) < n := by omega
                      have hm2 : (m : Int) ≤ 20000 := by omega
                      have hn2 : (0 : Int) < n2 := by omega
                      clear hso hsw hcell hc hmG
                      go_wp2
                      go_roundw
                      case rel =>
                        refine ⟨m + 1, by omega, by go_num, HB.out.setCell (p := ⟨o, 0, none⟩) hlo _, fun b c hb => ?_, fun b hs => (HS.out b hs).set _ _ _⟩
                        have hbo : b ≠ o := fun e => by
                          subst e
                          obtain ⟨c', hc', -⟩ := HSW.out
                          rw [HK.out _ _ hb, hb] at hc'
                          simp only [Option.some.injEq, Obj.cells.injEq] at hc'
                          exact absurd hc'.2.1 (by decide)
                        exact (Below.heap_setCell wr ⟨o, 0, none⟩ _ b hbo).trans (HK.out b c hb)
                      case measure => simp [intOf]; omega
                    · obtain rfl : n = m := by omega
                      have HBL := HB
                      clear HB HS HK HF12 HB12
                      go_wp2_with fail
                      refine (HLOG.out _ (below_step HB1.out HBL.out)).mono ?_
                      rintro rr w13 ⟨⟨lv2, rfl, hlog2⟩, hb13⟩
                      have HL13 := Lib.hid hlog2
                      have HB13 : Hid (Below W1.heap.size W1 w13) := below_step HBL.out hb13
                      clear hlog2 hb13 HBL
                      go_wp2_with fail
                      refine (HFEA.out _ (below_step HB1.out HB13.out)).mono ?_
                      rintro rr w14 ⟨⟨fv2, rfl, hof2⟩, hb14⟩
                      have HF14 := Lib.hid hof2
                      have HL14 := Lib.hid (own_below HL13.out hb14)
                      have HB14 : Hid (Below W1.heap.size W1 w14) := below_step HB13.out hb14
                      clear hof2 hb14 HL13 HB13
                      have hsl := (HB14.out.block _ y0).trans HS1.out
                      have e1 : w14.cell? ⟨w.heap.size, 1, none⟩ = some (.slice aa na ac) := by rw [cell_of_row _ _ _ _ _ _ hsl]; rfl
                      clear hsl
                      go_wp2_with fail
                      refine (HSA.out _ _ _ (below_step HB1.out HB14.out) HL14.out).mono ?_
                      rintro rr w15 ⟨rfl, hb15⟩
                      have HF15 := Lib.hid (HF14.out.below hb15)
                      have HB15 : Hid (Below W1.heap.size W1 w15) := below_step HB14.out hb15
                      clear hb15 HF14 HL14 HB14 e1
                      have hsl := (HB15.out.block _ y0).trans HS1.out
                      have e0 : w15.cell? ⟨w.heap.size, 0, none⟩ = some (.slice fa n fc) := by rw [cell_of_row _ _ _ _ _ _ hsl]; rfl
                      have e1 : w15.cell? ⟨w.heap.size, 1, none⟩ = some (.slice aa na ac) := by rw [cell_of_row _ _ _ _ _ _ hsl]; rfl
                      clear hsl
                      go_wp2_with fail
                      refine (HRF.out _ (below_step HB1.out HB15.out)).mono ?_
                      rintro rr w16 ⟨gv2, rfl, hgv, hb16⟩
                      have HG16 := Lib.hid hgv
                      have HF16 := Lib.hid (HF15.out.below hb16)
                      have HB16 : Hid (Below W1.heap.size W1 w16) := below_step HB15.out hb16
                      clear hgv hb16 HF15 HB15 e0 e1
                      go_wp2_with fail
                      refine (HSF.out _ _ _ _ _ HF16.out HG16.out).mono ?_
                      rintro rr w17 ⟨rfl, hb17⟩
                      have HB17 : Hid (Below w.heap.size w w17) := below_step (below_step HB1.out HB16.out) hb17
                      clear hb17
                      go_wp2
                      go_ret
                      exact ⟨rfl, HB17.out⟩
          
        exact AllReadyH.nil
      exact AllReadyH.nil
    exact AllReadyH.nil
  exact AllReadyH.nil
end Go.Proofs.YtpcefaccoifejaaDoor
