/-
  The contract of session.line at numbers of any size. Conditions: the act is one that can be written; the library's tables lie in the world.
-/
import Derived.Test.YtpcefaccoifejaaGreatDoorLineS
import Derived.Test.YtpcefaccoifejaaGreatDoorTX0
import Derived.Lib.ItoaLen
namespace Go.Proofs.YtpcefaccoifejaaGreatDoor
open Go.RowKit
set_option linter.unusedSimpArgs false
set_option linter.unusedVariables false
set_option maxRecDepth 100000

def itS (n : Int) : List UInt8 := Lib.itoa n
theorem itS_len {n : Int} (h : i64B n) : (itS n).length ≤ 21 := Lib.itoa_length_le n h.1 h.2
def lineWordsG (a : Ac) : List (List UInt8) := [kindOf a.1, itS a.2.1.1, itS a.2.1.2.1, itS a.2.1.2.2.1, nameOf a.2.1.2.2.2.1.toNat, itS a.2.1.2.2.2.2] ++ if a.1 = 1 then [itS a.2.2] else []
/-- the line of an act -/
def lineG (a : Ac) : List UInt8 := Lib.join (lineWordsG a) [32] ++ [10]
theorem join_lenG {a : Ac} (hw : wfA a) : (Lib.join (lineWordsG a) [32]).length ≤ 1000 := by
  obtain ⟨k, ⟨x1, x2, x3, x4, x5⟩, v⟩ := a
  obtain ⟨-, ⟨w1, w2, w3, -, w5⟩, wv⟩ := hw
  unfold lineWordsG
  have h1 := kindOf_len k
  have h2 := itS_len w1
  have h3 := itS_len w2
  have h4 := itS_len w3
  have h5 := nameOf_len x4.toNat
  have h6 := itS_len w5
  have h7 := itS_len wv
  simp only at h2 h3 h4 h6 h7
  by_cases e : k = 1
  · simp only [e, if_true, List.cons_append, List.nil_append, Lib.join_cons, Lib.joinTail, List.map_cons, List.map_nil, List.flatten_cons, List.flatten_nil, List.length_append, List.length_cons, List.length_nil] at h1 ⊢
    omega
  · simp only [e, if_false, List.cons_append, List.nil_append, List.append_nil, Lib.join_cons, Lib.joinTail, List.map_cons, List.map_nil, List.flatten_cons, List.flatten_nil, List.length_append, List.length_cons, List.length_nil] at h1 ⊢
    omega
/-- an act that can be written -/
structure Fit (a : Ac) : Prop where
  kind : a.1 = 1 ∨ a.1 = 2
  what : 1 ≤ a.2.1.2.2.2.1 ∧ a.2.1.2.2.2.1 ≤ 16
set_option maxHeartbeats 16000000 in
theorem lineG_c (kd x1 x2 x3 x4 x5 v : Int) (w : World) (h : Fit (kd, (x1, x2, x3, x4, x5), v)) (hwa : wfA (kd, (x1, x2, x3, x4, x5), v)) (he : Env w) :
    Calls Tryz.prog 30 #[.agg #[.int .i64 kd, .int .i64 x1, .int .i64 x2, .int .i64 x3, .int .i64 x4, .int .i64 x5, .int .i64 v]] w fun e w' => e = .returned (.string ⟨(lineG (kd, (x1, x2, x3, x4, x5), v)).toArray⟩) ∧ Below w.heap.size w w' := by
  have hI := Lib.hid infoStr
  have HI := fun (n : Int) (hn : i64B n) W (hb : Below w.heap.size w W) => ItoaG_c n W hn.1 hn.2 (he.below hb)
  have H1 : Hid (∀ W, Below w.heap.size w W → Calls Tryz.prog 55 #[.int .i64 x1] W fun e w' => e = .returned (.string ⟨(itS x1).toArray⟩) ∧ Below W.heap.size W w') := HI x1 hwa.2.1.1
  have H2 : Hid (∀ W, Below w.heap.size w W → Calls Tryz.prog 55 #[.int .i64 x2] W fun e w' => e = .returned (.string ⟨(itS x2).toArray⟩) ∧ Below W.heap.size W w') := HI x2 hwa.2.1.2.1
  have H3 : Hid (∀ W, Below w.heap.size w W → Calls Tryz.prog 55 #[.int .i64 x3] W fun e w' => e = .returned (.string ⟨(itS x3).toArray⟩) ∧ Below W.heap.size W w') := HI x3 hwa.2.1.2.2.1
  have H5 : Hid (∀ W, Below w.heap.size w W → Calls Tryz.prog 55 #[.int .i64 x5] W fun e w' => e = .returned (.string ⟨(itS x5).toArray⟩) ∧ Below W.heap.size W w') := HI x5 hwa.2.1.2.2.2.2
  have HV : Hid (∀ W, Below w.heap.size w W → Calls Tryz.prog 55 #[.int .i64 v] W fun e w' => e = .returned (.string ⟨(itS v).toArray⟩) ∧ Below W.heap.size W w') := HI v hwa.2.2
  obtain ⟨hw1, hw2⟩ := h.what
  have hk := h.kind
  obtain ⟨m, rfl⟩ : ∃ m : Nat, x4 = m := ⟨x4.toNat, by simp only at hw1; omega⟩
  have hm17 : m < 17 := by simp only at hw2; omega
  have hm0 : (0 : Int) ≤ m := by omega
  have hm1 : (m : Int) < 17 := by omega
  simp only at hk
  have HJ := Lib.hid (join_lenG hwa)
  clear h hw1 hw2 HI hwa he
  have HL : Hid (lineG (kd, (x1, x2, x3, (m : Int), x5), v) = Lib.join (lineWordsG (kd, (x1, x2, x3, (m : Int), x5), v)) [32] ++ [10]) := rfl
  generalize lineG (kd, (x1, x2, x3, (m : Int), x5), v) = LL at *
  rcases hk with rfl | rfl
  · go_enter Tryz.func30, Tryz.ntmps30
    go_wp2_with fail
    refine wp_named fun w1 hW => ?_
    have k0 : w1.cell? ⟨w.heap.size, 0, none⟩ = some (.int .i64 1) := by rw [hW]; go_simp
    have k1 : w1.cell? ⟨w.heap.size, 1, none⟩ = some (.int .i64 x1) := by rw [hW]; go_simp
    have k2 : w1.cell? ⟨w.heap.size, 2, none⟩ = some (.int .i64 x2) := by rw [hW]; go_simp
    have k3 : w1.cell? ⟨w.heap.size, 3, none⟩ = some (.int .i64 x3) := by rw [hW]; go_simp
    have k4 : w1.cell? ⟨w.heap.size, 4, none⟩ = some (.int .i64 (m : Int)) := by rw [hW]; go_simp
    have k5 : w1.cell? ⟨w.heap.size, 5, none⟩ = some (.int .i64 x5) := by rw [hW]; go_simp
    have k6 : w1.cell? ⟨w.heap.size, 6, none⟩ = some (.int .i64 v) := by rw [hW]; go_simp
    have HB : Hid (Below w.heap.size w w1) := by rw [hW]; show Below _ _ _; go_grown
    have y1 : w.heap.size < w1.heap.size := by rw [hW]; simp
    clear hW
    have HSC : Hid (∀ w', Bw w1 w' → (w'.cell? ⟨w.heap.size, 0, none⟩ = some (.int .i64 1) ∧ w'.cell? ⟨w.heap.size, 1, none⟩ = some (.int .i64 x1) ∧ w'.cell? ⟨w.heap.size, 2, none⟩ = some (.int .i64 x2) ∧ w'.cell? ⟨w.heap.size, 3, none⟩ = some (.int .i64 x3) ∧ w'.cell? ⟨w.heap.size, 4, none⟩ = some (.int .i64 (m : Int)) ∧ w'.cell? ⟨w.heap.size, 5, none⟩ = some (.int .i64 x5)) ∧ Bw w1 w') := fun w' hb => ⟨⟨(hb.cell (p := ⟨w.heap.size, _, none⟩) y1).trans k0, (hb.cell (p := ⟨w.heap.size, _, none⟩) y1).trans k1, (hb.cell (p := ⟨w.heap.size, _, none⟩) y1).trans k2, (hb.cell (p := ⟨w.heap.size, _, none⟩) y1).trans k3, (hb.cell (p := ⟨w.heap.size, _, none⟩) y1).trans k4, (hb.cell (p := ⟨w.heap.size, _, none⟩) y1).trans k5⟩, hb⟩
    clear k0 k1 k2 k3 k4 k5
    refine wp_region_noPanic ?_
    refine wp_region_held_drew (S := fun w' => (w'.cell? ⟨w.heap.size, 0, none⟩ = some (.int .i64 1) ∧ w'.cell? ⟨w.heap.size, 1, none⟩ = some (.int .i64 x1) ∧ w'.cell? ⟨w.heap.size, 2, none⟩ = some (.int .i64 x2) ∧ w'.cell? ⟨w.heap.size, 3, none⟩ = some (.int .i64 x3) ∧ w'.cell? ⟨w.heap.size, 4, none⟩ = some (.int .i64 (m : Int)) ∧ w'.cell? ⟨w.heap.size, 5, none⟩ = some (.int .i64 x5)) ∧ Bw w1 w') (by kernel_rfl) (HSC.out _ (Bw.drew _)) (fun hHeld => ?_)
    refine wpAnyH_take (i := 1) (v := ?v1) (arr_at rfl) (by kernel_rfl) (by kernel_rfl) (by kernel_rfl) (fun _ _ _ h => h) (Or.inl ⟨by rfl, ?hy1⟩) (by assumption) ?_
    case hy1 => (intro w hSw; (try dsimp only at hSw); go_simp <;> with_reducible rfl)
    try simp only [Act.put, List.setIfInBounds_toArray, List.set_cons_zero, List.set_cons_succ]
    refine wpAnyH_take (i := 2) (v := ?v2) (arr_at rfl) (by kernel_rfl) (by kernel_rfl) (by kernel_rfl) (fun _ _ _ h => h) (Or.inl ⟨by rfl, ?hy2⟩) (by assumption) ?_
    case hy2 => (intro w hSw; (try dsimp only at hSw); go_simp <;> with_reducible rfl)
    try simp only [Act.put, List.setIfInBounds_toArray, List.set_cons_zero, List.set_cons_succ]
    refine wpAnyH_take (i := 5) (v := ?v3) (arr_at rfl) (by kernel_rfl) (by kernel_rfl) (by kernel_rfl) (fun _ _ _ h => h) (Or.inl ⟨by rfl, ?hy3⟩) (by assumption) ?_
    case hy3 => (intro w hSw; (try dsimp only at hSw); go_simp <;> with_reducible rfl)
    try simp only [Act.put, List.setIfInBounds_toArray, List.set_cons_zero, List.set_cons_succ]
    refine wpAnyH_take (i := 6) (v := ?v4) (arr_at rfl) (by kernel_rfl) (by kernel_rfl) (by kernel_rfl) (fun _ _ _ h => h) (Or.inl ⟨by rfl, ?hy4⟩) (by assumption) ?_
    case hy4 => (intro w hSw; (try dsimp only at hSw); go_simp <;> with_reducible rfl)
    try simp only [Act.put, List.setIfInBounds_toArray, List.set_cons_zero, List.set_cons_succ]
    refine wpAnyH_take (i := 7) (v := ?v5) (arr_at rfl) (by kernel_rfl) (by kernel_rfl) (by kernel_rfl) (fun _ _ _ h => h) (Or.inl ⟨by rfl, ?hy5⟩) (by assumption) ?_
    case hy5 => (intro w hSw; (try dsimp only at hSw); go_simp <;> with_reducible rfl)
    try simp only [Act.put, List.setIfInBounds_toArray, List.set_cons_zero, List.set_cons_succ]
    refine wpAnyH_take (i := 9) (v := ?v6) (arr_at rfl) (by kernel_rfl) (by kernel_rfl) (by kernel_rfl) (fun _ _ _ h => h) (Or.inl ⟨by rfl, ?hy6⟩) (by assumption) ?_
    case hy6 => (intro w hSw; (try dsimp only at hSw); go_simp <;> with_reducible rfl)
    try simp only [Act.put, List.setIfInBounds_toArray, List.set_cons_zero, List.set_cons_succ]
    refine wpAnyH_take (i := 10) (v := ?v7) (arr_at rfl) (by kernel_rfl) (by kernel_rfl) (by kernel_rfl) (fun _ _ _ h => h) (Or.inl ⟨by rfl, ?hy7⟩) (by assumption) ?_
    case hy7 => (intro w hSw; (try dsimp only at hSw); go_simp <;> with_reducible rfl)
    try simp only [Act.put, List.setIfInBounds_toArray, List.set_cons_zero, List.set_cons_succ]
    refine wpAnyH_take (i := 11) (v := ?v8) (arr_at rfl) (by kernel_rfl) (by kernel_rfl) (by kernel_rfl) (fun _ _ _ h => h) (Or.inl ⟨by rfl, ?hy8⟩) (by assumption) ?_
    case hy8 => (intro w hSw; (try dsimp only at hSw); go_simp <;> with_reducible rfl)
    try simp only [Act.put, List.setIfInBounds_toArray, List.set_cons_zero, List.set_cons_succ]
    refine wpAnyH_take (i := 13) (v := ?v9) (arr_at rfl) (by kernel_rfl) (by kernel_rfl) (by kernel_rfl) (fun _ _ _ h => h) (Or.inl ⟨by rfl, ?hy9⟩) (by assumption) ?_
    case hy9 => (intro w hSw; (try dsimp only at hSw); go_simp <;> with_reducible rfl)
    try simp only [Act.put, List.setIfInBounds_toArray, List.set_cons_zero, List.set_cons_succ]
    refine wpAnyH_take (i := 14) (v := ?v10) (arr_at rfl) (by kernel_rfl) (by kernel_rfl) (by kernel_rfl) (fun _ _ _ h => h) (Or.inl ⟨by rfl, ?hy10⟩) (by assumption) ?_
    case hy10 => (intro w hSw; (try dsimp only at hSw); go_simp <;> with_reducible rfl)
    try simp only [Act.put, List.setIfInBounds_toArray, List.set_cons_zero, List.set_cons_succ]
    refine wpAnyH_take (i := 15) (v := ?v11) (arr_at rfl) (by kernel_rfl) (by kernel_rfl) (by kernel_rfl) (fun _ _ _ h => h) (Or.inl ⟨by rfl, ?hy11⟩) (by assumption) ?_
    case hy11 => (intro w hSw; (try dsimp only at hSw); go_simp <;> with_reducible rfl)
    try simp only [Act.put, List.setIfInBounds_toArray, List.set_cons_zero, List.set_cons_succ]
    refine wpAnyH_take (i := 18) (v := ?v12) (arr_at rfl) (by kernel_rfl) (by kernel_rfl) (by kernel_rfl) (fun _ _ _ h => h) (Or.inl ⟨by rfl, ?hy12⟩) (by assumption) ?_
    case hy12 => (intro w hSw; (try dsimp only at hSw); go_simp <;> with_reducible rfl)
    try simp only [Act.put, List.setIfInBounds_toArray, List.set_cons_zero, List.set_cons_succ]
    refine wpAnyH_take (i := 19) (v := ?v13) (arr_at rfl) (by kernel_rfl) (by kernel_rfl) (by kernel_rfl) (fun _ _ _ h => h) (Or.inl ⟨by rfl, ?hy13⟩) (by assumption) ?_
    case hy13 => (intro w hSw; (try dsimp only at hSw); go_simp <;> with_reducible rfl)
    try simp only [Act.put, List.setIfInBounds_toArray, List.set_cons_zero, List.set_cons_succ]
    refine wpAnyH_take (i := 20) (v := ?v14) (arr_at rfl) (by kernel_rfl) (by kernel_rfl) (by kernel_rfl) (fun _ _ _ h => h) (Or.inl ⟨by rfl, ?hy14⟩) (by assumption) ?_
    case hy14 => (intro w hSw; (try dsimp only at hSw); go_simp <;> with_reducible rfl)
    try simp only [Act.put, List.setIfInBounds_toArray, List.set_cons_zero, List.set_cons_succ]
    refine wpAnyH_take (i := 23) (v := ?v15) (arr_at rfl) (by kernel_rfl) (by kernel_rfl) (by kernel_rfl) (fun _ _ _ h => h) (Or.inl ⟨by rfl, ?hy15⟩) (by assumption) ?_
    case hy15 => (intro w hSw; (try dsimp only at hSw); go_simp <;> with_reducible rfl)
    try simp only [Act.put, List.setIfInBounds_toArray, List.set_cons_zero, List.set_cons_succ]
    refine wpAnyH_take (i := 24) (v := ?v16) (arr_at rfl) (by kernel_rfl) (by kernel_rfl) (by kernel_rfl) (fun _ _ _ h => h) (Or.inl ⟨by rfl, ?hy16⟩) (by assumption) ?_
    case hy16 => (intro w hSw; (try dsimp only at hSw); go_simp <;> with_reducible rfl)
    try simp only [Act.put, List.setIfInBounds_toArray, List.set_cons_zero, List.set_cons_succ]
    refine wpAnyH_take (i := 25) (v := ?v17) (arr_at rfl) (by kernel_rfl) (by kernel_rfl) (by kernel_rfl) (fun _ _ _ h => h) (Or.inl ⟨by rfl, ?hy17⟩) (by assumption) ?_
    case hy17 => (intro w hSw; (try dsimp only at hSw); go_simp <;> with_reducible rfl)
    try simp only [Act.put, List.setIfInBounds_toArray, List.set_cons_zero, List.set_cons_succ]
    refine wpAnyH_ready (rs := [0, 8]) (by kernel_rfl) (by simp) ?_
    refine AllReadyH.cons (arr_at rfl) (fun K hK => ?_) ?_
    · skip
      go_simp
      refine hK.out _ _ ?_ (fun hHeld => ?_)
      · refine HSC.out _ ?_
        (first | exact Bw.alloc (Bw.refl _) _ | exact Bw.alloc (Bw.drew _) _ | exact Bw.alloc (by assumption) _)
      clear hK K
      try simp only [Act.put, List.setIfInBounds_toArray, List.set_cons_zero, List.set_cons_succ]
      refine wpAnyH_named fun WK hWK => ?_
      have hbWK : Bw w1 WK := by rw [hWK]; (first | exact Bw.alloc (Bw.refl _) _ | exact Bw.alloc (Bw.drew _) _ | exact Bw.alloc (by assumption) _)
      have cWK : WK.cell? ⟨w1.heap.size, 1, none⟩ = some (.string { data := #[99, 111, 114, 114, 101, 99, 116] }) := by
        rw [hWK]; go_simp
      have zWK : w1.heap.size < WK.heap.size := by rw [hWK]; simp
      have HSCWK : Hid (∀ w', Bw WK w' → ((w'.cell? ⟨w.heap.size, 0, none⟩ = some (.int .i64 1) ∧ w'.cell? ⟨w.heap.size, 1, none⟩ = some (.int .i64 x1) ∧ w'.cell? ⟨w.heap.size, 2, none⟩ = some (.int .i64 x2) ∧ w'.cell? ⟨w.heap.size, 3, none⟩ = some (.int .i64 x3) ∧ w'.cell? ⟨w.heap.size, 4, none⟩ = some (.int .i64 (m : Int)) ∧ w'.cell? ⟨w.heap.size, 5, none⟩ = some (.int .i64 x5)) ∧ Bw w1 w') ∧ w'.cell? ⟨w1.heap.size, 1, none⟩ = some (.string { data := #[99, 111, 114, 114, 101, 99, 116] }) ∧ Bw WK w') := fun w' hb => ⟨HSC.out _ (Bw.tr hbWK hb), (hb.cell (p := ⟨w1.heap.size, _, none⟩) zWK).trans cWK, hb⟩
      refine wpAnyH_switch (S' := fun w' => ((w'.cell? ⟨w.heap.size, 0, none⟩ = some (.int .i64 1) ∧ w'.cell? ⟨w.heap.size, 1, none⟩ = some (.int .i64 x1) ∧ w'.cell? ⟨w.heap.size, 2, none⟩ = some (.int .i64 x2) ∧ w'.cell? ⟨w.heap.size, 3, none⟩ = some (.int .i64 x3) ∧ w'.cell? ⟨w.heap.size, 4, none⟩ = some (.int .i64 (m : Int)) ∧ w'.cell? ⟨w.heap.size, 5, none⟩ = some (.int .i64 x5)) ∧ Bw w1 w') ∧ w'.cell? ⟨w1.heap.size, 1, none⟩ = some (.string { data := #[99, 111, 114, 114, 101, 99, 116] }) ∧ Bw WK w') (fun _ h => h.1) (HSCWK.out _ (Bw.refl _)) (fun hHeld2 => ?_)
      clear hWK hHeld
      refine wpAnyH_take (i := 3) (v := ?v18) (arr_at rfl) (by kernel_rfl) (by kernel_rfl) (by kernel_rfl) (fun _ _ _ h => h) (Or.inl ⟨by rfl, ?hy18⟩) (by assumption) ?_
      case hy18 => (intro w hSw; (try dsimp only at hSw); go_simp <;> with_reducible rfl)
      try simp only [Act.put, List.setIfInBounds_toArray, List.set_cons_zero, List.set_cons_succ]
      refine wpAnyH_take (i := 4) (v := ?v19) (arr_at rfl) (by kernel_rfl) (by kernel_rfl) (by kernel_rfl) (fun _ _ _ h => h) (Or.inl ⟨by rfl, ?hy19⟩) (by assumption) ?_
      case hy19 => (intro w hSw; (try dsimp only at hSw); go_simp <;> with_reducible rfl)
      try simp only [Act.put, List.setIfInBounds_toArray, List.set_cons_zero, List.set_cons_succ]
      refine wpAnyH_ready (rs := [8]) (by kernel_rfl) (by simp) ?_
      refine AllReadyH.cons (arr_at rfl) (fun K hK => ?_) ?_
      · skip
        go_simp
        refine (H1.out _ (HB.out.trans (Below.mono (Bw.tr (Bw.tr (Bw.refl _) hbWK) (Bw.refl _)) HB.out.size))).mono ?_
        rintro e wI8 ⟨rfl, hbI8⟩
        have HI8 : Bw WK wI8 := Bw.tr (Bw.refl _) hbI8
        refine hK.out _ _ ?_ (fun hHeld => ?_)
        · exact HSCWK.out _ HI8
        clear hK K hbI8
        try simp only [Act.put, List.setIfInBounds_toArray, List.set_cons_zero, List.set_cons_succ]
        refine wpAnyH_ready (rs := [12]) (by kernel_rfl) (by simp) ?_
        refine AllReadyH.cons (arr_at rfl) (fun K hK => ?_) ?_
        · skip
          go_simp
          refine (H2.out _ (HB.out.trans (Below.mono (Bw.tr (Bw.tr (Bw.refl _) hbWK) (HI8)) HB.out.size))).mono ?_
          rintro e wI12 ⟨rfl, hbI12⟩
          have HI12 : Bw WK wI12 := Bw.tr (HI8) hbI12
          refine hK.out _ _ ?_ (fun hHeld => ?_)
          · exact HSCWK.out _ HI12
          clear hK K hbI12
          try simp only [Act.put, List.setIfInBounds_toArray, List.set_cons_zero, List.set_cons_succ]
          refine wpAnyH_ready (rs := [16]) (by kernel_rfl) (by simp) ?_
          refine AllReadyH.cons (arr_at rfl) (fun K hK => ?_) ?_
          · skip
            go_simp
            refine (H3.out _ (HB.out.trans (Below.mono (Bw.tr (Bw.tr (Bw.refl _) hbWK) (HI12)) HB.out.size))).mono ?_
            rintro e wI16 ⟨rfl, hbI16⟩
            have HI16 : Bw WK wI16 := Bw.tr (HI12) hbI16
            refine hK.out _ _ ?_ (fun hHeld => ?_)
            · exact HSCWK.out _ HI16
            clear hK K hbI16
            try simp only [Act.put, List.setIfInBounds_toArray, List.set_cons_zero, List.set_cons_succ]
            refine wpAnyH_ready (rs := [17]) (by kernel_rfl) (by simp) ?_
            refine AllReadyH.cons (arr_at rfl) (fun K hK => ?_) ?_
            · skip
              go_simp
              refine (names_c _).mono ?_
              rintro e w2 ⟨rfl, hw2⟩
              refine hK.out _ _ ?_ (fun hHeld => ?_)
              · refine HSCWK.out _ ?_
                rw [hw2]; (first | exact Bw.alloc (Bw.refl _) _ | exact Bw.alloc (Bw.drew _) _ | exact Bw.alloc (by assumption) _)
              clear hK K
              try simp only [Act.put, List.setIfInBounds_toArray, List.set_cons_zero, List.set_cons_succ]
              refine wpAnyH_named fun WN hWN => ?_
              rw [hw2] at hWN
              have hbWN : Bw WK WN := by rw [hWN]; (first | exact Bw.alloc (Bw.refl _) _ | exact Bw.alloc (Bw.drew _) _ | exact Bw.alloc (by assumption) _)
              have cWN : WN.cell? ⟨wI16.heap.size, m, none⟩ = some (.string ⟨(nameOf m).toArray⟩) := by
                have hh : WN.heap[wI16.heap.size]? = some (.cells nameCells 9 (0, 0)) := by rw [hWN]; exact heap_alloc_new _ _
                rw [cell_of_row _ _ _ _ _ _ hh]
                exact nameCells_at hm17
              have zWN : wI16.heap.size < WN.heap.size := by rw [hWN]; simp
              have HSCWN : Hid (∀ w', Bw WN w' → (((w'.cell? ⟨w.heap.size, 0, none⟩ = some (.int .i64 1) ∧ w'.cell? ⟨w.heap.size, 1, none⟩ = some (.int .i64 x1) ∧ w'.cell? ⟨w.heap.size, 2, none⟩ = some (.int .i64 x2) ∧ w'.cell? ⟨w.heap.size, 3, none⟩ = some (.int .i64 x3) ∧ w'.cell? ⟨w.heap.size, 4, none⟩ = some (.int .i64 (m : Int)) ∧ w'.cell? ⟨w.heap.size, 5, none⟩ = some (.int .i64 x5)) ∧ Bw w1 w') ∧ w'.cell? ⟨w1.heap.size, 1, none⟩ = some (.string { data := #[99, 111, 114, 114, 101, 99, 116] }) ∧ Bw WK w') ∧ w'.cell? ⟨wI16.heap.size, m, none⟩ = some (.string ⟨(nameOf m).toArray⟩) ∧ Bw WN w') := fun w' hb => ⟨HSCWK.out _ (Bw.tr hbWN hb), (hb.cell (p := ⟨wI16.heap.size, _, none⟩) zWN).trans cWN, hb⟩
              refine wpAnyH_switch (S' := fun w' => (((w'.cell? ⟨w.heap.size, 0, none⟩ = some (.int .i64 1) ∧ w'.cell? ⟨w.heap.size, 1, none⟩ = some (.int .i64 x1) ∧ w'.cell? ⟨w.heap.size, 2, none⟩ = some (.int .i64 x2) ∧ w'.cell? ⟨w.heap.size, 3, none⟩ = some (.int .i64 x3) ∧ w'.cell? ⟨w.heap.size, 4, none⟩ = some (.int .i64 (m : Int)) ∧ w'.cell? ⟨w.heap.size, 5, none⟩ = some (.int .i64 x5)) ∧ Bw w1 w') ∧ w'.cell? ⟨w1.heap.size, 1, none⟩ = some (.string { data := #[99, 111, 114, 114, 101, 99, 116] }) ∧ Bw WK w') ∧ w'.cell? ⟨wI16.heap.size, m, none⟩ = some (.string ⟨(nameOf m).toArray⟩) ∧ Bw WN w') (fun _ h => h.1) (HSCWN.out _ (Bw.refl _)) (fun hHeld2 => ?_)
              clear hWN hHeld hw2
              refine wpAnyH_take (i := 21) (v := ?v20) (arr_at rfl) (by kernel_rfl) (by kernel_rfl) (by kernel_rfl) (fun _ _ _ h => h) (Or.inl ⟨by rfl, ?hy20⟩) (by assumption) ?_
              case hy20 => (intro w hSw; (try dsimp only at hSw); go_simp <;> with_reducible rfl)
              try simp only [Act.put, List.setIfInBounds_toArray, List.set_cons_zero, List.set_cons_succ]
              refine wpAnyH_take (i := 22) (v := ?v21) (arr_at rfl) (by kernel_rfl) (by kernel_rfl) (by kernel_rfl) (fun _ _ _ h => h) (Or.inl ⟨by rfl, ?hy21⟩) (by assumption) ?_
              case hy21 => (intro w hSw; (try dsimp only at hSw); go_simp <;> with_reducible rfl)
              try simp only [Act.put, List.setIfInBounds_toArray, List.set_cons_zero, List.set_cons_succ]
              refine wpAnyH_ready (rs := [26]) (by kernel_rfl) (by simp) ?_
              refine AllReadyH.cons (arr_at rfl) (fun K hK => ?_) ?_
              · skip
                go_simp
                refine (H5.out _ (HB.out.trans (Below.mono (Bw.tr (Bw.tr (Bw.tr (Bw.refl _) hbWK) hbWN) (Bw.refl _)) HB.out.size))).mono ?_
                rintro e wI26 ⟨rfl, hbI26⟩
                have HI26 : Bw WN wI26 := Bw.tr (Bw.refl _) hbI26
                refine hK.out _ _ ?_ (fun hHeld => ?_)
                · exact HSCWN.out _ HI26
                clear hK K hbI26
                try simp only [Act.put, List.setIfInBounds_toArray, List.set_cons_zero, List.set_cons_succ]
                refine wpAnyH_ready (rs := [27]) (by kernel_rfl) (by simp) ?_
                refine AllReadyH.cons (arr_at rfl) (fun K hK => ?_) ?_
                · skip
                  go_simp
                  refine hK.out _ _ ?_ (fun hHeld => ?_)
                  · refine HSCWN.out _ ?_
                    (first | exact Bw.alloc (Bw.refl _) _ | exact Bw.alloc (Bw.drew _) _ | exact Bw.alloc (by assumption) _)
                  clear hK K
                  try simp only [Act.put, List.setIfInBounds_toArray, List.set_cons_zero, List.set_cons_succ]
                  refine wpAnyH_take (i := 28) (v := ?v22) (arr_at rfl) (by kernel_rfl) (by kernel_rfl) (by kernel_rfl) (fun _ _ _ h => h) (Or.inl ⟨by rfl, ?hy22⟩) (by assumption) ?_
                  case hy22 => (intro w hSw; (try dsimp only at hSw); go_simp <;> with_reducible rfl)
                  try simp only [Act.put, List.setIfInBounds_toArray, List.set_cons_zero, List.set_cons_succ]
                  refine wpAnyH_done (by kernel_rfl) ?_ _
                  refine NoPanic.normal ?_
                  refine exit_namedL (Q := Exit.then _ _) fun WF hWF => ?_
                  have hbF : Bw WN WF := by rw [hWF]; first | exact Bw.alloc (Bw.refl _) _ | exact Bw.alloc (Bw.drew _) _ | exact Bw.alloc (by assumption) _
                  have hX : WF.heap[wI26.heap.size]? = some (.cells #[.string { data := #[99, 111, 114, 114, 101, 99, 116] }, .string ⟨(itS x1).toArray⟩, .string ⟨(itS x2).toArray⟩, .string ⟨(itS x3).toArray⟩, .string ⟨(nameOf m).toArray⟩, .string ⟨(itS x5).toArray⟩] 9 (0, 0)) := by rw [hWF]; exact heap_alloc_new _ _
                  have hB1F : Bw w1 WF := Bw.tr (Bw.tr (Bw.tr (Bw.refl _) hbWK) hbWN) hbF
                  have hsa : w.heap.size ≤ wI26.heap.size := Nat.le_trans HB.out.size (Below.size (show Below w1.heap.size w1 wI26 from Bw.tr (Bw.tr (Bw.tr (Bw.refl _) hbWK) hbWN) (by first | exact Bw.refl _ | assumption)))
                  have k0 : WF.cell? ⟨w.heap.size, 0, none⟩ = some (.int .i64 1) := (HSC.out _ hB1F).1.1
                  have kv : WF.cell? ⟨w.heap.size, 6, none⟩ = some (.int .i64 v) := (hB1F.cell (p := ⟨w.heap.size, 6, none⟩) y1).trans k6
                  have hBF : Below w.heap.size w WF := HB.out.trans (hB1F.mono HB.out.size)
                  obtain ⟨bx, hbx⟩ : ∃ bx, wI26.heap.size = bx := ⟨_, rfl⟩
                  have hwb : w.heap.size ≤ bx := by rw [← hbx]; exact hsa
                  rw [hbx] at hX ⊢
                  have HX := Lib.hid hX
                  have HBF := Lib.hid hBF
                  have hxl : bx < WF.heap.size := (Array.getElem?_eq_some_iff.1 hX).1
                  clear hWF hbx hX hBF hHeld2
                  have HOWN : Hid (WF.ownsRow w.heap.size 9 1 (.slice (some ⟨bx, 0, none⟩) 6 6) 6 [.string { data := #[99, 111, 114, 114, 101, 99, 116] }, .string ⟨(itS x1).toArray⟩, .string ⟨(itS x2).toArray⟩, .string ⟨(itS x3).toArray⟩, .string ⟨(nameOf m).toArray⟩, .string ⟨(itS x5).toArray⟩]) := ownRow_of_block HX.out hwb (by simp [maxLen])
                  have hsF := HBF.out.size
                  go_wp2_with (first | (go_at_call 55; refine (HV.out _ HBF.out).mono ?_; rintro e w5 ⟨rfl, hb5⟩; have HBV : Hid (Below w.heap.size w w5) := below_step HBF.out hb5; have HOV := Lib.hid (own_below HOWN.out hb5); have hsV := HBV.out.size; clear hb5) | (at_builtin; go_loud (refine wpList_append_own _ rfl (.tmp 35) (.tmp 39) _ rfl w.heap.size 9 Tryz.t9 _ 1 16 rfl hI.out rfl rfl rfl rfl (by omega) (.slice (some ⟨bx, 0, none⟩) 6 6) 6 _ rfl (HOV.out.alloc _) ⟨w5.heap.size, 0, none⟩ 1 1 [.string ⟨(itS v).toArray⟩] rfl rfl (newCells _ _ _) (by simp [Value.oneCell']) (by simp only [maxLen]; omega) (by omega) (by simp; omega) ?_; intro v' w6 ho hg hn; have HO := Lib.hid ho; have HB6 := Lib.hid ((HBV.out.alloc hsV _).grown hg (by simp; omega) (fun j hj => by simp [Value.ownBlock] at hj; omega)); clear ho hg hn)))
                  have hwords : lineWordsG (1, (x1, x2, x3, (m : Int), x5), v) = [[99, 111, 114, 114, 101, 99, 116], itS x1, itS x2, itS x3, nameOf m, itS x5, itS v] := rfl
                  have HWD := Lib.hid hwords
                  have hlen := HJ.out
                  rw [hwords] at hlen
                  clear hwords
                  refine (join_of_own (ws := [[99, 111, 114, 114, 101, 99, 116], itS x1, itS x2, itS x3, nameOf m, itS x5, itS v]) HO.out rfl (by omega) (by omega) hlen).mono ?_
                  rintro e w7 ⟨rfl, hb7⟩
                  have HB7 := Lib.hid (below_step HB6.out hb7)
                  clear hb7
                  obtain ⟨J, hJ⟩ : ∃ J, Lib.join [[99, 111, 114, 114, 101, 99, 116], itS x1, itS x2, itS x3, nameOf m, itS x5, itS v] [32] = J := ⟨_, rfl⟩
                  rw [hJ] at hlen ⊢
                  have hadd : ∀ w, (Op.stringOp .add ⟨J.toArray⟩ ⟨#[10]⟩).run Tryz.prog w = .ok (.string ⟨(J ++ [10]).toArray⟩) w := fun w => run_string_add_lists w J [10] (by omega) (by simp)
                  have HLL : Hid (LL = J ++ [10]) := HL.out.trans (by rw [HWD.out, hJ])
                  clear hJ
                  go_wp2
                  go_ret
                  exact ⟨by rw [HLL.out]; rfl, HB7.out⟩
                exact AllReadyH.nil
              exact AllReadyH.nil
            exact AllReadyH.nil
          exact AllReadyH.nil
        exact AllReadyH.nil
      exact AllReadyH.nil
    refine AllReadyH.cons (arr_at rfl) (fun K hK => ?_) ?_
    · skip
      go_simp
      refine (H1.out _ (HB.out.trans (Below.mono (Bw.tr (Bw.refl _) (Bw.drew _)) HB.out.size))).mono ?_
      rintro e wI8 ⟨rfl, hbI8⟩
      have HI8 : Bw w1 wI8 := Bw.tr (Bw.drew _) hbI8
      refine hK.out _ _ ?_ (fun hHeld => ?_)
      · exact HSC.out _ HI8
      clear hK K hbI8
      try simp only [Act.put, List.setIfInBounds_toArray, List.set_cons_zero, List.set_cons_succ]
      refine wpAnyH_ready (rs := [0, 12]) (by kernel_rfl) (by simp) ?_
      refine AllReadyH.cons (arr_at rfl) (fun K hK => ?_) ?_
      · skip
        go_simp
        refine hK.out _ _ ?_ (fun hHeld => ?_)
        · refine HSC.out _ ?_
          (first | exact Bw.alloc (Bw.refl _) _ | exact Bw.alloc (Bw.drew _) _ | exact Bw.alloc (by assumption) _)
        clear hK K
        try simp only [Act.put, List.setIfInBounds_toArray, List.set_cons_zero, List.set_cons_succ]
        refine wpAnyH_named fun WK hWK => ?_
        have hbWK : Bw w1 WK := by rw [hWK]; (first | exact Bw.alloc (Bw.refl _) _ | exact Bw.alloc (Bw.drew _) _ | exact Bw.alloc (by assumption) _)
        have cWK : WK.cell? ⟨wI8.heap.size, 1, none⟩ = some (.string { data := #[99, 111, 114, 114, 101, 99, 116] }) := by
          rw [hWK]; go_simp
        have zWK : wI8.heap.size < WK.heap.size := by rw [hWK]; simp
        have HSCWK : Hid (∀ w', Bw WK w' → ((w'.cell? ⟨w.heap.size, 0, none⟩ = some (.int .i64 1) ∧ w'.cell? ⟨w.heap.size, 1, none⟩ = some (.int .i64 x1) ∧ w'.cell? ⟨w.heap.size, 2, none⟩ = some (.int .i64 x2) ∧ w'.cell? ⟨w.heap.size, 3, none⟩ = some (.int .i64 x3) ∧ w'.cell? ⟨w.heap.size, 4, none⟩ = some (.int .i64 (m : Int)) ∧ w'.cell? ⟨w.heap.size, 5, none⟩ = some (.int .i64 x5)) ∧ Bw w1 w') ∧ w'.cell? ⟨wI8.heap.size, 1, none⟩ = some (.string { data := #[99, 111, 114, 114, 101, 99, 116] }) ∧ Bw WK w') := fun w' hb => ⟨HSC.out _ (Bw.tr hbWK hb), (hb.cell (p := ⟨wI8.heap.size, _, none⟩) zWK).trans cWK, hb⟩
        refine wpAnyH_switch (S' := fun w' => ((w'.cell? ⟨w.heap.size, 0, none⟩ = some (.int .i64 1) ∧ w'.cell? ⟨w.heap.size, 1, none⟩ = some (.int .i64 x1) ∧ w'.cell? ⟨w.heap.size, 2, none⟩ = some (.int .i64 x2) ∧ w'.cell? ⟨w.heap.size, 3, none⟩ = some (.int .i64 x3) ∧ w'.cell? ⟨w.heap.size, 4, none⟩ = some (.int .i64 (m : Int)) ∧ w'.cell? ⟨w.heap.size, 5, none⟩ = some (.int .i64 x5)) ∧ Bw w1 w') ∧ w'.cell? ⟨wI8.heap.size, 1, none⟩ = some (.string { data := #[99, 111, 114, 114, 101, 99, 116] }) ∧ Bw WK w') (fun _ h => h.1) (HSCWK.out _ (Bw.refl _)) (fun hHeld2 => ?_)
        clear hWK hHeld
        refine wpAnyH_take (i := 3) (v := ?v23) (arr_at rfl) (by kernel_rfl) (by kernel_rfl) (by kernel_rfl) (fun _ _ _ h => h) (Or.inl ⟨by rfl, ?hy23⟩) (by assumption) ?_
        case hy23 => (intro w hSw; (try dsimp only at hSw); go_simp <;> with_reducible rfl)
        try simp only [Act.put, List.setIfInBounds_toArray, List.set_cons_zero, List.set_cons_succ]
        refine wpAnyH_take (i := 4) (v := ?v24) (arr_at rfl) (by kernel_rfl) (by kernel_rfl) (by kernel_rfl) (fun _ _ _ h => h) (Or.inl ⟨by rfl, ?hy24⟩) (by assumption) ?_
        case hy24 => (intro w hSw; (try dsimp only at hSw); go_simp <;> with_reducible rfl)
        try simp only [Act.put, List.setIfInBounds_toArray, List.set_cons_zero, List.set_cons_succ]
        refine wpAnyH_ready (rs := [12]) (by kernel_rfl) (by simp) ?_
        refine AllReadyH.cons (arr_at rfl) (fun K hK => ?_) ?_
        · skip
          go_simp
          refine (H2.out _ (HB.out.trans (Below.mono (Bw.tr (Bw.tr (Bw.refl _) hbWK) (Bw.refl _)) HB.out.size))).mono ?_
          rintro e wI12 ⟨rfl, hbI12⟩
          have HI12 : Bw WK wI12 := Bw.tr (Bw.refl _) hbI12
          refine hK.out _ _ ?_ (fun hHeld => ?_)
          · exact HSCWK.out _ HI12
          clear hK K hbI12
          try simp only [Act.put, List.setIfInBounds_toArray, List.set_cons_zero, List.set_cons_succ]
          refine wpAnyH_ready (rs := [16]) (by kernel_rfl) (by simp) ?_
          refine AllReadyH.cons (arr_at rfl) (fun K hK => ?_) ?_
          · skip
            go_simp
            refine (H3.out _ (HB.out.trans (Below.mono (Bw.tr (Bw.tr (Bw.refl _) hbWK) (HI12)) HB.out.size))).mono ?_
            rintro e wI16 ⟨rfl, hbI16⟩
            have HI16 : Bw WK wI16 := Bw.tr (HI12) hbI16
            refine hK.out _ _ ?_ (fun hHeld => ?_)
            · exact HSCWK.out _ HI16
            clear hK K hbI16
            try simp only [Act.put, List.setIfInBounds_toArray, List.set_cons_zero, List.set_cons_succ]
            refine wpAnyH_ready (rs := [17]) (by kernel_rfl) (by simp) ?_
            refine AllReadyH.cons (arr_at rfl) (fun K hK => ?_) ?_
            · skip
              go_simp
              refine (names_c _).mono ?_
              rintro e w2 ⟨rfl, hw2⟩
              refine hK.out _ _ ?_ (fun hHeld => ?_)
              · refine HSCWK.out _ ?_
                rw [hw2]; (first | exact Bw.alloc (Bw.refl _) _ | exact Bw.alloc (Bw.drew _) _ | exact Bw.alloc (by assumption) _)
              clear hK K
              try simp only [Act.put, List.setIfInBounds_toArray, List.set_cons_zero, List.set_cons_succ]
              refine wpAnyH_named fun WN hWN => ?_
              rw [hw2] at hWN
              have hbWN : Bw WK WN := by rw [hWN]; (first | exact Bw.alloc (Bw.refl _) _ | exact Bw.alloc (Bw.drew _) _ | exact Bw.alloc (by assumption) _)
              have cWN : WN.cell? ⟨wI16.heap.size, m, none⟩ = some (.string ⟨(nameOf m).toArray⟩) := by
                have hh : WN.heap[wI16.heap.size]? = some (.cells nameCells 9 (0, 0)) := by rw [hWN]; exact heap_alloc_new _ _
                rw [cell_of_row _ _ _ _ _ _ hh]
                exact nameCells_at hm17
              have zWN : wI16.heap.size < WN.heap.size := by rw [hWN]; simp
              have HSCWN : Hid (∀ w', Bw WN w' → (((w'.cell? ⟨w.heap.size, 0, none⟩ = some (.int .i64 1) ∧ w'.cell? ⟨w.heap.size, 1, none⟩ = some (.int .i64 x1) ∧ w'.cell? ⟨w.heap.size, 2, none⟩ = some (.int .i64 x2) ∧ w'.cell? ⟨w.heap.size, 3, none⟩ = some (.int .i64 x3) ∧ w'.cell? ⟨w.heap.size, 4, none⟩ = some (.int .i64 (m : Int)) ∧ w'.cell? ⟨w.heap.size, 5, none⟩ = some (.int .i64 x5)) ∧ Bw w1 w') ∧ w'.cell? ⟨wI8.heap.size, 1, none⟩ = some (.string { data := #[99, 111, 114, 114, 101, 99, 116] }) ∧ Bw WK w') ∧ w'.cell? ⟨wI16.heap.size, m, none⟩ = some (.string ⟨(nameOf m).toArray⟩) ∧ Bw WN w') := fun w' hb => ⟨HSCWK.out _ (Bw.tr hbWN hb), (hb.cell (p := ⟨wI16.heap.size, _, none⟩) zWN).trans cWN, hb⟩
              refine wpAnyH_switch (S' := fun w' => (((w'.cell? ⟨w.heap.size, 0, none⟩ = some (.int .i64 1) ∧ w'.cell? ⟨w.heap.size, 1, none⟩ = some (.int .i64 x1) ∧ w'.cell? ⟨w.heap.size, 2, none⟩ = some (.int .i64 x2) ∧ w'.cell? ⟨w.heap.size, 3, none⟩ = some (.int .i64 x3) ∧ w'.cell? ⟨w.heap.size, 4, none⟩ = some (.int .i64 (m : Int)) ∧ w'.cell? ⟨w.heap.size, 5, none⟩ = some (.int .i64 x5)) ∧ Bw w1 w') ∧ w'.cell? ⟨wI8.heap.size, 1, none⟩ = some (.string { data := #[99, 111, 114, 114, 101, 99, 116] }) ∧ Bw WK w') ∧ w'.cell? ⟨wI16.heap.size, m, none⟩ = some (.string ⟨(nameOf m).toArray⟩) ∧ Bw WN w') (fun _ h => h.1) (HSCWN.out _ (Bw.refl _)) (fun hHeld2 => ?_)
              clear hWN hHeld hw2
              refine wpAnyH_take (i := 21) (v := ?v25) (arr_at rfl) (by kernel_rfl) (by kernel_rfl) (by kernel_rfl) (fun _ _ _ h => h) (Or.inl ⟨by rfl, ?hy25⟩) (by assumption) ?_
              case hy25 => (intro w hSw; (try dsimp only at hSw); go_simp <;> with_reducible rfl)
              try simp only [Act.put, List.setIfInBounds_toArray, List.set_cons_zero, List.set_cons_succ]
              refine wpAnyH_take (i := 22) (v := ?v26) (arr_at rfl) (by kernel_rfl) (by kernel_rfl) (by kernel_rfl) (fun _ _ _ h => h) (Or.inl ⟨by rfl, ?hy26⟩) (by assumption) ?_
              case hy26 => (intro w hSw; (try dsimp only at hSw); go_simp <;> with_reducible rfl)
              try simp only [Act.put, List.setIfInBounds_toArray, List.set_cons_zero, List.set_cons_succ]
              refine wpAnyH_ready (rs := [26]) (by kernel_rfl) (by simp) ?_
              refine AllReadyH.cons (arr_at rfl) (fun K hK => ?_) ?_
              · skip
                go_simp
                refine (H5.out _ (HB.out.trans (Below.mono (Bw.tr (Bw.tr (Bw.tr (Bw.refl _) hbWK) hbWN) (Bw.refl _)) HB.out.size))).mono ?_
                rintro e wI26 ⟨rfl, hbI26⟩
                have HI26 : Bw WN wI26 := Bw.tr (Bw.refl _) hbI26
                refine hK.out _ _ ?_ (fun hHeld => ?_)
                · exact HSCWN.out _ HI26
                clear hK K hbI26
                try simp only [Act.put, List.setIfInBounds_toArray, List.set_cons_zero, List.set_cons_succ]
                refine wpAnyH_ready (rs := [27]) (by kernel_rfl) (by simp) ?_
                refine AllReadyH.cons (arr_at rfl) (fun K hK => ?_) ?_
                · skip
                  go_simp
                  refine hK.out _ _ ?_ (fun hHeld => ?_)
                  · refine HSCWN.out _ ?_
                    (first | exact Bw.alloc (Bw.refl _) _ | exact Bw.alloc (Bw.drew _) _ | exact Bw.alloc (by assumption) _)
                  clear hK K
                  try simp only [Act.put, List.setIfInBounds_toArray, List.set_cons_zero, List.set_cons_succ]
                  refine wpAnyH_take (i := 28) (v := ?v27) (arr_at rfl) (by kernel_rfl) (by kernel_rfl) (by kernel_rfl) (fun _ _ _ h => h) (Or.inl ⟨by rfl, ?hy27⟩) (by assumption) ?_
                  case hy27 => (intro w hSw; (try dsimp only at hSw); go_simp <;> with_reducible rfl)
                  try simp only [Act.put, List.setIfInBounds_toArray, List.set_cons_zero, List.set_cons_succ]
                  refine wpAnyH_done (by kernel_rfl) ?_ _
                  refine NoPanic.normal ?_
                  refine exit_namedL (Q := Exit.then _ _) fun WF hWF => ?_
                  have hbF : Bw WN WF := by rw [hWF]; first | exact Bw.alloc (Bw.refl _) _ | exact Bw.alloc (Bw.drew _) _ | exact Bw.alloc (by assumption) _
                  have hX : WF.heap[wI26.heap.size]? = some (.cells #[.string { data := #[99, 111, 114, 114, 101, 99, 116] }, .string ⟨(itS x1).toArray⟩, .string ⟨(itS x2).toArray⟩, .string ⟨(itS x3).toArray⟩, .string ⟨(nameOf m).toArray⟩, .string ⟨(itS x5).toArray⟩] 9 (0, 0)) := by rw [hWF]; exact heap_alloc_new _ _
                  have hB1F : Bw w1 WF := Bw.tr (Bw.tr (Bw.tr (Bw.refl _) hbWK) hbWN) hbF
                  have hsa : w.heap.size ≤ wI26.heap.size := Nat.le_trans HB.out.size (Below.size (show Below w1.heap.size w1 wI26 from Bw.tr (Bw.tr (Bw.tr (Bw.refl _) hbWK) hbWN) (by first | exact Bw.refl _ | assumption)))
                  have k0 : WF.cell? ⟨w.heap.size, 0, none⟩ = some (.int .i64 1) := (HSC.out _ hB1F).1.1
                  have kv : WF.cell? ⟨w.heap.size, 6, none⟩ = some (.int .i64 v) := (hB1F.cell (p := ⟨w.heap.size, 6, none⟩) y1).trans k6
                  have hBF : Below w.heap.size w WF := HB.out.trans (hB1F.mono HB.out.size)
                  obtain ⟨bx, hbx⟩ : ∃ bx, wI26.heap.size = bx := ⟨_, rfl⟩
                  have hwb : w.heap.size ≤ bx := by rw [← hbx]; exact hsa
                  rw [hbx] at hX ⊢
                  have HX := Lib.hid hX
                  have HBF := Lib.hid hBF
                  have hxl : bx < WF.heap.size := (Array.getElem?_eq_some_iff.1 hX).1
                  clear hWF hbx hX hBF hHeld2
                  have HOWN : Hid (WF.ownsRow w.heap.size 9 1 (.slice (some ⟨bx, 0, none⟩) 6 6) 6 [.string { data := #[99, 111, 114, 114, 101, 99, 116] }, .string ⟨(itS x1).toArray⟩, .string ⟨(itS x2).toArray⟩, .string ⟨(itS x3).toArray⟩, .string ⟨(nameOf m).toArray⟩, .string ⟨(itS x5).toArray⟩]) := ownRow_of_block HX.out hwb (by simp [maxLen])
                  have hsF := HBF.out.size
                  go_wp2_with (first | (go_at_call 55; refine (HV.out _ HBF.out).mono ?_; rintro e w5 ⟨rfl, hb5⟩; have HBV : Hid (Below w.heap.size w w5) := below_step HBF.out hb5; have HOV := Lib.hid (own_below HOWN.out hb5); have hsV := HBV.out.size; clear hb5) | (at_builtin; go_loud (refine wpList_append_own _ rfl (.tmp 35) (.tmp 39) _ rfl w.heap.size 9 Tryz.t9 _ 1 16 rfl hI.out rfl rfl rfl rfl (by omega) (.slice (some ⟨bx, 0, none⟩) 6 6) 6 _ rfl (HOV.out.alloc _) ⟨w5.heap.size, 0, none⟩ 1 1 [.string ⟨(itS v).toArray⟩] rfl rfl (newCells _ _ _) (by simp [Value.oneCell']) (by simp only [maxLen]; omega) (by omega) (by simp; omega) ?_; intro v' w6 ho hg hn; have HO := Lib.hid ho; have HB6 := Lib.hid ((HBV.out.alloc hsV _).grown hg (by simp; omega) (fun j hj => by simp [Value.ownBlock] at hj; omega)); clear ho hg hn)))
                  have hwords : lineWordsG (1, (x1, x2, x3, (m : Int), x5), v) = [[99, 111, 114, 114, 101, 99, 116], itS x1, itS x2, itS x3, nameOf m, itS x5, itS v] := rfl
                  have HWD := Lib.hid hwords
                  have hlen := HJ.out
                  rw [hwords] at hlen
                  clear hwords
                  refine (join_of_own (ws := [[99, 111, 114, 114, 101, 99, 116], itS x1, itS x2, itS x3, nameOf m, itS x5, itS v]) HO.out rfl (by omega) (by omega) hlen).mono ?_
                  rintro e w7 ⟨rfl, hb7⟩
                  have HB7 := Lib.hid (below_step HB6.out hb7)
                  clear hb7
                  obtain ⟨J, hJ⟩ : ∃ J, Lib.join [[99, 111, 114, 114, 101, 99, 116], itS x1, itS x2, itS x3, nameOf m, itS x5, itS v] [32] = J := ⟨_, rfl⟩
                  rw [hJ] at hlen ⊢
                  have hadd : ∀ w, (Op.stringOp .add ⟨J.toArray⟩ ⟨#[10]⟩).run Tryz.prog w = .ok (.string ⟨(J ++ [10]).toArray⟩) w := fun w => run_string_add_lists w J [10] (by omega) (by simp)
                  have HLL : Hid (LL = J ++ [10]) := HL.out.trans (by rw [HWD.out, hJ])
                  clear hJ
                  go_wp2
                  go_ret
                  exact ⟨by rw [HLL.out]; rfl, HB7.out⟩
                exact AllReadyH.nil
              exact AllReadyH.nil
            exact AllReadyH.nil
          exact AllReadyH.nil
        exact AllReadyH.nil
      refine AllReadyH.cons (arr_at rfl) (fun K hK => ?_) ?_
      · skip
        go_simp
        refine (H2.out _ (HB.out.trans (Below.mono (Bw.tr (Bw.refl _) (HI8)) HB.out.size))).mono ?_
        rintro e wI12 ⟨rfl, hbI12⟩
        have HI12 : Bw w1 wI12 := Bw.tr (HI8) hbI12
        refine hK.out _ _ ?_ (fun hHeld => ?_)
        · exact HSC.out _ HI12
        clear hK K hbI12
        try simp only [Act.put, List.setIfInBounds_toArray, List.set_cons_zero, List.set_cons_succ]
        refine wpAnyH_ready (rs := [0, 16]) (by kernel_rfl) (by simp) ?_
        refine AllReadyH.cons (arr_at rfl) (fun K hK => ?_) ?_
        · skip
          go_simp
          refine hK.out _ _ ?_ (fun hHeld => ?_)
          · refine HSC.out _ ?_
            (first | exact Bw.alloc (Bw.refl _) _ | exact Bw.alloc (Bw.drew _) _ | exact Bw.alloc (by assumption) _)
          clear hK K
          try simp only [Act.put, List.setIfInBounds_toArray, List.set_cons_zero, List.set_cons_succ]
          refine wpAnyH_named fun WK hWK => ?_
          have hbWK : Bw w1 WK := by rw [hWK]; (first | exact Bw.alloc (Bw.refl _) _ | exact Bw.alloc (Bw.drew _) _ | exact Bw.alloc (by assumption) _)
          have cWK : WK.cell? ⟨wI12.heap.size, 1, none⟩ = some (.string { data := #[99, 111, 114, 114, 101, 99, 116] }) := by
            rw [hWK]; go_simp
          have zWK : wI12.heap.size < WK.heap.size := by rw [hWK]; simp
          have HSCWK : Hid (∀ w', Bw WK w' → ((w'.cell? ⟨w.heap.size, 0, none⟩ = some (.int .i64 1) ∧ w'.cell? ⟨w.heap.size, 1, none⟩ = some (.int .i64 x1) ∧ w'.cell? ⟨w.heap.size, 2, none⟩ = some (.int .i64 x2) ∧ w'.cell? ⟨w.heap.size, 3, none⟩ = some (.int .i64 x3) ∧ w'.cell? ⟨w.heap.size, 4, none⟩ = some (.int .i64 (m : Int)) ∧ w'.cell? ⟨w.heap.size, 5, none⟩ = some (.int .i64 x5)) ∧ Bw w1 w') ∧ w'.cell? ⟨wI12.heap.size, 1, none⟩ = some (.string { data := #[99, 111, 114, 114, 101, 99, 116] }) ∧ Bw WK w') := fun w' hb => ⟨HSC.out _ (Bw.tr hbWK hb), (hb.cell (p := ⟨wI12.heap.size, _, none⟩) zWK).trans cWK, hb⟩
          refine wpAnyH_switch (S' := fun w' => ((w'.cell? ⟨w.heap.size, 0, none⟩ = some (.int .i64 1) ∧ w'.cell? ⟨w.heap.size, 1, none⟩ = some (.int .i64 x1) ∧ w'.cell? ⟨w.heap.size, 2, none⟩ = some (.int .i64 x2) ∧ w'.cell? ⟨w.heap.size, 3, none⟩ = some (.int .i64 x3) ∧ w'.cell? ⟨w.heap.size, 4, none⟩ = some (.int .i64 (m : Int)) ∧ w'.cell? ⟨w.heap.size, 5, none⟩ = some (.int .i64 x5)) ∧ Bw w1 w') ∧ w'.cell? ⟨wI12.heap.size, 1, none⟩ = some (.string { data := #[99, 111, 114, 114, 101, 99, 116] }) ∧ Bw WK w') (fun _ h => h.1) (HSCWK.out _ (Bw.refl _)) (fun hHeld2 => ?_)
          clear hWK hHeld
          refine wpAnyH_take (i := 3) (v := ?v28) (arr_at rfl) (by kernel_rfl) (by kernel_rfl) (by kernel_rfl) (fun _ _ _ h => h) (Or.inl ⟨by rfl, ?hy28⟩) (by assumption) ?_
          case hy28 => (intro w hSw; (try dsimp only at hSw); go_simp <;> with_reducible rfl)
          try simp only [Act.put, List.setIfInBounds_toArray, List.set_cons_zero, List.set_cons_succ]
          refine wpAnyH_take (i := 4) (v := ?v29) (arr_at rfl) (by kernel_rfl) (by kernel_rfl) (by kernel_rfl) (fun _ _ _ h => h) (Or.inl ⟨by rfl, ?hy29⟩) (by assumption) ?_
          case hy29 => (intro w hSw; (try dsimp only at hSw); go_simp <;> with_reducible rfl)
          try simp only [Act.put, List.setIfInBounds_toArray, List.set_cons_zero, List.set_cons_succ]
          refine wpAnyH_ready (rs := [16]) (by kernel_rfl) (by simp) ?_
          refine AllReadyH.cons (arr_at rfl) (fun K hK => ?_) ?_
          · skip
            go_simp
            refine (H3.out _ (HB.out.trans (Below.mono (Bw.tr (Bw.tr (Bw.refl _) hbWK) (Bw.refl _)) HB.out.size))).mono ?_
            rintro e wI16 ⟨rfl, hbI16⟩
            have HI16 : Bw WK wI16 := Bw.tr (Bw.refl _) hbI16
            refine hK.out _ _ ?_ (fun hHeld => ?_)
            · exact HSCWK.out _ HI16
            clear hK K hbI16
            try simp only [Act.put, List.setIfInBounds_toArray, List.set_cons_zero, List.set_cons_succ]
            refine wpAnyH_ready (rs := [17]) (by kernel_rfl) (by simp) ?_
            refine AllReadyH.cons (arr_at rfl) (fun K hK => ?_) ?_
            · skip
              go_simp
              refine (names_c _).mono ?_
              rintro e w2 ⟨rfl, hw2⟩
              refine hK.out _ _ ?_ (fun hHeld => ?_)
              · refine HSCWK.out _ ?_
                rw [hw2]; (first | exact Bw.alloc (Bw.refl _) _ | exact Bw.alloc (Bw.drew _) _ | exact Bw.alloc (by assumption) _)
              clear hK K
              try simp only [Act.put, List.setIfInBounds_toArray, List.set_cons_zero, List.set_cons_succ]
              refine wpAnyH_named fun WN hWN => ?_
              rw [hw2] at hWN
              have hbWN : Bw WK WN := by rw [hWN]; (first | exact Bw.alloc (Bw.refl _) _ | exact Bw.alloc (Bw.drew _) _ | exact Bw.alloc (by assumption) _)
              have cWN : WN.cell? ⟨wI16.heap.size, m, none⟩ = some (.string ⟨(nameOf m).toArray⟩) := by
                have hh : WN.heap[wI16.heap.size]? = some (.cells nameCells 9 (0, 0)) := by rw [hWN]; exact heap_alloc_new _ _
                rw [cell_of_row _ _ _ _ _ _ hh]
                exact nameCells_at hm17
              have zWN : wI16.heap.size < WN.heap.size := by rw [hWN]; simp
              have HSCWN : Hid (∀ w', Bw WN w' → (((w'.cell? ⟨w.heap.size, 0, none⟩ = some (.int .i64 1) ∧ w'.cell? ⟨w.heap.size, 1, none⟩ = some (.int .i64 x1) ∧ w'.cell? ⟨w.heap.size, 2, none⟩ = some (.int .i64 x2) ∧ w'.cell? ⟨w.heap.size, 3, none⟩ = some (.int .i64 x3) ∧ w'.cell? ⟨w.heap.size, 4, none⟩ = some (.int .i64 (m : Int)) ∧ w'.cell? ⟨w.heap.size, 5, none⟩ = some (.int .i64 x5)) ∧ Bw w1 w') ∧ w'.cell? ⟨wI12.heap.size, 1, none⟩ = some (.string { data := #[99, 111, 114, 114, 101, 99, 116] }) ∧ Bw WK w') ∧ w'.cell? ⟨wI16.heap.size, m, none⟩ = some (.string ⟨(nameOf m).toArray⟩) ∧ Bw WN w') := fun w' hb => ⟨HSCWK.out _ (Bw.tr hbWN hb), (hb.cell (p := ⟨wI16.heap.size, _, none⟩) zWN).trans cWN, hb⟩
              refine wpAnyH_switch (S' := fun w' => (((w'.cell? ⟨w.heap.size, 0, none⟩ = some (.int .i64 1) ∧ w'.cell? ⟨w.heap.size, 1, none⟩ = some (.int .i64 x1) ∧ w'.cell? ⟨w.heap.size, 2, none⟩ = some (.int .i64 x2) ∧ w'.cell? ⟨w.heap.size, 3, none⟩ = some (.int .i64 x3) ∧ w'.cell? ⟨w.heap.size, 4, none⟩ = some (.int .i64 (m : Int)) ∧ w'.cell? ⟨w.heap.size, 5, none⟩ = some (.int .i64 x5)) ∧ Bw w1 w') ∧ w'.cell? ⟨wI12.heap.size, 1, none⟩ = some (.string { data := #[99, 111, 114, 114, 101, 99, 116] }) ∧ Bw WK w') ∧ w'.cell? ⟨wI16.heap.size, m, none⟩ = some (.string ⟨(nameOf m).toArray⟩) ∧ Bw WN w') (fun _ h => h.1) (HSCWN.out _ (Bw.refl _)) (fun hHeld2 => ?_)
              clear hWN hHeld hw2
              refine wpAnyH_take (i := 21) (v := ?v30) (arr_at rfl) (by kernel_rfl) (by kernel_rfl) (by kernel_rfl) (fun _ _ _ h => h) (Or.inl ⟨by rfl, ?hy30⟩) (by assumption) ?_
              case hy30 => (intro w hSw; (try dsimp only at hSw); go_simp <;> with_reducible rfl)
              try simp only [Act.put, List.setIfInBounds_toArray, List.set_cons_zero, List.set_cons_succ]
              refine wpAnyH_take (i := 22) (v := ?v31) (arr_at rfl) (by kernel_rfl) (by kernel_rfl) (by kernel_rfl) (fun _ _ _ h => h) (Or.inl ⟨by rfl, ?hy31⟩) (by assumption) ?_
              case hy31 => (intro w hSw; (try dsimp only at hSw); go_simp <;> with_reducible rfl)
              try simp only [Act.put, List.setIfInBounds_toArray, List.set_cons_zero, List.set_cons_succ]
              refine wpAnyH_ready (rs := [26]) (by kernel_rfl) (by simp) ?_
              refine AllReadyH.cons (arr_at rfl) (fun K hK => ?_) ?_
              · skip
                go_simp
                refine (H5.out _ (HB.out.trans (Below.mono (Bw.tr (Bw.tr (Bw.tr (Bw.refl _) hbWK) hbWN) (Bw.refl _)) HB.out.size))).mono ?_
                rintro e wI26 ⟨rfl, hbI26⟩
                have HI26 : Bw WN wI26 := Bw.tr (Bw.refl _) hbI26
                refine hK.out _ _ ?_ (fun hHeld => ?_)
                · exact HSCWN.out _ HI26
                clear hK K hbI26
                try simp only [Act.put, List.setIfInBounds_toArray, List.set_cons_zero, List.set_cons_succ]
                refine wpAnyH_ready (rs := [27]) (by kernel_rfl) (by simp) ?_
                refine AllReadyH.cons (arr_at rfl) (fun K hK => ?_) ?_
                · skip
                  go_simp
                  refine hK.out _ _ ?_ (fun hHeld => ?_)
                  · refine HSCWN.out _ ?_
                    (first | exact Bw.alloc (Bw.refl _) _ | exact Bw.alloc (Bw.drew _) _ | exact Bw.alloc (by assumption) _)
                  clear hK K
                  try simp only [Act.put, List.setIfInBounds_toArray, List.set_cons_zero, List.set_cons_succ]
                  refine wpAnyH_take (i := 28) (v := ?v32) (arr_at rfl) (by kernel_rfl) (by kernel_rfl) (by kernel_rfl) (fun _ _ _ h => h) (Or.inl ⟨by rfl, ?hy32⟩) (by assumption) ?_
                  case hy32 => (intro w hSw; (try dsimp only at hSw); go_simp <;> with_reducible rfl)
                  try simp only [Act.put, List.setIfInBounds_toArray, List.set_cons_zero, List.set_cons_succ]
                  refine wpAnyH_done (by kernel_rfl) ?_ _
                  refine NoPanic.normal ?_
                  refine exit_namedL (Q := Exit.then _ _) fun WF hWF => ?_
                  have hbF : Bw WN WF := by rw [hWF]; first | exact Bw.alloc (Bw.refl _) _ | exact Bw.alloc (Bw.drew _) _ | exact Bw.alloc (by assumption) _
                  have hX : WF.heap[wI26.heap.size]? = some (.cells #[.string { data := #[99, 111, 114, 114, 101, 99, 116] }, .string ⟨(itS x1).toArray⟩, .string ⟨(itS x2).toArray⟩, .string ⟨(itS x3).toArray⟩, .string ⟨(nameOf m).toArray⟩, .string ⟨(itS x5).toArray⟩] 9 (0, 0)) := by rw [hWF]; exact heap_alloc_new _ _
                  have hB1F : Bw w1 WF := Bw.tr (Bw.tr (Bw.tr (Bw.refl _) hbWK) hbWN) hbF
                  have hsa : w.heap.size ≤ wI26.heap.size := Nat.le_trans HB.out.size (Below.size (show Below w1.heap.size w1 wI26 from Bw.tr (Bw.tr (Bw.tr (Bw.refl _) hbWK) hbWN) (by first | exact Bw.refl _ | assumption)))
                  have k0 : WF.cell? ⟨w.heap.size, 0, none⟩ = some (.int .i64 1) := (HSC.out _ hB1F).1.1
                  have kv : WF.cell? ⟨w.heap.size, 6, none⟩ = some (.int .i64 v) := (hB1F.cell (p := ⟨w.heap.size, 6, none⟩) y1).trans k6
                  have hBF : Below w.heap.size w WF := HB.out.trans (hB1F.mono HB.out.size)
                  obtain ⟨bx, hbx⟩ : ∃ bx, wI26.heap.size = bx := ⟨_, rfl⟩
                  have hwb : w.heap.size ≤ bx := by rw [← hbx]; exact hsa
                  rw [hbx] at hX ⊢
                  have HX := Lib.hid hX
                  have HBF := Lib.hid hBF
                  have hxl : bx < WF.heap.size := (Array.getElem?_eq_some_iff.1 hX).1
                  clear hWF hbx hX hBF hHeld2
                  have HOWN : Hid (WF.ownsRow w.heap.size 9 1 (.slice (some ⟨bx, 0, none⟩) 6 6) 6 [.string { data := #[99, 111, 114, 114, 101, 99, 116] }, .string ⟨(itS x1).toArray⟩, .string ⟨(itS x2).toArray⟩, .string ⟨(itS x3).toArray⟩, .string ⟨(nameOf m).toArray⟩, .string ⟨(itS x5).toArray⟩]) := ownRow_of_block HX.out hwb (by simp [maxLen])
                  have hsF := HBF.out.size
                  go_wp2_with (first | (go_at_call 55; refine (HV.out _ HBF.out).mono ?_; rintro e w5 ⟨rfl, hb5⟩; have HBV : Hid (Below w.heap.size w w5) := below_step HBF.out hb5; have HOV := Lib.hid (own_below HOWN.out hb5); have hsV := HBV.out.size; clear hb5) | (at_builtin; go_loud (refine wpList_append_own _ rfl (.tmp 35) (.tmp 39) _ rfl w.heap.size 9 Tryz.t9 _ 1 16 rfl hI.out rfl rfl rfl rfl (by omega) (.slice (some ⟨bx, 0, none⟩) 6 6) 6 _ rfl (HOV.out.alloc _) ⟨w5.heap.size, 0, none⟩ 1 1 [.string ⟨(itS v).toArray⟩] rfl rfl (newCells _ _ _) (by simp [Value.oneCell']) (by simp only [maxLen]; omega) (by omega) (by simp; omega) ?_; intro v' w6 ho hg hn; have HO := Lib.hid ho; have HB6 := Lib.hid ((HBV.out.alloc hsV _).grown hg (by simp; omega) (fun j hj => by simp [Value.ownBlock] at hj; omega)); clear ho hg hn)))
                  have hwords : lineWordsG (1, (x1, x2, x3, (m : Int), x5), v) = [[99, 111, 114, 114, 101, 99, 116], itS x1, itS x2, itS x3, nameOf m, itS x5, itS v] := rfl
                  have HWD := Lib.hid hwords
                  have hlen := HJ.out
                  rw [hwords] at hlen
                  clear hwords
                  refine (join_of_own (ws := [[99, 111, 114, 114, 101, 99, 116], itS x1, itS x2, itS x3, nameOf m, itS x5, itS v]) HO.out rfl (by omega) (by omega) hlen).mono ?_
                  rintro e w7 ⟨rfl, hb7⟩
                  have HB7 := Lib.hid (below_step HB6.out hb7)
                  clear hb7
                  obtain ⟨J, hJ⟩ : ∃ J, Lib.join [[99, 111, 114, 114, 101, 99, 116], itS x1, itS x2, itS x3, nameOf m, itS x5, itS v] [32] = J := ⟨_, rfl⟩
                  rw [hJ] at hlen ⊢
                  have hadd : ∀ w, (Op.stringOp .add ⟨J.toArray⟩ ⟨#[10]⟩).run Tryz.prog w = .ok (.string ⟨(J ++ [10]).toArray⟩) w := fun w => run_string_add_lists w J [10] (by omega) (by simp)
                  have HLL : Hid (LL = J ++ [10]) := HL.out.trans (by rw [HWD.out, hJ])
                  clear hJ
                  go_wp2
                  go_ret
                  exact ⟨by rw [HLL.out]; rfl, HB7.out⟩
                exact AllReadyH.nil
              exact AllReadyH.nil
            exact AllReadyH.nil
          exact AllReadyH.nil
        refine AllReadyH.cons (arr_at rfl) (fun K hK => ?_) ?_
        · skip
          go_simp
          refine (H3.out _ (HB.out.trans (Below.mono (Bw.tr (Bw.refl _) (HI12)) HB.out.size))).mono ?_
          rintro e wI16 ⟨rfl, hbI16⟩
          have HI16 : Bw w1 wI16 := Bw.tr (HI12) hbI16
          refine hK.out _ _ ?_ (fun hHeld => ?_)
          · exact HSC.out _ HI16
          clear hK K hbI16
          try simp only [Act.put, List.setIfInBounds_toArray, List.set_cons_zero, List.set_cons_succ]
          refine wpAnyH_ready (rs := [0, 17]) (by kernel_rfl) (by simp) ?_
          refine AllReadyH.cons (arr_at rfl) (fun K hK => ?_) ?_
          · skip
            go_simp
            refine hK.out _ _ ?_ (fun hHeld => ?_)
            · refine HSC.out _ ?_
              (first | exact Bw.alloc (Bw.refl _) _ | exact Bw.alloc (Bw.drew _) _ | exact Bw.alloc (by assumption) _)
            clear hK K
            try simp only [Act.put, List.setIfInBounds_toArray, List.set_cons_zero, List.set_cons_succ]
            refine wpAnyH_named fun WK hWK => ?_
            have hbWK : Bw w1 WK := by rw [hWK]; (first | exact Bw.alloc (Bw.refl _) _ | exact Bw.alloc (Bw.drew _) _ | exact Bw.alloc (by assumption) _)
            have cWK : WK.cell? ⟨wI16.heap.size, 1, none⟩ = some (.string { data := #[99, 111, 114, 114, 101, 99, 116] }) := by
              rw [hWK]; go_simp
            have zWK : wI16.heap.size < WK.heap.size := by rw [hWK]; simp
            have HSCWK : Hid (∀ w', Bw WK w' → ((w'.cell? ⟨w.heap.size, 0, none⟩ = some (.int .i64 1) ∧ w'.cell? ⟨w.heap.size, 1, none⟩ = some (.int .i64 x1) ∧ w'.cell? ⟨w.heap.size, 2, none⟩ = some (.int .i64 x2) ∧ w'.cell? ⟨w.heap.size, 3, none⟩ = some (.int .i64 x3) ∧ w'.cell? ⟨w.heap.size, 4, none⟩ = some (.int .i64 (m : Int)) ∧ w'.cell? ⟨w.heap.size, 5, none⟩ = some (.int .i64 x5)) ∧ Bw w1 w') ∧ w'.cell? ⟨wI16.heap.size, 1, none⟩ = some (.string { data := #[99, 111, 114, 114, 101, 99, 116] }) ∧ Bw WK w') := fun w' hb => ⟨HSC.out _ (Bw.tr hbWK hb), (hb.cell (p := ⟨wI16.heap.size, _, none⟩) zWK).trans cWK, hb⟩
            refine wpAnyH_switch (S' := fun w' => ((w'.cell? ⟨w.heap.size, 0, none⟩ = some (.int .i64 1) ∧ w'.cell? ⟨w.heap.size, 1, none⟩ = some (.int .i64 x1) ∧ w'.cell? ⟨w.heap.size, 2, none⟩ = some (.int .i64 x2) ∧ w'.cell? ⟨w.heap.size, 3, none⟩ = some (.int .i64 x3) ∧ w'.cell? ⟨w.heap.size, 4, none⟩ = some (.int .i64 (m : Int)) ∧ w'.cell? ⟨w.heap.size, 5, none⟩ = some (.int .i64 x5)) ∧ Bw w1 w') ∧ w'.cell? ⟨wI16.heap.size, 1, none⟩ = some (.string { data := #[99, 111, 114, 114, 101, 99, 116] }) ∧ Bw WK w') (fun _ h => h.1) (HSCWK.out _ (Bw.refl _)) (fun hHeld2 => ?_)
            clear hWK hHeld
            refine wpAnyH_take (i := 3) (v := ?v33) (arr_at rfl) (by kernel_rfl) (by kernel_rfl) (by kernel_rfl) (fun _ _ _ h => h) (Or.inl ⟨by rfl, ?hy33⟩) (by assumption) ?_
            case hy33 => (intro w hSw; (try dsimp only at hSw); go_simp <;> with_reducible rfl)
            try simp only [Act.put, List.setIfInBounds_toArray, List.set_cons_zero, List.set_cons_succ]
            refine wpAnyH_take (i := 4) (v := ?v34) (arr_at rfl) (by kernel_rfl) (by kernel_rfl) (by kernel_rfl) (fun _ _ _ h => h) (Or.inl ⟨by rfl, ?hy34⟩) (by assumption) ?_
            case hy34 => (intro w hSw; (try dsimp only at hSw); go_simp <;> with_reducible rfl)
            try simp only [Act.put, List.setIfInBounds_toArray, List.set_cons_zero, List.set_cons_succ]
            refine wpAnyH_ready (rs := [17]) (by kernel_rfl) (by simp) ?_
            refine AllReadyH.cons (arr_at rfl) (fun K hK => ?_) ?_
            · skip
              go_simp
              refine (names_c _).mono ?_
              rintro e w2 ⟨rfl, hw2⟩
              refine hK.out _ _ ?_ (fun hHeld => ?_)
              · refine HSCWK.out _ ?_
                rw [hw2]; (first | exact Bw.alloc (Bw.refl _) _ | exact Bw.alloc (Bw.drew _) _ | exact Bw.alloc (by assumption) _)
              clear hK K
              try simp only [Act.put, List.setIfInBounds_toArray, List.set_cons_zero, List.set_cons_succ]
              refine wpAnyH_named fun WN hWN => ?_
              rw [hw2] at hWN
              have hbWN : Bw WK WN := by rw [hWN]; (first | exact Bw.alloc (Bw.refl _) _ | exact Bw.alloc (Bw.drew _) _ | exact Bw.alloc (by assumption) _)
              have cWN : WN.cell? ⟨WK.heap.size, m, none⟩ = some (.string ⟨(nameOf m).toArray⟩) := by
                have hh : WN.heap[WK.heap.size]? = some (.cells nameCells 9 (0, 0)) := by rw [hWN]; exact heap_alloc_new _ _
                rw [cell_of_row _ _ _ _ _ _ hh]
                exact nameCells_at hm17
              have zWN : WK.heap.size < WN.heap.size := by rw [hWN]; simp
              have HSCWN : Hid (∀ w', Bw WN w' → (((w'.cell? ⟨w.heap.size, 0, none⟩ = some (.int .i64 1) ∧ w'.cell? ⟨w.heap.size, 1, none⟩ = some (.int .i64 x1) ∧ w'.cell? ⟨w.heap.size, 2, none⟩ = some (.int .i64 x2) ∧ w'.cell? ⟨w.heap.size, 3, none⟩ = some (.int .i64 x3) ∧ w'.cell? ⟨w.heap.size, 4, none⟩ = some (.int .i64 (m : Int)) ∧ w'.cell? ⟨w.heap.size, 5, none⟩ = some (.int .i64 x5)) ∧ Bw w1 w') ∧ w'.cell? ⟨wI16.heap.size, 1, none⟩ = some (.string { data := #[99, 111, 114, 114, 101, 99, 116] }) ∧ Bw WK w') ∧ w'.cell? ⟨WK.heap.size, m, none⟩ = some (.string ⟨(nameOf m).toArray⟩) ∧ Bw WN w') := fun w' hb => ⟨HSCWK.out _ (Bw.tr hbWN hb), (hb.cell (p := ⟨WK.heap.size, _, none⟩) zWN).trans cWN, hb⟩
              refine wpAnyH_switch (S' := fun w' => (((w'.cell? ⟨w.heap.size, 0, none⟩ = some (.int .i64 1) ∧ w'.cell? ⟨w.heap.size, 1, none⟩ = some (.int .i64 x1) ∧ w'.cell? ⟨w.heap.size, 2, none⟩ = some (.int .i64 x2) ∧ w'.cell? ⟨w.heap.size, 3, none⟩ = some (.int .i64 x3) ∧ w'.cell? ⟨w.heap.size, 4, none⟩ = some (.int .i64 (m : Int)) ∧ w'.cell? ⟨w.heap.size, 5, none⟩ = some (.int .i64 x5)) ∧ Bw w1 w') ∧ w'.cell? ⟨wI16.heap.size, 1, none⟩ = some (.string { data := #[99, 111, 114, 114, 101, 99, 116] }) ∧ Bw WK w') ∧ w'.cell? ⟨WK.heap.size, m, none⟩ = some (.string ⟨(nameOf m).toArray⟩) ∧ Bw WN w') (fun _ h => h.1) (HSCWN.out _ (Bw.refl _)) (fun hHeld2 => ?_)
              clear hWN hHeld hw2
              refine wpAnyH_take (i := 21) (v := ?v35) (arr_at rfl) (by kernel_rfl) (by kernel_rfl) (by kernel_rfl) (fun _ _ _ h => h) (Or.inl ⟨by rfl, ?hy35⟩) (by assumption) ?_
              case hy35 => (intro w hSw; (try dsimp only at hSw); go_simp <;> with_reducible rfl)
              try simp only [Act.put, List.setIfInBounds_toArray, List.set_cons_zero, List.set_cons_succ]
              refine wpAnyH_take (i := 22) (v := ?v36) (arr_at rfl) (by kernel_rfl) (by kernel_rfl) (by kernel_rfl) (fun _ _ _ h => h) (Or.inl ⟨by rfl, ?hy36⟩) (by assumption) ?_
              case hy36 => (intro w hSw; (try dsimp only at hSw); go_simp <;> with_reducible rfl)
              try simp only [Act.put, List.setIfInBounds_toArray, List.set_cons_zero, List.set_cons_succ]
              refine wpAnyH_ready (rs := [26]) (by kernel_rfl) (by simp) ?_
              refine AllReadyH.cons (arr_at rfl) (fun K hK => ?_) ?_
              · skip
                go_simp
                refine (H5.out _ (HB.out.trans (Below.mono (Bw.tr (Bw.tr (Bw.tr (Bw.refl _) hbWK) hbWN) (Bw.refl _)) HB.out.size))).mono ?_
                rintro e wI26 ⟨rfl, hbI26⟩
                have HI26 : Bw WN wI26 := Bw.tr (Bw.refl _) hbI26
                refine hK.out _ _ ?_ (fun hHeld => ?_)
                · exact HSCWN.out _ HI26
                clear hK K hbI26
                try simp only [Act.put, List.setIfInBounds_toArray, List.set_cons_zero, List.set_cons_succ]
                refine wpAnyH_ready (rs := [27]) (by kernel_rfl) (by simp) ?_
                refine AllReadyH.cons (arr_at rfl) (fun K hK => ?_) ?_
                · skip
                  go_simp
                  refine hK.out _ _ ?_ (fun hHeld => ?_)
                  · refine HSCWN.out _ ?_
                    (first | exact Bw.alloc (Bw.refl _) _ | exact Bw.alloc (Bw.drew _) _ | exact Bw.alloc (by assumption) _)
                  clear hK K
                  try simp only [Act.put, List.setIfInBounds_toArray, List.set_cons_zero, List.set_cons_succ]
                  refine wpAnyH_take (i := 28) (v := ?v37) (arr_at rfl) (by kernel_rfl) (by kernel_rfl) (by kernel_rfl) (fun _ _ _ h => h) (Or.inl ⟨by rfl, ?hy37⟩) (by assumption) ?_
                  case hy37 => (intro w hSw; (try dsimp only at hSw); go_simp <;> with_reducible rfl)
                  try simp only [Act.put, List.setIfInBounds_toArray, List.set_cons_zero, List.set_cons_succ]
                  refine wpAnyH_done (by kernel_rfl) ?_ _
                  refine NoPanic.normal ?_
                  refine exit_namedL (Q := Exit.then _ _) fun WF hWF => ?_
                  have hbF : Bw WN WF := by rw [hWF]; first | exact Bw.alloc (Bw.refl _) _ | exact Bw.alloc (Bw.drew _) _ | exact Bw.alloc (by assumption) _
                  have hX : WF.heap[wI26.heap.size]? = some (.cells #[.string { data := #[99, 111, 114, 114, 101, 99, 116] }, .string ⟨(itS x1).toArray⟩, .string ⟨(itS x2).toArray⟩, .string ⟨(itS x3).toArray⟩, .string ⟨(nameOf m).toArray⟩, .string ⟨(itS x5).toArray⟩] 9 (0, 0)) := by rw [hWF]; exact heap_alloc_new _ _
                  have hB1F : Bw w1 WF := Bw.tr (Bw.tr (Bw.tr (Bw.refl _) hbWK) hbWN) hbF
                  have hsa : w.heap.size ≤ wI26.heap.size := Nat.le_trans HB.out.size (Below.size (show Below w1.heap.size w1 wI26 from Bw.tr (Bw.tr (Bw.tr (Bw.refl _) hbWK) hbWN) (by first | exact Bw.refl _ | assumption)))
                  have k0 : WF.cell? ⟨w.heap.size, 0, none⟩ = some (.int .i64 1) := (HSC.out _ hB1F).1.1
                  have kv : WF.cell? ⟨w.heap.size, 6, none⟩ = some (.int .i64 v) := (hB1F.cell (p := ⟨w.heap.size, 6, none⟩) y1).trans k6
                  have hBF : Below w.heap.size w WF := HB.out.trans (hB1F.mono HB.out.size)
                  obtain ⟨bx, hbx⟩ : ∃ bx, wI26.heap.size = bx := ⟨_, rfl⟩
                  have hwb : w.heap.size ≤ bx := by rw [← hbx]; exact hsa
                  rw [hbx] at hX ⊢
                  have HX := Lib.hid hX
                  have HBF := Lib.hid hBF
                  have hxl : bx < WF.heap.size := (Array.getElem?_eq_some_iff.1 hX).1
                  clear hWF hbx hX hBF hHeld2
                  have HOWN : Hid (WF.ownsRow w.heap.size 9 1 (.slice (some ⟨bx, 0, none⟩) 6 6) 6 [.string { data := #[99, 111, 114, 114, 101, 99, 116] }, .string ⟨(itS x1).toArray⟩, .string ⟨(itS x2).toArray⟩, .string ⟨(itS x3).toArray⟩, .string ⟨(nameOf m).toArray⟩, .string ⟨(itS x5).toArray⟩]) := ownRow_of_block HX.out hwb (by simp [maxLen])
                  have hsF := HBF.out.size
                  go_wp2_with (first | (go_at_call 55; refine (HV.out _ HBF.out).mono ?_; rintro e w5 ⟨rfl, hb5⟩; have HBV : Hid (Below w.heap.size w w5) := below_step HBF.out hb5; have HOV := Lib.hid (own_below HOWN.out hb5); have hsV := HBV.out.size; clear hb5) | (at_builtin; go_loud (refine wpList_append_own _ rfl (.tmp 35) (.tmp 39) _ rfl w.heap.size 9 Tryz.t9 _ 1 16 rfl hI.out rfl rfl rfl rfl (by omega) (.slice (some ⟨bx, 0, none⟩) 6 6) 6 _ rfl (HOV.out.alloc _) ⟨w5.heap.size, 0, none⟩ 1 1 [.string ⟨(itS v).toArray⟩] rfl rfl (newCells _ _ _) (by simp [Value.oneCell']) (by simp only [maxLen]; omega) (by omega) (by simp; omega) ?_; intro v' w6 ho hg hn; have HO := Lib.hid ho; have HB6 := Lib.hid ((HBV.out.alloc hsV _).grown hg (by simp; omega) (fun j hj => by simp [Value.ownBlock] at hj; omega)); clear ho hg hn)))
                  have hwords : lineWordsG (1, (x1, x2, x3, (m : Int), x5), v) = [[99, 111, 114, 114, 101, 99, 116], itS x1, itS x2, itS x3, nameOf m, itS x5, itS v] := rfl
                  have HWD := Lib.hid hwords
                  have hlen := HJ.out
                  rw [hwords] at hlen
                  clear hwords
                  refine (join_of_own (ws := [[99, 111, 114, 114, 101, 99, 116], itS x1, itS x2, itS x3, nameOf m, itS x5, itS v]) HO.out rfl (by omega) (by omega) hlen).mono ?_
                  rintro e w7 ⟨rfl, hb7⟩
                  have HB7 := Lib.hid (below_step HB6.out hb7)
                  clear hb7
                  obtain ⟨J, hJ⟩ : ∃ J, Lib.join [[99, 111, 114, 114, 101, 99, 116], itS x1, itS x2, itS x3, nameOf m, itS x5, itS v] [32] = J := ⟨_, rfl⟩
                  rw [hJ] at hlen ⊢
                  have hadd : ∀ w, (Op.stringOp .add ⟨J.toArray⟩ ⟨#[10]⟩).run Tryz.prog w = .ok (.string ⟨(J ++ [10]).toArray⟩) w := fun w => run_string_add_lists w J [10] (by omega) (by simp)
                  have HLL : Hid (LL = J ++ [10]) := HL.out.trans (by rw [HWD.out, hJ])
                  clear hJ
                  go_wp2
                  go_ret
                  exact ⟨by rw [HLL.out]; rfl, HB7.out⟩
                exact AllReadyH.nil
              exact AllReadyH.nil
            exact AllReadyH.nil
          refine AllReadyH.cons (arr_at rfl) (fun K hK => ?_) ?_
          · skip
            go_simp
            refine (names_c _).mono ?_
            rintro e w2 ⟨rfl, hw2⟩
            refine hK.out _ _ ?_ (fun hHeld => ?_)
            · refine HSC.out _ ?_
              rw [hw2]; (first | exact Bw.alloc (Bw.refl _) _ | exact Bw.alloc (Bw.drew _) _ | exact Bw.alloc (by assumption) _)
            clear hK K
            try simp only [Act.put, List.setIfInBounds_toArray, List.set_cons_zero, List.set_cons_succ]
            refine wpAnyH_named fun WN hWN => ?_
            rw [hw2] at hWN
            have hbWN : Bw w1 WN := by rw [hWN]; (first | exact Bw.alloc (Bw.refl _) _ | exact Bw.alloc (Bw.drew _) _ | exact Bw.alloc (by assumption) _)
            have cWN : WN.cell? ⟨wI16.heap.size, m, none⟩ = some (.string ⟨(nameOf m).toArray⟩) := by
              have hh : WN.heap[wI16.heap.size]? = some (.cells nameCells 9 (0, 0)) := by rw [hWN]; exact heap_alloc_new _ _
              rw [cell_of_row _ _ _ _ _ _ hh]
              exact nameCells_at hm17
            have zWN : wI16.heap.size < WN.heap.size := by rw [hWN]; simp
            have HSCWN : Hid (∀ w', Bw WN w' → ((w'.cell? ⟨w.heap.size, 0, none⟩ = some (.int .i64 1) ∧ w'.cell? ⟨w.heap.size, 1, none⟩ = some (.int .i64 x1) ∧ w'.cell? ⟨w.heap.size, 2, none⟩ = some (.int .i64 x2) ∧ w'.cell? ⟨w.heap.size, 3, none⟩ = some (.int .i64 x3) ∧ w'.cell? ⟨w.heap.size, 4, none⟩ = some (.int .i64 (m : Int)) ∧ w'.cell? ⟨w.heap.size, 5, none⟩ = some (.int .i64 x5)) ∧ Bw w1 w') ∧ w'.cell? ⟨wI16.heap.size, m, none⟩ = some (.string ⟨(nameOf m).toArray⟩) ∧ Bw WN w') := fun w' hb => ⟨HSC.out _ (Bw.tr hbWN hb), (hb.cell (p := ⟨wI16.heap.size, _, none⟩) zWN).trans cWN, hb⟩
            refine wpAnyH_switch (S' := fun w' => ((w'.cell? ⟨w.heap.size, 0, none⟩ = some (.int .i64 1) ∧ w'.cell? ⟨w.heap.size, 1, none⟩ = some (.int .i64 x1) ∧ w'.cell? ⟨w.heap.size, 2, none⟩ = some (.int .i64 x2) ∧ w'.cell? ⟨w.heap.size, 3, none⟩ = some (.int .i64 x3) ∧ w'.cell? ⟨w.heap.size, 4, none⟩ = some (.int .i64 (m : Int)) ∧ w'.cell? ⟨w.heap.size, 5, none⟩ = some (.int .i64 x5)) ∧ Bw w1 w') ∧ w'.cell? ⟨wI16.heap.size, m, none⟩ = some (.string ⟨(nameOf m).toArray⟩) ∧ Bw WN w') (fun _ h => h.1) (HSCWN.out _ (Bw.refl _)) (fun hHeld2 => ?_)
            clear hWN hHeld hw2
            refine wpAnyH_take (i := 21) (v := ?v38) (arr_at rfl) (by kernel_rfl) (by kernel_rfl) (by kernel_rfl) (fun _ _ _ h => h) (Or.inl ⟨by rfl, ?hy38⟩) (by assumption) ?_
            case hy38 => (intro w hSw; (try dsimp only at hSw); go_simp <;> with_reducible rfl)
            try simp only [Act.put, List.setIfInBounds_toArray, List.set_cons_zero, List.set_cons_succ]
            refine wpAnyH_take (i := 22) (v := ?v39) (arr_at rfl) (by kernel_rfl) (by kernel_rfl) (by kernel_rfl) (fun _ _ _ h => h) (Or.inl ⟨by rfl, ?hy39⟩) (by assumption) ?_
            case hy39 => (intro w hSw; (try dsimp only at hSw); go_simp <;> with_reducible rfl)
            try simp only [Act.put, List.setIfInBounds_toArray, List.set_cons_zero, List.set_cons_succ]
            refine wpAnyH_ready (rs := [0, 26]) (by kernel_rfl) (by simp) ?_
            refine AllReadyH.cons (arr_at rfl) (fun K hK => ?_) ?_
            · skip
              go_simp
              refine hK.out _ _ ?_ (fun hHeld => ?_)
              · refine HSCWN.out _ ?_
                (first | exact Bw.alloc (Bw.refl _) _ | exact Bw.alloc (Bw.drew _) _ | exact Bw.alloc (by assumption) _)
              clear hK K
              try simp only [Act.put, List.setIfInBounds_toArray, List.set_cons_zero, List.set_cons_succ]
              refine wpAnyH_named fun WK hWK => ?_
              have hbWK : Bw WN WK := by rw [hWK]; (first | exact Bw.alloc (Bw.refl _) _ | exact Bw.alloc (Bw.drew _) _ | exact Bw.alloc (by assumption) _)
              have cWK : WK.cell? ⟨WN.heap.size, 1, none⟩ = some (.string { data := #[99, 111, 114, 114, 101, 99, 116] }) := by
                rw [hWK]; go_simp
              have zWK : WN.heap.size < WK.heap.size := by rw [hWK]; simp
              have HSCWK : Hid (∀ w', Bw WK w' → (((w'.cell? ⟨w.heap.size, 0, none⟩ = some (.int .i64 1) ∧ w'.cell? ⟨w.heap.size, 1, none⟩ = some (.int .i64 x1) ∧ w'.cell? ⟨w.heap.size, 2, none⟩ = some (.int .i64 x2) ∧ w'.cell? ⟨w.heap.size, 3, none⟩ = some (.int .i64 x3) ∧ w'.cell? ⟨w.heap.size, 4, none⟩ = some (.int .i64 (m : Int)) ∧ w'.cell? ⟨w.heap.size, 5, none⟩ = some (.int .i64 x5)) ∧ Bw w1 w') ∧ w'.cell? ⟨wI16.heap.size, m, none⟩ = some (.string ⟨(nameOf m).toArray⟩) ∧ Bw WN w') ∧ w'.cell? ⟨WN.heap.size, 1, none⟩ = some (.string { data := #[99, 111, 114, 114, 101, 99, 116] }) ∧ Bw WK w') := fun w' hb => ⟨HSCWN.out _ (Bw.tr hbWK hb), (hb.cell (p := ⟨WN.heap.size, _, none⟩) zWK).trans cWK, hb⟩
              refine wpAnyH_switch (S' := fun w' => (((w'.cell? ⟨w.heap.size, 0, none⟩ = some (.int .i64 1) ∧ w'.cell? ⟨w.heap.size, 1, none⟩ = some (.int .i64 x1) ∧ w'.cell? ⟨w.heap.size, 2, none⟩ = some (.int .i64 x2) ∧ w'.cell? ⟨w.heap.size, 3, none⟩ = some (.int .i64 x3) ∧ w'.cell? ⟨w.heap.size, 4, none⟩ = some (.int .i64 (m : Int)) ∧ w'.cell? ⟨w.heap.size, 5, none⟩ = some (.int .i64 x5)) ∧ Bw w1 w') ∧ w'.cell? ⟨wI16.heap.size, m, none⟩ = some (.string ⟨(nameOf m).toArray⟩) ∧ Bw WN w') ∧ w'.cell? ⟨WN.heap.size, 1, none⟩ = some (.string { data := #[99, 111, 114, 114, 101, 99, 116] }) ∧ Bw WK w') (fun _ h => h.1) (HSCWK.out _ (Bw.refl _)) (fun hHeld2 => ?_)
              clear hWK hHeld
              refine wpAnyH_take (i := 3) (v := ?v40) (arr_at rfl) (by kernel_rfl) (by kernel_rfl) (by kernel_rfl) (fun _ _ _ h => h) (Or.inl ⟨by rfl, ?hy40⟩) (by assumption) ?_
              case hy40 => (intro w hSw; (try dsimp only at hSw); go_simp <;> with_reducible rfl)
              try simp only [Act.put, List.setIfInBounds_toArray, List.set_cons_zero, List.set_cons_succ]
              refine wpAnyH_take (i := 4) (v := ?v41) (arr_at rfl) (by kernel_rfl) (by kernel_rfl) (by kernel_rfl) (fun _ _ _ h => h) (Or.inl ⟨by rfl, ?hy41⟩) (by assumption) ?_
              case hy41 => (intro w hSw; (try dsimp only at hSw); go_simp <;> with_reducible rfl)
              try simp only [Act.put, List.setIfInBounds_toArray, List.set_cons_zero, List.set_cons_succ]
              refine wpAnyH_ready (rs := [26]) (by kernel_rfl) (by simp) ?_
              refine AllReadyH.cons (arr_at rfl) (fun K hK => ?_) ?_
              · skip
                go_simp
                refine (H5.out _ (HB.out.trans (Below.mono (Bw.tr (Bw.tr (Bw.tr (Bw.refl _) hbWN) hbWK) (Bw.refl _)) HB.out.size))).mono ?_
                rintro e wI26 ⟨rfl, hbI26⟩
                have HI26 : Bw WK wI26 := Bw.tr (Bw.refl _) hbI26
                refine hK.out _ _ ?_ (fun hHeld => ?_)
                · exact HSCWK.out _ HI26
                clear hK K hbI26
                try simp only [Act.put, List.setIfInBounds_toArray, List.set_cons_zero, List.set_cons_succ]
                refine wpAnyH_ready (rs := [27]) (by kernel_rfl) (by simp) ?_
                refine AllReadyH.cons (arr_at rfl) (fun K hK => ?_) ?_
                · skip
                  go_simp
                  refine hK.out _ _ ?_ (fun hHeld => ?_)
                  · refine HSCWK.out _ ?_
                    (first | exact Bw.alloc (Bw.refl _) _ | exact Bw.alloc (Bw.drew _) _ | exact Bw.alloc (by assumption) _)
                  clear hK K
                  try simp only [Act.put, List.setIfInBounds_toArray, List.set_cons_zero, List.set_cons_succ]
                  refine wpAnyH_take (i := 28) (v := ?v42) (arr_at rfl) (by kernel_rfl) (by kernel_rfl) (by kernel_rfl) (fun _ _ _ h => h) (Or.inl ⟨by rfl, ?hy42⟩) (by assumption) ?_
                  case hy42 => (intro w hSw; (try dsimp only at hSw); go_simp <;> with_reducible rfl)
                  try simp only [Act.put, List.setIfInBounds_toArray, List.set_cons_zero, List.set_cons_succ]
                  refine wpAnyH_done (by kernel_rfl) ?_ _
                  refine NoPanic.normal ?_
                  refine exit_namedL (Q := Exit.then _ _) fun WF hWF => ?_
                  have hbF : Bw WK WF := by rw [hWF]; first | exact Bw.alloc (Bw.refl _) _ | exact Bw.alloc (Bw.drew _) _ | exact Bw.alloc (by assumption) _
                  have hX : WF.heap[wI26.heap.size]? = some (.cells #[.string { data := #[99, 111, 114, 114, 101, 99, 116] }, .string ⟨(itS x1).toArray⟩, .string ⟨(itS x2).toArray⟩, .string ⟨(itS x3).toArray⟩, .string ⟨(nameOf m).toArray⟩, .string ⟨(itS x5).toArray⟩] 9 (0, 0)) := by rw [hWF]; exact heap_alloc_new _ _
                  have hB1F : Bw w1 WF := Bw.tr (Bw.tr (Bw.tr (Bw.refl _) hbWN) hbWK) hbF
                  have hsa : w.heap.size ≤ wI26.heap.size := Nat.le_trans HB.out.size (Below.size (show Below w1.heap.size w1 wI26 from Bw.tr (Bw.tr (Bw.tr (Bw.refl _) hbWN) hbWK) (by first | exact Bw.refl _ | assumption)))
                  have k0 : WF.cell? ⟨w.heap.size, 0, none⟩ = some (.int .i64 1) := (HSC.out _ hB1F).1.1
                  have kv : WF.cell? ⟨w.heap.size, 6, none⟩ = some (.int .i64 v) := (hB1F.cell (p := ⟨w.heap.size, 6, none⟩) y1).trans k6
                  have hBF : Below w.heap.size w WF := HB.out.trans (hB1F.mono HB.out.size)
                  obtain ⟨bx, hbx⟩ : ∃ bx, wI26.heap.size = bx := ⟨_, rfl⟩
                  have hwb : w.heap.size ≤ bx := by rw [← hbx]; exact hsa
                  rw [hbx] at hX ⊢
                  have HX := Lib.hid hX
                  have HBF := Lib.hid hBF
                  have hxl : bx < WF.heap.size := (Array.getElem?_eq_some_iff.1 hX).1
                  clear hWF hbx hX hBF hHeld2
                  have HOWN : Hid (WF.ownsRow w.heap.size 9 1 (.slice (some ⟨bx, 0, none⟩) 6 6) 6 [.string { data := #[99, 111, 114, 114, 101, 99, 116] }, .string ⟨(itS x1).toArray⟩, .string ⟨(itS x2).toArray⟩, .string ⟨(itS x3).toArray⟩, .string ⟨(nameOf m).toArray⟩, .string ⟨(itS x5).toArray⟩]) := ownRow_of_block HX.out hwb (by simp [maxLen])
                  have hsF := HBF.out.size
                  go_wp2_with (first | (go_at_call 55; refine (HV.out _ HBF.out).mono ?_; rintro e w5 ⟨rfl, hb5⟩; have HBV : Hid (Below w.heap.size w w5) := below_step HBF.out hb5; have HOV := Lib.hid (own_below HOWN.out hb5); have hsV := HBV.out.size; clear hb5) | (at_builtin; go_loud (refine wpList_append_own _ rfl (.tmp 35) (.tmp 39) _ rfl w.heap.size 9 Tryz.t9 _ 1 16 rfl hI.out rfl rfl rfl rfl (by omega) (.slice (some ⟨bx, 0, none⟩) 6 6) 6 _ rfl (HOV.out.alloc _) ⟨w5.heap.size, 0, none⟩ 1 1 [.string ⟨(itS v).toArray⟩] rfl rfl (newCells _ _ _) (by simp [Value.oneCell']) (by simp only [maxLen]; omega) (by omega) (by simp; omega) ?_; intro v' w6 ho hg hn; have HO := Lib.hid ho; have HB6 := Lib.hid ((HBV.out.alloc hsV _).grown hg (by simp; omega) (fun j hj => by simp [Value.ownBlock] at hj; omega)); clear ho hg hn)))
                  have hwords : lineWordsG (1, (x1, x2, x3, (m : Int), x5), v) = [[99, 111, 114, 114, 101, 99, 116], itS x1, itS x2, itS x3, nameOf m, itS x5, itS v] := rfl
                  have HWD := Lib.hid hwords
                  have hlen := HJ.out
                  rw [hwords] at hlen
                  clear hwords
                  refine (join_of_own (ws := [[99, 111, 114, 114, 101, 99, 116], itS x1, itS x2, itS x3, nameOf m, itS x5, itS v]) HO.out rfl (by omega) (by omega) hlen).mono ?_
                  rintro e w7 ⟨rfl, hb7⟩
                  have HB7 := Lib.hid (below_step HB6.out hb7)
                  clear hb7
                  obtain ⟨J, hJ⟩ : ∃ J, Lib.join [[99, 111, 114, 114, 101, 99, 116], itS x1, itS x2, itS x3, nameOf m, itS x5, itS v] [32] = J := ⟨_, rfl⟩
                  rw [hJ] at hlen ⊢
                  have hadd : ∀ w, (Op.stringOp .add ⟨J.toArray⟩ ⟨#[10]⟩).run Tryz.prog w = .ok (.string ⟨(J ++ [10]).toArray⟩) w := fun w => run_string_add_lists w J [10] (by omega) (by simp)
                  have HLL : Hid (LL = J ++ [10]) := HL.out.trans (by rw [HWD.out, hJ])
                  clear hJ
                  go_wp2
                  go_ret
                  exact ⟨by rw [HLL.out]; rfl, HB7.out⟩
                exact AllReadyH.nil
              exact AllReadyH.nil
            refine AllReadyH.cons (arr_at rfl) (fun K hK => ?_) ?_
            · skip
              go_simp
              refine (H5.out _ (HB.out.trans (Below.mono (Bw.tr (Bw.tr (Bw.refl _) hbWN) (Bw.refl _)) HB.out.size))).mono ?_
              rintro e wI26 ⟨rfl, hbI26⟩
              have HI26 : Bw WN wI26 := Bw.tr (Bw.refl _) hbI26
              refine hK.out _ _ ?_ (fun hHeld => ?_)
              · exact HSCWN.out _ HI26
              clear hK K hbI26
              try simp only [Act.put, List.setIfInBounds_toArray, List.set_cons_zero, List.set_cons_succ]
              refine wpAnyH_ready (rs := [0]) (by kernel_rfl) (by simp) ?_
              refine AllReadyH.cons (arr_at rfl) (fun K hK => ?_) ?_
              · skip
                go_simp
                refine hK.out _ _ ?_ (fun hHeld => ?_)
                · refine HSCWN.out _ ?_
                  (first | exact Bw.alloc (Bw.refl _) _ | exact Bw.alloc (Bw.drew _) _ | exact Bw.alloc (by assumption) _)
                clear hK K
                try simp only [Act.put, List.setIfInBounds_toArray, List.set_cons_zero, List.set_cons_succ]
                refine wpAnyH_named fun WK hWK => ?_
                have hbWK : Bw WN WK := by rw [hWK]; (first | exact Bw.alloc (Bw.refl _) _ | exact Bw.alloc (Bw.drew _) _ | exact Bw.alloc (by assumption) _)
                have cWK : WK.cell? ⟨wI26.heap.size, 1, none⟩ = some (.string { data := #[99, 111, 114, 114, 101, 99, 116] }) := by
                  rw [hWK]; go_simp
                have zWK : wI26.heap.size < WK.heap.size := by rw [hWK]; simp
                have HSCWK : Hid (∀ w', Bw WK w' → (((w'.cell? ⟨w.heap.size, 0, none⟩ = some (.int .i64 1) ∧ w'.cell? ⟨w.heap.size, 1, none⟩ = some (.int .i64 x1) ∧ w'.cell? ⟨w.heap.size, 2, none⟩ = some (.int .i64 x2) ∧ w'.cell? ⟨w.heap.size, 3, none⟩ = some (.int .i64 x3) ∧ w'.cell? ⟨w.heap.size, 4, none⟩ = some (.int .i64 (m : Int)) ∧ w'.cell? ⟨w.heap.size, 5, none⟩ = some (.int .i64 x5)) ∧ Bw w1 w') ∧ w'.cell? ⟨wI16.heap.size, m, none⟩ = some (.string ⟨(nameOf m).toArray⟩) ∧ Bw WN w') ∧ w'.cell? ⟨wI26.heap.size, 1, none⟩ = some (.string { data := #[99, 111, 114, 114, 101, 99, 116] }) ∧ Bw WK w') := fun w' hb => ⟨HSCWN.out _ (Bw.tr hbWK hb), (hb.cell (p := ⟨wI26.heap.size, _, none⟩) zWK).trans cWK, hb⟩
                refine wpAnyH_switch (S' := fun w' => (((w'.cell? ⟨w.heap.size, 0, none⟩ = some (.int .i64 1) ∧ w'.cell? ⟨w.heap.size, 1, none⟩ = some (.int .i64 x1) ∧ w'.cell? ⟨w.heap.size, 2, none⟩ = some (.int .i64 x2) ∧ w'.cell? ⟨w.heap.size, 3, none⟩ = some (.int .i64 x3) ∧ w'.cell? ⟨w.heap.size, 4, none⟩ = some (.int .i64 (m : Int)) ∧ w'.cell? ⟨w.heap.size, 5, none⟩ = some (.int .i64 x5)) ∧ Bw w1 w') ∧ w'.cell? ⟨wI16.heap.size, m, none⟩ = some (.string ⟨(nameOf m).toArray⟩) ∧ Bw WN w') ∧ w'.cell? ⟨wI26.heap.size, 1, none⟩ = some (.string { data := #[99, 111, 114, 114, 101, 99, 116] }) ∧ Bw WK w') (fun _ h => h.1) (HSCWK.out _ (Bw.refl _)) (fun hHeld2 => ?_)
                clear hWK hHeld
                refine wpAnyH_take (i := 3) (v := ?v43) (arr_at rfl) (by kernel_rfl) (by kernel_rfl) (by kernel_rfl) (fun _ _ _ h => h) (Or.inl ⟨by rfl, ?hy43⟩) (by assumption) ?_
                case hy43 => (intro w hSw; (try dsimp only at hSw); go_simp <;> with_reducible rfl)
                try simp only [Act.put, List.setIfInBounds_toArray, List.set_cons_zero, List.set_cons_succ]
                refine wpAnyH_take (i := 4) (v := ?v44) (arr_at rfl) (by kernel_rfl) (by kernel_rfl) (by kernel_rfl) (fun _ _ _ h => h) (Or.inl ⟨by rfl, ?hy44⟩) (by assumption) ?_
                case hy44 => (intro w hSw; (try dsimp only at hSw); go_simp <;> with_reducible rfl)
                try simp only [Act.put, List.setIfInBounds_toArray, List.set_cons_zero, List.set_cons_succ]
                refine wpAnyH_ready (rs := [27]) (by kernel_rfl) (by simp) ?_
                refine AllReadyH.cons (arr_at rfl) (fun K hK => ?_) ?_
                · skip
                  go_simp
                  refine hK.out _ _ ?_ (fun hHeld => ?_)
                  · refine HSCWK.out _ ?_
                    (first | exact Bw.alloc (Bw.refl _) _ | exact Bw.alloc (Bw.drew _) _ | exact Bw.alloc (by assumption) _)
                  clear hK K
                  try simp only [Act.put, List.setIfInBounds_toArray, List.set_cons_zero, List.set_cons_succ]
                  refine wpAnyH_take (i := 28) (v := ?v45) (arr_at rfl) (by kernel_rfl) (by kernel_rfl) (by kernel_rfl) (fun _ _ _ h => h) (Or.inl ⟨by rfl, ?hy45⟩) (by assumption) ?_
                  case hy45 => (intro w hSw; (try dsimp only at hSw); go_simp <;> with_reducible rfl)
                  try simp only [Act.put, List.setIfInBounds_toArray, List.set_cons_zero, List.set_cons_succ]
                  refine wpAnyH_done (by kernel_rfl) ?_ _
                  refine NoPanic.normal ?_
                  refine exit_namedL (Q := Exit.then _ _) fun WF hWF => ?_
                  have hbF : Bw WK WF := by rw [hWF]; first | exact Bw.alloc (Bw.refl _) _ | exact Bw.alloc (Bw.drew _) _ | exact Bw.alloc (by assumption) _
                  have hX : WF.heap[WK.heap.size]? = some (.cells #[.string { data := #[99, 111, 114, 114, 101, 99, 116] }, .string ⟨(itS x1).toArray⟩, .string ⟨(itS x2).toArray⟩, .string ⟨(itS x3).toArray⟩, .string ⟨(nameOf m).toArray⟩, .string ⟨(itS x5).toArray⟩] 9 (0, 0)) := by rw [hWF]; exact heap_alloc_new _ _
                  have hB1F : Bw w1 WF := Bw.tr (Bw.tr (Bw.tr (Bw.refl _) hbWN) hbWK) hbF
                  have hsa : w.heap.size ≤ WK.heap.size := Nat.le_trans HB.out.size (Below.size (show Below w1.heap.size w1 WK from Bw.tr (Bw.tr (Bw.tr (Bw.refl _) hbWN) hbWK) (by first | exact Bw.refl _ | assumption)))
                  have k0 : WF.cell? ⟨w.heap.size, 0, none⟩ = some (.int .i64 1) := (HSC.out _ hB1F).1.1
                  have kv : WF.cell? ⟨w.heap.size, 6, none⟩ = some (.int .i64 v) := (hB1F.cell (p := ⟨w.heap.size, 6, none⟩) y1).trans k6
                  have hBF : Below w.heap.size w WF := HB.out.trans (hB1F.mono HB.out.size)
                  obtain ⟨bx, hbx⟩ : ∃ bx, WK.heap.size = bx := ⟨_, rfl⟩
                  have hwb : w.heap.size ≤ bx := by rw [← hbx]; exact hsa
                  rw [hbx] at hX ⊢
                  have HX := Lib.hid hX
                  have HBF := Lib.hid hBF
                  have hxl : bx < WF.heap.size := (Array.getElem?_eq_some_iff.1 hX).1
                  clear hWF hbx hX hBF hHeld2
                  have HOWN : Hid (WF.ownsRow w.heap.size 9 1 (.slice (some ⟨bx, 0, none⟩) 6 6) 6 [.string { data := #[99, 111, 114, 114, 101, 99, 116] }, .string ⟨(itS x1).toArray⟩, .string ⟨(itS x2).toArray⟩, .string ⟨(itS x3).toArray⟩, .string ⟨(nameOf m).toArray⟩, .string ⟨(itS x5).toArray⟩]) := ownRow_of_block HX.out hwb (by simp [maxLen])
                  have hsF := HBF.out.size
                  go_wp2_with (first | (go_at_call 55; refine (HV.out _ HBF.out).mono ?_; rintro e w5 ⟨rfl, hb5⟩; have HBV : Hid (Below w.heap.size w w5) := below_step HBF.out hb5; have HOV := Lib.hid (own_below HOWN.out hb5); have hsV := HBV.out.size; clear hb5) | (at_builtin; go_loud (refine wpList_append_own _ rfl (.tmp 35) (.tmp 39) _ rfl w.heap.size 9 Tryz.t9 _ 1 16 rfl hI.out rfl rfl rfl rfl (by omega) (.slice (some ⟨bx, 0, none⟩) 6 6) 6 _ rfl (HOV.out.alloc _) ⟨w5.heap.size, 0, none⟩ 1 1 [.string ⟨(itS v).toArray⟩] rfl rfl (newCells _ _ _) (by simp [Value.oneCell']) (by simp only [maxLen]; omega) (by omega) (by simp; omega) ?_; intro v' w6 ho hg hn; have HO := Lib.hid ho; have HB6 := Lib.hid ((HBV.out.alloc hsV _).grown hg (by simp; omega) (fun j hj => by simp [Value.ownBlock] at hj; omega)); clear ho hg hn)))
                  have hwords : lineWordsG (1, (x1, x2, x3, (m : Int), x5), v) = [[99, 111, 114, 114, 101, 99, 116], itS x1, itS x2, itS x3, nameOf m, itS x5, itS v] := rfl
                  have HWD := Lib.hid hwords
                  have hlen := HJ.out
                  rw [hwords] at hlen
                  clear hwords
                  refine (join_of_own (ws := [[99, 111, 114, 114, 101, 99, 116], itS x1, itS x2, itS x3, nameOf m, itS x5, itS v]) HO.out rfl (by omega) (by omega) hlen).mono ?_
                  rintro e w7 ⟨rfl, hb7⟩
                  have HB7 := Lib.hid (below_step HB6.out hb7)
                  clear hb7
                  obtain ⟨J, hJ⟩ : ∃ J, Lib.join [[99, 111, 114, 114, 101, 99, 116], itS x1, itS x2, itS x3, nameOf m, itS x5, itS v] [32] = J := ⟨_, rfl⟩
                  rw [hJ] at hlen ⊢
                  have hadd : ∀ w, (Op.stringOp .add ⟨J.toArray⟩ ⟨#[10]⟩).run Tryz.prog w = .ok (.string ⟨(J ++ [10]).toArray⟩) w := fun w => run_string_add_lists w J [10] (by omega) (by simp)
                  have HLL : Hid (LL = J ++ [10]) := HL.out.trans (by rw [HWD.out, hJ])
                  clear hJ
                  go_wp2
                  go_ret
                  exact ⟨by rw [HLL.out]; rfl, HB7.out⟩
                exact AllReadyH.nil
              exact AllReadyH.nil
            exact AllReadyH.nil
          exact AllReadyH.nil
        exact AllReadyH.nil
      exact AllReadyH.nil
    exact AllReadyH.nil
  · go_enter Tryz.func30, Tryz.ntmps30
    go_wp2_with fail
    refine wp_named fun w1 hW => ?_
    have k0 : w1.cell? ⟨w.heap.size, 0, none⟩ = some (.int .i64 2) := by rw [hW]; go_simp
    have k1 : w1.cell? ⟨w.heap.size, 1, none⟩ = some (.int .i64 x1) := by rw [hW]; go_simp
    have k2 : w1.cell? ⟨w.heap.size, 2, none⟩ = some (.int .i64 x2) := by rw [hW]; go_simp
    have k3 : w1.cell? ⟨w.heap.size, 3, none⟩ = some (.int .i64 x3) := by rw [hW]; go_simp
    have k4 : w1.cell? ⟨w.heap.size, 4, none⟩ = some (.int .i64 (m : Int)) := by rw [hW]; go_simp
    have k5 : w1.cell? ⟨w.heap.size, 5, none⟩ = some (.int .i64 x5) := by rw [hW]; go_simp
    have k6 : w1.cell? ⟨w.heap.size, 6, none⟩ = some (.int .i64 v) := by rw [hW]; go_simp
    have HB : Hid (Below w.heap.size w w1) := by rw [hW]; show Below _ _ _; go_grown
    have y1 : w.heap.size < w1.heap.size := by rw [hW]; simp
    clear hW
    have HSC : Hid (∀ w', Bw w1 w' → (w'.cell? ⟨w.heap.size, 0, none⟩ = some (.int .i64 2) ∧ w'.cell? ⟨w.heap.size, 1, none⟩ = some (.int .i64 x1) ∧ w'.cell? ⟨w.heap.size, 2, none⟩ = some (.int .i64 x2) ∧ w'.cell? ⟨w.heap.size, 3, none⟩ = some (.int .i64 x3) ∧ w'.cell? ⟨w.heap.size, 4, none⟩ = some (.int .i64 (m : Int)) ∧ w'.cell? ⟨w.heap.size, 5, none⟩ = some (.int .i64 x5)) ∧ Bw w1 w') := fun w' hb => ⟨⟨(hb.cell (p := ⟨w.heap.size, _, none⟩) y1).trans k0, (hb.cell (p := ⟨w.heap.size, _, none⟩) y1).trans k1, (hb.cell (p := ⟨w.heap.size, _, none⟩) y1).trans k2, (hb.cell (p := ⟨w.heap.size, _, none⟩) y1).trans k3, (hb.cell (p := ⟨w.heap.size, _, none⟩) y1).trans k4, (hb.cell (p := ⟨w.heap.size, _, none⟩) y1).trans k5⟩, hb⟩
    clear k0 k1 k2 k3 k4 k5
    refine wp_region_noPanic ?_
    refine wp_region_held_drew (S := fun w' => (w'.cell? ⟨w.heap.size, 0, none⟩ = some (.int .i64 2) ∧ w'.cell? ⟨w.heap.size, 1, none⟩ = some (.int .i64 x1) ∧ w'.cell? ⟨w.heap.size, 2, none⟩ = some (.int .i64 x2) ∧ w'.cell? ⟨w.heap.size, 3, none⟩ = some (.int .i64 x3) ∧ w'.cell? ⟨w.heap.size, 4, none⟩ = some (.int .i64 (m : Int)) ∧ w'.cell? ⟨w.heap.size, 5, none⟩ = some (.int .i64 x5)) ∧ Bw w1 w') (by kernel_rfl) (HSC.out _ (Bw.drew _)) (fun hHeld => ?_)
    refine wpAnyH_take (i := 1) (v := ?v46) (arr_at rfl) (by kernel_rfl) (by kernel_rfl) (by kernel_rfl) (fun _ _ _ h => h) (Or.inl ⟨by rfl, ?hy46⟩) (by assumption) ?_
    case hy46 => (intro w hSw; (try dsimp only at hSw); go_simp <;> with_reducible rfl)
    try simp only [Act.put, List.setIfInBounds_toArray, List.set_cons_zero, List.set_cons_succ]
    refine wpAnyH_take (i := 2) (v := ?v47) (arr_at rfl) (by kernel_rfl) (by kernel_rfl) (by kernel_rfl) (fun _ _ _ h => h) (Or.inl ⟨by rfl, ?hy47⟩) (by assumption) ?_
    case hy47 => (intro w hSw; (try dsimp only at hSw); go_simp <;> with_reducible rfl)
    try simp only [Act.put, List.setIfInBounds_toArray, List.set_cons_zero, List.set_cons_succ]
    refine wpAnyH_take (i := 5) (v := ?v48) (arr_at rfl) (by kernel_rfl) (by kernel_rfl) (by kernel_rfl) (fun _ _ _ h => h) (Or.inl ⟨by rfl, ?hy48⟩) (by assumption) ?_
    case hy48 => (intro w hSw; (try dsimp only at hSw); go_simp <;> with_reducible rfl)
    try simp only [Act.put, List.setIfInBounds_toArray, List.set_cons_zero, List.set_cons_succ]
    refine wpAnyH_take (i := 6) (v := ?v49) (arr_at rfl) (by kernel_rfl) (by kernel_rfl) (by kernel_rfl) (fun _ _ _ h => h) (Or.inl ⟨by rfl, ?hy49⟩) (by assumption) ?_
    case hy49 => (intro w hSw; (try dsimp only at hSw); go_simp <;> with_reducible rfl)
    try simp only [Act.put, List.setIfInBounds_toArray, List.set_cons_zero, List.set_cons_succ]
    refine wpAnyH_take (i := 7) (v := ?v50) (arr_at rfl) (by kernel_rfl) (by kernel_rfl) (by kernel_rfl) (fun _ _ _ h => h) (Or.inl ⟨by rfl, ?hy50⟩) (by assumption) ?_
    case hy50 => (intro w hSw; (try dsimp only at hSw); go_simp <;> with_reducible rfl)
    try simp only [Act.put, List.setIfInBounds_toArray, List.set_cons_zero, List.set_cons_succ]
    refine wpAnyH_take (i := 9) (v := ?v51) (arr_at rfl) (by kernel_rfl) (by kernel_rfl) (by kernel_rfl) (fun _ _ _ h => h) (Or.inl ⟨by rfl, ?hy51⟩) (by assumption) ?_
    case hy51 => (intro w hSw; (try dsimp only at hSw); go_simp <;> with_reducible rfl)
    try simp only [Act.put, List.setIfInBounds_toArray, List.set_cons_zero, List.set_cons_succ]
    refine wpAnyH_take (i := 10) (v := ?v52) (arr_at rfl) (by kernel_rfl) (by kernel_rfl) (by kernel_rfl) (fun _ _ _ h => h) (Or.inl ⟨by rfl, ?hy52⟩) (by assumption) ?_
    case hy52 => (intro w hSw; (try dsimp only at hSw); go_simp <;> with_reducible rfl)
    try simp only [Act.put, List.setIfInBounds_toArray, List.set_cons_zero, List.set_cons_succ]
    refine wpAnyH_take (i := 11) (v := ?v53) (arr_at rfl) (by kernel_rfl) (by kernel_rfl) (by kernel_rfl) (fun _ _ _ h => h) (Or.inl ⟨by rfl, ?hy53⟩) (by assumption) ?_
    case hy53 => (intro w hSw; (try dsimp only at hSw); go_simp <;> with_reducible rfl)
    try simp only [Act.put, List.setIfInBounds_toArray, List.set_cons_zero, List.set_cons_succ]
    refine wpAnyH_take (i := 13) (v := ?v54) (arr_at rfl) (by kernel_rfl) (by kernel_rfl) (by kernel_rfl) (fun _ _ _ h => h) (Or.inl ⟨by rfl, ?hy54⟩) (by assumption) ?_
    case hy54 => (intro w hSw; (try dsimp only at hSw); go_simp <;> with_reducible rfl)
    try simp only [Act.put, List.setIfInBounds_toArray, List.set_cons_zero, List.set_cons_succ]
    refine wpAnyH_take (i := 14) (v := ?v55) (arr_at rfl) (by kernel_rfl) (by kernel_rfl) (by kernel_rfl) (fun _ _ _ h => h) (Or.inl ⟨by rfl, ?hy55⟩) (by assumption) ?_
    case hy55 => (intro w hSw; (try dsimp only at hSw); go_simp <;> with_reducible rfl)
    try simp only [Act.put, List.setIfInBounds_toArray, List.set_cons_zero, List.set_cons_succ]
    refine wpAnyH_take (i := 15) (v := ?v56) (arr_at rfl) (by kernel_rfl) (by kernel_rfl) (by kernel_rfl) (fun _ _ _ h => h) (Or.inl ⟨by rfl, ?hy56⟩) (by assumption) ?_
    case hy56 => (intro w hSw; (try dsimp only at hSw); go_simp <;> with_reducible rfl)
    try simp only [Act.put, List.setIfInBounds_toArray, List.set_cons_zero, List.set_cons_succ]
    refine wpAnyH_take (i := 18) (v := ?v57) (arr_at rfl) (by kernel_rfl) (by kernel_rfl) (by kernel_rfl) (fun _ _ _ h => h) (Or.inl ⟨by rfl, ?hy57⟩) (by assumption) ?_
    case hy57 => (intro w hSw; (try dsimp only at hSw); go_simp <;> with_reducible rfl)
    try simp only [Act.put, List.setIfInBounds_toArray, List.set_cons_zero, List.set_cons_succ]
    refine wpAnyH_take (i := 19) (v := ?v58) (arr_at rfl) (by kernel_rfl) (by kernel_rfl) (by kernel_rfl) (fun _ _ _ h => h) (Or.inl ⟨by rfl, ?hy58⟩) (by assumption) ?_
    case hy58 => (intro w hSw; (try dsimp only at hSw); go_simp <;> with_reducible rfl)
    try simp only [Act.put, List.setIfInBounds_toArray, List.set_cons_zero, List.set_cons_succ]
    refine wpAnyH_take (i := 20) (v := ?v59) (arr_at rfl) (by kernel_rfl) (by kernel_rfl) (by kernel_rfl) (fun _ _ _ h => h) (Or.inl ⟨by rfl, ?hy59⟩) (by assumption) ?_
    case hy59 => (intro w hSw; (try dsimp only at hSw); go_simp <;> with_reducible rfl)
    try simp only [Act.put, List.setIfInBounds_toArray, List.set_cons_zero, List.set_cons_succ]
    refine wpAnyH_take (i := 23) (v := ?v60) (arr_at rfl) (by kernel_rfl) (by kernel_rfl) (by kernel_rfl) (fun _ _ _ h => h) (Or.inl ⟨by rfl, ?hy60⟩) (by assumption) ?_
    case hy60 => (intro w hSw; (try dsimp only at hSw); go_simp <;> with_reducible rfl)
    try simp only [Act.put, List.setIfInBounds_toArray, List.set_cons_zero, List.set_cons_succ]
    refine wpAnyH_take (i := 24) (v := ?v61) (arr_at rfl) (by kernel_rfl) (by kernel_rfl) (by kernel_rfl) (fun _ _ _ h => h) (Or.inl ⟨by rfl, ?hy61⟩) (by assumption) ?_
    case hy61 => (intro w hSw; (try dsimp only at hSw); go_simp <;> with_reducible rfl)
    try simp only [Act.put, List.setIfInBounds_toArray, List.set_cons_zero, List.set_cons_succ]
    refine wpAnyH_take (i := 25) (v := ?v62) (arr_at rfl) (by kernel_rfl) (by kernel_rfl) (by kernel_rfl) (fun _ _ _ h => h) (Or.inl ⟨by rfl, ?hy62⟩) (by assumption) ?_
    case hy62 => (intro w hSw; (try dsimp only at hSw); go_simp <;> with_reducible rfl)
    try simp only [Act.put, List.setIfInBounds_toArray, List.set_cons_zero, List.set_cons_succ]
    refine wpAnyH_ready (rs := [0, 8]) (by kernel_rfl) (by simp) ?_
    refine AllReadyH.cons (arr_at rfl) (fun K hK => ?_) ?_
    · skip
      go_simp
      refine hK.out _ _ ?_ (fun hHeld => ?_)
      · refine HSC.out _ ?_
        (first | exact Bw.alloc (Bw.refl _) _ | exact Bw.alloc (Bw.drew _) _ | exact Bw.alloc (by assumption) _)
      clear hK K
      try simp only [Act.put, List.setIfInBounds_toArray, List.set_cons_zero, List.set_cons_succ]
      refine wpAnyH_named fun WK hWK => ?_
      have hbWK : Bw w1 WK := by rw [hWK]; (first | exact Bw.alloc (Bw.refl _) _ | exact Bw.alloc (Bw.drew _) _ | exact Bw.alloc (by assumption) _)
      have cWK : WK.cell? ⟨w1.heap.size, 2, none⟩ = some (.string { data := #[99, 111, 110, 102, 105, 114, 109] }) := by
        rw [hWK]; go_simp
      have zWK : w1.heap.size < WK.heap.size := by rw [hWK]; simp
      have HSCWK : Hid (∀ w', Bw WK w' → ((w'.cell? ⟨w.heap.size, 0, none⟩ = some (.int .i64 2) ∧ w'.cell? ⟨w.heap.size, 1, none⟩ = some (.int .i64 x1) ∧ w'.cell? ⟨w.heap.size, 2, none⟩ = some (.int .i64 x2) ∧ w'.cell? ⟨w.heap.size, 3, none⟩ = some (.int .i64 x3) ∧ w'.cell? ⟨w.heap.size, 4, none⟩ = some (.int .i64 (m : Int)) ∧ w'.cell? ⟨w.heap.size, 5, none⟩ = some (.int .i64 x5)) ∧ Bw w1 w') ∧ w'.cell? ⟨w1.heap.size, 2, none⟩ = some (.string { data := #[99, 111, 110, 102, 105, 114, 109] }) ∧ Bw WK w') := fun w' hb => ⟨HSC.out _ (Bw.tr hbWK hb), (hb.cell (p := ⟨w1.heap.size, _, none⟩) zWK).trans cWK, hb⟩
      refine wpAnyH_switch (S' := fun w' => ((w'.cell? ⟨w.heap.size, 0, none⟩ = some (.int .i64 2) ∧ w'.cell? ⟨w.heap.size, 1, none⟩ = some (.int .i64 x1) ∧ w'.cell? ⟨w.heap.size, 2, none⟩ = some (.int .i64 x2) ∧ w'.cell? ⟨w.heap.size, 3, none⟩ = some (.int .i64 x3) ∧ w'.cell? ⟨w.heap.size, 4, none⟩ = some (.int .i64 (m : Int)) ∧ w'.cell? ⟨w.heap.size, 5, none⟩ = some (.int .i64 x5)) ∧ Bw w1 w') ∧ w'.cell? ⟨w1.heap.size, 2, none⟩ = some (.string { data := #[99, 111, 110, 102, 105, 114, 109] }) ∧ Bw WK w') (fun _ h => h.1) (HSCWK.out _ (Bw.refl _)) (fun hHeld2 => ?_)
      clear hWK hHeld
      refine wpAnyH_take (i := 3) (v := ?v63) (arr_at rfl) (by kernel_rfl) (by kernel_rfl) (by kernel_rfl) (fun _ _ _ h => h) (Or.inl ⟨by rfl, ?hy63⟩) (by assumption) ?_
      case hy63 => (intro w hSw; (try dsimp only at hSw); go_simp <;> with_reducible rfl)
      try simp only [Act.put, List.setIfInBounds_toArray, List.set_cons_zero, List.set_cons_succ]
      refine wpAnyH_take (i := 4) (v := ?v64) (arr_at rfl) (by kernel_rfl) (by kernel_rfl) (by kernel_rfl) (fun _ _ _ h => h) (Or.inl ⟨by rfl, ?hy64⟩) (by assumption) ?_
      case hy64 => (intro w hSw; (try dsimp only at hSw); go_simp <;> with_reducible rfl)
      try simp only [Act.put, List.setIfInBounds_toArray, List.set_cons_zero, List.set_cons_succ]
      refine wpAnyH_ready (rs := [8]) (by kernel_rfl) (by simp) ?_
      refine AllReadyH.cons (arr_at rfl) (fun K hK => ?_) ?_
      · skip
        go_simp
        refine (H1.out _ (HB.out.trans (Below.mono (Bw.tr (Bw.tr (Bw.refl _) hbWK) (Bw.refl _)) HB.out.size))).mono ?_
        rintro e wI8 ⟨rfl, hbI8⟩
        have HI8 : Bw WK wI8 := Bw.tr (Bw.refl _) hbI8
        refine hK.out _ _ ?_ (fun hHeld => ?_)
        · exact HSCWK.out _ HI8
        clear hK K hbI8
        try simp only [Act.put, List.setIfInBounds_toArray, List.set_cons_zero, List.set_cons_succ]
        refine wpAnyH_ready (rs := [12]) (by kernel_rfl) (by simp) ?_
        refine AllReadyH.cons (arr_at rfl) (fun K hK => ?_) ?_
        · skip
          go_simp
          refine (H2.out _ (HB.out.trans (Below.mono (Bw.tr (Bw.tr (Bw.refl _) hbWK) (HI8)) HB.out.size))).mono ?_
          rintro e wI12 ⟨rfl, hbI12⟩
          have HI12 : Bw WK wI12 := Bw.tr (HI8) hbI12
          refine hK.out _ _ ?_ (fun hHeld => ?_)
          · exact HSCWK.out _ HI12
          clear hK K hbI12
          try simp only [Act.put, List.setIfInBounds_toArray, List.set_cons_zero, List.set_cons_succ]
          refine wpAnyH_ready (rs := [16]) (by kernel_rfl) (by simp) ?_
          refine AllReadyH.cons (arr_at rfl) (fun K hK => ?_) ?_
          · skip
            go_simp
            refine (H3.out _ (HB.out.trans (Below.mono (Bw.tr (Bw.tr (Bw.refl _) hbWK) (HI12)) HB.out.size))).mono ?_
            rintro e wI16 ⟨rfl, hbI16⟩
            have HI16 : Bw WK wI16 := Bw.tr (HI12) hbI16
            refine hK.out _ _ ?_ (fun hHeld => ?_)
            · exact HSCWK.out _ HI16
            clear hK K hbI16
            try simp only [Act.put, List.setIfInBounds_toArray, List.set_cons_zero, List.set_cons_succ]
            refine wpAnyH_ready (rs := [17]) (by kernel_rfl) (by simp) ?_
            refine AllReadyH.cons (arr_at rfl) (fun K hK => ?_) ?_
            · skip
              go_simp
              refine (names_c _).mono ?_
              rintro e w2 ⟨rfl, hw2⟩
              refine hK.out _ _ ?_ (fun hHeld => ?_)
              · refine HSCWK.out _ ?_
                rw [hw2]; (first | exact Bw.alloc (Bw.refl _) _ | exact Bw.alloc (Bw.drew _) _ | exact Bw.alloc (by assumption) _)
              clear hK K
              try simp only [Act.put, List.setIfInBounds_toArray, List.set_cons_zero, List.set_cons_succ]
              refine wpAnyH_named fun WN hWN => ?_
              rw [hw2] at hWN
              have hbWN : Bw WK WN := by rw [hWN]; (first | exact Bw.alloc (Bw.refl _) _ | exact Bw.alloc (Bw.drew _) _ | exact Bw.alloc (by assumption) _)
              have cWN : WN.cell? ⟨wI16.heap.size, m, none⟩ = some (.string ⟨(nameOf m).toArray⟩) := by
                have hh : WN.heap[wI16.heap.size]? = some (.cells nameCells 9 (0, 0)) := by rw [hWN]; exact heap_alloc_new _ _
                rw [cell_of_row _ _ _ _ _ _ hh]
                exact nameCells_at hm17
              have zWN : wI16.heap.size < WN.heap.size := by rw [hWN]; simp
              have HSCWN : Hid (∀ w', Bw WN w' → (((w'.cell? ⟨w.heap.size, 0, none⟩ = some (.int .i64 2) ∧ w'.cell? ⟨w.heap.size, 1, none⟩ = some (.int .i64 x1) ∧ w'.cell? ⟨w.heap.size, 2, none⟩ = some (.int .i64 x2) ∧ w'.cell? ⟨w.heap.size, 3, none⟩ = some (.int .i64 x3) ∧ w'.cell? ⟨w.heap.size, 4, none⟩ = some (.int .i64 (m : Int)) ∧ w'.cell? ⟨w.heap.size, 5, none⟩ = some (.int .i64 x5)) ∧ Bw w1 w') ∧ w'.cell? ⟨w1.heap.size, 2, none⟩ = some (.string { data := #[99, 111, 110, 102, 105, 114, 109] }) ∧ Bw WK w') ∧ w'.cell? ⟨wI16.heap.size, m, none⟩ = some (.string ⟨(nameOf m).toArray⟩) ∧ Bw WN w') := fun w' hb => ⟨HSCWK.out _ (Bw.tr hbWN hb), (hb.cell (p := ⟨wI16.heap.size, _, none⟩) zWN).trans cWN, hb⟩
              refine wpAnyH_switch (S' := fun w' => (((w'.cell? ⟨w.heap.size, 0, none⟩ = some (.int .i64 2) ∧ w'.cell? ⟨w.heap.size, 1, none⟩ = some (.int .i64 x1) ∧ w'.cell? ⟨w.heap.size, 2, none⟩ = some (.int .i64 x2) ∧ w'.cell? ⟨w.heap.size, 3, none⟩ = some (.int .i64 x3) ∧ w'.cell? ⟨w.heap.size, 4, none⟩ = some (.int .i64 (m : Int)) ∧ w'.cell? ⟨w.heap.size, 5, none⟩ = some (.int .i64 x5)) ∧ Bw w1 w') ∧ w'.cell? ⟨w1.heap.size, 2, none⟩ = some (.string { data := #[99, 111, 110, 102, 105, 114, 109] }) ∧ Bw WK w') ∧ w'.cell? ⟨wI16.heap.size, m, none⟩ = some (.string ⟨(nameOf m).toArray⟩) ∧ Bw WN w') (fun _ h => h.1) (HSCWN.out _ (Bw.refl _)) (fun hHeld2 => ?_)
              clear hWN hHeld hw2
              refine wpAnyH_take (i := 21) (v := ?v65) (arr_at rfl) (by kernel_rfl) (by kernel_rfl) (by kernel_rfl) (fun _ _ _ h => h) (Or.inl ⟨by rfl, ?hy65⟩) (by assumption) ?_
              case hy65 => (intro w hSw; (try dsimp only at hSw); go_simp <;> with_reducible rfl)
              try simp only [Act.put, List.setIfInBounds_toArray, List.set_cons_zero, List.set_cons_succ]
              refine wpAnyH_take (i := 22) (v := ?v66) (arr_at rfl) (by kernel_rfl) (by kernel_rfl) (by kernel_rfl) (fun _ _ _ h => h) (Or.inl ⟨by rfl, ?hy66⟩) (by assumption) ?_
              case hy66 => (intro w hSw; (try dsimp only at hSw); go_simp <;> with_reducible rfl)
              try simp only [Act.put, List.setIfInBounds_toArray, List.set_cons_zero, List.set_cons_succ]
              refine wpAnyH_ready (rs := [26]) (by kernel_rfl) (by simp) ?_
              refine AllReadyH.cons (arr_at rfl) (fun K hK => ?_) ?_
              · skip
                go_simp
                refine (H5.out _ (HB.out.trans (Below.mono (Bw.tr (Bw.tr (Bw.tr (Bw.refl _) hbWK) hbWN) (Bw.refl _)) HB.out.size))).mono ?_
                rintro e wI26 ⟨rfl, hbI26⟩
                have HI26 : Bw WN wI26 := Bw.tr (Bw.refl _) hbI26
                refine hK.out _ _ ?_ (fun hHeld => ?_)
                · exact HSCWN.out _ HI26
                clear hK K hbI26
                try simp only [Act.put, List.setIfInBounds_toArray, List.set_cons_zero, List.set_cons_succ]
                refine wpAnyH_ready (rs := [27]) (by kernel_rfl) (by simp) ?_
                refine AllReadyH.cons (arr_at rfl) (fun K hK => ?_) ?_
                · skip
                  go_simp
                  refine hK.out _ _ ?_ (fun hHeld => ?_)
                  · refine HSCWN.out _ ?_
                    (first | exact Bw.alloc (Bw.refl _) _ | exact Bw.alloc (Bw.drew _) _ | exact Bw.alloc (by assumption) _)
                  clear hK K
                  try simp only [Act.put, List.setIfInBounds_toArray, List.set_cons_zero, List.set_cons_succ]
                  refine wpAnyH_take (i := 28) (v := ?v67) (arr_at rfl) (by kernel_rfl) (by kernel_rfl) (by kernel_rfl) (fun _ _ _ h => h) (Or.inl ⟨by rfl, ?hy67⟩) (by assumption) ?_
                  case hy67 => (intro w hSw; (try dsimp only at hSw); go_simp <;> with_reducible rfl)
                  try simp only [Act.put, List.setIfInBounds_toArray, List.set_cons_zero, List.set_cons_succ]
                  refine wpAnyH_done (by kernel_rfl) ?_ _
                  refine NoPanic.normal ?_
                  refine exit_namedL (Q := Exit.then _ _) fun WF hWF => ?_
                  have hbF : Bw WN WF := by rw [hWF]; first | exact Bw.alloc (Bw.refl _) _ | exact Bw.alloc (Bw.drew _) _ | exact Bw.alloc (by assumption) _
                  have hX : WF.heap[wI26.heap.size]? = some (.cells #[.string { data := #[99, 111, 110, 102, 105, 114, 109] }, .string ⟨(itS x1).toArray⟩, .string ⟨(itS x2).toArray⟩, .string ⟨(itS x3).toArray⟩, .string ⟨(nameOf m).toArray⟩, .string ⟨(itS x5).toArray⟩] 9 (0, 0)) := by rw [hWF]; exact heap_alloc_new _ _
                  have hB1F : Bw w1 WF := Bw.tr (Bw.tr (Bw.tr (Bw.refl _) hbWK) hbWN) hbF
                  have hsa : w.heap.size ≤ wI26.heap.size := Nat.le_trans HB.out.size (Below.size (show Below w1.heap.size w1 wI26 from Bw.tr (Bw.tr (Bw.tr (Bw.refl _) hbWK) hbWN) (by first | exact Bw.refl _ | assumption)))
                  have k0 : WF.cell? ⟨w.heap.size, 0, none⟩ = some (.int .i64 2) := (HSC.out _ hB1F).1.1
                  have kv : WF.cell? ⟨w.heap.size, 6, none⟩ = some (.int .i64 v) := (hB1F.cell (p := ⟨w.heap.size, 6, none⟩) y1).trans k6
                  have hBF : Below w.heap.size w WF := HB.out.trans (hB1F.mono HB.out.size)
                  obtain ⟨bx, hbx⟩ : ∃ bx, wI26.heap.size = bx := ⟨_, rfl⟩
                  have hwb : w.heap.size ≤ bx := by rw [← hbx]; exact hsa
                  rw [hbx] at hX ⊢
                  have HX := Lib.hid hX
                  have HBF := Lib.hid hBF
                  have hxl : bx < WF.heap.size := (Array.getElem?_eq_some_iff.1 hX).1
                  clear hWF hbx hX hBF hHeld2
                  have hwords : lineWordsG (2, (x1, x2, x3, (m : Int), x5), v) = [[99, 111, 110, 102, 105, 114, 109], itS x1, itS x2, itS x3, nameOf m, itS x5] := rfl
                  have HWD := Lib.hid hwords
                  have hlen := HJ.out
                  rw [hwords] at hlen
                  clear hwords
                  go_wp2_with fail
                  have HOWN : Hid (WF.ownsRow w.heap.size 9 1 (.slice (some ⟨bx, 0, none⟩) 6 6) 6 [.string { data := #[99, 111, 110, 102, 105, 114, 109] }, .string ⟨(itS x1).toArray⟩, .string ⟨(itS x2).toArray⟩, .string ⟨(itS x3).toArray⟩, .string ⟨(nameOf m).toArray⟩, .string ⟨(itS x5).toArray⟩]) := ownRow_of_block HX.out hwb (by simp [maxLen])
                  refine (join_of_own (ws := [[99, 111, 110, 102, 105, 114, 109], itS x1, itS x2, itS x3, nameOf m, itS x5]) HOWN.out rfl (by omega) (by omega) hlen).mono ?_
                  rintro e w7 ⟨rfl, hb7⟩
                  have HB7 := Lib.hid (below_step HBF.out hb7)
                  clear hb7
                  obtain ⟨J, hJ⟩ : ∃ J, Lib.join [[99, 111, 110, 102, 105, 114, 109], itS x1, itS x2, itS x3, nameOf m, itS x5] [32] = J := ⟨_, rfl⟩
                  rw [hJ] at hlen ⊢
                  have hadd : ∀ w, (Op.stringOp .add ⟨J.toArray⟩ ⟨#[10]⟩).run Tryz.prog w = .ok (.string ⟨(J ++ [10]).toArray⟩) w := fun w => run_string_add_lists w J [10] (by omega) (by simp)
                  have HLL : Hid (LL = J ++ [10]) := HL.out.trans (by rw [HWD.out, hJ])
                  clear hJ
                  go_wp2
                  go_ret
                  exact ⟨by rw [HLL.out]; rfl, HB7.out⟩
                exact AllReadyH.nil
              exact AllReadyH.nil
            exact AllReadyH.nil
          exact AllReadyH.nil
        exact AllReadyH.nil
      exact AllReadyH.nil
    refine AllReadyH.cons (arr_at rfl) (fun K hK => ?_) ?_
    · skip
      go_simp
      refine (H1.out _ (HB.out.trans (Below.mono (Bw.tr (Bw.refl _) (Bw.drew _)) HB.out.size))).mono ?_
      rintro e wI8 ⟨rfl, hbI8⟩
      have HI8 : Bw w1 wI8 := Bw.tr (Bw.drew _) hbI8
      refine hK.out _ _ ?_ (fun hHeld => ?_)
      · exact HSC.out _ HI8
      clear hK K hbI8
      try simp only [Act.put, List.setIfInBounds_toArray, List.set_cons_zero, List.set_cons_succ]
      refine wpAnyH_ready (rs := [0, 12]) (by kernel_rfl) (by simp) ?_
      refine AllReadyH.cons (arr_at rfl) (fun K hK => ?_) ?_
      · skip
        go_simp
        refine hK.out _ _ ?_ (fun hHeld => ?_)
        · refine HSC.out _ ?_
          (first | exact Bw.alloc (Bw.refl _) _ | exact Bw.alloc (Bw.drew _) _ | exact Bw.alloc (by assumption) _)
        clear hK K
        try simp only [Act.put, List.setIfInBounds_toArray, List.set_cons_zero, List.set_cons_succ]
        refine wpAnyH_named fun WK hWK => ?_
        have hbWK : Bw w1 WK := by rw [hWK]; (first | exact Bw.alloc (Bw.refl _) _ | exact Bw.alloc (Bw.drew _) _ | exact Bw.alloc (by assumption) _)
        have cWK : WK.cell? ⟨wI8.heap.size, 2, none⟩ = some (.string { data := #[99, 111, 110, 102, 105, 114, 109] }) := by
          rw [hWK]; go_simp
        have zWK : wI8.heap.size < WK.heap.size := by rw [hWK]; simp
        have HSCWK : Hid (∀ w', Bw WK w' → ((w'.cell? ⟨w.heap.size, 0, none⟩ = some (.int .i64 2) ∧ w'.cell? ⟨w.heap.size, 1, none⟩ = some (.int .i64 x1) ∧ w'.cell? ⟨w.heap.size, 2, none⟩ = some (.int .i64 x2) ∧ w'.cell? ⟨w.heap.size, 3, none⟩ = some (.int .i64 x3) ∧ w'.cell? ⟨w.heap.size, 4, none⟩ = some (.int .i64 (m : Int)) ∧ w'.cell? ⟨w.heap.size, 5, none⟩ = some (.int .i64 x5)) ∧ Bw w1 w') ∧ w'.cell? ⟨wI8.heap.size, 2, none⟩ = some (.string { data := #[99, 111, 110, 102, 105, 114, 109] }) ∧ Bw WK w') := fun w' hb => ⟨HSC.out _ (Bw.tr hbWK hb), (hb.cell (p := ⟨wI8.heap.size, _, none⟩) zWK).trans cWK, hb⟩
        refine wpAnyH_switch (S' := fun w' => ((w'.cell? ⟨w.heap.size, 0, none⟩ = some (.int .i64 2) ∧ w'.cell? ⟨w.heap.size, 1, none⟩ = some (.int .i64 x1) ∧ w'.cell? ⟨w.heap.size, 2, none⟩ = some (.int .i64 x2) ∧ w'.cell? ⟨w.heap.size, 3, none⟩ = some (.int .i64 x3) ∧ w'.cell? ⟨w.heap.size, 4, none⟩ = some (.int .i64 (m : Int)) ∧ w'.cell? ⟨w.heap.size, 5, none⟩ = some (.int .i64 x5)) ∧ Bw w1 w') ∧ w'.cell? ⟨wI8.heap.size, 2, none⟩ = some (.string { data := #[99, 111, 110, 102, 105, 114, 109] }) ∧ Bw WK w') (fun _ h => h.1) (HSCWK.out _ (Bw.refl _)) (fun hHeld2 => ?_)
        clear hWK hHeld
        refine wpAnyH_take (i := 3) (v := ?v68) (arr_at rfl) (by kernel_rfl) (by kernel_rfl) (by kernel_rfl) (fun _ _ _ h => h) (Or.inl ⟨by rfl, ?hy68⟩) (by assumption) ?_
        case hy68 => (intro w hSw; (try dsimp only at hSw); go_simp <;> with_reducible rfl)
        try simp only [Act.put, List.setIfInBounds_toArray, List.set_cons_zero, List.set_cons_succ]
        refine wpAnyH_take (i := 4) (v := ?v69) (arr_at rfl) (by kernel_rfl) (by kernel_rfl) (by kernel_rfl) (fun _ _ _ h => h) (Or.inl ⟨by rfl, ?hy69⟩) (by assumption) ?_
        case hy69 => (intro w hSw; (try dsimp only at hSw); go_simp <;> with_reducible rfl)
        try simp only [Act.put, List.setIfInBounds_toArray, List.set_cons_zero, List.set_cons_succ]
        refine wpAnyH_ready (rs := [12]) (by kernel_rfl) (by simp) ?_
        refine AllReadyH.cons (arr_at rfl) (fun K hK => ?_) ?_
        · skip
          go_simp
          refine (H2.out _ (HB.out.trans (Below.mono (Bw.tr (Bw.tr (Bw.refl _) hbWK) (Bw.refl _)) HB.out.size))).mono ?_
          rintro e wI12 ⟨rfl, hbI12⟩
          have HI12 : Bw WK wI12 := Bw.tr (Bw.refl _) hbI12
          refine hK.out _ _ ?_ (fun hHeld => ?_)
          · exact HSCWK.out _ HI12
          clear hK K hbI12
          try simp only [Act.put, List.setIfInBounds_toArray, List.set_cons_zero, List.set_cons_succ]
          refine wpAnyH_ready (rs := [16]) (by kernel_rfl) (by simp) ?_
          refine AllReadyH.cons (arr_at rfl) (fun K hK => ?_) ?_
          · skip
            go_simp
            refine (H3.out _ (HB.out.trans (Below.mono (Bw.tr (Bw.tr (Bw.refl _) hbWK) (HI12)) HB.out.size))).mono ?_
            rintro e wI16 ⟨rfl, hbI16⟩
            have HI16 : Bw WK wI16 := Bw.tr (HI12) hbI16
            refine hK.out _ _ ?_ (fun hHeld => ?_)
            · exact HSCWK.out _ HI16
            clear hK K hbI16
            try simp only [Act.put, List.setIfInBounds_toArray, List.set_cons_zero, List.set_cons_succ]
            refine wpAnyH_ready (rs := [17]) (by kernel_rfl) (by simp) ?_
            refine AllReadyH.cons (arr_at rfl) (fun K hK => ?_) ?_
            · skip
              go_simp
              refine (names_c _).mono ?_
              rintro e w2 ⟨rfl, hw2⟩
              refine hK.out _ _ ?_ (fun hHeld => ?_)
              · refine HSCWK.out _ ?_
                rw [hw2]; (first | exact Bw.alloc (Bw.refl _) _ | exact Bw.alloc (Bw.drew _) _ | exact Bw.alloc (by assumption) _)
              clear hK K
              try simp only [Act.put, List.setIfInBounds_toArray, List.set_cons_zero, List.set_cons_succ]
              refine wpAnyH_named fun WN hWN => ?_
              rw [hw2] at hWN
              have hbWN : Bw WK WN := by rw [hWN]; (first | exact Bw.alloc (Bw.refl _) _ | exact Bw.alloc (Bw.drew _) _ | exact Bw.alloc (by assumption) _)
              have cWN : WN.cell? ⟨wI16.heap.size, m, none⟩ = some (.string ⟨(nameOf m).toArray⟩) := by
                have hh : WN.heap[wI16.heap.size]? = some (.cells nameCells 9 (0, 0)) := by rw [hWN]; exact heap_alloc_new _ _
                rw [cell_of_row _ _ _ _ _ _ hh]
                exact nameCells_at hm17
              have zWN : wI16.heap.size < WN.heap.size := by rw [hWN]; simp
              have HSCWN : Hid (∀ w', Bw WN w' → (((w'.cell? ⟨w.heap.size, 0, none⟩ = some (.int .i64 2) ∧ w'.cell? ⟨w.heap.size, 1, none⟩ = some (.int .i64 x1) ∧ w'.cell? ⟨w.heap.size, 2, none⟩ = some (.int .i64 x2) ∧ w'.cell? ⟨w.heap.size, 3, none⟩ = some (.int .i64 x3) ∧ w'.cell? ⟨w.heap.size, 4, none⟩ = some (.int .i64 (m : Int)) ∧ w'.cell? ⟨w.heap.size, 5, none⟩ = some (.int .i64 x5)) ∧ Bw w1 w') ∧ w'.cell? ⟨wI8.heap.size, 2, none⟩ = some (.string { data := #[99, 111, 110, 102, 105, 114, 109] }) ∧ Bw WK w') ∧ w'.cell? ⟨wI16.heap.size, m, none⟩ = some (.string ⟨(nameOf m).toArray⟩) ∧ Bw WN w') := fun w' hb => ⟨HSCWK.out _ (Bw.tr hbWN hb), (hb.cell (p := ⟨wI16.heap.size, _, none⟩) zWN).trans cWN, hb⟩
              refine wpAnyH_switch (S' := fun w' => (((w'.cell? ⟨w.heap.size, 0, none⟩ = some (.int .i64 2) ∧ w'.cell? ⟨w.heap.size, 1, none⟩ = some (.int .i64 x1) ∧ w'.cell? ⟨w.heap.size, 2, none⟩ = some (.int .i64 x2) ∧ w'.cell? ⟨w.heap.size, 3, none⟩ = some (.int .i64 x3) ∧ w'.cell? ⟨w.heap.size, 4, none⟩ = some (.int .i64 (m : Int)) ∧ w'.cell? ⟨w.heap.size, 5, none⟩ = some (.int .i64 x5)) ∧ Bw w1 w') ∧ w'.cell? ⟨wI8.heap.size, 2, none⟩ = some (.string { data := #[99, 111, 110, 102, 105, 114, 109] }) ∧ Bw WK w') ∧ w'.cell? ⟨wI16.heap.size, m, none⟩ = some (.string ⟨(nameOf m).toArray⟩) ∧ Bw WN w') (fun _ h => h.1) (HSCWN.out _ (Bw.refl _)) (fun hHeld2 => ?_)
              clear hWN hHeld hw2
              refine wpAnyH_take (i := 21) (v := ?v70) (arr_at rfl) (by kernel_rfl) (by kernel_rfl) (by kernel_rfl) (fun _ _ _ h => h) (Or.inl ⟨by rfl, ?hy70⟩) (by assumption) ?_
              case hy70 => (intro w hSw; (try dsimp only at hSw); go_simp <;> with_reducible rfl)
              try simp only [Act.put, List.setIfInBounds_toArray, List.set_cons_zero, List.set_cons_succ]
              refine wpAnyH_take (i := 22) (v := ?v71) (arr_at rfl) (by kernel_rfl) (by kernel_rfl) (by kernel_rfl) (fun _ _ _ h => h) (Or.inl ⟨by rfl, ?hy71⟩) (by assumption) ?_
              case hy71 => (intro w hSw; (try dsimp only at hSw); go_simp <;> with_reducible rfl)
              try simp only [Act.put, List.setIfInBounds_toArray, List.set_cons_zero, List.set_cons_succ]
              refine wpAnyH_ready (rs := [26]) (by kernel_rfl) (by simp) ?_
              refine AllReadyH.cons (arr_at rfl) (fun K hK => ?_) ?_
              · skip
                go_simp
                refine (H5.out _ (HB.out.trans (Below.mono (Bw.tr (Bw.tr (Bw.tr (Bw.refl _) hbWK) hbWN) (Bw.refl _)) HB.out.size))).mono ?_
                rintro e wI26 ⟨rfl, hbI26⟩
                have HI26 : Bw WN wI26 := Bw.tr (Bw.refl _) hbI26
                refine hK.out _ _ ?_ (fun hHeld => ?_)
                · exact HSCWN.out _ HI26
                clear hK K hbI26
                try simp only [Act.put, List.setIfInBounds_toArray, List.set_cons_zero, List.set_cons_succ]
                refine wpAnyH_ready (rs := [27]) (by kernel_rfl) (by simp) ?_
                refine AllReadyH.cons (arr_at rfl) (fun K hK => ?_) ?_
                · skip
                  go_simp
                  refine hK.out _ _ ?_ (fun hHeld => ?_)
                  · refine HSCWN.out _ ?_
                    (first | exact Bw.alloc (Bw.refl _) _ | exact Bw.alloc (Bw.drew _) _ | exact Bw.alloc (by assumption) _)
                  clear hK K
                  try simp only [Act.put, List.setIfInBounds_toArray, List.set_cons_zero, List.set_cons_succ]
                  refine wpAnyH_take (i := 28) (v := ?v72) (arr_at rfl) (by kernel_rfl) (by kernel_rfl) (by kernel_rfl) (fun _ _ _ h => h) (Or.inl ⟨by rfl, ?hy72⟩) (by assumption) ?_
                  case hy72 => (intro w hSw; (try dsimp only at hSw); go_simp <;> with_reducible rfl)
                  try simp only [Act.put, List.setIfInBounds_toArray, List.set_cons_zero, List.set_cons_succ]
                  refine wpAnyH_done (by kernel_rfl) ?_ _
                  refine NoPanic.normal ?_
                  refine exit_namedL (Q := Exit.then _ _) fun WF hWF => ?_
                  have hbF : Bw WN WF := by rw [hWF]; first | exact Bw.alloc (Bw.refl _) _ | exact Bw.alloc (Bw.drew _) _ | exact Bw.alloc (by assumption) _
                  have hX : WF.heap[wI26.heap.size]? = some (.cells #[.string { data := #[99, 111, 110, 102, 105, 114, 109] }, .string ⟨(itS x1).toArray⟩, .string ⟨(itS x2).toArray⟩, .string ⟨(itS x3).toArray⟩, .string ⟨(nameOf m).toArray⟩, .string ⟨(itS x5).toArray⟩] 9 (0, 0)) := by rw [hWF]; exact heap_alloc_new _ _
                  have hB1F : Bw w1 WF := Bw.tr (Bw.tr (Bw.tr (Bw.refl _) hbWK) hbWN) hbF
                  have hsa : w.heap.size ≤ wI26.heap.size := Nat.le_trans HB.out.size (Below.size (show Below w1.heap.size w1 wI26 from Bw.tr (Bw.tr (Bw.tr (Bw.refl _) hbWK) hbWN) (by first | exact Bw.refl _ | assumption)))
                  have k0 : WF.cell? ⟨w.heap.size, 0, none⟩ = some (.int .i64 2) := (HSC.out _ hB1F).1.1
                  have kv : WF.cell? ⟨w.heap.size, 6, none⟩ = some (.int .i64 v) := (hB1F.cell (p := ⟨w.heap.size, 6, none⟩) y1).trans k6
                  have hBF : Below w.heap.size w WF := HB.out.trans (hB1F.mono HB.out.size)
                  obtain ⟨bx, hbx⟩ : ∃ bx, wI26.heap.size = bx := ⟨_, rfl⟩
                  have hwb : w.heap.size ≤ bx := by rw [← hbx]; exact hsa
                  rw [hbx] at hX ⊢
                  have HX := Lib.hid hX
                  have HBF := Lib.hid hBF
                  have hxl : bx < WF.heap.size := (Array.getElem?_eq_some_iff.1 hX).1
                  clear hWF hbx hX hBF hHeld2
                  have hwords : lineWordsG (2, (x1, x2, x3, (m : Int), x5), v) = [[99, 111, 110, 102, 105, 114, 109], itS x1, itS x2, itS x3, nameOf m, itS x5] := rfl
                  have HWD := Lib.hid hwords
                  have hlen := HJ.out
                  rw [hwords] at hlen
                  clear hwords
                  go_wp2_with fail
                  have HOWN : Hid (WF.ownsRow w.heap.size 9 1 (.slice (some ⟨bx, 0, none⟩) 6 6) 6 [.string { data := #[99, 111, 110, 102, 105, 114, 109] }, .string ⟨(itS x1).toArray⟩, .string ⟨(itS x2).toArray⟩, .string ⟨(itS x3).toArray⟩, .string ⟨(nameOf m).toArray⟩, .string ⟨(itS x5).toArray⟩]) := ownRow_of_block HX.out hwb (by simp [maxLen])
                  refine (join_of_own (ws := [[99, 111, 110, 102, 105, 114, 109], itS x1, itS x2, itS x3, nameOf m, itS x5]) HOWN.out rfl (by omega) (by omega) hlen).mono ?_
                  rintro e w7 ⟨rfl, hb7⟩
                  have HB7 := Lib.hid (below_step HBF.out hb7)
                  clear hb7
                  obtain ⟨J, hJ⟩ : ∃ J, Lib.join [[99, 111, 110, 102, 105, 114, 109], itS x1, itS x2, itS x3, nameOf m, itS x5] [32] = J := ⟨_, rfl⟩
                  rw [hJ] at hlen ⊢
                  have hadd : ∀ w, (Op.stringOp .add ⟨J.toArray⟩ ⟨#[10]⟩).run Tryz.prog w = .ok (.string ⟨(J ++ [10]).toArray⟩) w := fun w => run_string_add_lists w J [10] (by omega) (by simp)
                  have HLL : Hid (LL = J ++ [10]) := HL.out.trans (by rw [HWD.out, hJ])
                  clear hJ
                  go_wp2
                  go_ret
                  exact ⟨by rw [HLL.out]; rfl, HB7.out⟩
                exact AllReadyH.nil
              exact AllReadyH.nil
            exact AllReadyH.nil
          exact AllReadyH.nil
        exact AllReadyH.nil
      refine AllReadyH.cons (arr_at rfl) (fun K hK => ?_) ?_
      · skip
        go_simp
        refine (H2.out _ (HB.out.trans (Below.mono (Bw.tr (Bw.refl _) (HI8)) HB.out.size))).mono ?_
        rintro e wI12 ⟨rfl, hbI12⟩
        have HI12 : Bw w1 wI12 := Bw.tr (HI8) hbI12
        refine hK.out _ _ ?_ (fun hHeld => ?_)
        · exact HSC.out _ HI12
        clear hK K hbI12
        try simp only [Act.put, List.setIfInBounds_toArray, List.set_cons_zero, List.set_cons_succ]
        refine wpAnyH_ready (rs := [0, 16]) (by kernel_rfl) (by simp) ?_
        refine AllReadyH.cons (arr_at rfl) (fun K hK => ?_) ?_
        · skip
          go_simp
          refine hK.out _ _ ?_ (fun hHeld => ?_)
          · refine HSC.out _ ?_
            (first | exact Bw.alloc (Bw.refl _) _ | exact Bw.alloc (Bw.drew _) _ | exact Bw.alloc (by assumption) _)
          clear hK K
          try simp only [Act.put, List.setIfInBounds_toArray, List.set_cons_zero, List.set_cons_succ]
          refine wpAnyH_named fun WK hWK => ?_
          have hbWK : Bw w1 WK := by rw [hWK]; (first | exact Bw.alloc (Bw.refl _) _ | exact Bw.alloc (Bw.drew _) _ | exact Bw.alloc (by assumption) _)
          have cWK : WK.cell? ⟨wI12.heap.size, 2, none⟩ = some (.string { data := #[99, 111, 110, 102, 105, 114, 109] }) := by
            rw [hWK]; go_simp
          have zWK : wI12.heap.size < WK.heap.size := by rw [hWK]; simp
          have HSCWK : Hid (∀ w', Bw WK w' → ((w'.cell? ⟨w.heap.size, 0, none⟩ = some (.int .i64 2) ∧ w'.cell? ⟨w.heap.size, 1, none⟩ = some (.int .i64 x1) ∧ w'.cell? ⟨w.heap.size, 2, none⟩ = some (.int .i64 x2) ∧ w'.cell? ⟨w.heap.size, 3, none⟩ = some (.int .i64 x3) ∧ w'.cell? ⟨w.heap.size, 4, none⟩ = some (.int .i64 (m : Int)) ∧ w'.cell? ⟨w.heap.size, 5, none⟩ = some (.int .i64 x5)) ∧ Bw w1 w') ∧ w'.cell? ⟨wI12.heap.size, 2, none⟩ = some (.string { data := #[99, 111, 110, 102, 105, 114, 109] }) ∧ Bw WK w') := fun w' hb => ⟨HSC.out _ (Bw.tr hbWK hb), (hb.cell (p := ⟨wI12.heap.size, _, none⟩) zWK).trans cWK, hb⟩
          refine wpAnyH_switch (S' := fun w' => ((w'.cell? ⟨w.heap.size, 0, none⟩ = some (.int .i64 2) ∧ w'.cell? ⟨w.heap.size, 1, none⟩ = some (.int .i64 x1) ∧ w'.cell? ⟨w.heap.size, 2, none⟩ = some (.int .i64 x2) ∧ w'.cell? ⟨w.heap.size, 3, none⟩ = some (.int .i64 x3) ∧ w'.cell? ⟨w.heap.size, 4, none⟩ = some (.int .i64 (m : Int)) ∧ w'.cell? ⟨w.heap.size, 5, none⟩ = some (.int .i64 x5)) ∧ Bw w1 w') ∧ w'.cell? ⟨wI12.heap.size, 2, none⟩ = some (.string { data := #[99, 111, 110, 102, 105, 114, 109] }) ∧ Bw WK w') (fun _ h => h.1) (HSCWK.out _ (Bw.refl _)) (fun hHeld2 => ?_)
          clear hWK hHeld
          refine wpAnyH_take (i := 3) (v := ?v73) (arr_at rfl) (by kernel_rfl) (by kernel_rfl) (by kernel_rfl) (fun _ _ _ h => h) (Or.inl ⟨by rfl, ?hy73⟩) (by assumption) ?_
          case hy73 => (intro w hSw; (try dsimp only at hSw); go_simp <;> with_reducible rfl)
          try simp only [Act.put, List.setIfInBounds_toArray, List.set_cons_zero, List.set_cons_succ]
          refine wpAnyH_take (i := 4) (v := ?v74) (arr_at rfl) (by kernel_rfl) (by kernel_rfl) (by kernel_rfl) (fun _ _ _ h => h) (Or.inl ⟨by rfl, ?hy74⟩) (by assumption) ?_
          case hy74 => (intro w hSw; (try dsimp only at hSw); go_simp <;> with_reducible rfl)
          try simp only [Act.put, List.setIfInBounds_toArray, List.set_cons_zero, List.set_cons_succ]
          refine wpAnyH_ready (rs := [16]) (by kernel_rfl) (by simp) ?_
          refine AllReadyH.cons (arr_at rfl) (fun K hK => ?_) ?_
          · skip
            go_simp
            refine (H3.out _ (HB.out.trans (Below.mono (Bw.tr (Bw.tr (Bw.refl _) hbWK) (Bw.refl _)) HB.out.size))).mono ?_
            rintro e wI16 ⟨rfl, hbI16⟩
            have HI16 : Bw WK wI16 := Bw.tr (Bw.refl _) hbI16
            refine hK.out _ _ ?_ (fun hHeld => ?_)
            · exact HSCWK.out _ HI16
            clear hK K hbI16
            try simp only [Act.put, List.setIfInBounds_toArray, List.set_cons_zero, List.set_cons_succ]
            refine wpAnyH_ready (rs := [17]) (by kernel_rfl) (by simp) ?_
            refine AllReadyH.cons (arr_at rfl) (fun K hK => ?_) ?_
            · skip
              go_simp
              refine (names_c _).mono ?_
              rintro e w2 ⟨rfl, hw2⟩
              refine hK.out _ _ ?_ (fun hHeld => ?_)
              · refine HSCWK.out _ ?_
                rw [hw2]; (first | exact Bw.alloc (Bw.refl _) _ | exact Bw.alloc (Bw.drew _) _ | exact Bw.alloc (by assumption) _)
              clear hK K
              try simp only [Act.put, List.setIfInBounds_toArray, List.set_cons_zero, List.set_cons_succ]
              refine wpAnyH_named fun WN hWN => ?_
              rw [hw2] at hWN
              have hbWN : Bw WK WN := by rw [hWN]; (first | exact Bw.alloc (Bw.refl _) _ | exact Bw.alloc (Bw.drew _) _ | exact Bw.alloc (by assumption) _)
              have cWN : WN.cell? ⟨wI16.heap.size, m, none⟩ = some (.string ⟨(nameOf m).toArray⟩) := by
                have hh : WN.heap[wI16.heap.size]? = some (.cells nameCells 9 (0, 0)) := by rw [hWN]; exact heap_alloc_new _ _
                rw [cell_of_row _ _ _ _ _ _ hh]
                exact nameCells_at hm17
              have zWN : wI16.heap.size < WN.heap.size := by rw [hWN]; simp
              have HSCWN : Hid (∀ w', Bw WN w' → (((w'.cell? ⟨w.heap.size, 0, none⟩ = some (.int .i64 2) ∧ w'.cell? ⟨w.heap.size, 1, none⟩ = some (.int .i64 x1) ∧ w'.cell? ⟨w.heap.size, 2, none⟩ = some (.int .i64 x2) ∧ w'.cell? ⟨w.heap.size, 3, none⟩ = some (.int .i64 x3) ∧ w'.cell? ⟨w.heap.size, 4, none⟩ = some (.int .i64 (m : Int)) ∧ w'.cell? ⟨w.heap.size, 5, none⟩ = some (.int .i64 x5)) ∧ Bw w1 w') ∧ w'.cell? ⟨wI12.heap.size, 2, none⟩ = some (.string { data := #[99, 111, 110, 102, 105, 114, 109] }) ∧ Bw WK w') ∧ w'.cell? ⟨wI16.heap.size, m, none⟩ = some (.string ⟨(nameOf m).toArray⟩) ∧ Bw WN w') := fun w' hb => ⟨HSCWK.out _ (Bw.tr hbWN hb), (hb.cell (p := ⟨wI16.heap.size, _, none⟩) zWN).trans cWN, hb⟩
              refine wpAnyH_switch (S' := fun w' => (((w'.cell? ⟨w.heap.size, 0, none⟩ = some (.int .i64 2) ∧ w'.cell? ⟨w.heap.size, 1, none⟩ = some (.int .i64 x1) ∧ w'.cell? ⟨w.heap.size, 2, none⟩ = some (.int .i64 x2) ∧ w'.cell? ⟨w.heap.size, 3, none⟩ = some (.int .i64 x3) ∧ w'.cell? ⟨w.heap.size, 4, none⟩ = some (.int .i64 (m : Int)) ∧ w'.cell? ⟨w.heap.size, 5, none⟩ = some (.int .i64 x5)) ∧ Bw w1 w') ∧ w'.cell? ⟨wI12.heap.size, 2, none⟩ = some (.string { data := #[99, 111, 110, 102, 105, 114, 109] }) ∧ Bw WK w') ∧ w'.cell? ⟨wI16.heap.size, m, none⟩ = some (.string ⟨(nameOf m).toArray⟩) ∧ Bw WN w') (fun _ h => h.1) (HSCWN.out _ (Bw.refl _)) (fun hHeld2 => ?_)
              clear hWN hHeld hw2
              refine wpAnyH_take (i := 21) (v := ?v75) (arr_at rfl) (by kernel_rfl) (by kernel_rfl) (by kernel_rfl) (fun _ _ _ h => h) (Or.inl ⟨by rfl, ?hy75⟩) (by assumption) ?_
              case hy75 => (intro w hSw; (try dsimp only at hSw); go_simp <;> with_reducible rfl)
              try simp only [Act.put, List.setIfInBounds_toArray, List.set_cons_zero, List.set_cons_succ]
              refine wpAnyH_take (i := 22) (v := ?v76) (arr_at rfl) (by kernel_rfl) (by kernel_rfl) (by kernel_rfl) (fun _ _ _ h => h) (Or.inl ⟨by rfl, ?hy76⟩) (by assumption) ?_
              case hy76 => (intro w hSw; (try dsimp only at hSw); go_simp <;> with_reducible rfl)
              try simp only [Act.put, List.setIfInBounds_toArray, List.set_cons_zero, List.set_cons_succ]
              refine wpAnyH_ready (rs := [26]) (by kernel_rfl) (by simp) ?_
              refine AllReadyH.cons (arr_at rfl) (fun K hK => ?_) ?_
              · skip
                go_simp
                refine (H5.out _ (HB.out.trans (Below.mono (Bw.tr (Bw.tr (Bw.tr (Bw.refl _) hbWK) hbWN) (Bw.refl _)) HB.out.size))).mono ?_
                rintro e wI26 ⟨rfl, hbI26⟩
                have HI26 : Bw WN wI26 := Bw.tr (Bw.refl _) hbI26
                refine hK.out _ _ ?_ (fun hHeld => ?_)
                · exact HSCWN.out _ HI26
                clear hK K hbI26
                try simp only [Act.put, List.setIfInBounds_toArray, List.set_cons_zero, List.set_cons_succ]
                refine wpAnyH_ready (rs := [27]) (by kernel_rfl) (by simp) ?_
                refine AllReadyH.cons (arr_at rfl) (fun K hK => ?_) ?_
                · skip
                  go_simp
                  refine hK.out _ _ ?_ (fun hHeld => ?_)
                  · refine HSCWN.out _ ?_
                    (first | exact Bw.alloc (Bw.refl _) _ | exact Bw.alloc (Bw.drew _) _ | exact Bw.alloc (by assumption) _)
                  clear hK K
                  try simp only [Act.put, List.setIfInBounds_toArray, List.set_cons_zero, List.set_cons_succ]
                  refine wpAnyH_take (i := 28) (v := ?v77) (arr_at rfl) (by kernel_rfl) (by kernel_rfl) (by kernel_rfl) (fun _ _ _ h => h) (Or.inl ⟨by rfl, ?hy77⟩) (by assumption) ?_
                  case hy77 => (intro w hSw; (try dsimp only at hSw); go_simp <;> with_reducible rfl)
                  try simp only [Act.put, List.setIfInBounds_toArray, List.set_cons_zero, List.set_cons_succ]
                  refine wpAnyH_done (by kernel_rfl) ?_ _
                  refine NoPanic.normal ?_
                  refine exit_namedL (Q := Exit.then _ _) fun WF hWF => ?_
                  have hbF : Bw WN WF := by rw [hWF]; first | exact Bw.alloc (Bw.refl _) _ | exact Bw.alloc (Bw.drew _) _ | exact Bw.alloc (by assumption) _
                  have hX : WF.heap[wI26.heap.size]? = some (.cells #[.string { data := #[99, 111, 110, 102, 105, 114, 109] }, .string ⟨(itS x1).toArray⟩, .string ⟨(itS x2).toArray⟩, .string ⟨(itS x3).toArray⟩, .string ⟨(nameOf m).toArray⟩, .string ⟨(itS x5).toArray⟩] 9 (0, 0)) := by rw [hWF]; exact heap_alloc_new _ _
                  have hB1F : Bw w1 WF := Bw.tr (Bw.tr (Bw.tr (Bw.refl _) hbWK) hbWN) hbF
                  have hsa : w.heap.size ≤ wI26.heap.size := Nat.le_trans HB.out.size (Below.size (show Below w1.heap.size w1 wI26 from Bw.tr (Bw.tr (Bw.tr (Bw.refl _) hbWK) hbWN) (by first | exact Bw.refl _ | assumption)))
                  have k0 : WF.cell? ⟨w.heap.size, 0, none⟩ = some (.int .i64 2) := (HSC.out _ hB1F).1.1
                  have kv : WF.cell? ⟨w.heap.size, 6, none⟩ = some (.int .i64 v) := (hB1F.cell (p := ⟨w.heap.size, 6, none⟩) y1).trans k6
                  have hBF : Below w.heap.size w WF := HB.out.trans (hB1F.mono HB.out.size)
                  obtain ⟨bx, hbx⟩ : ∃ bx, wI26.heap.size = bx := ⟨_, rfl⟩
                  have hwb : w.heap.size ≤ bx := by rw [← hbx]; exact hsa
                  rw [hbx] at hX ⊢
                  have HX := Lib.hid hX
                  have HBF := Lib.hid hBF
                  have hxl : bx < WF.heap.size := (Array.getElem?_eq_some_iff.1 hX).1
                  clear hWF hbx hX hBF hHeld2
                  have hwords : lineWordsG (2, (x1, x2, x3, (m : Int), x5), v) = [[99, 111, 110, 102, 105, 114, 109], itS x1, itS x2, itS x3, nameOf m, itS x5] := rfl
                  have HWD := Lib.hid hwords
                  have hlen := HJ.out
                  rw [hwords] at hlen
                  clear hwords
                  go_wp2_with fail
                  have HOWN : Hid (WF.ownsRow w.heap.size 9 1 (.slice (some ⟨bx, 0, none⟩) 6 6) 6 [.string { data := #[99, 111, 110, 102, 105, 114, 109] }, .string ⟨(itS x1).toArray⟩, .string ⟨(itS x2).toArray⟩, .string ⟨(itS x3).toArray⟩, .string ⟨(nameOf m).toArray⟩, .string ⟨(itS x5).toArray⟩]) := ownRow_of_block HX.out hwb (by simp [maxLen])
                  refine (join_of_own (ws := [[99, 111, 110, 102, 105, 114, 109], itS x1, itS x2, itS x3, nameOf m, itS x5]) HOWN.out rfl (by omega) (by omega) hlen).mono ?_
                  rintro e w7 ⟨rfl, hb7⟩
                  have HB7 := Lib.hid (below_step HBF.out hb7)
                  clear hb7
                  obtain ⟨J, hJ⟩ : ∃ J, Lib.join [[99, 111, 110, 102, 105, 114, 109], itS x1, itS x2, itS x3, nameOf m, itS x5] [32] = J := ⟨_, rfl⟩
                  rw [hJ] at hlen ⊢
                  have hadd : ∀ w, (Op.stringOp .add ⟨J.toArray⟩ ⟨#[10]⟩).run Tryz.prog w = .ok (.string ⟨(J ++ [10]).toArray⟩) w := fun w => run_string_add_lists w J [10] (by omega) (by simp)
                  have HLL : Hid (LL = J ++ [10]) := HL.out.trans (by rw [HWD.out, hJ])
                  clear hJ
                  go_wp2
                  go_ret
                  exact ⟨by rw [HLL.out]; rfl, HB7.out⟩
                exact AllReadyH.nil
              exact AllReadyH.nil
            exact AllReadyH.nil
          exact AllReadyH.nil
        refine AllReadyH.cons (arr_at rfl) (fun K hK => ?_) ?_
        · skip
          go_simp
          refine (H3.out _ (HB.out.trans (Below.mono (Bw.tr (Bw.refl _) (HI12)) HB.out.size))).mono ?_
          rintro e wI16 ⟨rfl, hbI16⟩
          have HI16 : Bw w1 wI16 := Bw.tr (HI12) hbI16
          refine hK.out _ _ ?_ (fun hHeld => ?_)
          · exact HSC.out _ HI16
          clear hK K hbI16
          try simp only [Act.put, List.setIfInBounds_toArray, List.set_cons_zero, List.set_cons_succ]
          refine wpAnyH_ready (rs := [0, 17]) (by kernel_rfl) (by simp) ?_
          refine AllReadyH.cons (arr_at rfl) (fun K hK => ?_) ?_
          · skip
            go_simp
            refine hK.out _ _ ?_ (fun hHeld => ?_)
            · refine HSC.out _ ?_
              (first | exact Bw.alloc (Bw.refl _) _ | exact Bw.alloc (Bw.drew _) _ | exact Bw.alloc (by assumption) _)
            clear hK K
            try simp only [Act.put, List.setIfInBounds_toArray, List.set_cons_zero, List.set_cons_succ]
            refine wpAnyH_named fun WK hWK => ?_
            have hbWK : Bw w1 WK := by rw [hWK]; (first | exact Bw.alloc (Bw.refl _) _ | exact Bw.alloc (Bw.drew _) _ | exact Bw.alloc (by assumption) _)
            have cWK : WK.cell? ⟨wI16.heap.size, 2, none⟩ = some (.string { data := #[99, 111, 110, 102, 105, 114, 109] }) := by
              rw [hWK]; go_simp
            have zWK : wI16.heap.size < WK.heap.size := by rw [hWK]; simp
            have HSCWK : Hid (∀ w', Bw WK w' → ((w'.cell? ⟨w.heap.size, 0, none⟩ = some (.int .i64 2) ∧ w'.cell? ⟨w.heap.size, 1, none⟩ = some (.int .i64 x1) ∧ w'.cell? ⟨w.heap.size, 2, none⟩ = some (.int .i64 x2) ∧ w'.cell? ⟨w.heap.size, 3, none⟩ = some (.int .i64 x3) ∧ w'.cell? ⟨w.heap.size, 4, none⟩ = some (.int .i64 (m : Int)) ∧ w'.cell? ⟨w.heap.size, 5, none⟩ = some (.int .i64 x5)) ∧ Bw w1 w') ∧ w'.cell? ⟨wI16.heap.size, 2, none⟩ = some (.string { data := #[99, 111, 110, 102, 105, 114, 109] }) ∧ Bw WK w') := fun w' hb => ⟨HSC.out _ (Bw.tr hbWK hb), (hb.cell (p := ⟨wI16.heap.size, _, none⟩) zWK).trans cWK, hb⟩
            refine wpAnyH_switch (S' := fun w' => ((w'.cell? ⟨w.heap.size, 0, none⟩ = some (.int .i64 2) ∧ w'.cell? ⟨w.heap.size, 1, none⟩ = some (.int .i64 x1) ∧ w'.cell? ⟨w.heap.size, 2, none⟩ = some (.int .i64 x2) ∧ w'.cell? ⟨w.heap.size, 3, none⟩ = some (.int .i64 x3) ∧ w'.cell? ⟨w.heap.size, 4, none⟩ = some (.int .i64 (m : Int)) ∧ w'.cell? ⟨w.heap.size, 5, none⟩ = some (.int .i64 x5)) ∧ Bw w1 w') ∧ w'.cell? ⟨wI16.heap.size, 2, none⟩ = some (.string { data := #[99, 111, 110, 102, 105, 114, 109] }) ∧ Bw WK w') (fun _ h => h.1) (HSCWK.out _ (Bw.refl _)) (fun hHeld2 => ?_)
            clear hWK hHeld
            refine wpAnyH_take (i := 3) (v := ?v78) (arr_at rfl) (by kernel_rfl) (by kernel_rfl) (by kernel_rfl) (fun _ _ _ h => h) (Or.inl ⟨by rfl, ?hy78⟩) (by assumption) ?_
            case hy78 => (intro w hSw; (try dsimp only at hSw); go_simp <;> with_reducible rfl)
            try simp only [Act.put, List.setIfInBounds_toArray, List.set_cons_zero, List.set_cons_succ]
            refine wpAnyH_take (i := 4) (v := ?v79) (arr_at rfl) (by kernel_rfl) (by kernel_rfl) (by kernel_rfl) (fun _ _ _ h => h) (Or.inl ⟨by rfl, ?hy79⟩) (by assumption) ?_
            case hy79 => (intro w hSw; (try dsimp only at hSw); go_simp <;> with_reducible rfl)
            try simp only [Act.put, List.setIfInBounds_toArray, List.set_cons_zero, List.set_cons_succ]
            refine wpAnyH_ready (rs := [17]) (by kernel_rfl) (by simp) ?_
            refine AllReadyH.cons (arr_at rfl) (fun K hK => ?_) ?_
            · skip
              go_simp
              refine (names_c _).mono ?_
              rintro e w2 ⟨rfl, hw2⟩
              refine hK.out _ _ ?_ (fun hHeld => ?_)
              · refine HSCWK.out _ ?_
                rw [hw2]; (first | exact Bw.alloc (Bw.refl _) _ | exact Bw.alloc (Bw.drew _) _ | exact Bw.alloc (by assumption) _)
              clear hK K
              try simp only [Act.put, List.setIfInBounds_toArray, List.set_cons_zero, List.set_cons_succ]
              refine wpAnyH_named fun WN hWN => ?_
              rw [hw2] at hWN
              have hbWN : Bw WK WN := by rw [hWN]; (first | exact Bw.alloc (Bw.refl _) _ | exact Bw.alloc (Bw.drew _) _ | exact Bw.alloc (by assumption) _)
              have cWN : WN.cell? ⟨WK.heap.size, m, none⟩ = some (.string ⟨(nameOf m).toArray⟩) := by
                have hh : WN.heap[WK.heap.size]? = some (.cells nameCells 9 (0, 0)) := by rw [hWN]; exact heap_alloc_new _ _
                rw [cell_of_row _ _ _ _ _ _ hh]
                exact nameCells_at hm17
              have zWN : WK.heap.size < WN.heap.size := by rw [hWN]; simp
              have HSCWN : Hid (∀ w', Bw WN w' → (((w'.cell? ⟨w.heap.size, 0, none⟩ = some (.int .i64 2) ∧ w'.cell? ⟨w.heap.size, 1, none⟩ = some (.int .i64 x1) ∧ w'.cell? ⟨w.heap.size, 2, none⟩ = some (.int .i64 x2) ∧ w'.cell? ⟨w.heap.size, 3, none⟩ = some (.int .i64 x3) ∧ w'.cell? ⟨w.heap.size, 4, none⟩ = some (.int .i64 (m : Int)) ∧ w'.cell? ⟨w.heap.size, 5, none⟩ = some (.int .i64 x5)) ∧ Bw w1 w') ∧ w'.cell? ⟨wI16.heap.size, 2, none⟩ = some (.string { data := #[99, 111, 110, 102, 105, 114, 109] }) ∧ Bw WK w') ∧ w'.cell? ⟨WK.heap.size, m, none⟩ = some (.string ⟨(nameOf m).toArray⟩) ∧ Bw WN w') := fun w' hb => ⟨HSCWK.out _ (Bw.tr hbWN hb), (hb.cell (p := ⟨WK.heap.size, _, none⟩) zWN).trans cWN, hb⟩
              refine wpAnyH_switch (S' := fun w' => (((w'.cell? ⟨w.heap.size, 0, none⟩ = some (.int .i64 2) ∧ w'.cell? ⟨w.heap.size, 1, none⟩ = some (.int .i64 x1) ∧ w'.cell? ⟨w.heap.size, 2, none⟩ = some (.int .i64 x2) ∧ w'.cell? ⟨w.heap.size, 3, none⟩ = some (.int .i64 x3) ∧ w'.cell? ⟨w.heap.size, 4, none⟩ = some (.int .i64 (m : Int)) ∧ w'.cell? ⟨w.heap.size, 5, none⟩ = some (.int .i64 x5)) ∧ Bw w1 w') ∧ w'.cell? ⟨wI16.heap.size, 2, none⟩ = some (.string { data := #[99, 111, 110, 102, 105, 114, 109] }) ∧ Bw WK w') ∧ w'.cell? ⟨WK.heap.size, m, none⟩ = some (.string ⟨(nameOf m).toArray⟩) ∧ Bw WN w') (fun _ h => h.1) (HSCWN.out _ (Bw.refl _)) (fun hHeld2 => ?_)
              clear hWN hHeld hw2
              refine wpAnyH_take (i := 21) (v := ?v80) (arr_at rfl) (by kernel_rfl) (by kernel_rfl) (by kernel_rfl) (fun _ _ _ h => h) (Or.inl ⟨by rfl, ?hy80⟩) (by assumption) ?_
              case hy80 => (intro w hSw; (try dsimp only at hSw); go_simp <;> with_reducible rfl)
              try simp only [Act.put, List.setIfInBounds_toArray, List.set_cons_zero, List.set_cons_succ]
              refine wpAnyH_take (i := 22) (v := ?v81) (arr_at rfl) (by kernel_rfl) (by kernel_rfl) (by kernel_rfl) (fun _ _ _ h => h) (Or.inl ⟨by rfl, ?hy81⟩) (by assumption) ?_
              case hy81 => (intro w hSw; (try dsimp only at hSw); go_simp <;> with_reducible rfl)
              try simp only [Act.put, List.setIfInBounds_toArray, List.set_cons_zero, List.set_cons_succ]
              refine wpAnyH_ready (rs := [26]) (by kernel_rfl) (by simp) ?_
              refine AllReadyH.cons (arr_at rfl) (fun K hK => ?_) ?_
              · skip
                go_simp
                refine (H5.out _ (HB.out.trans (Below.mono (Bw.tr (Bw.tr (Bw.tr (Bw.refl _) hbWK) hbWN) (Bw.refl _)) HB.out.size))).mono ?_
                rintro e wI26 ⟨rfl, hbI26⟩
                have HI26 : Bw WN wI26 := Bw.tr (Bw.refl _) hbI26
                refine hK.out _ _ ?_ (fun hHeld => ?_)
                · exact HSCWN.out _ HI26
                clear hK K hbI26
                try simp only [Act.put, List.setIfInBounds_toArray, List.set_cons_zero, List.set_cons_succ]
                refine wpAnyH_ready (rs := [27]) (by kernel_rfl) (by simp) ?_
                refine AllReadyH.cons (arr_at rfl) (fun K hK => ?_) ?_
                · skip
                  go_simp
                  refine hK.out _ _ ?_ (fun hHeld => ?_)
                  · refine HSCWN.out _ ?_
                    (first | exact Bw.alloc (Bw.refl _) _ | exact Bw.alloc (Bw.drew _) _ | exact Bw.alloc (by assumption) _)
                  clear hK K
                  try simp only [Act.put, List.setIfInBounds_toArray, List.set_cons_zero, List.set_cons_succ]
                  refine wpAnyH_take (i := 28) (v := ?v82) (arr_at rfl) (by kernel_rfl) (by kernel_rfl) (by kernel_rfl) (fun _ _ _ h => h) (Or.inl ⟨by rfl, ?hy82⟩) (by assumption) ?_
                  case hy82 => (intro w hSw; (try dsimp only at hSw); go_simp <;> with_reducible rfl)
                  try simp only [Act.put, List.setIfInBounds_toArray, List.set_cons_zero, List.set_cons_succ]
                  refine wpAnyH_done (by kernel_rfl) ?_ _
                  refine NoPanic.normal ?_
                  refine exit_namedL (Q := Exit.then _ _) fun WF hWF => ?_
                  have hbF : Bw WN WF := by rw [hWF]; first | exact Bw.alloc (Bw.refl _) _ | exact Bw.alloc (Bw.drew _) _ | exact Bw.alloc (by assumption) _
                  have hX : WF.heap[wI26.heap.size]? = some (.cells #[.string { data := #[99, 111, 110, 102, 105, 114, 109] }, .string ⟨(itS x1).toArray⟩, .string ⟨(itS x2).toArray⟩, .string ⟨(itS x3).toArray⟩, .string ⟨(nameOf m).toArray⟩, .string ⟨(itS x5).toArray⟩] 9 (0, 0)) := by rw [hWF]; exact heap_alloc_new _ _
                  have hB1F : Bw w1 WF := Bw.tr (Bw.tr (Bw.tr (Bw.refl _) hbWK) hbWN) hbF
                  have hsa : w.heap.size ≤ wI26.heap.size := Nat.le_trans HB.out.size (Below.size (show Below w1.heap.size w1 wI26 from Bw.tr (Bw.tr (Bw.tr (Bw.refl _) hbWK) hbWN) (by first | exact Bw.refl _ | assumption)))
                  have k0 : WF.cell? ⟨w.heap.size, 0, none⟩ = some (.int .i64 2) := (HSC.out _ hB1F).1.1
                  have kv : WF.cell? ⟨w.heap.size, 6, none⟩ = some (.int .i64 v) := (hB1F.cell (p := ⟨w.heap.size, 6, none⟩) y1).trans k6
                  have hBF : Below w.heap.size w WF := HB.out.trans (hB1F.mono HB.out.size)
                  obtain ⟨bx, hbx⟩ : ∃ bx, wI26.heap.size = bx := ⟨_, rfl⟩
                  have hwb : w.heap.size ≤ bx := by rw [← hbx]; exact hsa
                  rw [hbx] at hX ⊢
                  have HX := Lib.hid hX
                  have HBF := Lib.hid hBF
                  have hxl : bx < WF.heap.size := (Array.getElem?_eq_some_iff.1 hX).1
                  clear hWF hbx hX hBF hHeld2
                  have hwords : lineWordsG (2, (x1, x2, x3, (m : Int), x5), v) = [[99, 111, 110, 102, 105, 114, 109], itS x1, itS x2, itS x3, nameOf m, itS x5] := rfl
                  have HWD := Lib.hid hwords
                  have hlen := HJ.out
                  rw [hwords] at hlen
                  clear hwords
                  go_wp2_with fail
                  have HOWN : Hid (WF.ownsRow w.heap.size 9 1 (.slice (some ⟨bx, 0, none⟩) 6 6) 6 [.string { data := #[99, 111, 110, 102, 105, 114, 109] }, .string ⟨(itS x1).toArray⟩, .string ⟨(itS x2).toArray⟩, .string ⟨(itS x3).toArray⟩, .string ⟨(nameOf m).toArray⟩, .string ⟨(itS x5).toArray⟩]) := ownRow_of_block HX.out hwb (by simp [maxLen])
                  refine (join_of_own (ws := [[99, 111, 110, 102, 105, 114, 109], itS x1, itS x2, itS x3, nameOf m, itS x5]) HOWN.out rfl (by omega) (by omega) hlen).mono ?_
                  rintro e w7 ⟨rfl, hb7⟩
                  have HB7 := Lib.hid (below_step HBF.out hb7)
                  clear hb7
                  obtain ⟨J, hJ⟩ : ∃ J, Lib.join [[99, 111, 110, 102, 105, 114, 109], itS x1, itS x2, itS x3, nameOf m, itS x5] [32] = J := ⟨_, rfl⟩
                  rw [hJ] at hlen ⊢
                  have hadd : ∀ w, (Op.stringOp .add ⟨J.toArray⟩ ⟨#[10]⟩).run Tryz.prog w = .ok (.string ⟨(J ++ [10]).toArray⟩) w := fun w => run_string_add_lists w J [10] (by omega) (by simp)
                  have HLL : Hid (LL = J ++ [10]) := HL.out.trans (by rw [HWD.out, hJ])
                  clear hJ
                  go_wp2
                  go_ret
                  exact ⟨by rw [HLL.out]; rfl, HB7.out⟩
                exact AllReadyH.nil
              exact AllReadyH.nil
            exact AllReadyH.nil
          refine AllReadyH.cons (arr_at rfl) (fun K hK => ?_) ?_
          · skip
            go_simp
            refine (names_c _).mono ?_
            rintro e w2 ⟨rfl, hw2⟩
            refine hK.out _ _ ?_ (fun hHeld => ?_)
            · refine HSC.out _ ?_
              rw [hw2]; (first | exact Bw.alloc (Bw.refl _) _ | exact Bw.alloc (Bw.drew _) _ | exact Bw.alloc (by assumption) _)
            clear hK K
            try simp only [Act.put, List.setIfInBounds_toArray, List.set_cons_zero, List.set_cons_succ]
            refine wpAnyH_named fun WN hWN => ?_
            rw [hw2] at hWN
            have hbWN : Bw w1 WN := by rw [hWN]; (first | exact Bw.alloc (Bw.refl _) _ | exact Bw.alloc (Bw.drew _) _ | exact Bw.alloc (by assumption) _)
            have cWN : WN.cell? ⟨wI16.heap.size, m, none⟩ = some (.string ⟨(nameOf m).toArray⟩) := by
              have hh : WN.heap[wI16.heap.size]? = some (.cells nameCells 9 (0, 0)) := by rw [hWN]; exact heap_alloc_new _ _
              rw [cell_of_row _ _ _ _ _ _ hh]
              exact nameCells_at hm17
            have zWN : wI16.heap.size < WN.heap.size := by rw [hWN]; simp
            have HSCWN : Hid (∀ w', Bw WN w' → ((w'.cell? ⟨w.heap.size, 0, none⟩ = some (.int .i64 2) ∧ w'.cell? ⟨w.heap.size, 1, none⟩ = some (.int .i64 x1) ∧ w'.cell? ⟨w.heap.size, 2, none⟩ = some (.int .i64 x2) ∧ w'.cell? ⟨w.heap.size, 3, none⟩ = some (.int .i64 x3) ∧ w'.cell? ⟨w.heap.size, 4, none⟩ = some (.int .i64 (m : Int)) ∧ w'.cell? ⟨w.heap.size, 5, none⟩ = some (.int .i64 x5)) ∧ Bw w1 w') ∧ w'.cell? ⟨wI16.heap.size, m, none⟩ = some (.string ⟨(nameOf m).toArray⟩) ∧ Bw WN w') := fun w' hb => ⟨HSC.out _ (Bw.tr hbWN hb), (hb.cell (p := ⟨wI16.heap.size, _, none⟩) zWN).trans cWN, hb⟩
            refine wpAnyH_switch (S' := fun w' => ((w'.cell? ⟨w.heap.size, 0, none⟩ = some (.int .i64 2) ∧ w'.cell? ⟨w.heap.size, 1, none⟩ = some (.int .i64 x1) ∧ w'.cell? ⟨w.heap.size, 2, none⟩ = some (.int .i64 x2) ∧ w'.cell? ⟨w.heap.size, 3, none⟩ = some (.int .i64 x3) ∧ w'.cell? ⟨w.heap.size, 4, none⟩ = some (.int .i64 (m : Int)) ∧ w'.cell? ⟨w.heap.size, 5, none⟩ = some (.int .i64 x5)) ∧ Bw w1 w') ∧ w'.cell? ⟨wI16.heap.size, m, none⟩ = some (.string ⟨(nameOf m).toArray⟩) ∧ Bw WN w') (fun _ h => h.1) (HSCWN.out _ (Bw.refl _)) (fun hHeld2 => ?_)
            clear hWN hHeld hw2
            refine wpAnyH_take (i := 21) (v := ?v83) (arr_at rfl) (by kernel_rfl) (by kernel_rfl) (by kernel_rfl) (fun _ _ _ h => h) (Or.inl ⟨by rfl, ?hy83⟩) (by assumption) ?_
            case hy83 => (intro w hSw; (try dsimp only at hSw); go_simp <;> with_reducible rfl)
            try simp only [Act.put, List.setIfInBounds_toArray, List.set_cons_zero, List.set_cons_succ]
            refine wpAnyH_take (i := 22) (v := ?v84) (arr_at rfl) (by kernel_rfl) (by kernel_rfl) (by kernel_rfl) (fun _ _ _ h => h) (Or.inl ⟨by rfl, ?hy84⟩) (by assumption) ?_
            case hy84 => (intro w hSw; (try dsimp only at hSw); go_simp <;> with_reducible rfl)
            try simp only [Act.put, List.setIfInBounds_toArray, List.set_cons_zero, List.set_cons_succ]
            refine wpAnyH_ready (rs := [0, 26]) (by kernel_rfl) (by simp) ?_
            refine AllReadyH.cons (arr_at rfl) (fun K hK => ?_) ?_
            · skip
              go_simp
              refine hK.out _ _ ?_ (fun hHeld => ?_)
              · refine HSCWN.out _ ?_
                (first | exact Bw.alloc (Bw.refl _) _ | exact Bw.alloc (Bw.drew _) _ | exact Bw.alloc (by assumption) _)
              clear hK K
              try simp only [Act.put, List.setIfInBounds_toArray, List.set_cons_zero, List.set_cons_succ]
              refine wpAnyH_named fun WK hWK => ?_
              have hbWK : Bw WN WK := by rw [hWK]; (first | exact Bw.alloc (Bw.refl _) _ | exact Bw.alloc (Bw.drew _) _ | exact Bw.alloc (by assumption) _)
              have cWK : WK.cell? ⟨WN.heap.size, 2, none⟩ = some (.string { data := #[99, 111, 110, 102, 105, 114, 109] }) := by
                rw [hWK]; go_simp
              have zWK : WN.heap.size < WK.heap.size := by rw [hWK]; simp
              have HSCWK : Hid (∀ w', Bw WK w' → (((w'.cell? ⟨w.heap.size, 0, none⟩ = some (.int .i64 2) ∧ w'.cell? ⟨w.heap.size, 1, none⟩ = some (.int .i64 x1) ∧ w'.cell? ⟨w.heap.size, 2, none⟩ = some (.int .i64 x2) ∧ w'.cell? ⟨w.heap.size, 3, none⟩ = some (.int .i64 x3) ∧ w'.cell? ⟨w.heap.size, 4, none⟩ = some (.int .i64 (m : Int)) ∧ w'.cell? ⟨w.heap.size, 5, none⟩ = some (.int .i64 x5)) ∧ Bw w1 w') ∧ w'.cell? ⟨wI16.heap.size, m, none⟩ = some (.string ⟨(nameOf m).toArray⟩) ∧ Bw WN w') ∧ w'.cell? ⟨WN.heap.size, 2, none⟩ = some (.string { data := #[99, 111, 110, 102, 105, 114, 109] }) ∧ Bw WK w') := fun w' hb => ⟨HSCWN.out _ (Bw.tr hbWK hb), (hb.cell (p := ⟨WN.heap.size, _, none⟩) zWK).trans cWK, hb⟩
              refine wpAnyH_switch (S' := fun w' => (((w'.cell? ⟨w.heap.size, 0, none⟩ = some (.int .i64 2) ∧ w'.cell? ⟨w.heap.size, 1, none⟩ = some (.int .i64 x1) ∧ w'.cell? ⟨w.heap.size, 2, none⟩ = some (.int .i64 x2) ∧ w'.cell? ⟨w.heap.size, 3, none⟩ = some (.int .i64 x3) ∧ w'.cell? ⟨w.heap.size, 4, none⟩ = some (.int .i64 (m : Int)) ∧ w'.cell? ⟨w.heap.size, 5, none⟩ = some (.int .i64 x5)) ∧ Bw w1 w') ∧ w'.cell? ⟨wI16.heap.size, m, none⟩ = some (.string ⟨(nameOf m).toArray⟩) ∧ Bw WN w') ∧ w'.cell? ⟨WN.heap.size, 2, none⟩ = some (.string { data := #[99, 111, 110, 102, 105, 114, 109] }) ∧ Bw WK w') (fun _ h => h.1) (HSCWK.out _ (Bw.refl _)) (fun hHeld2 => ?_)
              clear hWK hHeld
              refine wpAnyH_take (i := 3) (v := ?v85) (arr_at rfl) (by kernel_rfl) (by kernel_rfl) (by kernel_rfl) (fun _ _ _ h => h) (Or.inl ⟨by rfl, ?hy85⟩) (by assumption) ?_
              case hy85 => (intro w hSw; (try dsimp only at hSw); go_simp <;> with_reducible rfl)
              try simp only [Act.put, List.setIfInBounds_toArray, List.set_cons_zero, List.set_cons_succ]
              refine wpAnyH_take (i := 4) (v := ?v86) (arr_at rfl) (by kernel_rfl) (by kernel_rfl) (by kernel_rfl) (fun _ _ _ h => h) (Or.inl ⟨by rfl, ?hy86⟩) (by assumption) ?_
              case hy86 => (intro w hSw; (try dsimp only at hSw); go_simp <;> with_reducible rfl)
              try simp only [Act.put, List.setIfInBounds_toArray, List.set_cons_zero, List.set_cons_succ]
              refine wpAnyH_ready (rs := [26]) (by kernel_rfl) (by simp) ?_
              refine AllReadyH.cons (arr_at rfl) (fun K hK => ?_) ?_
              · skip
                go_simp
                refine (H5.out _ (HB.out.trans (Below.mono (Bw.tr (Bw.tr (Bw.tr (Bw.refl _) hbWN) hbWK) (Bw.refl _)) HB.out.size))).mono ?_
                rintro e wI26 ⟨rfl, hbI26⟩
                have HI26 : Bw WK wI26 := Bw.tr (Bw.refl _) hbI26
                refine hK.out _ _ ?_ (fun hHeld => ?_)
                · exact HSCWK.out _ HI26
                clear hK K hbI26
                try simp only [Act.put, List.setIfInBounds_toArray, List.set_cons_zero, List.set_cons_succ]
                refine wpAnyH_ready (rs := [27]) (by kernel_rfl) (by simp) ?_
                refine AllReadyH.cons (arr_at rfl) (fun K hK => ?_) ?_
                · skip
                  go_simp
                  refine hK.out _ _ ?_ (fun hHeld => ?_)
                  · refine HSCWK.out _ ?_
                    (first | exact Bw.alloc (Bw.refl _) _ | exact Bw.alloc (Bw.drew _) _ | exact Bw.alloc (by assumption) _)
                  clear hK K
                  try simp only [Act.put, List.setIfInBounds_toArray, List.set_cons_zero, List.set_cons_succ]
                  refine wpAnyH_take (i := 28) (v := ?v87) (arr_at rfl) (by kernel_rfl) (by kernel_rfl) (by kernel_rfl) (fun _ _ _ h => h) (Or.inl ⟨by rfl, ?hy87⟩) (by assumption) ?_
                  case hy87 => (intro w hSw; (try dsimp only at hSw); go_simp <;> with_reducible rfl)
                  try simp only [Act.put, List.setIfInBounds_toArray, List.set_cons_zero, List.set_cons_succ]
                  refine wpAnyH_done (by kernel_rfl) ?_ _
                  refine NoPanic.normal ?_
                  refine exit_namedL (Q := Exit.then _ _) fun WF hWF => ?_
                  have hbF : Bw WK WF := by rw [hWF]; first | exact Bw.alloc (Bw.refl _) _ | exact Bw.alloc (Bw.drew _) _ | exact Bw.alloc (by assumption) _
                  have hX : WF.heap[wI26.heap.size]? = some (.cells #[.string { data := #[99, 111, 110, 102, 105, 114, 109] }, .string ⟨(itS x1).toArray⟩, .string ⟨(itS x2).toArray⟩, .string ⟨(itS x3).toArray⟩, .string ⟨(nameOf m).toArray⟩, .string ⟨(itS x5).toArray⟩] 9 (0, 0)) := by rw [hWF]; exact heap_alloc_new _ _
                  have hB1F : Bw w1 WF := Bw.tr (Bw.tr (Bw.tr (Bw.refl _) hbWN) hbWK) hbF
                  have hsa : w.heap.size ≤ wI26.heap.size := Nat.le_trans HB.out.size (Below.size (show Below w1.heap.size w1 wI26 from Bw.tr (Bw.tr (Bw.tr (Bw.refl _) hbWN) hbWK) (by first | exact Bw.refl _ | assumption)))
                  have k0 : WF.cell? ⟨w.heap.size, 0, none⟩ = some (.int .i64 2) := (HSC.out _ hB1F).1.1
                  have kv : WF.cell? ⟨w.heap.size, 6, none⟩ = some (.int .i64 v) := (hB1F.cell (p := ⟨w.heap.size, 6, none⟩) y1).trans k6
                  have hBF : Below w.heap.size w WF := HB.out.trans (hB1F.mono HB.out.size)
                  obtain ⟨bx, hbx⟩ : ∃ bx, wI26.heap.size = bx := ⟨_, rfl⟩
                  have hwb : w.heap.size ≤ bx := by rw [← hbx]; exact hsa
                  rw [hbx] at hX ⊢
                  have HX := Lib.hid hX
                  have HBF := Lib.hid hBF
                  have hxl : bx < WF.heap.size := (Array.getElem?_eq_some_iff.1 hX).1
                  clear hWF hbx hX hBF hHeld2
                  have hwords : lineWordsG (2, (x1, x2, x3, (m : Int), x5), v) = [[99, 111, 110, 102, 105, 114, 109], itS x1, itS x2, itS x3, nameOf m, itS x5] := rfl
                  have HWD := Lib.hid hwords
                  have hlen := HJ.out
                  rw [hwords] at hlen
                  clear hwords
                  go_wp2_with fail
                  have HOWN : Hid (WF.ownsRow w.heap.size 9 1 (.slice (some ⟨bx, 0, none⟩) 6 6) 6 [.string { data := #[99, 111, 110, 102, 105, 114, 109] }, .string ⟨(itS x1).toArray⟩, .string ⟨(itS x2).toArray⟩, .string ⟨(itS x3).toArray⟩, .string ⟨(nameOf m).toArray⟩, .string ⟨(itS x5).toArray⟩]) := ownRow_of_block HX.out hwb (by simp [maxLen])
                  refine (join_of_own (ws := [[99, 111, 110, 102, 105, 114, 109], itS x1, itS x2, itS x3, nameOf m, itS x5]) HOWN.out rfl (by omega) (by omega) hlen).mono ?_
                  rintro e w7 ⟨rfl, hb7⟩
                  have HB7 := Lib.hid (below_step HBF.out hb7)
                  clear hb7
                  obtain ⟨J, hJ⟩ : ∃ J, Lib.join [[99, 111, 110, 102, 105, 114, 109], itS x1, itS x2, itS x3, nameOf m, itS x5] [32] = J := ⟨_, rfl⟩
                  rw [hJ] at hlen ⊢
                  have hadd : ∀ w, (Op.stringOp .add ⟨J.toArray⟩ ⟨#[10]⟩).run Tryz.prog w = .ok (.string ⟨(J ++ [10]).toArray⟩) w := fun w => run_string_add_lists w J [10] (by omega) (by simp)
                  have HLL : Hid (LL = J ++ [10]) := HL.out.trans (by rw [HWD.out, hJ])
                  clear hJ
                  go_wp2
                  go_ret
                  exact ⟨by rw [HLL.out]; rfl, HB7.out⟩
                exact AllReadyH.nil
              exact AllReadyH.nil
            refine AllReadyH.cons (arr_at rfl) (fun K hK => ?_) ?_
            · skip
              go_simp
              refine (H5.out _ (HB.out.trans (Below.mono (Bw.tr (Bw.tr (Bw.refl _) hbWN) (Bw.refl _)) HB.out.size))).mono ?_
              rintro e wI26 ⟨rfl, hbI26⟩
              have HI26 : Bw WN wI26 := Bw.tr (Bw.refl _) hbI26
              refine hK.out _ _ ?_ (fun hHeld => ?_)
              · exact HSCWN.out _ HI26
              clear hK K hbI26
              try simp only [Act.put, List.setIfInBounds_toArray, List.set_cons_zero, List.set_cons_succ]
              refine wpAnyH_ready (rs := [0]) (by kernel_rfl) (by simp) ?_
              refine AllReadyH.cons (arr_at rfl) (fun K hK => ?_) ?_
              · skip
                go_simp
                refine hK.out _ _ ?_ (fun hHeld => ?_)
                · refine HSCWN.out _ ?_
                  (first | exact Bw.alloc (Bw.refl _) _ | exact Bw.alloc (Bw.drew _) _ | exact Bw.alloc (by assumption) _)
                clear hK K
                try simp only [Act.put, List.setIfInBounds_toArray, List.set_cons_zero, List.set_cons_succ]
                refine wpAnyH_named fun WK hWK => ?_
                have hbWK : Bw WN WK := by rw [hWK]; (first | exact Bw.alloc (Bw.refl _) _ | exact Bw.alloc (Bw.drew _) _ | exact Bw.alloc (by assumption) _)
                have cWK : WK.cell? ⟨wI26.heap.size, 2, none⟩ = some (.string { data := #[99, 111, 110, 102, 105, 114, 109] }) := by
                  rw [hWK]; go_simp
                have zWK : wI26.heap.size < WK.heap.size := by rw [hWK]; simp
                have HSCWK : Hid (∀ w', Bw WK w' → (((w'.cell? ⟨w.heap.size, 0, none⟩ = some (.int .i64 2) ∧ w'.cell? ⟨w.heap.size, 1, none⟩ = some (.int .i64 x1) ∧ w'.cell? ⟨w.heap.size, 2, none⟩ = some (.int .i64 x2) ∧ w'.cell? ⟨w.heap.size, 3, none⟩ = some (.int .i64 x3) ∧ w'.cell? ⟨w.heap.size, 4, none⟩ = some (.int .i64 (m : Int)) ∧ w'.cell? ⟨w.heap.size, 5, none⟩ = some (.int .i64 x5)) ∧ Bw w1 w') ∧ w'.cell? ⟨wI16.heap.size, m, none⟩ = some (.string ⟨(nameOf m).toArray⟩) ∧ Bw WN w') ∧ w'.cell? ⟨wI26.heap.size, 2, none⟩ = some (.string { data := #[99, 111, 110, 102, 105, 114, 109] }) ∧ Bw WK w') := fun w' hb => ⟨HSCWN.out _ (Bw.tr hbWK hb), (hb.cell (p := ⟨wI26.heap.size, _, none⟩) zWK).trans cWK, hb⟩
                refine wpAnyH_switch (S' := fun w' => (((w'.cell? ⟨w.heap.size, 0, none⟩ = some (.int .i64 2) ∧ w'.cell? ⟨w.heap.size, 1, none⟩ = some (.int .i64 x1) ∧ w'.cell? ⟨w.heap.size, 2, none⟩ = some (.int .i64 x2) ∧ w'.cell? ⟨w.heap.size, 3, none⟩ = some (.int .i64 x3) ∧ w'.cell? ⟨w.heap.size, 4, none⟩ = some (.int .i64 (m : Int)) ∧ w'.cell? ⟨w.heap.size, 5, none⟩ = some (.int .i64 x5)) ∧ Bw w1 w') ∧ w'.cell? ⟨wI16.heap.size, m, none⟩ = some (.string ⟨(nameOf m).toArray⟩) ∧ Bw WN w') ∧ w'.cell? ⟨wI26.heap.size, 2, none⟩ = some (.string { data := #[99, 111, 110, 102, 105, 114, 109] }) ∧ Bw WK w') (fun _ h => h.1) (HSCWK.out _ (Bw.refl _)) (fun hHeld2 => ?_)
                clear hWK hHeld
                refine wpAnyH_take (i := 3) (v := ?v88) (arr_at rfl) (by kernel_rfl) (by kernel_rfl) (by kernel_rfl) (fun _ _ _ h => h) (Or.inl ⟨by rfl, ?hy88⟩) (by assumption) ?_
                case hy88 => (intro w hSw; (try dsimp only at hSw); go_simp <;> with_reducible rfl)
                try simp only [Act.put, List.setIfInBounds_toArray, List.set_cons_zero, List.set_cons_succ]
                refine wpAnyH_take (i := 4) (v := ?v89) (arr_at rfl) (by kernel_rfl) (by kernel_rfl) (by kernel_rfl) (fun _ _ _ h => h) (Or.inl ⟨by rfl, ?hy89⟩) (by assumption) ?_
                case hy89 => (intro w hSw; (try dsimp only at hSw); go_simp <;> with_reducible rfl)
                try simp only [Act.put, List.setIfInBounds_toArray, List.set_cons_zero, List.set_cons_succ]
                refine wpAnyH_ready (rs := [27]) (by kernel_rfl) (by simp) ?_
                refine AllReadyH.cons (arr_at rfl) (fun K hK => ?_) ?_
                · skip
                  go_simp
                  refine hK.out _ _ ?_ (fun hHeld => ?_)
                  · refine HSCWK.out _ ?_
                    (first | exact Bw.alloc (Bw.refl _) _ | exact Bw.alloc (Bw.drew _) _ | exact Bw.alloc (by assumption) _)
                  clear hK K
                  try simp only [Act.put, List.setIfInBounds_toArray, List.set_cons_zero, List.set_cons_succ]
                  refine wpAnyH_take (i := 28) (v := ?v90) (arr_at rfl) (by kernel_rfl) (by kernel_rfl) (by kernel_rfl) (fun _ _ _ h => h) (Or.inl ⟨by rfl, ?hy90⟩) (by assumption) ?_
                  case hy90 => (intro w hSw; (try dsimp only at hSw); go_simp <;> with_reducible rfl)
                  try simp only [Act.put, List.setIfInBounds_toArray, List.set_cons_zero, List.set_cons_succ]
                  refine wpAnyH_done (by kernel_rfl) ?_ _
                  refine NoPanic.normal ?_
                  refine exit_namedL (Q := Exit.then _ _) fun WF hWF => ?_
                  have hbF : Bw WK WF := by rw [hWF]; first | exact Bw.alloc (Bw.refl _) _ | exact Bw.alloc (Bw.drew _) _ | exact Bw.alloc (by assumption) _
                  have hX : WF.heap[WK.heap.size]? = some (.cells #[.string { data := #[99, 111, 110, 102, 105, 114, 109] }, .string ⟨(itS x1).toArray⟩, .string ⟨(itS x2).toArray⟩, .string ⟨(itS x3).toArray⟩, .string ⟨(nameOf m).toArray⟩, .string ⟨(itS x5).toArray⟩] 9 (0, 0)) := by rw [hWF]; exact heap_alloc_new _ _
                  have hB1F : Bw w1 WF := Bw.tr (Bw.tr (Bw.tr (Bw.refl _) hbWN) hbWK) hbF
                  have hsa : w.heap.size ≤ WK.heap.size := Nat.le_trans HB.out.size (Below.size (show Below w1.heap.size w1 WK from Bw.tr (Bw.tr (Bw.tr (Bw.refl _) hbWN) hbWK) (by first | exact Bw.refl _ | assumption)))
                  have k0 : WF.cell? ⟨w.heap.size, 0, none⟩ = some (.int .i64 2) := (HSC.out _ hB1F).1.1
                  have kv : WF.cell? ⟨w.heap.size, 6, none⟩ = some (.int .i64 v) := (hB1F.cell (p := ⟨w.heap.size, 6, none⟩) y1).trans k6
                  have hBF : Below w.heap.size w WF := HB.out.trans (hB1F.mono HB.out.size)
                  obtain ⟨bx, hbx⟩ : ∃ bx, WK.heap.size = bx := ⟨_, rfl⟩
                  have hwb : w.heap.size ≤ bx := by rw [← hbx]; exact hsa
                  rw [hbx] at hX ⊢
                  have HX := Lib.hid hX
                  have HBF := Lib.hid hBF
                  have hxl : bx < WF.heap.size := (Array.getElem?_eq_some_iff.1 hX).1
                  clear hWF hbx hX hBF hHeld2
                  have hwords : lineWordsG (2, (x1, x2, x3, (m : Int), x5), v) = [[99, 111, 110, 102, 105, 114, 109], itS x1, itS x2, itS x3, nameOf m, itS x5] := rfl
                  have HWD := Lib.hid hwords
                  have hlen := HJ.out
                  rw [hwords] at hlen
                  clear hwords
                  go_wp2_with fail
                  have HOWN : Hid (WF.ownsRow w.heap.size 9 1 (.slice (some ⟨bx, 0, none⟩) 6 6) 6 [.string { data := #[99, 111, 110, 102, 105, 114, 109] }, .string ⟨(itS x1).toArray⟩, .string ⟨(itS x2).toArray⟩, .string ⟨(itS x3).toArray⟩, .string ⟨(nameOf m).toArray⟩, .string ⟨(itS x5).toArray⟩]) := ownRow_of_block HX.out hwb (by simp [maxLen])
                  refine (join_of_own (ws := [[99, 111, 110, 102, 105, 114, 109], itS x1, itS x2, itS x3, nameOf m, itS x5]) HOWN.out rfl (by omega) (by omega) hlen).mono ?_
                  rintro e w7 ⟨rfl, hb7⟩
                  have HB7 := Lib.hid (below_step HBF.out hb7)
                  clear hb7
                  obtain ⟨J, hJ⟩ : ∃ J, Lib.join [[99, 111, 110, 102, 105, 114, 109], itS x1, itS x2, itS x3, nameOf m, itS x5] [32] = J := ⟨_, rfl⟩
                  rw [hJ] at hlen ⊢
                  have hadd : ∀ w, (Op.stringOp .add ⟨J.toArray⟩ ⟨#[10]⟩).run Tryz.prog w = .ok (.string ⟨(J ++ [10]).toArray⟩) w := fun w => run_string_add_lists w J [10] (by omega) (by simp)
                  have HLL : Hid (LL = J ++ [10]) := HL.out.trans (by rw [HWD.out, hJ])
                  clear hJ
                  go_wp2
                  go_ret
                  exact ⟨by rw [HLL.out]; rfl, HB7.out⟩
                exact AllReadyH.nil
              exact AllReadyH.nil
            exact AllReadyH.nil
          exact AllReadyH.nil
        exact AllReadyH.nil
      exact AllReadyH.nil
    exact AllReadyH.nil
end Go.Proofs.YtpcefaccoifejaaGreatDoor
