/-
  The walk of custoslaw13.SessionLines. Conditions: the arguments can be read as the given statement says; the library's tables and variables lie in the world.
-/
import Derived.Test.YtpcefaccoifejaaDoorTX3
import Derived.Test.YtpcefaccoifejaaDoorFormG
import Derived.Test.YtpcefaccoifejaaDoorAW
import Derived.Test.YtpcefaccoifejaaDoorAR
import Derived.Test.YtpcefaccoifejaaDoorLI0
namespace Go.Proofs.YtpcefaccoifejaaDoor
open Go.RowKit
set_option linter.unusedSimpArgs false
set_option linter.unusedVariables false
set_option maxRecDepth 100000

/-- what the law makes of an act -/
def madeN (a : Ac) : Ac := (1 + pickN 2 (IntKind.i64.wrap (a.1 - 1)), (smallL a.2.1.1, smallL a.2.1.2.1, smallL a.2.1.2.2.1, 1 + pickN 16 (IntKind.i64.wrap (a.2.1.2.2.2.1 - 1)), smallL a.2.1.2.2.2.2), if pickN 2 (IntKind.i64.wrap (a.1 - 1)) = 0 then smallL a.2.2 else 0)
theorem madeN_fit (a : Ac) : FitN (madeN a) := by
  have h1 := pickN_in 2 (IntKind.i64.wrap (a.1 - 1)) (by omega)
  have h2 := pickN_in 16 (IntKind.i64.wrap (a.2.1.2.2.2.1 - 1)) (by omega)
  refine ⟨⟨?_, ?_⟩, smallL_in _, smallL_in _, smallL_in _, smallL_in _, ?_, ?_⟩
  · show 1 + pickN 2 (IntKind.i64.wrap (a.1 - 1)) = 1 ∨ 1 + pickN 2 (IntKind.i64.wrap (a.1 - 1)) = 2
    omega
  · show 1 ≤ 1 + pickN 16 (IntKind.i64.wrap (a.2.1.2.2.2.1 - 1)) ∧ 1 + pickN 16 (IntKind.i64.wrap (a.2.1.2.2.2.1 - 1)) ≤ 16
    omega
  · show -1000000 ≤ (if pickN 2 (IntKind.i64.wrap (a.1 - 1)) = 0 then smallL a.2.2 else 0) ∧ (if pickN 2 (IntKind.i64.wrap (a.1 - 1)) = 0 then smallL a.2.2 else 0) ≤ 1000000
    have := smallL_in a.2.2
    split <;> omega
  · intro h
    have h : 1 + pickN 2 (IntKind.i64.wrap (a.1 - 1)) = 2 := h
    show (if pickN 2 (IntKind.i64.wrap (a.1 - 1)) = 0 then smallL a.2.2 else 0) = 0
    rw [if_neg (by omega)]
theorem made_text {l : List Ac} (hl : l.length ≤ 100) : parseO (formatG (l.map madeN)) = (l.map madeN, 0, 0) := by
  have hf : ∀ a ∈ l.map madeN, FitN a := fun a ha => by
    obtain ⟨b, -, rfl⟩ := List.mem_map.1 ha
    exact madeN_fit b
  have hg := formatG_len (l.map madeN) (fun a ha => (hf a ha).wf)
  have hm : (l.map madeN).length ≤ 100 := by rw [List.length_map]; exact hl
  exact parse_fmt hf (by omega) (by omega)
theorem Parse_good (t : List UInt8) (l : List Ac) (w : World) (ht : t.length ≤ 200000) (hp : parseO t = (l, 0, 0)) (he : Env w) :
    Calls Tryd.prog 30 #[.string ⟨t.toArray⟩] w fun e w' => ∃ a c, e = .returned (.tuple #[.slice a l.length c, .int .i64 0, .int .i64 0]) ∧ ActsAt w' w.heap.size w'.heap.size (.slice a l.length c) l ∧ Below w.heap.size w w' := by
  have h := Parse_c t w ht he
  rw [hp] at h
  refine h.mono ?_
  rintro e w' ⟨v, rfl, ha, hb⟩
  obtain ⟨a, c, rfl, -⟩ := id ha
  exact ⟨a, c, rfl, ha, hb⟩
theorem Parse_bad (t : List UInt8) (w : World) (ht : t.length ≤ 200000) (hp : (parseO t).2.2 ≠ 0) (he : Env w) :
    Calls Tryd.prog 30 #[.string ⟨t.toArray⟩] w fun e w' => ∃ a c x y, e = .returned (.tuple #[.slice a 0 c, .int .i64 x, .int .i64 y]) ∧ y ≠ 0 ∧ Below w.heap.size w w' := by
  have h := Parse_c t w ht he
  rw [parse_err hp] at h
  refine h.mono ?_
  rintro e w' ⟨v, rfl, ha, hb⟩
  obtain ⟨a, c, rfl, -⟩ := ha
  exact ⟨a, c, _, _, rfl, hp, hb⟩
theorem Format_good (v : Value) (l : List Ac) (t : List UInt8) (lo : Nat) (w : World) (h : ActsAt w lo w.heap.size v l) (hl : l.length ≤ 4096) (hf : ∀ a ∈ l, FitN a) (ht : formatG l = t) (he : Env w) :
    Calls Tryd.prog 29 #[v] w fun e w' => e = .returned (.tuple #[.string ⟨t.toArray⟩, .int .i64 0]) ∧ Below w.heap.size w w' := by
  subst ht
  exact FormatG_c v l lo w.heap.size w h (Nat.le_refl _) hl (fun a ha => ⟨(hf a ha).toFit, (hf a ha).wf⟩) he
theorem own_set {w : World} {base n b z : Nat} {T : TypeId} {v : Value} {ks : List Value} (h : w.ownsRow base T 7 v n ks) (hb : ∀ j, v.ownBlock = some j → j < b) (x : Value) : (w.setCell ⟨b, z, none⟩ x).ownsRow base T 7 v n ks :=
  World.ownsRow.kept (row := some b) h (Kg.setg (Kg.refl w _) z x) (by
    cases hv : v.ownBlock with
    | none => exact .inl rfl
    | some j =>
      refine .inr fun e => ?_
      have := hb j hv
      injection e with e
      omega)
theorem newCellsS (w : World) (p : Addr) (x : Value) (l : List Value) (T : TypeId) : ∀ j u, l[j]? = some u → ((w.setCell p x).alloc (.cells l.toArray T)).cell? ((⟨w.heap.size, 0, none⟩ : Addr).add j) = some u := by
  have h := newCells (w.setCell p x) l T
  rwa [show (w.setCell p x).heap.size = w.heap.size by simp [World.setCell]] at h
theorem Lines_big (v0 : Value) (acts : List Ac) (t : List UInt8) (W : World) (hA : ActsAt W 0 W.heap.size v0 acts) (h : 4000 < t.length) :
    Calls Tryd.prog 6 #[v0, .string ⟨t.toArray⟩] W fun e w' => e = .returned (.bool true) ∧ Below W.heap.size W w' := by
  obtain ⟨aa, ac, rfl, -⟩ := hA
  have h6 : (4000 : Int) < (t.length : Int) := by omega
  clear h
  go_enter Tryd.func6, Tryd.ntmps6
  go_wp2_with fail
  refine (awake_c _).mono ?_
  rintro rr w2 ⟨rfl, hb2⟩
  have HB2 := Lib.hid (below_step (w := W) (by go_grown) hb2)
  clear hb2
  go_wp2
  go_ret
  exact ⟨rfl, HB2.out⟩
set_option maxHeartbeats 16000000 in
theorem Lines_small (v0 : Value) (acts : List Ac) (t : List UInt8) (W : World) (hA : ActsAt W 0 W.heap.size v0 acts) (h : ¬ 4000 < t.length) (he : Env W) :
    Calls Tryd.prog 6 #[v0, .string ⟨t.toArray⟩] W fun e w' => e = .returned (.bool true) ∧ Below W.heap.size W w' := by
  have hI := Lib.hid infoActS
  obtain ⟨aa, ac, rfl, -, hr⟩ := hA
  have HR := Lib.hid hr
  obtain ⟨n, hn⟩ : ∃ n, acts.length = n := ⟨_, rfl⟩
  have HN := Lib.hid hn
  rw [hn] at ⊢
  have HE := Lib.hid fun W' (hb : Below W.heap.size W W') => he.below hb
  have HT := Lib.hid h
  have h6 : ¬ (4000 : Int) < (t.length : Int) := by omega
  clear hr hn he h
  go_enter Tryd.func6, Tryd.ntmps6
  go_wp2_with fail
  go_loopw [6, 7] (fun ov i wr => ∃ (k : Nat), k ≤ n ∧ k ≤ 100 ∧ i = .int .i64 (k : Int) ∧ wr.ownsRow W.heap.size 63 7 ov k (((acts.take k).map madeN).flatMap acV) ∧ Below W.heap.size W wr)
    (fun _ i wr => n - (intOf i).toNat)
  case atStart => exact ⟨0, Nat.zero_le _, Nat.zero_le _, rfl, World.ownsRow_nil _ _ _ _, by go_grown⟩
  case round =>
    obtain ⟨k, hkn, hk100, rfl, hown, hB⟩ := hrel
    have HOWN := Lib.hid hown
    have HB := Lib.hid hB
    obtain ⟨pa, pc, rfl⟩ := own_shape hown
    clear hown
    by_cases hk : k < n ∧ k < 100
    · obtain ⟨hk, hkh⟩ := hk
      have hkf : k < acts.length := by rw [HN.out]; exact hk
      obtain ⟨bf, off, rfl, hb1, hb2, hc⟩ := HR.out (by omega)
      have hcw : ∀ j u, (acV (acAt acts k))[j]? = some u → wr.cell? ⟨bf, off + k * 7 + j, none⟩ = some u := fun j u hu => (hB.cell (p := ⟨bf, off + k * 7 + j, none⟩) (show bf < W.heap.size by omega)).trans (hc k hkf j u hu)
      have hst : ((acts.take (k + 1)).map madeN).flatMap acV = ((acts.take k).map madeN).flatMap acV ++ acV (madeN (acAt acts k)) := by rw [take_snoc hkf, ← acAt_get hkf]; simp
      have HST := Lib.hid hst
      generalize ((acts.take k).map madeN).flatMap acV = F at *
      generalize acAt acts k = A at *
      obtain ⟨kd, ⟨x1, x2, x3, x4, x5⟩, av⟩ := A
      have c0 := hcw 0 _ rfl
      have c1 := hcw 1 _ rfl
      have c2 := hcw 2 _ rfl
      have c3 := hcw 3 _ rfl
      have c4 := hcw 4 _ rfl
      have c5 := hcw 5 _ rfl
      have c6 := hcw 6 _ rfl
      simp only [Nat.add_zero] at c0
      have hk0 : (0 : Int) ≤ k := by omega
      have hk1 : (k : Int) < n := by omega
      have hk2 : (k : Int) < 100 := by omega
      have hsz := hB.size
      have hbw : bf < wr.heap.size := by omega
      have HSC : Hid (∀ w', Bw wr w' → (w'.cell? ⟨bf, off + k * 7, none⟩ = some (.int .i64 kd) ∧ w'.cell? ⟨bf, off + k * 7 + 1, none⟩ = some (.int .i64 x1) ∧ w'.cell? ⟨bf, off + k * 7 + 2, none⟩ = some (.int .i64 x2) ∧ w'.cell? ⟨bf, off + k * 7 + 3, none⟩ = some (.int .i64 x3) ∧ w'.cell? ⟨bf, off + k * 7 + 4, none⟩ = some (.int .i64 x4) ∧ w'.cell? ⟨bf, off + k * 7 + 5, none⟩ = some (.int .i64 x5) ∧ w'.cell? ⟨bf, off + k * 7 + 6, none⟩ = some (.int .i64 av) ∧ Bw wr w')) := fun w' hb => ⟨(hb.cell (p := ⟨bf, _, none⟩) hbw).trans c0, (hb.cell (p := ⟨bf, _, none⟩) hbw).trans c1, (hb.cell (p := ⟨bf, _, none⟩) hbw).trans c2, (hb.cell (p := ⟨bf, _, none⟩) hbw).trans c3, (hb.cell (p := ⟨bf, _, none⟩) hbw).trans c4, (hb.cell (p := ⟨bf, _, none⟩) hbw).trans c5, (hb.cell (p := ⟨bf, _, none⟩) hbw).trans c6, hb⟩
      have HP2 := Lib.hid fun w => Pick2_c (IntKind.i64.wrap (kd - 1)) w
      have HP16 := Lib.hid fun w => Pick16_c (IntKind.i64.wrap (x4 - 1)) w
      have HS1 := Lib.hid fun w => lsmall_c x1 w
      have HS2 := Lib.hid fun w => lsmall_c x2 w
      have HS3 := Lib.hid fun w => lsmall_c x3 w
      have HS5 := Lib.hid fun w => lsmall_c x5 w
      have HSV := Lib.hid fun w => lsmall_c av w
      have hM : madeN (kd, (x1, x2, x3, x4, x5), av) = (1 + pickN 2 (IntKind.i64.wrap (kd - 1)), (smallL x1, smallL x2, smallL x3, 1 + pickN 16 (IntKind.i64.wrap (x4 - 1)), smallL x5), if pickN 2 (IntKind.i64.wrap (kd - 1)) = 0 then smallL av else 0) := rfl
      rw [hM] at HST
      obtain ⟨p1, p2⟩ := pickN_in 2 (IntKind.i64.wrap (kd - 1)) (by omega)
      obtain ⟨q1, q2⟩ := pickN_in 16 (IntKind.i64.wrap (x4 - 1)) (by omega)
      clear hcw hc hB hst hM
      generalize pickN 2 (IntKind.i64.wrap (kd - 1)) = P at *
      generalize pickN 16 (IntKind.i64.wrap (x4 - 1)) = Q at *
      generalize smallL x1 = S1 at *
      generalize smallL x2 = S2 at *
      generalize smallL x3 = S3 at *
      generalize smallL x5 = S5 at *
      generalize smallL av = SV at *
      have hP : P = 0 ∨ P = 1 := by omega
      have hw1 : IntKind.i64.wrap 1 = 1 := by decide
      have hw2 : IntKind.i64.wrap 2 = 2 := by decide
      have hwQ : IntKind.i64.wrap (1 + Q) = 1 + Q := by rw [IntWalk.i64_left]; exact IntWalk.wrap64_in _ (by omega)
      have hwP : IntKind.i64.wrap (1 + P) = 1 + P := by rw [IntWalk.i64_left]; exact IntWalk.wrap64_in _ (by omega)
      clear p1 p2
      go_wp2_with fail
      refine wp_region_noPanic ?_
      refine wp_region_held_drew (S := fun w' => w'.cell? ⟨bf, off + k * 7, none⟩ = some (.int .i64 kd) ∧ w'.cell? ⟨bf, off + k * 7 + 1, none⟩ = some (.int .i64 x1) ∧ w'.cell? ⟨bf, off + k * 7 + 2, none⟩ = some (.int .i64 x2) ∧ w'.cell? ⟨bf, off + k * 7 + 3, none⟩ = some (.int .i64 x3) ∧ w'.cell? ⟨bf, off + k * 7 + 4, none⟩ = some (.int .i64 x4) ∧ w'.cell? ⟨bf, off + k * 7 + 5, none⟩ = some (.int .i64 x5) ∧ w'.cell? ⟨bf, off + k * 7 + 6, none⟩ = some (.int .i64 av) ∧ Bw wr w') (by kernel_rfl) (HSC.out _ (Bw.drew _)) (fun hHeld => ?_)
      refine (fun (hfin : Unit → ?PFIN) => ?goMain) ?goFin
      case goMain =>
        refine wpAnyH_take (i := 0) (v := ?v1) (arr_at rfl) (by kernel_rfl) (by kernel_rfl) (by kernel_rfl) (fun _ _ _ h => h) (Or.inl ⟨by rfl, ?hy1⟩) (by assumption) ?_
        case hy1 => (intro w hSw; (try dsimp only at hSw); go_simp <;> with_reducible rfl)
        try simp only [Act.put, List.setIfInBounds_toArray, List.set_cons_zero, List.set_cons_succ]
        refine wpAnyH_take (i := 1) (v := ?v2) (arr_at rfl) (by kernel_rfl) (by kernel_rfl) (by kernel_rfl) (fun _ _ _ h => h) (Or.inl ⟨by rfl, ?hy2⟩) (by assumption) ?_
        case hy2 => (intro w hSw; (try dsimp only at hSw); go_simp <;> with_reducible rfl)
        try simp only [Act.put, List.setIfInBounds_toArray, List.set_cons_zero, List.set_cons_succ]
        refine wpAnyH_take (i := 2) (v := ?v3) (arr_at rfl) (by kernel_rfl) (by kernel_rfl) (by kernel_rfl) (fun _ _ _ h => h) (Or.inl ⟨by rfl, ?hy3⟩) (by assumption) ?_
        case hy3 => (intro w hSw; (try dsimp only at hSw); go_simp <;> with_reducible rfl)
        try simp only [Act.put, List.setIfInBounds_toArray, List.set_cons_zero, List.set_cons_succ]
        refine wpAnyH_take (i := 3) (v := ?v4) (arr_at rfl) (by kernel_rfl) (by kernel_rfl) (by kernel_rfl) (fun _ _ _ h => h) (Or.inl ⟨by rfl, ?hy4⟩) (by assumption) ?_
        case hy4 => (intro w hSw; (try dsimp only at hSw); go_simp <;> with_reducible rfl)
        try simp only [Act.put, List.setIfInBounds_toArray, List.set_cons_zero, List.set_cons_succ]
        refine wpAnyH_take (i := 4) (v := ?v5) (arr_at rfl) (by kernel_rfl) (by kernel_rfl) (by kernel_rfl) (fun _ _ _ h => h) (Or.inl ⟨by rfl, ?hy5⟩) (by assumption) ?_
        case hy5 => (intro w hSw; (try dsimp only at hSw); go_simp <;> with_reducible rfl)
        try simp only [Act.put, List.setIfInBounds_toArray, List.set_cons_zero, List.set_cons_succ]
        refine wpAnyH_take (i := 5) (v := ?v6) (arr_at rfl) (by kernel_rfl) (by kernel_rfl) (by kernel_rfl) (fun _ _ _ h => h) (Or.inl ⟨by rfl, ?hy6⟩) (by assumption) ?_
        case hy6 => (intro w hSw; (try dsimp only at hSw); go_simp <;> with_reducible rfl)
        try simp only [Act.put, List.setIfInBounds_toArray, List.set_cons_zero, List.set_cons_succ]
        refine wpAnyH_take (i := 8) (v := ?v7) (arr_at rfl) (by kernel_rfl) (by kernel_rfl) (by kernel_rfl) (fun _ _ _ h => h) (Or.inl ⟨by rfl, ?hy7⟩) (by assumption) ?_
        case hy7 => (intro w hSw; (try dsimp only at hSw); go_simp <;> with_reducible rfl)
        try simp only [Act.put, List.setIfInBounds_toArray, List.set_cons_zero, List.set_cons_succ]
        refine wpAnyH_take (i := 9) (v := ?v8) (arr_at rfl) (by kernel_rfl) (by kernel_rfl) (by kernel_rfl) (fun _ _ _ h => h) (Or.inl ⟨by rfl, ?hy8⟩) (by assumption) ?_
        case hy8 => (intro w hSw; (try dsimp only at hSw); go_simp <;> with_reducible rfl)
        try simp only [Act.put, List.setIfInBounds_toArray, List.set_cons_zero, List.set_cons_succ]
        refine wpAnyH_take (i := 10) (v := ?v9) (arr_at rfl) (by kernel_rfl) (by kernel_rfl) (by kernel_rfl) (fun _ _ _ h => h) (Or.inl ⟨by rfl, ?hy9⟩) (by assumption) ?_
        case hy9 => (intro w hSw; (try dsimp only at hSw); go_simp <;> with_reducible rfl)
        try simp only [Act.put, List.setIfInBounds_toArray, List.set_cons_zero, List.set_cons_succ]
        refine wpAnyH_take (i := 11) (v := ?v10) (arr_at rfl) (by kernel_rfl) (by kernel_rfl) (by kernel_rfl) (fun _ _ _ h => h) (Or.inl ⟨by rfl, ?hy10⟩) (by assumption) ?_
        case hy10 => (intro w hSw; (try dsimp only at hSw); go_simp <;> with_reducible rfl)
        try simp only [Act.put, List.setIfInBounds_toArray, List.set_cons_zero, List.set_cons_succ]
        refine wpAnyH_take (i := 12) (v := ?v11) (arr_at rfl) (by kernel_rfl) (by kernel_rfl) (by kernel_rfl) (fun _ _ _ h => h) (Or.inl ⟨by rfl, ?hy11⟩) (by assumption) ?_
        case hy11 => (intro w hSw; (try dsimp only at hSw); go_simp <;> with_reducible rfl)
        try simp only [Act.put, List.setIfInBounds_toArray, List.set_cons_zero, List.set_cons_succ]
        refine wpAnyH_take (i := 13) (v := ?v12) (arr_at rfl) (by kernel_rfl) (by kernel_rfl) (by kernel_rfl) (fun _ _ _ h => h) (Or.inl ⟨by rfl, ?hy12⟩) (by assumption) ?_
        case hy12 => (intro w hSw; (try dsimp only at hSw); go_simp <;> with_reducible rfl)
        try simp only [Act.put, List.setIfInBounds_toArray, List.set_cons_zero, List.set_cons_succ]
        refine wpAnyH_take (i := 14) (v := ?v13) (arr_at rfl) (by kernel_rfl) (by kernel_rfl) (by kernel_rfl) (fun _ _ _ h => h) (Or.inl ⟨by rfl, ?hy13⟩) (by assumption) ?_
        case hy13 => (intro w hSw; (try dsimp only at hSw); go_simp <;> with_reducible rfl)
        try simp only [Act.put, List.setIfInBounds_toArray, List.set_cons_zero, List.set_cons_succ]
        refine wpAnyH_take (i := 16) (v := ?v14) (arr_at rfl) (by kernel_rfl) (by kernel_rfl) (by kernel_rfl) (fun _ _ _ h => h) (Or.inl ⟨by rfl, ?hy14⟩) (by assumption) ?_
        case hy14 => (intro w hSw; (try dsimp only at hSw); go_simp <;> with_reducible rfl)
        try simp only [Act.put, List.setIfInBounds_toArray, List.set_cons_zero, List.set_cons_succ]
        refine wpAnyH_take (i := 17) (v := ?v15) (arr_at rfl) (by kernel_rfl) (by kernel_rfl) (by kernel_rfl) (fun _ _ _ h => h) (Or.inl ⟨by rfl, ?hy15⟩) (by assumption) ?_
        case hy15 => (intro w hSw; (try dsimp only at hSw); go_simp <;> with_reducible rfl)
        try simp only [Act.put, List.setIfInBounds_toArray, List.set_cons_zero, List.set_cons_succ]
        refine wpAnyH_take (i := 18) (v := ?v16) (arr_at rfl) (by kernel_rfl) (by kernel_rfl) (by kernel_rfl) (fun _ _ _ h => h) (Or.inl ⟨by rfl, ?hy16⟩) (by assumption) ?_
        case hy16 => (intro w hSw; (try dsimp only at hSw); go_simp <;> with_reducible rfl)
        try simp only [Act.put, List.setIfInBounds_toArray, List.set_cons_zero, List.set_cons_succ]
        refine wpAnyH_take (i := 19) (v := ?v17) (arr_at rfl) (by kernel_rfl) (by kernel_rfl) (by kernel_rfl) (fun _ _ _ h => h) (Or.inl ⟨by rfl, ?hy17⟩) (by assumption) ?_
        case hy17 => (intro w hSw; (try dsimp only at hSw); go_simp <;> with_reducible rfl)
        try simp only [Act.put, List.setIfInBounds_toArray, List.set_cons_zero, List.set_cons_succ]
        refine wpAnyH_take (i := 20) (v := ?v18) (arr_at rfl) (by kernel_rfl) (by kernel_rfl) (by kernel_rfl) (fun _ _ _ h => h) (Or.inl ⟨by rfl, ?hy18⟩) (by assumption) ?_
        case hy18 => (intro w hSw; (try dsimp only at hSw); go_simp <;> with_reducible rfl)
        try simp only [Act.put, List.setIfInBounds_toArray, List.set_cons_zero, List.set_cons_succ]
        refine wpAnyH_take (i := 21) (v := ?v19) (arr_at rfl) (by kernel_rfl) (by kernel_rfl) (by kernel_rfl) (fun _ _ _ h => h) (Or.inl ⟨by rfl, ?hy19⟩) (by assumption) ?_
        case hy19 => (intro w hSw; (try dsimp only at hSw); go_simp <;> with_reducible rfl)
        try simp only [Act.put, List.setIfInBounds_toArray, List.set_cons_zero, List.set_cons_succ]
        refine wpAnyH_take (i := 22) (v := ?v20) (arr_at rfl) (by kernel_rfl) (by kernel_rfl) (by kernel_rfl) (fun _ _ _ h => h) (Or.inl ⟨by rfl, ?hy20⟩) (by assumption) ?_
        case hy20 => (intro w hSw; (try dsimp only at hSw); go_simp <;> with_reducible rfl)
        try simp only [Act.put, List.setIfInBounds_toArray, List.set_cons_zero, List.set_cons_succ]
        refine wpAnyH_take (i := 24) (v := ?v21) (arr_at rfl) (by kernel_rfl) (by kernel_rfl) (by kernel_rfl) (fun _ _ _ h => h) (Or.inl ⟨by rfl, ?hy21⟩) (by assumption) ?_
        case hy21 => (intro w hSw; (try dsimp only at hSw); go_simp <;> with_reducible rfl)
        try simp only [Act.put, List.setIfInBounds_toArray, List.set_cons_zero, List.set_cons_succ]
        refine wpAnyH_take (i := 25) (v := ?v22) (arr_at rfl) (by kernel_rfl) (by kernel_rfl) (by kernel_rfl) (fun _ _ _ h => h) (Or.inl ⟨by rfl, ?hy22⟩) (by assumption) ?_
        case hy22 => (intro w hSw; (try dsimp only at hSw); go_simp <;> with_reducible rfl)
        try simp only [Act.put, List.setIfInBounds_toArray, List.set_cons_zero, List.set_cons_succ]
        refine wpAnyH_take (i := 26) (v := ?v23) (arr_at rfl) (by kernel_rfl) (by kernel_rfl) (by kernel_rfl) (fun _ _ _ h => h) (Or.inl ⟨by rfl, ?hy23⟩) (by assumption) ?_
        case hy23 => (intro w hSw; (try dsimp only at hSw); go_simp <;> with_reducible rfl)
        try simp only [Act.put, List.setIfInBounds_toArray, List.set_cons_zero, List.set_cons_succ]
        refine wpAnyH_take (i := 27) (v := ?v24) (arr_at rfl) (by kernel_rfl) (by kernel_rfl) (by kernel_rfl) (fun _ _ _ h => h) (Or.inl ⟨by rfl, ?hy24⟩) (by assumption) ?_
        case hy24 => (intro w hSw; (try dsimp only at hSw); go_simp <;> with_reducible rfl)
        try simp only [Act.put, List.setIfInBounds_toArray, List.set_cons_zero, List.set_cons_succ]
        refine wpAnyH_take (i := 28) (v := ?v25) (arr_at rfl) (by kernel_rfl) (by kernel_rfl) (by kernel_rfl) (fun _ _ _ h => h) (Or.inl ⟨by rfl, ?hy25⟩) (by assumption) ?_
        case hy25 => (intro w hSw; (try dsimp only at hSw); go_simp <;> with_reducible rfl)
        try simp only [Act.put, List.setIfInBounds_toArray, List.set_cons_zero, List.set_cons_succ]
        refine wpAnyH_take (i := 29) (v := ?v26) (arr_at rfl) (by kernel_rfl) (by kernel_rfl) (by kernel_rfl) (fun _ _ _ h => h) (Or.inl ⟨by rfl, ?hy26⟩) (by assumption) ?_
        case hy26 => (intro w hSw; (try dsimp only at hSw); go_simp <;> with_reducible rfl)
        try simp only [Act.put, List.setIfInBounds_toArray, List.set_cons_zero, List.set_cons_succ]
        refine wpAnyH_take (i := 30) (v := ?v27) (arr_at rfl) (by kernel_rfl) (by kernel_rfl) (by kernel_rfl) (fun _ _ _ h => h) (Or.inl ⟨by rfl, ?hy27⟩) (by assumption) ?_
        case hy27 => (intro w hSw; (try dsimp only at hSw); go_simp <;> with_reducible rfl)
        try simp only [Act.put, List.setIfInBounds_toArray, List.set_cons_zero, List.set_cons_succ]
        refine wpAnyH_take (i := 32) (v := ?v28) (arr_at rfl) (by kernel_rfl) (by kernel_rfl) (by kernel_rfl) (fun _ _ _ h => h) (Or.inl ⟨by rfl, ?hy28⟩) (by assumption) ?_
        case hy28 => (intro w hSw; (try dsimp only at hSw); go_simp <;> with_reducible rfl)
        try simp only [Act.put, List.setIfInBounds_toArray, List.set_cons_zero, List.set_cons_succ]
        refine wpAnyH_take (i := 33) (v := ?v29) (arr_at rfl) (by kernel_rfl) (by kernel_rfl) (by kernel_rfl) (fun _ _ _ h => h) (Or.inl ⟨by rfl, ?hy29⟩) (by assumption) ?_
        case hy29 => (intro w hSw; (try dsimp only at hSw); go_simp <;> with_reducible rfl)
        try simp only [Act.put, List.setIfInBounds_toArray, List.set_cons_zero, List.set_cons_succ]
        refine wpAnyH_take (i := 34) (v := ?v30) (arr_at rfl) (by kernel_rfl) (by kernel_rfl) (by kernel_rfl) (fun _ _ _ h => h) (Or.inl ⟨by rfl, ?hy30⟩) (by assumption) ?_
        case hy30 => (intro w hSw; (try dsimp only at hSw); go_simp <;> with_reducible rfl)
        try simp only [Act.put, List.setIfInBounds_toArray, List.set_cons_zero, List.set_cons_succ]
        refine wpAnyH_take (i := 35) (v := ?v31) (arr_at rfl) (by kernel_rfl) (by kernel_rfl) (by kernel_rfl) (fun _ _ _ h => h) (Or.inl ⟨by rfl, ?hy31⟩) (by assumption) ?_
        case hy31 => (intro w hSw; (try dsimp only at hSw); go_simp <;> with_reducible rfl)
        try simp only [Act.put, List.setIfInBounds_toArray, List.set_cons_zero, List.set_cons_succ]
        refine wpAnyH_take (i := 36) (v := ?v32) (arr_at rfl) (by kernel_rfl) (by kernel_rfl) (by kernel_rfl) (fun _ _ _ h => h) (Or.inl ⟨by rfl, ?hy32⟩) (by assumption) ?_
        case hy32 => (intro w hSw; (try dsimp only at hSw); go_simp <;> with_reducible rfl)
        try simp only [Act.put, List.setIfInBounds_toArray, List.set_cons_zero, List.set_cons_succ]
        refine wpAnyH_take (i := 37) (v := ?v33) (arr_at rfl) (by kernel_rfl) (by kernel_rfl) (by kernel_rfl) (fun _ _ _ h => h) (Or.inl ⟨by rfl, ?hy33⟩) (by assumption) ?_
        case hy33 => (intro w hSw; (try dsimp only at hSw); go_simp <;> with_reducible rfl)
        try simp only [Act.put, List.setIfInBounds_toArray, List.set_cons_zero, List.set_cons_succ]
        refine wpAnyH_take (i := 38) (v := ?v34) (arr_at rfl) (by kernel_rfl) (by kernel_rfl) (by kernel_rfl) (fun _ _ _ h => h) (Or.inl ⟨by rfl, ?hy34⟩) (by assumption) ?_
        case hy34 => (intro w hSw; (try dsimp only at hSw); go_simp <;> with_reducible rfl)
        try simp only [Act.put, List.setIfInBounds_toArray, List.set_cons_zero, List.set_cons_succ]
        refine wpAnyH_take (i := 41) (v := ?v35) (arr_at rfl) (by kernel_rfl) (by kernel_rfl) (by kernel_rfl) (fun _ _ _ h => h) (Or.inl ⟨by rfl, ?hy35⟩) (by assumption) ?_
        case hy35 => (intro w hSw; (try dsimp only at hSw); go_simp <;> with_reducible rfl)
        try simp only [Act.put, List.setIfInBounds_toArray, List.set_cons_zero, List.set_cons_succ]
        refine wpAnyH_take (i := 42) (v := ?v36) (arr_at rfl) (by kernel_rfl) (by kernel_rfl) (by kernel_rfl) (fun _ _ _ h => h) (Or.inl ⟨by rfl, ?hy36⟩) (by assumption) ?_
        case hy36 => (intro w hSw; (try dsimp only at hSw); go_simp <;> with_reducible rfl)
        try simp only [Act.put, List.setIfInBounds_toArray, List.set_cons_zero, List.set_cons_succ]
        refine wpAnyH_take (i := 43) (v := ?v37) (arr_at rfl) (by kernel_rfl) (by kernel_rfl) (by kernel_rfl) (fun _ _ _ h => h) (Or.inl ⟨by rfl, ?hy37⟩) (by assumption) ?_
        case hy37 => (intro w hSw; (try dsimp only at hSw); go_simp <;> with_reducible rfl)
        try simp only [Act.put, List.setIfInBounds_toArray, List.set_cons_zero, List.set_cons_succ]
        refine wpAnyH_take (i := 44) (v := ?v38) (arr_at rfl) (by kernel_rfl) (by kernel_rfl) (by kernel_rfl) (fun _ _ _ h => h) (Or.inl ⟨by rfl, ?hy38⟩) (by assumption) ?_
        case hy38 => (intro w hSw; (try dsimp only at hSw); go_simp <;> with_reducible rfl)
        try simp only [Act.put, List.setIfInBounds_toArray, List.set_cons_zero, List.set_cons_succ]
        refine wpAnyH_take (i := 45) (v := ?v39) (arr_at rfl) (by kernel_rfl) (by kernel_rfl) (by kernel_rfl) (fun _ _ _ h => h) (Or.inl ⟨by rfl, ?hy39⟩) (by assumption) ?_
        case hy39 => (intro w hSw; (try dsimp only at hSw); go_simp <;> with_reducible rfl)
        try simp only [Act.put, List.setIfInBounds_toArray, List.set_cons_zero, List.set_cons_succ]
        refine wpAnyH_take (i := 46) (v := ?v40) (arr_at rfl) (by kernel_rfl) (by kernel_rfl) (by kernel_rfl) (fun _ _ _ h => h) (Or.inl ⟨by rfl, ?hy40⟩) (by assumption) ?_
        case hy40 => (intro w hSw; (try dsimp only at hSw); go_simp <;> with_reducible rfl)
        try simp only [Act.put, List.setIfInBounds_toArray, List.set_cons_zero, List.set_cons_succ]
        refine wpAnyH_take (i := 47) (v := ?v41) (arr_at rfl) (by kernel_rfl) (by kernel_rfl) (by kernel_rfl) (fun _ _ _ h => h) (Or.inl ⟨by rfl, ?hy41⟩) (by assumption) ?_
        case hy41 => (intro w hSw; (try dsimp only at hSw); go_simp <;> with_reducible rfl)
        try simp only [Act.put, List.setIfInBounds_toArray, List.set_cons_zero, List.set_cons_succ]
        refine wpAnyH_ready (rs := [6, 51]) (by kernel_rfl) (by simp) ?_
        refine AllReadyH.cons (arr_at rfl) (fun K hK => ?_) ?_
        · go_simp; refine (HP2.out _).mono ?_; rintro rr w3 ⟨rfl, rfl⟩
          refine hK.out _ _ ?_ (fun hHeld => ?_)
          · with_reducible exact hHeld
          clear hK K
          try simp only [Act.put, List.setIfInBounds_toArray, List.set_cons_zero, List.set_cons_succ]
          refine wpAnyH_take (i := 7) (v := ?v42) (arr_at rfl) (by kernel_rfl) (by kernel_rfl) (by kernel_rfl) (fun _ _ _ h => h) (Or.inl ⟨by rfl, ?hy42⟩) (by assumption) ?_
          case hy42 => (intro w hSw; (try dsimp only at hSw); go_simp <;> with_reducible rfl)
          try simp only [Act.put, List.setIfInBounds_toArray, List.set_cons_zero, List.set_cons_succ]
          refine wpAnyH_ready (rs := [15, 51]) (by kernel_rfl) (by simp) ?_
          refine AllReadyH.cons (arr_at rfl) (fun K hK => ?_) ?_
          · go_simp; refine (HS1.out _).mono ?_; rintro rr w3 ⟨rfl, rfl⟩
            refine hK.out _ _ ?_ (fun hHeld => ?_)
            · with_reducible exact hHeld
            clear hK K
            try simp only [Act.put, List.setIfInBounds_toArray, List.set_cons_zero, List.set_cons_succ]
            refine wpAnyH_ready (rs := [23, 51]) (by kernel_rfl) (by simp) ?_
            refine AllReadyH.cons (arr_at rfl) (fun K hK => ?_) ?_
            · go_simp; refine (HS2.out _).mono ?_; rintro rr w3 ⟨rfl, rfl⟩
              refine hK.out _ _ ?_ (fun hHeld => ?_)
              · with_reducible exact hHeld
              clear hK K
              try simp only [Act.put, List.setIfInBounds_toArray, List.set_cons_zero, List.set_cons_succ]
              refine wpAnyH_ready (rs := [31, 51]) (by kernel_rfl) (by simp) ?_
              refine AllReadyH.cons (arr_at rfl) (fun K hK => ?_) ?_
              · go_simp; refine (HS3.out _).mono ?_; rintro rr w3 ⟨rfl, rfl⟩
                refine hK.out _ _ ?_ (fun hHeld => ?_)
                · with_reducible exact hHeld
                clear hK K
                try simp only [Act.put, List.setIfInBounds_toArray, List.set_cons_zero, List.set_cons_succ]
                refine wpAnyH_ready (rs := [39, 51]) (by kernel_rfl) (by simp) ?_
                refine AllReadyH.cons (arr_at rfl) (fun K hK => ?_) ?_
                · go_simp; refine (HP16.out _).mono ?_; rintro rr w3 ⟨rfl, rfl⟩
                  refine hK.out _ _ ?_ (fun hHeld => ?_)
                  · with_reducible exact hHeld
                  clear hK K
                  try simp only [Act.put, List.setIfInBounds_toArray, List.set_cons_zero, List.set_cons_succ]
                  refine wpAnyH_take (i := 40) (v := ?v43) (arr_at rfl) (by kernel_rfl) (by kernel_rfl) (by kernel_rfl) (fun _ _ _ h => h) (Or.inl ⟨by rfl, ?hy43⟩) (by assumption) ?_
                  case hy43 => (intro w hSw; (try dsimp only at hSw); go_simp <;> with_reducible rfl)
                  try simp only [Act.put, List.setIfInBounds_toArray, List.set_cons_zero, List.set_cons_succ]
                  refine wpAnyH_ready (rs := [48, 51]) (by kernel_rfl) (by simp) ?_
                  refine AllReadyH.cons (arr_at rfl) (fun K hK => ?_) ?_
                  · go_simp; refine (HS5.out _).mono ?_; rintro rr w3 ⟨rfl, rfl⟩
                    refine hK.out _ _ ?_ (fun hHeld => ?_)
                    · with_reducible exact hHeld
                    clear hK K
                    try simp only [Act.put, List.setIfInBounds_toArray, List.set_cons_zero, List.set_cons_succ]
                    refine wpAnyH_take (i := 49) (v := ?v44) (arr_at rfl) (by kernel_rfl) (by kernel_rfl) (by kernel_rfl) (fun _ _ _ h => h) (Or.inl ⟨by rfl, ?hy44⟩) (by assumption) ?_
                    case hy44 => (intro w hSw; (try dsimp only at hSw); go_simp <;> with_reducible rfl)
                    try simp only [Act.put, List.setIfInBounds_toArray, List.set_cons_zero, List.set_cons_succ]
                    refine wpAnyH_take (i := 50) (v := ?v45) (arr_at rfl) (by kernel_rfl) (by kernel_rfl) (by kernel_rfl) (fun _ _ _ h => h) (Or.inl ⟨by rfl, ?hy45⟩) (by assumption) ?_
                    case hy45 => (intro w hSw; (try dsimp only at hSw); go_simp <;> with_reducible rfl)
                    try simp only [Act.put, List.setIfInBounds_toArray, List.set_cons_zero, List.set_cons_succ]
                    refine wpAnyH_ready (rs := [51]) (by kernel_rfl) (by simp) ?_
                    refine AllReadyH.cons (arr_at rfl) (fun K hK => ?_) ?_
                    · go_simp
                      refine hK.out _ _ ?_ (fun hHeld => ?_)
                      · refine HSC.out _ ?_; exact Bw.d (Bw.alloc (Bw.refl _) _)
                      clear hK K
                      try simp only [Act.put, List.setIfInBounds_toArray, List.set_cons_zero, List.set_cons_succ]
                      refine wpAnyH_ready (rs := [52]) (by kernel_rfl) (by simp) ?_
                      refine AllReadyH.cons (arr_at rfl) (fun K hK => ?_) ?_
                      · go_simp
                        refine hK.out _ _ ?_ (fun hHeld => ?_)
                        · refine HSC.out _ ?_; exact Bw.d (Bw.alloc (Bw.refl _) _)
                        clear hK K
                        try simp only [Act.put, List.setIfInBounds_toArray, List.set_cons_zero, List.set_cons_succ]
                        refine wpAnyH_done (by kernel_rfl) ?_ _
                        refine NoPanic.normal ?_
                        exact hfin ()
                      exact AllReadyH.nil
                    exact AllReadyH.nil
                  refine AllReadyH.cons (arr_at rfl) (fun K hK => ?_) ?_
                  · go_simp
                    refine hK.out _ _ ?_ (fun hHeld => ?_)
                    · refine HSC.out _ ?_; exact Bw.d (Bw.alloc (Bw.refl _) _)
                    clear hK K
                    try simp only [Act.put, List.setIfInBounds_toArray, List.set_cons_zero, List.set_cons_succ]
                    refine wpAnyH_ready (rs := [48]) (by kernel_rfl) (by simp) ?_
                    refine AllReadyH.cons (arr_at rfl) (fun K hK => ?_) ?_
                    · go_simp; refine (HS5.out _).mono ?_; rintro rr w3 ⟨rfl, rfl⟩
                      refine hK.out _ _ ?_ (fun hHeld => ?_)
                      · with_reducible exact hHeld
                      clear hK K
                      try simp only [Act.put, List.setIfInBounds_toArray, List.set_cons_zero, List.set_cons_succ]
                      refine wpAnyH_take (i := 49) (v := ?v46) (arr_at rfl) (by kernel_rfl) (by kernel_rfl) (by kernel_rfl) (fun _ _ _ h => h) (Or.inl ⟨by rfl, ?hy46⟩) (by assumption) ?_
                      case hy46 => (intro w hSw; (try dsimp only at hSw); go_simp <;> with_reducible rfl)
                      try simp only [Act.put, List.setIfInBounds_toArray, List.set_cons_zero, List.set_cons_succ]
                      refine wpAnyH_take (i := 50) (v := ?v47) (arr_at rfl) (by kernel_rfl) (by kernel_rfl) (by kernel_rfl) (fun _ _ _ h => h) (Or.inl ⟨by rfl, ?hy47⟩) (by assumption) ?_
                      case hy47 => (intro w hSw; (try dsimp only at hSw); go_simp <;> with_reducible rfl)
                      try simp only [Act.put, List.setIfInBounds_toArray, List.set_cons_zero, List.set_cons_succ]
                      refine wpAnyH_ready (rs := [52]) (by kernel_rfl) (by simp) ?_
                      refine AllReadyH.cons (arr_at rfl) (fun K hK => ?_) ?_
                      · go_simp
                        refine hK.out _ _ ?_ (fun hHeld => ?_)
                        · refine HSC.out _ ?_; exact Bw.d (Bw.alloc (Bw.refl _) _)
                        clear hK K
                        try simp only [Act.put, List.setIfInBounds_toArray, List.set_cons_zero, List.set_cons_succ]
                        refine wpAnyH_done (by kernel_rfl) ?_ _
                        refine NoPanic.normal ?_
                        exact hfin ()
                      exact AllReadyH.nil
                    exact AllReadyH.nil
                  exact AllReadyH.nil
                refine AllReadyH.cons (arr_at rfl) (fun K hK => ?_) ?_
                · go_simp
                  refine hK.out _ _ ?_ (fun hHeld => ?_)
                  · refine HSC.out _ ?_; exact Bw.d (Bw.alloc (Bw.refl _) _)
                  clear hK K
                  try simp only [Act.put, List.setIfInBounds_toArray, List.set_cons_zero, List.set_cons_succ]
                  refine wpAnyH_ready (rs := [39]) (by kernel_rfl) (by simp) ?_
                  refine AllReadyH.cons (arr_at rfl) (fun K hK => ?_) ?_
                  · go_simp; refine (HP16.out _).mono ?_; rintro rr w3 ⟨rfl, rfl⟩
                    refine hK.out _ _ ?_ (fun hHeld => ?_)
                    · with_reducible exact hHeld
                    clear hK K
                    try simp only [Act.put, List.setIfInBounds_toArray, List.set_cons_zero, List.set_cons_succ]
                    refine wpAnyH_take (i := 40) (v := ?v48) (arr_at rfl) (by kernel_rfl) (by kernel_rfl) (by kernel_rfl) (fun _ _ _ h => h) (Or.inl ⟨by rfl, ?hy48⟩) (by assumption) ?_
                    case hy48 => (intro w hSw; (try dsimp only at hSw); go_simp <;> with_reducible rfl)
                    try simp only [Act.put, List.setIfInBounds_toArray, List.set_cons_zero, List.set_cons_succ]
                    refine wpAnyH_ready (rs := [48]) (by kernel_rfl) (by simp) ?_
                    refine AllReadyH.cons (arr_at rfl) (fun K hK => ?_) ?_
                    · go_simp; refine (HS5.out _).mono ?_; rintro rr w3 ⟨rfl, rfl⟩
                      refine hK.out _ _ ?_ (fun hHeld => ?_)
                      · with_reducible exact hHeld
                      clear hK K
                      try simp only [Act.put, List.setIfInBounds_toArray, List.set_cons_zero, List.set_cons_succ]
                      refine wpAnyH_take (i := 49) (v := ?v49) (arr_at rfl) (by kernel_rfl) (by kernel_rfl) (by kernel_rfl) (fun _ _ _ h => h) (Or.inl ⟨by rfl, ?hy49⟩) (by assumption) ?_
                      case hy49 => (intro w hSw; (try dsimp only at hSw); go_simp <;> with_reducible rfl)
                      try simp only [Act.put, List.setIfInBounds_toArray, List.set_cons_zero, List.set_cons_succ]
                      refine wpAnyH_take (i := 50) (v := ?v50) (arr_at rfl) (by kernel_rfl) (by kernel_rfl) (by kernel_rfl) (fun _ _ _ h => h) (Or.inl ⟨by rfl, ?hy50⟩) (by assumption) ?_
                      case hy50 => (intro w hSw; (try dsimp only at hSw); go_simp <;> with_reducible rfl)
                      try simp only [Act.put, List.setIfInBounds_toArray, List.set_cons_zero, List.set_cons_succ]
                      refine wpAnyH_ready (rs := [52]) (by kernel_rfl) (by simp) ?_
                      refine AllReadyH.cons (arr_at rfl) (fun K hK => ?_) ?_
                      · go_simp
                        refine hK.out _ _ ?_ (fun hHeld => ?_)
                        · refine HSC.out _ ?_; exact Bw.d (Bw.alloc (Bw.refl _) _)
                        clear hK K
                        try simp only [Act.put, List.setIfInBounds_toArray, List.set_cons_zero, List.set_cons_succ]
                        refine wpAnyH_done (by kernel_rfl) ?_ _
                        refine NoPanic.normal ?_
                        exact hfin ()
                      exact AllReadyH.nil
                    exact AllReadyH.nil
                  exact AllReadyH.nil
                exact AllReadyH.nil
              refine AllReadyH.cons (arr_at rfl) (fun K hK => ?_) ?_
              · go_simp
                refine hK.out _ _ ?_ (fun hHeld => ?_)
                · refine HSC.out _ ?_; exact Bw.d (Bw.alloc (Bw.refl _) _)
                clear hK K
                try simp only [Act.put, List.setIfInBounds_toArray, List.set_cons_zero, List.set_cons_succ]
                refine wpAnyH_ready (rs := [31]) (by kernel_rfl) (by simp) ?_
                refine AllReadyH.cons (arr_at rfl) (fun K hK => ?_) ?_
                · go_simp; refine (HS3.out _).mono ?_; rintro rr w3 ⟨rfl, rfl⟩
                  refine hK.out _ _ ?_ (fun hHeld => ?_)
                  · with_reducible exact hHeld
                  clear hK K
                  try simp only [Act.put, List.setIfInBounds_toArray, List.set_cons_zero, List.set_cons_succ]
                  refine wpAnyH_ready (rs := [39]) (by kernel_rfl) (by simp) ?_
                  refine AllReadyH.cons (arr_at rfl) (fun K hK => ?_) ?_
                  · go_simp; refine (HP16.out _).mono ?_; rintro rr w3 ⟨rfl, rfl⟩
                    refine hK.out _ _ ?_ (fun hHeld => ?_)
                    · with_reducible exact hHeld
                    clear hK K
                    try simp only [Act.put, List.setIfInBounds_toArray, List.set_cons_zero, List.set_cons_succ]
                    refine wpAnyH_take (i := 40) (v := ?v51) (arr_at rfl) (by kernel_rfl) (by kernel_rfl) (by kernel_rfl) (fun _ _ _ h => h) (Or.inl ⟨by rfl, ?hy51⟩) (by assumption) ?_
                    case hy51 => (intro w hSw; (try dsimp only at hSw); go_simp <;> with_reducible rfl)
                    try simp only [Act.put, List.setIfInBounds_toArray, List.set_cons_zero, List.set_cons_succ]
                    refine wpAnyH_ready (rs := [48]) (by kernel_rfl) (by simp) ?_
                    refine AllReadyH.cons (arr_at rfl) (fun K hK => ?_) ?_
                    · go_simp; refine (HS5.out _).mono ?_; rintro rr w3 ⟨rfl, rfl⟩
                      refine hK.out _ _ ?_ (fun hHeld => ?_)
                      · with_reducible exact hHeld
                      clear hK K
                      try simp only [Act.put, List.setIfInBounds_toArray, List.set_cons_zero, List.set_cons_succ]
                      refine wpAnyH_take (i := 49) (v := ?v52) (arr_at rfl) (by kernel_rfl) (by kernel_rfl) (by kernel_rfl) (fun _ _ _ h => h) (Or.inl ⟨by rfl, ?hy52⟩) (by assumption) ?_
                      case hy52 => (intro w hSw; (try dsimp only at hSw); go_simp <;> with_reducible rfl)
                      try simp only [Act.put, List.setIfInBounds_toArray, List.set_cons_zero, List.set_cons_succ]
                      refine wpAnyH_take (i := 50) (v := ?v53) (arr_at rfl) (by kernel_rfl) (by kernel_rfl) (by kernel_rfl) (fun _ _ _ h => h) (Or.inl ⟨by rfl, ?hy53⟩) (by assumption) ?_
                      case hy53 => (intro w hSw; (try dsimp only at hSw); go_simp <;> with_reducible rfl)
                      try simp only [Act.put, List.setIfInBounds_toArray, List.set_cons_zero, List.set_cons_succ]
                      refine wpAnyH_ready (rs := [52]) (by kernel_rfl) (by simp) ?_
                      refine AllReadyH.cons (arr_at rfl) (fun K hK => ?_) ?_
                      · go_simp
                        refine hK.out _ _ ?_ (fun hHeld => ?_)
                        · refine HSC.out _ ?_; exact Bw.d (Bw.alloc (Bw.refl _) _)
                        clear hK K
                        try simp only [Act.put, List.setIfInBounds_toArray, List.set_cons_zero, List.set_cons_succ]
                        refine wpAnyH_done (by kernel_rfl) ?_ _
                        refine NoPanic.normal ?_
                        exact hfin ()
                      exact AllReadyH.nil
                    exact AllReadyH.nil
                  exact AllReadyH.nil
                exact AllReadyH.nil
              exact AllReadyH.nil
            refine AllReadyH.cons (arr_at rfl) (fun K hK => ?_) ?_
            · go_simp
              refine hK.out _ _ ?_ (fun hHeld => ?_)
              · refine HSC.out _ ?_; exact Bw.d (Bw.alloc (Bw.refl _) _)
              clear hK K
              try simp only [Act.put, List.setIfInBounds_toArray, List.set_cons_zero, List.set_cons_succ]
              refine wpAnyH_ready (rs := [23]) (by kernel_rfl) (by simp) ?_
              refine AllReadyH.cons (arr_at rfl) (fun K hK => ?_) ?_
              · go_simp; refine (HS2.out _).mono ?_; rintro rr w3 ⟨rfl, rfl⟩
                refine hK.out _ _ ?_ (fun hHeld => ?_)
                · with_reducible exact hHeld
                clear hK K
                try simp only [Act.put, List.setIfInBounds_toArray, List.set_cons_zero, List.set_cons_succ]
                refine wpAnyH_ready (rs := [31]) (by kernel_rfl) (by simp) ?_
                refine AllReadyH.cons (arr_at rfl) (fun K hK => ?_) ?_
                · go_simp; refine (HS3.out _).mono ?_; rintro rr w3 ⟨rfl, rfl⟩
                  refine hK.out _ _ ?_ (fun hHeld => ?_)
                  · with_reducible exact hHeld
                  clear hK K
                  try simp only [Act.put, List.setIfInBounds_toArray, List.set_cons_zero, List.set_cons_succ]
                  refine wpAnyH_ready (rs := [39]) (by kernel_rfl) (by simp) ?_
                  refine AllReadyH.cons (arr_at rfl) (fun K hK => ?_) ?_
                  · go_simp; refine (HP16.out _).mono ?_; rintro rr w3 ⟨rfl, rfl⟩
                    refine hK.out _ _ ?_ (fun hHeld => ?_)
                    · with_reducible exact hHeld
                    clear hK K
                    try simp only [Act.put, List.setIfInBounds_toArray, List.set_cons_zero, List.set_cons_succ]
                    refine wpAnyH_take (i := 40) (v := ?v54) (arr_at rfl) (by kernel_rfl) (by kernel_rfl) (by kernel_rfl) (fun _ _ _ h => h) (Or.inl ⟨by rfl, ?hy54⟩) (by assumption) ?_
                    case hy54 => (intro w hSw; (try dsimp only at hSw); go_simp <;> with_reducible rfl)
                    try simp only [Act.put, List.setIfInBounds_toArray, List.set_cons_zero, List.set_cons_succ]
                    refine wpAnyH_ready (rs := [48]) (by kernel_rfl) (by simp) ?_
                    refine AllReadyH.cons (arr_at rfl) (fun K hK => ?_) ?_
                    · go_simp; refine (HS5.out _).mono ?_; rintro rr w3 ⟨rfl, rfl⟩
                      refine hK.out _ _ ?_ (fun hHeld => ?_)
                      · with_reducible exact hHeld
                      clear hK K
                      try simp only [Act.put, List.setIfInBounds_toArray, List.set_cons_zero, List.set_cons_succ]
                      refine wpAnyH_take (i := 49) (v := ?v55) (arr_at rfl) (by kernel_rfl) (by kernel_rfl) (by kernel_rfl) (fun _ _ _ h => h) (Or.inl ⟨by rfl, ?hy55⟩) (by assumption) ?_
                      case hy55 => (intro w hSw; (try dsimp only at hSw); go_simp <;> with_reducible rfl)
                      try simp only [Act.put, List.setIfInBounds_toArray, List.set_cons_zero, List.set_cons_succ]
                      refine wpAnyH_take (i := 50) (v := ?v56) (arr_at rfl) (by kernel_rfl) (by kernel_rfl) (by kernel_rfl) (fun _ _ _ h => h) (Or.inl ⟨by rfl, ?hy56⟩) (by assumption) ?_
                      case hy56 => (intro w hSw; (try dsimp only at hSw); go_simp <;> with_reducible rfl)
                      try simp only [Act.put, List.setIfInBounds_toArray, List.set_cons_zero, List.set_cons_succ]
                      refine wpAnyH_ready (rs := [52]) (by kernel_rfl) (by simp) ?_
                      refine AllReadyH.cons (arr_at rfl) (fun K hK => ?_) ?_
                      · go_simp
                        refine hK.out _ _ ?_ (fun hHeld => ?_)
                        · refine HSC.out _ ?_; exact Bw.d (Bw.alloc (Bw.refl _) _)
                        clear hK K
                        try simp only [Act.put, List.setIfInBounds_toArray, List.set_cons_zero, List.set_cons_succ]
                        refine wpAnyH_done (by kernel_rfl) ?_ _
                        refine NoPanic.normal ?_
                        exact hfin ()
                      exact AllReadyH.nil
                    exact AllReadyH.nil
                  exact AllReadyH.nil
                exact AllReadyH.nil
              exact AllReadyH.nil
            exact AllReadyH.nil
          refine AllReadyH.cons (arr_at rfl) (fun K hK => ?_) ?_
          · go_simp
            refine hK.out _ _ ?_ (fun hHeld => ?_)
            · refine HSC.out _ ?_; exact Bw.d (Bw.alloc (Bw.refl _) _)
            clear hK K
            try simp only [Act.put, List.setIfInBounds_toArray, List.set_cons_zero, List.set_cons_succ]
            refine wpAnyH_ready (rs := [15]) (by kernel_rfl) (by simp) ?_
            refine AllReadyH.cons (arr_at rfl) (fun K hK => ?_) ?_
            · go_simp; refine (HS1.out _).mono ?_; rintro rr w3 ⟨rfl, rfl⟩
              refine hK.out _ _ ?_ (fun hHeld => ?_)
              · with_reducible exact hHeld
              clear hK K
              try simp only [Act.put, List.setIfInBounds_toArray, List.set_cons_zero, List.set_cons_succ]
              refine wpAnyH_ready (rs := [23]) (by kernel_rfl) (by simp) ?_
              refine AllReadyH.cons (arr_at rfl) (fun K hK => ?_) ?_
              · go_simp; refine (HS2.out _).mono ?_; rintro rr w3 ⟨rfl, rfl⟩
                refine hK.out _ _ ?_ (fun hHeld => ?_)
                · with_reducible exact hHeld
                clear hK K
                try simp only [Act.put, List.setIfInBounds_toArray, List.set_cons_zero, List.set_cons_succ]
                refine wpAnyH_ready (rs := [31]) (by kernel_rfl) (by simp) ?_
                refine AllReadyH.cons (arr_at rfl) (fun K hK => ?_) ?_
                · go_simp; refine (HS3.out _).mono ?_; rintro rr w3 ⟨rfl, rfl⟩
                  refine hK.out _ _ ?_ (fun hHeld => ?_)
                  · with_reducible exact hHeld
                  clear hK K
                  try simp only [Act.put, List.setIfInBounds_toArray, List.set_cons_zero, List.set_cons_succ]
                  refine wpAnyH_ready (rs := [39]) (by kernel_rfl) (by simp) ?_
                  refine AllReadyH.cons (arr_at rfl) (fun K hK => ?_) ?_
                  · go_simp; refine (HP16.out _).mono ?_; rintro rr w3 ⟨rfl, rfl⟩
                    refine hK.out _ _ ?_ (fun hHeld => ?_)
                    · with_reducible exact hHeld
                    clear hK K
                    try simp only [Act.put, List.setIfInBounds_toArray, List.set_cons_zero, List.set_cons_succ]
                    refine wpAnyH_take (i := 40) (v := ?v57) (arr_at rfl) (by kernel_rfl) (by kernel_rfl) (by kernel_rfl) (fun _ _ _ h => h) (Or.inl ⟨by rfl, ?hy57⟩) (by assumption) ?_
                    case hy57 => (intro w hSw; (try dsimp only at hSw); go_simp <;> with_reducible rfl)
                    try simp only [Act.put, List.setIfInBounds_toArray, List.set_cons_zero, List.set_cons_succ]
                    refine wpAnyH_ready (rs := [48]) (by kernel_rfl) (by simp) ?_
                    refine AllReadyH.cons (arr_at rfl) (fun K hK => ?_) ?_
                    · go_simp; refine (HS5.out _).mono ?_; rintro rr w3 ⟨rfl, rfl⟩
                      refine hK.out _ _ ?_ (fun hHeld => ?_)
                      · with_reducible exact hHeld
                      clear hK K
                      try simp only [Act.put, List.setIfInBounds_toArray, List.set_cons_zero, List.set_cons_succ]
                      refine wpAnyH_take (i := 49) (v := ?v58) (arr_at rfl) (by kernel_rfl) (by kernel_rfl) (by kernel_rfl) (fun _ _ _ h => h) (Or.inl ⟨by rfl, ?hy58⟩) (by assumption) ?_
                      case hy58 => (intro w hSw; (try dsimp only at hSw); go_simp <;> with_reducible rfl)
                      try simp only [Act.put, List.setIfInBounds_toArray, List.set_cons_zero, List.set_cons_succ]
                      refine wpAnyH_take (i := 50) (v := ?v59) (arr_at rfl) (by kernel_rfl) (by kernel_rfl) (by kernel_rfl) (fun _ _ _ h => h) (Or.inl ⟨by rfl, ?hy59⟩) (by assumption) ?_
                      case hy59 => (intro w hSw; (try dsimp only at hSw); go_simp <;> with_reducible rfl)
                      try simp only [Act.put, List.setIfInBounds_toArray, List.set_cons_zero, List.set_cons_succ]
                      refine wpAnyH_ready (rs := [52]) (by kernel_rfl) (by simp) ?_
                      refine AllReadyH.cons (arr_at rfl) (fun K hK => ?_) ?_
                      · go_simp
                        refine hK.out _ _ ?_ (fun hHeld => ?_)
                        · refine HSC.out _ ?_; exact Bw.d (Bw.alloc (Bw.refl _) _)
                        clear hK K
                        try simp only [Act.put, List.setIfInBounds_toArray, List.set_cons_zero, List.set_cons_succ]
                        refine wpAnyH_done (by kernel_rfl) ?_ _
                        refine NoPanic.normal ?_
                        exact hfin ()
                      exact AllReadyH.nil
                    exact AllReadyH.nil
                  exact AllReadyH.nil
                exact AllReadyH.nil
              exact AllReadyH.nil
            exact AllReadyH.nil
          exact AllReadyH.nil
        refine AllReadyH.cons (arr_at rfl) (fun K hK => ?_) ?_
        · go_simp
          refine hK.out _ _ ?_ (fun hHeld => ?_)
          · refine HSC.out _ ?_; exact Bw.d (Bw.alloc (Bw.refl _) _)
          clear hK K
          try simp only [Act.put, List.setIfInBounds_toArray, List.set_cons_zero, List.set_cons_succ]
          refine wpAnyH_ready (rs := [6]) (by kernel_rfl) (by simp) ?_
          refine AllReadyH.cons (arr_at rfl) (fun K hK => ?_) ?_
          · go_simp; refine (HP2.out _).mono ?_; rintro rr w3 ⟨rfl, rfl⟩
            refine hK.out _ _ ?_ (fun hHeld => ?_)
            · with_reducible exact hHeld
            clear hK K
            try simp only [Act.put, List.setIfInBounds_toArray, List.set_cons_zero, List.set_cons_succ]
            refine wpAnyH_take (i := 7) (v := ?v60) (arr_at rfl) (by kernel_rfl) (by kernel_rfl) (by kernel_rfl) (fun _ _ _ h => h) (Or.inl ⟨by rfl, ?hy60⟩) (by assumption) ?_
            case hy60 => (intro w hSw; (try dsimp only at hSw); go_simp <;> with_reducible rfl)
            try simp only [Act.put, List.setIfInBounds_toArray, List.set_cons_zero, List.set_cons_succ]
            refine wpAnyH_ready (rs := [15]) (by kernel_rfl) (by simp) ?_
            refine AllReadyH.cons (arr_at rfl) (fun K hK => ?_) ?_
            · go_simp; refine (HS1.out _).mono ?_; rintro rr w3 ⟨rfl, rfl⟩
              refine hK.out _ _ ?_ (fun hHeld => ?_)
              · with_reducible exact hHeld
              clear hK K
              try simp only [Act.put, List.setIfInBounds_toArray, List.set_cons_zero, List.set_cons_succ]
              refine wpAnyH_ready (rs := [23]) (by kernel_rfl) (by simp) ?_
              refine AllReadyH.cons (arr_at rfl) (fun K hK => ?_) ?_
              · go_simp; refine (HS2.out _).mono ?_; rintro rr w3 ⟨rfl, rfl⟩
                refine hK.out _ _ ?_ (fun hHeld => ?_)
                · with_reducible exact hHeld
                clear hK K
                try simp only [Act.put, List.setIfInBounds_toArray, List.set_cons_zero, List.set_cons_succ]
                refine wpAnyH_ready (rs := [31]) (by kernel_rfl) (by simp) ?_
                refine AllReadyH.cons (arr_at rfl) (fun K hK => ?_) ?_
                · go_simp; refine (HS3.out _).mono ?_; rintro rr w3 ⟨rfl, rfl⟩
                  refine hK.out _ _ ?_ (fun hHeld => ?_)
                  · with_reducible exact hHeld
                  clear hK K
                  try simp only [Act.put, List.setIfInBounds_toArray, List.set_cons_zero, List.set_cons_succ]
                  refine wpAnyH_ready (rs := [39]) (by kernel_rfl) (by simp) ?_
                  refine AllReadyH.cons (arr_at rfl) (fun K hK => ?_) ?_
                  · go_simp; refine (HP16.out _).mono ?_; rintro rr w3 ⟨rfl, rfl⟩
                    refine hK.out _ _ ?_ (fun hHeld => ?_)
                    · with_reducible exact hHeld
                    clear hK K
                    try simp only [Act.put, List.setIfInBounds_toArray, List.set_cons_zero, List.set_cons_succ]
                    refine wpAnyH_take (i := 40) (v := ?v61) (arr_at rfl) (by kernel_rfl) (by kernel_rfl) (by kernel_rfl) (fun _ _ _ h => h) (Or.inl ⟨by rfl, ?hy61⟩) (by assumption) ?_
                    case hy61 => (intro w hSw; (try dsimp only at hSw); go_simp <;> with_reducible rfl)
                    try simp only [Act.put, List.setIfInBounds_toArray, List.set_cons_zero, List.set_cons_succ]
                    refine wpAnyH_ready (rs := [48]) (by kernel_rfl) (by simp) ?_
                    refine AllReadyH.cons (arr_at rfl) (fun K hK => ?_) ?_
                    · go_simp; refine (HS5.out _).mono ?_; rintro rr w3 ⟨rfl, rfl⟩
                      refine hK.out _ _ ?_ (fun hHeld => ?_)
                      · with_reducible exact hHeld
                      clear hK K
                      try simp only [Act.put, List.setIfInBounds_toArray, List.set_cons_zero, List.set_cons_succ]
                      refine wpAnyH_take (i := 49) (v := ?v62) (arr_at rfl) (by kernel_rfl) (by kernel_rfl) (by kernel_rfl) (fun _ _ _ h => h) (Or.inl ⟨by rfl, ?hy62⟩) (by assumption) ?_
                      case hy62 => (intro w hSw; (try dsimp only at hSw); go_simp <;> with_reducible rfl)
                      try simp only [Act.put, List.setIfInBounds_toArray, List.set_cons_zero, List.set_cons_succ]
                      refine wpAnyH_take (i := 50) (v := ?v63) (arr_at rfl) (by kernel_rfl) (by kernel_rfl) (by kernel_rfl) (fun _ _ _ h => h) (Or.inl ⟨by rfl, ?hy63⟩) (by assumption) ?_
                      case hy63 => (intro w hSw; (try dsimp only at hSw); go_simp <;> with_reducible rfl)
                      try simp only [Act.put, List.setIfInBounds_toArray, List.set_cons_zero, List.set_cons_succ]
                      refine wpAnyH_ready (rs := [52]) (by kernel_rfl) (by simp) ?_
                      refine AllReadyH.cons (arr_at rfl) (fun K hK => ?_) ?_
                      · go_simp
                        refine hK.out _ _ ?_ (fun hHeld => ?_)
                        · refine HSC.out _ ?_; exact Bw.d (Bw.alloc (Bw.refl _) _)
                        clear hK K
                        try simp only [Act.put, List.setIfInBounds_toArray, List.set_cons_zero, List.set_cons_succ]
                        refine wpAnyH_done (by kernel_rfl) ?_ _
                        refine NoPanic.normal ?_
                        exact hfin ()
                      exact AllReadyH.nil
                    exact AllReadyH.nil
                  exact AllReadyH.nil
                exact AllReadyH.nil
              exact AllReadyH.nil
            exact AllReadyH.nil
          exact AllReadyH.nil
        exact AllReadyH.nil
      case goFin =>
        intro _
        refine exit_namedL (Q := Exit.then _ _) fun WF hWF => ?_
        have hXF : WF.heap[wr.heap.size]? = some (.cells #[.int .i64 (1 + P), .int .i64 S1, .int .i64 S2, .int .i64 S3, .int .i64 (1 + Q), .int .i64 S5, .int .i64 0] 63 (0, 0)) := by rw [hWF]; exact heap_alloc_new _ _
        have hBF : Bw wr WF := by rw [hWF]; exact Bw.d (Bw.alloc (Bw.refl _) _)
        clear hWF c0 c1 c2 c3 c4 c5 c6 hw1 hw2 hwP hwQ HP2 HP16 HS1 HS2 HS3 HS5
        obtain ⟨d0, d1, d2, d3, d4, d5, d6, -⟩ := HSC.out _ hBF
        have hB2 : Below W.heap.size W WF := below_step HB.out hBF
        have HO2 := Lib.hid (own_below HOWN.out hBF)
        have HXF := Lib.hid hXF
        have HB2 := Lib.hid hB2
        have HSZ : Hid (∀ j, (Value.slice pa k pc).ownBlock = some j → j < wr.heap.size) := fun j hj => (HOWN.out.lt j hj).2
        have hz : wr.heap.size < WF.heap.size := (Array.getElem?_eq_some_iff.1 hXF).1
        obtain ⟨e0, e1, e2, e3, e4, e5, e6⟩ := cellAct hXF
        have zf6 : WF.frozen? ⟨wr.heap.size, 6, none⟩ = false := frozen_of_row _ _ _ _ _ hXF
        clear HOWN HSC hBF hXF hB2 d0 d1 d2 d3 d4 d5
        rcases hP with rfl | rfl
        · have HMK : Hid (((acts.take (k + 1)).map madeN).flatMap acV = F ++ acV (1, (S1, S2, S3, 1 + Q, S5), SV)) := HST.out
          clear HST
          have hzs : (WF.setCell ⟨wr.heap.size, 6, none⟩ (.int .i64 SV)).heap.size = WF.heap.size := by simp [World.setCell]
          have hBs : Bw WF (WF.setCell ⟨wr.heap.size, 6, none⟩ (.int .i64 SV)) ∨ True := .inr trivial
          have HOS := Lib.hid (own_set (b := wr.heap.size) (z := 6) HO2.out HSZ.out (.int .i64 SV))
          have HBS := Lib.hid (HB2.out.setCell (p := ⟨wr.heap.size, 6, none⟩) hsz (.int .i64 SV))
          clear hBs
          go_wp2_with fail
          refine (HSV.out _).mono ?_
          rintro rr w4 ⟨rfl, rfl⟩
          go_wp2_with (at_builtin; go_loud (refine wpList_append_own _ rfl (.tmp 95) (.tmp 97) _ rfl W.heap.size 63 Tryd.t63 _ 7 56 rfl hI.out rfl rfl rfl rfl (by omega) (.slice pa k pc) k _ rfl (HOS.out.alloc _) ⟨w4.heap.size, 0, none⟩ 1 1 (acV (1, (S1, S2, S3, 1 + Q, S5), SV)) rfl rfl (newCellsS _ _ _ _ _) (by simp [acV, Value.oneCell']) (by simp only [maxLen]; omega) (by omega) (by have := HB2.out.size; simp [World.setCell]; omega) ?_); intro v8 w8 hao hag hn8)
          have hB8 : Below W.heap.size W w8 := (HBS.out.alloc (by have := HB2.out.size; simp [World.setCell]; omega) _).grown hag (by have := HB2.out.size; simp [World.setCell]; omega) (fun j hj => (HOS.out.lt j hj).1)
          go_roundw
          case rel => exact ⟨k + 1, by omega, by omega, by go_num, by rw [HMK.out]; exact hao, hB8⟩
          case measure => simp [intOf]; omega
        · have HMK : Hid (((acts.take (k + 1)).map madeN).flatMap acV = F ++ acV (2, (S1, S2, S3, 1 + Q, S5), 0)) := HST.out
          clear HST
          have HOS := HO2
          have HBS := HB2
          go_wp2_with (at_builtin; go_loud (refine wpList_append_own _ rfl (.tmp 95) (.tmp 97) _ rfl W.heap.size 63 Tryd.t63 _ 7 56 rfl hI.out rfl rfl rfl rfl (by omega) (.slice pa k pc) k _ rfl (HOS.out.alloc _) ⟨WF.heap.size, 0, none⟩ 1 1 (acV (2, (S1, S2, S3, 1 + Q, S5), 0)) rfl rfl (newCells _ _ _) (by simp [acV, Value.oneCell']) (by simp only [maxLen]; omega) (by omega) (by have := HB2.out.size; simp [World.setCell]; omega) ?_); intro v8 w8 hao hag hn8)
          have hB8 : Below W.heap.size W w8 := (HBS.out.alloc (by have := HB2.out.size; simp [World.setCell]; omega) _).grown hag (by have := HB2.out.size; simp [World.setCell]; omega) (fun j hj => (HOS.out.lt j hj).1)
          go_roundw
          case rel => exact ⟨k + 1, by omega, by omega, by go_num, by rw [HMK.out]; exact hao, hB8⟩
          case measure => simp [intOf]; omega
    · have hkm : k ≤ acts.length := by rw [HN.out]; exact hkn
      have hlen : ((acts.take k).map madeN).length = k := by rw [List.length_map, List.length_take]; omega
      have hfit : ∀ a ∈ (acts.take k).map madeN, FitN a := fun a ha => by
        obtain ⟨b, -, rfl⟩ := List.mem_map.1 ha
        exact madeN_fit b
      have hpar := made_text (l := acts.take k) (by rw [List.length_take]; omega)
      have hsh := formatG_len ((acts.take k).map madeN) (fun a ha => (hfit a ha).wf)
      generalize (acts.take k).map madeN = O at *
      obtain ⟨X, hX⟩ : ∃ X, formatG O = X := ⟨_, rfl⟩
      rw [hX] at hpar hsh
      have hOA : ActsAt wr W.heap.size wr.heap.size (.slice pa k pc) O := acts_of_own (e := 63) (v := .slice pa k pc) (acts := O) (by rw [hlen]; exact HOWN.out)
      have HOA := Lib.hid hOA
      have HFM := Lib.hid (Format_good (.slice pa k pc) O X W.heap.size wr hOA (by omega) hfit hX (HE.out _ HB.out))
      have HPM := Lib.hid fun w' (hb : Below W.heap.size W w') => Parse_good X O w' (by omega) hpar (HE.out _ hb)
      rw [hlen] at HPM
      have HLO := Lib.hid hlen
      have hk0 : (0 : Int) ≤ k := by omega
      have hk2 : (k : Int) ≤ 100 := by omega
      clear hB hlen hfit hpar hsh hX hOA HOWN hkm
      rcases Nat.lt_or_ge k n with hkx | hkx
      · obtain rfl : k = 100 := by omega
        have hkx : ((100 : Nat) : Int) < (n : Int) := by omega
        clear hk hkn
        go_wp2_with fail
        refine HFM.out.mono ?_
        rintro rr w2 ⟨rfl, hb2⟩
        have HB2 : Hid (Below W.heap.size W w2) := below_step HB.out hb2
        have HO2 : Hid (ActsAt w2 W.heap.size wr.heap.size (.slice pa 100 pc) O) := HOA.out.move (Same.of_below hb2)
        have HZ2 := Lib.hid hb2.size
        clear hb2 HFM HOA
        go_wp2_with fail
        refine (HPM.out _ HB2.out).mono ?_
        rintro rr w3 ⟨ba, bc, rfl, hback, hb3⟩
        have HB3 : Hid (Below W.heap.size W w3) := below_step HB2.out hb3
        have HO3 : Hid (ActsAt w3 W.heap.size wr.heap.size (.slice pa 100 pc) O) := HO2.out.move (Same.of_below (hb3.mono HZ2.out))
        have HZ3 : Hid (wr.heap.size ≤ w3.heap.size) := Nat.le_trans HZ2.out hb3.size
        have HBK := Lib.hid hback
        clear hb3 hback HPM HO2 HB2 HZ2
        go_wp2_with fail
        obtain ⟨aO, cO, eO, -, hrO⟩ := HO3.out
        obtain ⟨aB, cB, eB, -, hrB⟩ := HBK.out
        have eO1 : pa = aO := by injection eO
        have eB1 : ba = aB := by injection eB
        clear eO eB
        subst eO1
        subst eB1
        have HRO := Lib.hid hrO
        have HRB := Lib.hid hrB
        clear hrO hrB
        obtain ⟨wo, rfl⟩ : ∃ wo : World, wo = wr := ⟨_, rfl⟩
        go_loopw [14] (fun i wq => ∃ (j : Nat), j ≤ 100 ∧ i = .int .i64 (j : Int) ∧ Below w3.heap.size w3 wq)
          (fun i wq => 100 - (intOf i).toNat)
        case atStart => exact ⟨0, Nat.zero_le _, rfl, by go_grown⟩
        case round =>
          obtain ⟨j, hj, rfl, hBq⟩ := hrel
          have HBQ := Lib.hid hBq
          by_cases hjk : j < 100
          · obtain ⟨bo, oo, rfl, ho1, ho2, hco⟩ := HRO.out (by rw [HLO.out]; omega)
            obtain ⟨bq, oq, rfl, hq1, hq2, hcq⟩ := HRB.out (by rw [HLO.out]; omega)
            have hz3 := HZ3.out
            have hcw : ∀ i u, (acV (acAt O j))[i]? = some u → wr.cell? ⟨bo, oo + j * 7 + i, none⟩ = some u := fun i u hu => (hBq.cell (p := ⟨bo, oo + j * 7 + i, none⟩) (show bo < w3.heap.size by omega)).trans (hco j (by rw [HLO.out]; omega) i u hu)
            have hcv : ∀ i u, (acV (acAt O j))[i]? = some u → wr.cell? ⟨bq, oq + j * 7 + i, none⟩ = some u := fun i u hu => (hBq.cell (p := ⟨bq, oq + j * 7 + i, none⟩) (show bq < w3.heap.size by omega)).trans (hcq j (by rw [HLO.out]; omega) i u hu)
            generalize acAt O j = A at *
            obtain ⟨a0, ⟨a1, a2, a3, a4, a5⟩, a6⟩ := A
            have c0 := hcw 0 _ rfl
            have c1 := hcw 1 _ rfl
            have c2 := hcw 2 _ rfl
            have c3 := hcw 3 _ rfl
            have c4 := hcw 4 _ rfl
            have c5 := hcw 5 _ rfl
            have c6 := hcw 6 _ rfl
            have d0 := hcv 0 _ rfl
            have d1 := hcv 1 _ rfl
            have d2 := hcv 2 _ rfl
            have d3 := hcv 3 _ rfl
            have d4 := hcv 4 _ rfl
            have d5 := hcv 5 _ rfl
            have d6 := hcv 6 _ rfl
            simp only [Nat.add_zero] at c0 d0
            have hj0 : (0 : Int) ≤ j := by omega
            have hj1 : (j : Int) < 100 := by omega
            have he := fun w => ein_act a0 a1 a2 a3 a4 a5 a6 a0 a1 a2 a3 a4 a5 a6 w
            rw [decide_eq_true rfl] at he
            have hD : ∀ q, Below w3.heap.size w3 (wr.drewN q) := fun q => hBq.trans ⟨rfl, rfl, rfl, Nat.le_refl _, fun _ _ => rfl⟩
            clear hco hcq hcw hcv hBq
            go_wp2_with fail
            go_quiet (fail)
            go_wp2
            go_roundw
            case rel => first | exact ⟨j + 1, by omega, by go_num, hD _⟩ | ((repeat apply Exists.intro); exact ⟨⟨j + 1, by omega, by go_num, hD _⟩, rfl⟩)
            case measure => simp [intOf]; omega
          · obtain hjK : j = 100 := by omega
            have hBW : Below W.heap.size W wr := HB3.out.trans (hBq.mono HB3.out.size)
            have HBW := Lib.hid hBW
            have hjI : ¬ (j : Int) < 100 := by omega
            clear hBW hBq HBQ HRO HRB HBK HO3 HB3 hjk hjK hj
            by_cases h0 : (parseO t).2.2 = 0
            · obtain ⟨A2, hp, hf, hfit2, hl2⟩ := parse_ok h0
              have HPG := Lib.hid fun w' (hb : Below W.heap.size W w') => Parse_good t A2 w' (by have := HT.out; omega) hp (HE.out _ hb)
              have HFG := Lib.hid fun v lo w' (hb : Below W.heap.size W w') (ha : ActsAt w' lo w'.heap.size v A2) => Format_good v A2 t lo w' ha hl2 hfit2 hf (HE.out _ hb)
              clear hp hf hfit2 hl2 h0
              go_wp2_with fail
              refine (HPG.out _ HBW.out).mono ?_
              rintro rr w5 ⟨pa2, pc2, rfl, ha2, hb5⟩
              have HA2 := Lib.hid ha2
              have HB5 := Lib.hid (below_step HBW.out hb5)
              clear ha2 hb5
              go_wp2_with fail
              refine (HFG.out _ _ _ HB5.out HA2.out).mono ?_
              rintro rr w6 ⟨rfl, hb6⟩
              have HB6 := Lib.hid (below_step HB5.out hb6)
              clear hb6
              go_wp2_with fail
              refine (awake_c _).mono ?_
              rintro rr w7 ⟨rfl, hb7⟩
              have HB7 := Lib.hid (below_step HB6.out hb7)
              clear hb7
              go_wp2
              go_ret
              exact ⟨rfl, HB7.out⟩
            · have HPB := Lib.hid fun w' (hb : Below W.heap.size W w') => Parse_bad t w' (by have := HT.out; omega) h0 (HE.out _ hb)
              clear h0
              go_wp2_with fail
              refine (HPB.out _ HBW.out).mono ?_
              rintro rr w5 ⟨pa2, pc2, x, y, rfl, hy, hb5⟩
              have HB5 := Lib.hid (below_step HBW.out hb5)
              clear hb5
              go_wp2_with fail
              refine (awake_c _).mono ?_
              rintro rr w7 ⟨rfl, hb7⟩
              have HB7 := Lib.hid (below_step HB5.out hb7)
              clear hb7
              go_wp2
              go_ret
              exact ⟨rfl, HB7.out⟩
      · obtain rfl : k = n := by omega
        clear hk
        go_wp2_with fail
        refine HFM.out.mono ?_
        rintro rr w2 ⟨rfl, hb2⟩
        have HB2 : Hid (Below W.heap.size W w2) := below_step HB.out hb2
        have HO2 : Hid (ActsAt w2 W.heap.size wr.heap.size (.slice pa k pc) O) := HOA.out.move (Same.of_below hb2)
        have HZ2 := Lib.hid hb2.size
        clear hb2 HFM HOA
        go_wp2_with fail
        refine (HPM.out _ HB2.out).mono ?_
        rintro rr w3 ⟨ba, bc, rfl, hback, hb3⟩
        have HB3 : Hid (Below W.heap.size W w3) := below_step HB2.out hb3
        have HO3 : Hid (ActsAt w3 W.heap.size wr.heap.size (.slice pa k pc) O) := HO2.out.move (Same.of_below (hb3.mono HZ2.out))
        have HZ3 : Hid (wr.heap.size ≤ w3.heap.size) := Nat.le_trans HZ2.out hb3.size
        have HBK := Lib.hid hback
        clear hb3 hback HPM HO2 HB2 HZ2
        go_wp2_with fail
        obtain ⟨aO, cO, eO, -, hrO⟩ := HO3.out
        obtain ⟨aB, cB, eB, -, hrB⟩ := HBK.out
        have eO1 : pa = aO := by injection eO
        have eB1 : ba = aB := by injection eB
        clear eO eB
        subst eO1
        subst eB1
        have HRO := Lib.hid hrO
        have HRB := Lib.hid hrB
        clear hrO hrB
        obtain ⟨wo, rfl⟩ : ∃ wo : World, wo = wr := ⟨_, rfl⟩
        go_loopw [14] (fun i wq => ∃ (j : Nat), j ≤ k ∧ i = .int .i64 (j : Int) ∧ Below w3.heap.size w3 wq)
          (fun i wq => k - (intOf i).toNat)
        case atStart => exact ⟨0, Nat.zero_le _, rfl, by go_grown⟩
        case round =>
          obtain ⟨j, hj, rfl, hBq⟩ := hrel
          have HBQ := Lib.hid hBq
          by_cases hjk : j < k
          · obtain ⟨bo, oo, rfl, ho1, ho2, hco⟩ := HRO.out (by rw [HLO.out]; omega)
            obtain ⟨bq, oq, rfl, hq1, hq2, hcq⟩ := HRB.out (by rw [HLO.out]; omega)
            have hz3 := HZ3.out
            have hcw : ∀ i u, (acV (acAt O j))[i]? = some u → wr.cell? ⟨bo, oo + j * 7 + i, none⟩ = some u := fun i u hu => (hBq.cell (p := ⟨bo, oo + j * 7 + i, none⟩) (show bo < w3.heap.size by omega)).trans (hco j (by rw [HLO.out]; omega) i u hu)
            have hcv : ∀ i u, (acV (acAt O j))[i]? = some u → wr.cell? ⟨bq, oq + j * 7 + i, none⟩ = some u := fun i u hu => (hBq.cell (p := ⟨bq, oq + j * 7 + i, none⟩) (show bq < w3.heap.size by omega)).trans (hcq j (by rw [HLO.out]; omega) i u hu)
            generalize acAt O j = A at *
            obtain ⟨a0, ⟨a1, a2, a3, a4, a5⟩, a6⟩ := A
            have c0 := hcw 0 _ rfl
            have c1 := hcw 1 _ rfl
            have c2 := hcw 2 _ rfl
            have c3 := hcw 3 _ rfl
            have c4 := hcw 4 _ rfl
            have c5 := hcw 5 _ rfl
            have c6 := hcw 6 _ rfl
            have d0 := hcv 0 _ rfl
            have d1 := hcv 1 _ rfl
            have d2 := hcv 2 _ rfl
            have d3 := hcv 3 _ rfl
            have d4 := hcv 4 _ rfl
            have d5 := hcv 5 _ rfl
            have d6 := hcv 6 _ rfl
            simp only [Nat.add_zero] at c0 d0
            have hj0 : (0 : Int) ≤ j := by omega
            have hj1 : (j : Int) < k := by omega
            have he := fun w => ein_act a0 a1 a2 a3 a4 a5 a6 a0 a1 a2 a3 a4 a5 a6 w
            rw [decide_eq_true rfl] at he
            have hD : ∀ q, Below w3.heap.size w3 (wr.drewN q) := fun q => hBq.trans ⟨rfl, rfl, rfl, Nat.le_refl _, fun _ _ => rfl⟩
            clear hco hcq hcw hcv hBq
            go_wp2_with fail
            go_quiet (fail)
            go_wp2
            go_roundw
            case rel => first | exact ⟨j + 1, by omega, by go_num, hD _⟩ | ((repeat apply Exists.intro); exact ⟨⟨j + 1, by omega, by go_num, hD _⟩, rfl⟩)
            case measure => simp [intOf]; omega
          · obtain hjK : j = k := by omega
            have hBW : Below W.heap.size W wr := HB3.out.trans (hBq.mono HB3.out.size)
            have HBW := Lib.hid hBW
            have hjI : ¬ (j : Int) < k := by omega
            clear hBW hBq HBQ HRO HRB HBK HO3 HB3 hjk hjK hj
            by_cases h0 : (parseO t).2.2 = 0
            · obtain ⟨A2, hp, hf, hfit2, hl2⟩ := parse_ok h0
              have HPG := Lib.hid fun w' (hb : Below W.heap.size W w') => Parse_good t A2 w' (by have := HT.out; omega) hp (HE.out _ hb)
              have HFG := Lib.hid fun v lo w' (hb : Below W.heap.size W w') (ha : ActsAt w' lo w'.heap.size v A2) => Format_good v A2 t lo w' ha hl2 hfit2 hf (HE.out _ hb)
              clear hp hf hfit2 hl2 h0
              go_wp2_with fail
              refine (HPG.out _ HBW.out).mono ?_
              rintro rr w5 ⟨pa2, pc2, rfl, ha2, hb5⟩
              have HA2 := Lib.hid ha2
              have HB5 := Lib.hid (below_step HBW.out hb5)
              clear ha2 hb5
              go_wp2_with fail
              refine (HFG.out _ _ _ HB5.out HA2.out).mono ?_
              rintro rr w6 ⟨rfl, hb6⟩
              have HB6 := Lib.hid (below_step HB5.out hb6)
              clear hb6
              go_wp2_with fail
              refine (awake_c _).mono ?_
              rintro rr w7 ⟨rfl, hb7⟩
              have HB7 := Lib.hid (below_step HB6.out hb7)
              clear hb7
              go_wp2
              go_ret
              exact ⟨rfl, HB7.out⟩
            · have HPB := Lib.hid fun w' (hb : Below W.heap.size W w') => Parse_bad t w' (by have := HT.out; omega) h0 (HE.out _ hb)
              clear h0
              go_wp2_with fail
              refine (HPB.out _ HBW.out).mono ?_
              rintro rr w5 ⟨pa2, pc2, x, y, rfl, hy, hb5⟩
              have HB5 := Lib.hid (below_step HBW.out hb5)
              clear hb5
              go_wp2_with fail
              refine (awake_c _).mono ?_
              rintro rr w7 ⟨rfl, hb7⟩
              have HB7 := Lib.hid (below_step HB5.out hb7)
              clear hb7
              go_wp2
              go_ret
              exact ⟨rfl, HB7.out⟩
theorem Lines_walk (v0 : Value) (acts : List Ac) (s : ByteArray) (W : World) (hA : ActsAt W 0 W.heap.size v0 acts) (he : Env W) :
    Calls Tryd.prog 6 #[v0, .string s] W fun e w' => e = .returned (.bool true) ∧ Below W.heap.size W w' := by
  have hs : s = ⟨s.data.toList.toArray⟩ := by simp
  rw [hs]
  by_cases h : 4000 < s.data.toList.length
  · exact Lines_big v0 acts s.data.toList W hA h
  · exact Lines_small v0 acts s.data.toList W hA h he
end Go.Proofs.YtpcefaccoifejaaDoor
