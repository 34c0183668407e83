/-
  Contracts of strings.IndexByte, tone.Parse, and letter and Parse of the reference; what both Parses return. Conditions: none but the types.
-/
import Derived.Test.YthfclapnkemjiaaGreatDoorRName
import Derived.Lib.Bytealg
import Derived.Deep.DeepCutAuto
namespace Go.Proofs.YthfclapnkemjiaaGreatDoor
open Go.RowKit
set_option linter.unusedSimpArgs false
set_option linter.unusedVariables false

/-- the number of a letter -/
def letN (x : Int) : Int := Lib.indexByte [99, 100, 101, 102, 103, 97, 98] x.toNat.toUInt8
theorem letN_eq (x : Int) (h0 : 0 ≤ x) (h1 : x ≤ 255) : letN x = if x < 97 ∨ 103 < x then -1 else (x - 97 + 5) % 7 := by
  obtain ⟨n, rfl⟩ := Int.eq_ofNat_of_zero_le h0
  have h : ∀ n : Nat, n < 256 → letN (n : Int) = if (n : Int) < 97 ∨ 103 < (n : Int) then -1 else ((n : Int) - 97 + 5) % 7 := by decide +kernel
  exact h n (by omega)
theorem letN_bd (x : Int) (h0 : 0 ≤ x) (h1 : x ≤ 255) : -1 ≤ letN x ∧ letN x ≤ 6 := by
  rw [letN_eq x h0 h1]
  split <;> omega
set_option maxRecDepth 100000 in
theorem sliteIndex_c (s : ByteArray) (c : Int) (w : World) :
    Calls Tryz.prog 95 #[.string s, .int .u8 c] w fun e w' => e = .returned (.int .i64 (Lib.indexByte s.data.toList c.toNat.toUInt8)) ∧ w = w' := by
  go_enter Tryz.func95, Tryz.ntmps95
  go_wp2
  rw [run_callFunc_extern Tryz.func100 (by kernel_rfl) (by kernel_rfl) (by kernel_rfl) (e := Extern.BytealgIndexByte.indexByte) (by kernel_rfl), Lib.run_indexByteString]
  simp only [Result.andThen]
  rw [Oper.upon_value]
  go_wp2
  go_ret
  exact ⟨rfl, rfl⟩
theorem IndexByte_c (s : ByteArray) (c : Int) (w : World) :
    Calls Tryz.prog 59 #[.string s, .int .u8 c] w fun e w' => e = .returned (.int .i64 (Lib.indexByte s.data.toList c.toNat.toUInt8)) ∧ w = w' := by
  go_enter Tryz.func59, Tryz.ntmps59
  go_wp2_with (go_at_call 95; refine (sliteIndex_c _ _ _).mono ?_; rintro e w' ⟨rfl, rfl⟩)
  go_ret
  exact ⟨rfl, rfl⟩
theorem rletter_c (x : Int) (w : World) (h0 : 0 ≤ x) (h1 : x ≤ 255) :
    Calls Tryz.prog 61 #[.int .u8 x] w fun e w' => e = .returned (.int .i64 (letN x)) ∧ w = w' := by
  have he := letN_eq x h0 h1
  by_cases ha : x < 97
  · rw [he, if_pos (.inl ha)]
    clear he
    go_enter Tryz.func61, Tryz.ntmps61
    go_wp2
    go_ret
    exact ⟨rfl, rfl⟩
  · by_cases hb : 103 < x
    · rw [he, if_pos (.inr hb)]
      clear he
      go_enter Tryz.func61, Tryz.ntmps61
      go_wp2
      go_ret
      exact ⟨rfl, rfl⟩
    · rw [he, if_neg (by omega)]
      clear he
      go_enter Tryz.func61, Tryz.ntmps61
      go_wp2
      go_ret
      exact ⟨rfl, rfl⟩

/-- what Name returns -/
def nameV (s a : Int) : ByteArray := if 0 ≤ s ∧ s < 70 ∧ -1 ≤ a ∧ a ≤ 1 then nameB s a else ByteArray.empty
def nameE (s a : Int) : Int := if 0 ≤ s ∧ s < 70 ∧ -1 ≤ a ∧ a ≤ 1 then 0 else 34
theorem Name_c (s a : Int) (w : World) : Calls Tryz.prog 60 #[.agg #[.int .i64 s, .int .i64 a]] w fun e w' => e = .returned (.tuple #[.string (nameV s a), .int .i64 (nameE s a)]) ∧ Below w.heap.size w w' := by
  by_cases h : 0 ≤ s ∧ s < 70 ∧ -1 ≤ a ∧ a ≤ 1
  · unfold nameV nameE; rw [if_pos h, if_pos h]; exact Name_yes s a w h
  · unfold nameV nameE; rw [if_neg h, if_neg h]; exact Name_no s a w h
/-- does the pitch of this alteration bear the name s -/
def hit (st : Int) (L a : Int) (s : ByteArray) : Bool := decide (0 ≤ L) && (decide (0 ≤ st ∧ st < 70 ∧ -1 ≤ a ∧ a ≤ 1) && ((nameB st a).toList == s.toList))
/-- what Parse returns of the step and the alteration -/
def parse3 (x y : Int) (s : ByteArray) : Int × Int × Int :=
  if hit (7 * (y - 48) + letN x) (letN x) (-1) s = true then (7 * (y - 48) + letN x, -1, 0)
  else if hit (7 * (y - 48) + letN x) (letN x) 0 s = true then (7 * (y - 48) + letN x, 0, 0)
  else if hit (7 * (y - 48) + letN x) (letN x) 1 s = true then (7 * (y - 48) + letN x, 1, 0) else (0, 0, 5)
def p3 (st : Int) (v0 v1 v2 : Bool) : Int × Int × Int := if v0 = true then (st, -1, 0) else if v1 = true then (st, 0, 0) else if v2 = true then (st, 1, 0) else (0, 0, 5)
/-- what is parsed, byte by byte -/
def parseL : List UInt8 → Int × Int × Int
  | [x, y] => if letN x.toNat < 0 ∨ (y.toNat : Int) < 48 ∨ 57 < (y.toNat : Int) then (0, 0, 5) else (7 * ((y.toNat : Int) - 48) + letN x.toNat, 0, 0)
  | [x, m, y] => if letN x.toNat < 0 ∨ (y.toNat : Int) < 48 ∨ 57 < (y.toNat : Int) then (0, 0, 5) else if m = 35 then (7 * ((y.toNat : Int) - 48) + letN x.toNat, 1, 0) else if m = 98 then (7 * ((y.toNat : Int) - 48) + letN x.toNat, -1, 0) else (0, 0, 5)
  | _ => (0, 0, 5)
theorem hit_iff (st L a : Int) (s : ByteArray) : hit st L a s = (decide (0 ≤ L) && ((nameE st a == 0) && ((nameV st a).toList == s.toList))) := by
  unfold hit nameE nameV
  by_cases h : 0 ≤ st ∧ st < 70 ∧ -1 ≤ a ∧ a ≤ 1
  · simp only [if_pos h, decide_eq_true h, Bool.true_and]; rfl
  · simp only [if_neg h, decide_eq_false h, Bool.false_and]; rfl

set_option maxRecDepth 100000 in
theorem Parse_empty (w : World) :
    Calls Tryz.prog 12 #[.string ⟨#[]⟩] w fun e w' => e = .returned (.tuple #[.agg #[.int .i64 0, .int .i64 0], .int .i64 5]) ∧ Below w.heap.size w w' := by
  go_enter Tryz.func12, Tryz.ntmps12
  go_wp2
  go_returns
  exact ⟨rfl, by go_grown⟩
set_option maxRecDepth 100000 in
set_option maxHeartbeats 4000000 in
theorem Parse_some (s : ByteArray) (x y : Int) (w : World) (hs : 0 < s.size) (hsz : s.size ≤ maxLen) (hx0 : 0 ≤ x) (hx1 : x ≤ 255) (hy0 : 0 ≤ y) (hy1 : y ≤ 255)
    (hI0 : ∀ w, (Instr.index 9 (.string s) (.int .i64 0)).run Tryz.prog w = .ok (.int .u8 x) w) (hI1 : ∀ w, (Instr.index 9 (.string s) (.int .i64 ((s.size : Int) - 1))).run Tryz.prog w = .ok (.int .u8 y) w) :
    Calls Tryz.prog 12 #[.string s] w fun e w' => e = .returned (.tuple #[.agg #[.int .i64 (parse3 x y s).1, .int .i64 (parse3 x y s).2.1], .int .i64 (parse3 x y s).2.2]) ∧ Below w.heap.size w w' := by
  have HX := Lib.hid fun w => IndexByte_c ⟨#[99, 100, 101, 102, 103, 97, 98]⟩ x w
  have hL := letN_bd x hx0 hx1
  have hLe : Lib.indexByte (⟨#[99, 100, 101, 102, 103, 97, 98]⟩ : ByteArray).data.toList x.toNat.toUInt8 = letN x := rfl
  rw [hLe] at HX
  clear hLe
  have HP : parse3 x y s = p3 (7 * (y - 48) + letN x) (hit (7 * (y - 48) + letN x) (letN x) (-1) s) (hit (7 * (y - 48) + letN x) (letN x) 0 s) (hit (7 * (y - 48) + letN x) (letN x) 1 s) := rfl
  rw [HP]
  clear HP
  have hne : s.toList.isEmpty = false := by
    rw [ByteArray.toList_eq]
    cases h : s.data.toList with
    | nil =>
      have h2 : s.data.toList.length = s.size := Array.length_toList
      rw [h] at h2
      simp at h2
      omega
    | cons a l => rfl
  unfold maxLen at hsz
  generalize letN x = L at *
  have hst : ∃ st, 7 * (y - 48) + L = st ∧ -1000 ≤ st ∧ st ≤ 2000 := ⟨_, rfl, by omega, by omega⟩
  obtain ⟨st, hste, hst0, hst1⟩ := hst
  rw [hste]
  have G0 := hit_iff st L (-1) s
  have G1 := hit_iff st L 0 s
  have G2 := hit_iff st L 1 s
  have N0 := fun w => Name_c st (-1) w
  have N1 := fun w => Name_c st 0 w
  have N2 := fun w => Name_c st 1 w
  generalize hit st L (-1) s = v0 at *
  generalize hit st L 0 s = v1 at *
  generalize hit st L 1 s = v2 at *
  generalize hbL : decide (0 ≤ L) = b at *
  generalize nameV st (-1) = n0 at *
  generalize nameE st (-1) = e0 at *
  generalize hq0 : (n0.toList == s.toList) = q0 at *
  generalize hf0' : (e0 == 0) = f0 at *
  generalize nameV st 0 = n1 at *
  generalize nameE st 0 = e1 at *
  generalize hq1 : (n1.toList == s.toList) = q1 at *
  generalize hf1' : (e1 == 0) = f1 at *
  generalize nameV st 1 = n2 at *
  generalize nameE st 1 = e2 at *
  generalize hq2 : (n2.toList == s.toList) = q2 at *
  generalize hf2' : (e2 == 0) = f2 at *
  have HN0 := Lib.hid N0
  clear N0
  have HN1 := Lib.hid N1
  clear N1
  have HN2 := Lib.hid N2
  clear N2
  have HG0 := Lib.hid G0
  clear G0
  have HG1 := Lib.hid G1
  clear G1
  have HG2 := Lib.hid G2
  clear G2
  have M0 := Lib.hid hq0
  have M1 := Lib.hid hq1
  have M2 := Lib.hid hq2
  have F0 := Lib.hid hf0'
  have F1 := Lib.hid hf1'
  have F2 := Lib.hid hf2'
  have BL := Lib.hid hbL
  clear hq0 hq1 hq2 hf0' hf1' hf2' hbL
  have ste2 : L + 7 * (y - 48) = st := by omega
  go_enter Tryz.func12, Tryz.ntmps12
  go_wp2_with fail
  generalize hW : w.alloc _ = W
  have hbW : Below w.heap.size w W := by rw [← hW]; go_grown
  have r0 : W.cell? ⟨w.heap.size, 0, none⟩ = some (.int .i64 0) := by rw [← hW]; clear hW; go_simp
  have r1 : W.cell? ⟨w.heap.size, 1, none⟩ = some (.int .i64 0) := by rw [← hW]; clear hW; go_simp
  have z0 : W.frozen? ⟨w.heap.size, 0, none⟩ = false := by rw [← hW]; clear hW; go_simp
  have z1 : W.frozen? ⟨w.heap.size, 1, none⟩ = false := by rw [← hW]; clear hW; go_simp
  have zW : w.heap.size < W.heap.size := by rw [← hW]; simp
  clear hW
  go_quiet ((go_at_call 59; exact calls_drewN (HX.out _)))
  clear hI0 hI1 hne
  go_wp2_with fail
  go_loopw [6] (fun i wr => ∃ k : Nat, k ≤ 3 ∧ i = .int .i64 ((k : Int) - 1) ∧ Hid ((1 ≤ k → v0 = false) ∧ (2 ≤ k → v1 = false) ∧ (3 ≤ k → v2 = false)) ∧ wr.cell? ⟨w.heap.size, 0, none⟩ = some (.int .i64 0) ∧ wr.cell? ⟨w.heap.size, 1, none⟩ = some (.int .i64 0) ∧ wr.frozen? ⟨w.heap.size, 0, none⟩ = false ∧ wr.frozen? ⟨w.heap.size, 1, none⟩ = false ∧ w.heap.size < wr.heap.size ∧ Below w.heap.size w wr) (fun i _ => (2 - intOf i).toNat)
  case atStart => exact ⟨0, by omega, rfl, ⟨fun h => by omega, fun h => by omega, fun h => by omega⟩, r0, r1, z0, z1, zW, below_drewN' hbW _⟩
  case round =>
    clear r0 r1 z0 z1 zW hbW
    obtain ⟨k, hk, rfl, HV, r0, r1, z0, z1, zW, hbW⟩ := hrel
    rcases (by omega : k = 0 ∨ k = 1 ∨ k = 2 ∨ k = 3) with rfl | rfl | rfl | rfl
    · go_wp2_with fail
      refine (HN0.out _).mono ?_
      rintro e w1 ⟨rfl, hb1⟩; obtain ⟨hc1, hf1⟩ := bcell hb1; have hz1 := hb1.size; (try simp at hz1)
      have y1 : w.heap.size < w1.heap.size := by omega
      have y2 : wr.heap.size < w1.heap.size := by omega
      have y3 : w.heap.size < wr.heap.size + 1 := by omega
      have y4 : ¬ wr.heap.size = w.heap.size := by omega
      have hB1 : Below w.heap.size w w1 := below_step (by go_grown) hb1
      have hbL := BL.out
      have hq := M0.out
      have hf := F0.out
      have hg := HG0.out
      clear BL M0 F0 HG0
      cases b
      · have hv : v0 = false := hg; clear hg; subst hv
        go_wp2_with fail
        go_roundw
        case rel => exact ⟨1, by omega, by go_num, ⟨fun _ => by simp, fun h => absurd h (by decide), fun h => absurd h (by decide)⟩, by go_simp, by go_simp, by go_simp, by go_simp, y1, hB1⟩
        case measure => simp [intOf]
      · cases f0
        · have hv : v0 = false := hg; clear hg; subst hv
          go_wp2_with fail
          go_roundw
          case rel => exact ⟨1, by omega, by go_num, ⟨fun _ => by simp, fun h => absurd h (by decide), fun h => absurd h (by decide)⟩, by go_simp, by go_simp, by go_simp, by go_simp, y1, hB1⟩
          case measure => simp [intOf]
        · cases q0
          · have hv : v0 = false := hg; clear hg; subst hv
            go_wp2_with fail
            go_roundw
            case rel => exact ⟨1, by omega, by go_num, ⟨fun _ => by simp, fun h => absurd h (by decide), fun h => absurd h (by decide)⟩, by go_simp, by go_simp, by go_simp, by go_simp, y1, hB1⟩
            case measure => simp [intOf]
          · have hv : v0 = true := hg; clear hg; subst hv
            go_wp2_with fail
            (try simp only [Exit.inBlock, Exit.then]); refine bodyPost_ret (by simp [results, Tryz.results12, go_sem, *]; try rfl) rfl ?_
            exact ⟨by rw [show p3 st true v1 v2 = (st, -1, 0) from rfl], by go_grown⟩
    · go_wp2_with fail
      refine (HN1.out _).mono ?_
      rintro e w1 ⟨rfl, hb1⟩; obtain ⟨hc1, hf1⟩ := bcell hb1; have hz1 := hb1.size; (try simp at hz1)
      have y1 : w.heap.size < w1.heap.size := by omega
      have y2 : wr.heap.size < w1.heap.size := by omega
      have y3 : w.heap.size < wr.heap.size + 1 := by omega
      have y4 : ¬ wr.heap.size = w.heap.size := by omega
      have hB1 : Below w.heap.size w w1 := below_step (by go_grown) hb1
      have hbL := BL.out
      have hq := M1.out
      have hf := F1.out
      have hg := HG1.out
      clear BL M1 F1 HG1
      cases b
      · have hv : v1 = false := hg; clear hg; subst hv
        go_wp2_with fail
        go_roundw
        case rel => exact ⟨2, by omega, by go_num, ⟨fun _ => HV.out.1 (by omega), fun _ => by simp, fun h => absurd h (by decide)⟩, by go_simp, by go_simp, by go_simp, by go_simp, y1, hB1⟩
        case measure => simp [intOf]
      · cases f1
        · have hv : v1 = false := hg; clear hg; subst hv
          go_wp2_with fail
          go_roundw
          case rel => exact ⟨2, by omega, by go_num, ⟨fun _ => HV.out.1 (by omega), fun _ => by simp, fun h => absurd h (by decide)⟩, by go_simp, by go_simp, by go_simp, by go_simp, y1, hB1⟩
          case measure => simp [intOf]
        · cases q1
          · have hv : v1 = false := hg; clear hg; subst hv
            go_wp2_with fail
            go_roundw
            case rel => exact ⟨2, by omega, by go_num, ⟨fun _ => HV.out.1 (by omega), fun _ => by simp, fun h => absurd h (by decide)⟩, by go_simp, by go_simp, by go_simp, by go_simp, y1, hB1⟩
            case measure => simp [intOf]
          · have hv : v1 = true := hg; clear hg; subst hv
            go_wp2_with fail
            (try simp only [Exit.inBlock, Exit.then]); refine bodyPost_ret (by simp [results, Tryz.results12, go_sem, *]; try rfl) rfl ?_
            exact ⟨by rw [HV.out.1 (by omega), show p3 st false true v2 = (st, 0, 0) from rfl], by go_grown⟩
    · go_wp2_with fail
      refine (HN2.out _).mono ?_
      rintro e w1 ⟨rfl, hb1⟩; obtain ⟨hc1, hf1⟩ := bcell hb1; have hz1 := hb1.size; (try simp at hz1)
      have y1 : w.heap.size < w1.heap.size := by omega
      have y2 : wr.heap.size < w1.heap.size := by omega
      have y3 : w.heap.size < wr.heap.size + 1 := by omega
      have y4 : ¬ wr.heap.size = w.heap.size := by omega
      have hB1 : Below w.heap.size w w1 := below_step (by go_grown) hb1
      have hbL := BL.out
      have hq := M2.out
      have hf := F2.out
      have hg := HG2.out
      clear BL M2 F2 HG2
      cases b
      · have hv : v2 = false := hg; clear hg; subst hv
        go_wp2_with fail
        go_roundw
        case rel => exact ⟨3, by omega, by go_num, ⟨fun _ => HV.out.1 (by omega), fun _ => HV.out.2.1 (by omega), fun _ => by simp⟩, by go_simp, by go_simp, by go_simp, by go_simp, y1, hB1⟩
        case measure => simp [intOf]
      · cases f2
        · have hv : v2 = false := hg; clear hg; subst hv
          go_wp2_with fail
          go_roundw
          case rel => exact ⟨3, by omega, by go_num, ⟨fun _ => HV.out.1 (by omega), fun _ => HV.out.2.1 (by omega), fun _ => by simp⟩, by go_simp, by go_simp, by go_simp, by go_simp, y1, hB1⟩
          case measure => simp [intOf]
        · cases q2
          · have hv : v2 = false := hg; clear hg; subst hv
            go_wp2_with fail
            go_roundw
            case rel => exact ⟨3, by omega, by go_num, ⟨fun _ => HV.out.1 (by omega), fun _ => HV.out.2.1 (by omega), fun _ => by simp⟩, by go_simp, by go_simp, by go_simp, by go_simp, y1, hB1⟩
            case measure => simp [intOf]
          · have hv : v2 = true := hg; clear hg; subst hv
            go_wp2_with fail
            (try simp only [Exit.inBlock, Exit.then]); refine bodyPost_ret (by simp [results, Tryz.results12, go_sem, *]; try rfl) rfl ?_
            exact ⟨by rw [HV.out.1 (by omega), HV.out.2.1 (by omega), show p3 st false false true = (st, 1, 0) from rfl], by go_grown⟩
    · obtain ⟨h0, h1, h2⟩ := HV.out
      go_wp2_with fail
      (try simp only [Exit.inBlock, Exit.then]); refine bodyPost_ret (by simp [results, Tryz.results12, go_sem, *]; try rfl) rfl ?_
      exact ⟨by rw [h0 (by omega), h1 (by omega), h2 (by omega)]; rfl, by go_grown⟩
end Go.Proofs.YthfclapnkemjiaaGreatDoor
