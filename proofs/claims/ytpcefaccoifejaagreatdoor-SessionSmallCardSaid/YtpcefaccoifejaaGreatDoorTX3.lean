/-
  The contract of session.Parse. Conditions: the library's tables and variables lie in the world; the text is at most 200000 bytes long.
-/
import Derived.Test.YtpcefaccoifejaaGreatDoorTX2
namespace Go.Proofs.YtpcefaccoifejaaGreatDoor
open Go.RowKit
set_option linter.unusedSimpArgs false
set_option linter.unusedVariables false
set_option maxRecDepth 100000

theorem cut_short (t : List UInt8) : (Lib.cut t [10]).1.length ≤ t.length ∧ (Lib.cut t [10]).2.1.length ≤ t.length := by
  unfold Lib.cut
  split
  · simp only [List.length_take, List.length_drop]; omega
  · exact ⟨Nat.le_refl _, Nat.zero_le _⟩
theorem Cut_w (t : List UInt8) (w : World) (ht : t.length ≤ 1000000) (he : Env w) :
    Calls Tryz.prog 33 #[.string ⟨t.toArray⟩, .string ⟨#[10]⟩] w fun e w' => e = .returned (.tuple #[.string ⟨(Lib.cut t [10]).1.toArray⟩, .string ⟨(Lib.cut t [10]).2.1.toArray⟩, .bool (Lib.cut t [10]).2.2]) ∧ Below w.heap.size w w' :=
  Cut_c ⟨t.toArray⟩ ⟨#[10]⟩ w (by simp [ByteArray.size]; omega) he
theorem infoActS : Tryz.prog.info? 60 = some Tryz.t60 := by kernel_rfl
theorem parseGo_none {f : Nat} {acc : List Ac} {t : List UInt8} (ht : t ≠ []) (h : actO (Lib.cut t [10]).1 = none) : parseGo (f + 1) acc t = ([], acc.length, 5) := by
  unfold parseGo
  rw [if_neg ht, h]
theorem parseGo_open {f : Nat} {acc : List Ac} {t : List UInt8} {a : Ac} (ht : t ≠ []) (h : actO (Lib.cut t [10]).1 = some a) (he : (Lib.cut t [10]).2.2 = false) : parseGo (f + 1) acc t = ([], acc.length, 5) := by
  unfold parseGo
  rw [if_neg ht, h]
  simp only
  rw [if_pos he]
theorem parseGo_many {f : Nat} {acc : List Ac} {t : List UInt8} {a : Ac} (ht : t ≠ []) (h : actO (Lib.cut t [10]).1 = some a) (he : (Lib.cut t [10]).2.2 = true) (hl : 4096 ≤ acc.length) : parseGo (f + 1) acc t = ([], acc.length, 4) := by
  unfold parseGo
  rw [if_neg ht, h]
  simp only
  rw [if_neg (by rw [he]; simp), if_pos hl]
theorem parseGo_next {f : Nat} {acc : List Ac} {t : List UInt8} {a : Ac} (ht : t ≠ []) (h : actO (Lib.cut t [10]).1 = some a) (he : (Lib.cut t [10]).2.2 = true) (hl : ¬ 4096 ≤ acc.length) : parseGo (f + 1) acc t = parseGo f (acc ++ [a]) (Lib.cut t [10]).2.1 := by
  rw [parseGo, if_neg ht, h]
  simp only
  rw [if_neg (by rw [he]; simp), if_neg hl]
theorem parseGo_end (f : Nat) (acc : List Ac) : parseGo f acc [] = (acc, 0, 0) := by
  cases f with
  | zero => simp [parseGo]
  | succ f => simp [parseGo]
theorem newCells2 (w : World) (O : Obj) (l : List Value) (T : TypeId) : ∀ j u, l[j]? = some u → ((w.alloc O).alloc (.cells l.toArray T)).cell? ((⟨w.heap.size + 1, 0, none⟩ : Addr).add j) = some u := by
  have h := newCells (w.alloc O) l T
  rwa [show (w.alloc O).heap.size = w.heap.size + 1 by simp] at h
set_option maxHeartbeats 8000000 in
theorem Parse_c (t : List UInt8) (w : World) (ht : t.length ≤ 200000) (he : Env w) :
    Calls Tryz.prog 9 #[.string ⟨t.toArray⟩] w fun e w' => ∃ v, e = .returned (.tuple #[v, .int .i64 ((parseO t).2.1 : Int), .int .i64 (parseO t).2.2]) ∧ ActsAt w' w.heap.size w'.heap.size v (parseO t).1 ∧ Below w.heap.size w w' := by
  have hI := Lib.hid infoActS
  have HCT := Lib.hid fun (r : List UInt8) (hr : r.length ≤ 200000) W (hb : Below w.heap.size w W) => Cut_w r W (by omega) (he.below hb)
  have HAC := Lib.hid fun (r : List UInt8) (hr : r.length ≤ 200000) W (hb : Below w.heap.size w W) => act_c r W hr (he.below hb)
  clear he
  by_cases hbig : 131072 < t.length
  · have hP : parseO t = ([], 0, 4) := by unfold parseO; rw [if_pos hbig]
    rw [hP]
    have hbI : (131072 : Int) < (t.length : Int) := by omega
    go_enter Tryz.func9, Tryz.ntmps9
    go_wp2
    go_ret3
    exact ⟨_, rfl, ⟨none, 0, rfl, fun _ => rfl, Row.none _ _ _ _ _ _⟩, Below.refl _ _⟩
  · have hP : parseO t = parseGo t.length [] t := by unfold parseO; rw [if_neg hbig]
    have HP := Lib.hid hP
    have hbI : ¬ (131072 : Int) < (t.length : Int) := by omega
    generalize parseO t = PO at *
    clear hP
    go_enter Tryz.func9, Tryz.ntmps9
    go_wp2
    go_loopw [0, 5, 6] (fun tv ov nv wr => ∃ (f : Nat) (acc : List Ac) (r : List UInt8), tv = .string ⟨r.toArray⟩ ∧ nv = .int .i64 (acc.length : Int) ∧ acc.length ≤ 4096 ∧ r.length ≤ f ∧ f ≤ 200000 ∧ PO = parseGo f acc r ∧ wr.ownsRow w.heap.size 60 7 ov acc.length (acc.flatMap acV) ∧ Below w.heap.size w wr)
      (fun tv _ _ _ => match tv with | .string s => s.size | _ => 0)
    case atStart => exact ⟨t.length, [], t, rfl, rfl, by simp, Nat.le_refl _, ht, HP.out, World.ownsRow_nil _ _ _ _, Below.refl _ _⟩
    case round =>
      obtain ⟨f, acc, r, rfl, rfl, hal, hrf, hf, hPO, hown, hB⟩ := hrel
      have HOWN := Lib.hid hown
      have HB := Lib.hid hB
      have HPO := Lib.hid hPO
      obtain ⟨pa, pc, rfl⟩ := own_shape hown
      clear hown hPO hB HP
      by_cases hr : r = []
      · subst hr
        rw [parseGo_end] at HPO
        go_wp2
        have hp := HPO.out
        subst hp
        go_ret3
        exact ⟨_, rfl, acts_of_own HOWN.out, HB.out⟩
      · obtain ⟨f, rfl⟩ : ∃ g, f = g + 1 := ⟨f - 1, by have := List.length_pos_iff.2 hr; omega⟩
        have hE : r.isEmpty = false := by simpa using hr
        have hC := HCT.out r (by omega)
        have hS1 := cut_short r
        have hS2 := @cut_hit 10 r
        have HNO := Lib.hid fun h => HPO.out.trans (parseGo_none (f := f) (acc := acc) hr h)
        have HOP := Lib.hid fun a h e => HPO.out.trans (parseGo_open (f := f) (acc := acc) (a := a) hr h e)
        have HMA := Lib.hid fun a h e l => HPO.out.trans (parseGo_many (f := f) (acc := acc) (a := a) hr h e l)
        have HNX := Lib.hid fun a h e l => HPO.out.trans (parseGo_next (f := f) (acc := acc) (a := a) hr h e l)
        generalize Lib.cut r [10] = C at *
        obtain ⟨s1, s2, ends⟩ := C
        simp only at hC hS1
        have HS2 := Lib.hid hS2
        clear HPO hS2
        go_wp2_with fail
        refine (hC _ HB.out).mono ?_
        rintro e w2 ⟨rfl, hb2⟩
        have HB2 : Hid (Below w.heap.size w w2) := below_step HB.out hb2
        have HO2 := Lib.hid (own_below HOWN.out hb2)
        clear hC hb2
        go_wp2_with fail
        refine (HAC.out s1 (by omega) _ HB2.out).mono ?_
        rintro e w3 ⟨a, rfl, ha, hb3⟩
        obtain ⟨kd, ⟨x1, x2, x3, x4, x5⟩, av⟩ := a
        dsimp only [acA]
        have HB3 : Hid (Below w.heap.size w w3) := below_step HB2.out hb3
        have HO3 := Lib.hid (own_below HO2.out hb3)
        have hs3 := HB3.out.size
        clear hb3
        have hal0 : (0 : Int) ≤ (acc.length : Int) := by omega
        cases hO : actO s1 with
        | none =>
          have hp := HNO.out hO
          clear ha hO HNO HOP HMA HNX
          go_wp2
          subst hp
          go_ret3
          exact ⟨_, rfl, ⟨none, 0, rfl, fun _ => rfl, Row.none _ _ _ _ _ _⟩, HB3.out.alloc hs3 _⟩
        | some a2 =>
          obtain rfl := ha a2 hO
          cases ends with
          | false =>
            have hp := HOP.out _ hO rfl
            clear ha hO HNO HOP HMA HNX
            go_wp2
            subst hp
            go_ret3
            exact ⟨_, rfl, ⟨none, 0, rfl, fun _ => rfl, Row.none _ _ _ _ _ _⟩, HB3.out.alloc hs3 _⟩
          | true =>
            by_cases hmany : 4096 ≤ acc.length
            · have hp := HMA.out _ hO rfl hmany
              have hmI : (4096 : Int) ≤ (acc.length : Int) := by omega
              clear ha hO HNO HOP HMA HNX
              go_wp2
              subst hp
              go_ret3
              exact ⟨_, rfl, ⟨none, 0, rfl, fun _ => rfl, Row.none _ _ _ _ _ _⟩, HB3.out.alloc hs3 _⟩
            · have hp := HNX.out _ hO rfl hmany
              have hmI : ¬ (4096 : Int) ≤ (acc.length : Int) := by omega
              have HP := Lib.hid hp
              have hl2 := (HS2.out rfl).2
              have HL2 := Lib.hid hl2
              clear ha hO HNO HOP HMA HNX hp HS2
              go_wp2_with (at_builtin; go_loud (refine wpList_append_own _ rfl (.tmp 42) (.tmp 44) _ rfl w.heap.size 60 Tryz.t60 _ 7 56 rfl hI.out rfl rfl rfl rfl (by omega) (.slice pa acc.length pc) acc.length _ rfl ((HO3.out.alloc _).alloc _) ⟨w3.heap.size + 1, 0, none⟩ 1 1 (acV (kd, (x1, x2, x3, x4, x5), av)) rfl rfl (newCells2 _ _ _ _) (by simp [acV, Value.oneCell']) (by simp only [maxLen]; omega) (by omega) (by simp; omega) ?_); intro v8 w8 hao hag hn8)
              have hB8 : Below w.heap.size w w8 := ((HB3.out.alloc hs3 _).alloc (by simp; omega) _).grown hag (by simp; omega) (fun j hj => (HO3.out.lt j hj).1)
              go_roundw
              case rel => exact ⟨f, acc ++ [(kd, (x1, x2, x3, x4, x5), av)], s2, rfl, by simp, by simp; omega, by have := HL2.out; omega, by omega, HP.out, by simpa using hao, hB8⟩
              case measure => have := HL2.out; simp [ByteArray.size]; omega
end Go.Proofs.YtpcefaccoifejaaGreatDoor
