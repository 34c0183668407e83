/-
  The walk of custoslaw05.ToneNames: names say pitches and intervals. Condition: the arguments are of their types, the text is no longer than any text can be.
-/
import Derived.Test.YtkhikdiaaiddaaaDoorParse3
import Derived.Test.YtkhikdiaaiddaaaDoorRead
import Derived.Test.YtkhikdiaaiddaaaDoorSound
import Derived.Test.YtkhikdiaaiddaaaDoorLine
import Derived.Test.YtkhikdiaaiddaaaDoorAwake
namespace Go.Proofs.YtkhikdiaaiddaaaDoor
open Go.RowKit
set_option linter.unusedSimpArgs false
set_option linter.unusedVariables false

theorem Parse_c (s : ByteArray) (hsz : s.size ≤ maxLen) (w : World) :
    Calls Tryd.prog 34 #[.string s] w fun e w' => e = .returned (.tuple #[.agg #[.int .i64 (parseL s.data.toList).1, .int .i64 (parseL s.data.toList).2.1], .int .i64 (parseL s.data.toList).2.2]) ∧ Below w.heap.size w w' := by
  rcases Nat.eq_zero_or_pos s.size with h0 | h0
  · have hs : s = ⟨#[]⟩ := by
      apply Go.WideShapes.bytes_inj
      rw [← sz3] at h0
      rw [List.eq_nil_of_length_eq_zero h0]
    rw [hs]
    exact Parse_empty w
  · obtain ⟨x, hx⟩ : ∃ x, s.data.toList[0]? = some x := ⟨_, List.getElem?_eq_getElem (by rw [sz3]; omega)⟩
    obtain ⟨y, hy⟩ : ∃ y, s.data.toList[s.size - 1]? = some y := ⟨_, List.getElem?_eq_getElem (by rw [sz3]; omega)⟩
    have hI0 := fun w => idx_str s 0 x hx w
    have hI1 := fun w => idx_str s (s.size - 1) y hy w
    rw [show ((s.size - 1 : Nat) : Int) = (s.size : Int) - 1 by omega] at hI1
    have hbx := byte_bd x
    have hby := byte_bd y
    rw [← parse_list s x y hx hy]
    exact Parse_some s x.toNat y.toNat w h0 hsz hbx.1 hbx.2 hby.1 hby.2 hI0 hI1
theorem parse_name : ∀ n : Nat, n < 70 → ∀ a ∈ ([-1, 0, 1] : List Int), parseL (nameL (n : Int) a) = ((n : Int), a, 0) := by decide +kernel
theorem hit_said {st L a : Int} {s : ByteArray} (h : hit st L a s = true) : 0 ≤ st ∧ st < 70 ∧ -1 ≤ a ∧ a ≤ 1 ∧ nameB st a = s := by
  unfold hit at h
  rw [Bool.and_eq_true, Bool.and_eq_true] at h
  obtain ⟨_, h2, h3⟩ := h
  have h2 := of_decide_eq_true h2
  exact ⟨h2.1, h2.2.1, h2.2.2.1, h2.2.2.2, Go.WideShapes.bytes_inj (by rw [← ByteArray.toList_eq, ← ByteArray.toList_eq]; exact beq_iff_eq.1 h3)⟩
theorem parse3_said {x y : Int} {s : ByteArray} (h : (parse3 x y s).2.2 = 0) : 0 ≤ (parse3 x y s).1 ∧ (parse3 x y s).1 < 70 ∧ -1 ≤ (parse3 x y s).2.1 ∧ (parse3 x y s).2.1 ≤ 1 ∧ nameB (parse3 x y s).1 (parse3 x y s).2.1 = s := by
  unfold parse3 at h ⊢
  by_cases h0 : hit (7 * (y - 48) + letN x) (letN x) (-1) s = true
  · simp only [if_pos h0]; exact hit_said h0
  · by_cases h1 : hit (7 * (y - 48) + letN x) (letN x) 0 s = true
    · simp only [if_neg h0, if_pos h1]; exact hit_said h1
    · by_cases h2 : hit (7 * (y - 48) + letN x) (letN x) 1 s = true
      · simp only [if_neg h0, if_neg h1, if_pos h2]; exact hit_said h2
      · rw [if_neg h0, if_neg h1, if_neg h2] at h; exact absurd h (by decide)
/-- what is parsed has this name -/
theorem parsed_said (s : ByteArray) (h : (parseL s.data.toList).2.2 = 0) : goodP (parseL s.data.toList).1 (parseL s.data.toList).2.1 ∧ nameB (parseL s.data.toList).1 (parseL s.data.toList).2.1 = s := by
  rcases Nat.eq_zero_or_pos s.size with h0 | h0
  · rw [← sz3] at h0
    rw [List.eq_nil_of_length_eq_zero h0] at h
    exact absurd h (by decide)
  · obtain ⟨x, hx⟩ : ∃ x, s.data.toList[0]? = some x := ⟨_, List.getElem?_eq_getElem (by rw [sz3]; omega)⟩
    obtain ⟨y, hy⟩ : ∃ y, s.data.toList[s.size - 1]? = some y := ⟨_, List.getElem?_eq_getElem (by rw [sz3]; omega)⟩
    rw [← parse_list s x y hx hy] at h ⊢
    obtain ⟨h1, h2, h3, h4, h5⟩ := parse3_said h
    exact ⟨⟨h1, h2, h3, h4⟩, h5⟩
abbrev NmC (s a : Int) (n : ByteArray) : Prop := ∀ w, Calls Tryd.prog 32 #[.agg #[.int .i64 s, .int .i64 a]] w fun e w' => e = .returned (.tuple #[.string n, .int .i64 0]) ∧ Below w.heap.size w w'
abbrev PsC (n : ByteArray) (x y z : Int) : Prop := ∀ w, Calls Tryd.prog 34 #[.string n] w fun e w' => e = .returned (.tuple #[.agg #[.int .i64 x, .int .i64 y], .int .i64 z]) ∧ Below w.heap.size w w'
abbrev TiC (st se : Int) (n : ByteArray) (z : Int) : Prop := ∀ w, Calls Tryd.prog 49 #[.agg #[.int .i64 st, .int .i64 se]] w fun e w' => e = .returned (.tuple #[.string n, .int .i64 z]) ∧ Below w.heap.size w w'
abbrev RdC (n : ByteArray) (x y z : Int) : Prop := ∀ w, Calls Tryd.prog 50 #[.string n] w fun e w' => e = .returned (.tuple #[.agg #[.int .i64 x, .int .i64 y], .int .i64 z]) ∧ Below w.heap.size w w'
abbrev SdC (c k p acc x y : Int) : Prop := ∀ w, Calls Tryd.prog 51 #[.int .i64 c, .int .i64 k, .int .i64 p, .int .i64 acc] w fun e w' => e = .returned (.tuple #[.agg #[.int .i64 x, .int .i64 y], .int .i64 0]) ∧ Below w.heap.size w w'
abbrev SfC (c s a x : Int) : Prop := ∀ w, Calls Tryd.prog 46 #[.int .i64 c, .agg #[.int .i64 s, .int .i64 a]] w fun e w' => e = .returned (.tuple #[.int .i64 x, .int .i64 0]) ∧ Below w.heap.size w w'
abbrev AtC (k s x : Int) : Prop := ∀ w, Calls Tryd.prog 48 #[.int .i64 k, .int .i64 s] w fun e w' => e = .returned (.tuple #[.int .i64 x, .int .i64 0]) ∧ Below w.heap.size w w'
theorem names_pitch {s a : Int} (h : goodP s a) : ∃ n, NmC s a n ∧ PsC n s a 0 := by
  refine ⟨nameB s a, fun w => Name_yes s a w h, fun w => ?_⟩
  obtain ⟨h1, h2, h3, h4⟩ := h
  obtain ⟨k, rfl⟩ := Int.eq_ofNat_of_zero_le h1
  have e := parse_name k (by omega) a (by simp only [List.mem_cons, List.not_mem_nil, or_false]; omega)
  have hl : (nameB (k : Int) a).data.toList = nameL k a := rfl
  have H := Parse_c (nameB (k : Int) a) (by
    show (nameL (k : Int) a).toArray.size ≤ maxLen
    unfold maxLen nameL letL
    have h1 := decL_len ((k : Int) / 7).toNat
    have h2 : (accL a).length ≤ 1 := by unfold accL; split; · decide
                                        · split <;> decide
    simp only [List.size_toArray, List.length_append, List.length_cons, List.length_nil]
    omega) w
  rw [hl, e] at H
  exact H
theorem names_parse (s : ByteArray) (hsz : s.size ≤ maxLen) : ∃ x y z, PsC s x y z ∧ ((z = 0 ∧ NmC x y s) ∨ z ≠ 0) := by
  refine ⟨_, _, _, fun w => Parse_c s hsz w, ?_⟩
  by_cases h : (parseL s.data.toList).2.2 = 0
  · obtain ⟨h1, h2⟩ := parsed_said s h
    refine .inl ⟨h, fun w => ?_⟩
    have H := Name_yes _ _ w h1
    rw [h2] at H
    exact H
  · exact .inr h
theorem names_title {st se : Int} (h1 : i64P st) (h2 : i64P se) : ∃ n z, TiC st se n z ∧ ((z = 0 ∧ RdC n st se 0) ∨ z ≠ 0) := by
  have H := fun w => Title_c st se w h1 h2
  cases h : titleT st se with
  | none => rw [h] at H; exact ⟨ByteArray.empty, 8, H, .inr (by decide)⟩
  | some n =>
    rw [h] at H
    refine ⟨n, 0, H, .inl ⟨rfl, fun w => Read_c n st se 0 w (fun st' se' h' => ?_) (fun h' => absurd h (h' st se))⟩⟩
    have := titleT_inj h h'
    exact ⟨this.1, this.2, rfl⟩
theorem names_read (s : ByteArray) : ∃ x y z, RdC s x y z ∧ ((z = 0 ∧ TiC x y s 0) ∨ z ≠ 0) := by
  by_cases h : ∃ st se, titleT st se = some s
  · obtain ⟨st, se, h⟩ := h
    have hb := titleT_bd h
    have hm : -200 ≤ mid st ∧ mid st ≤ 200 := by
      unfold mid
      split
      · have := nat7_200 (-st) (by omega) (by omega); omega
      · have := nat7_200 st (by omega) (by omega); omega
    refine ⟨st, se, 0, fun w => Read_c s st se 0 w (fun st' se' h' => ?_) (fun h' => absurd h (h' st se)), .inl ⟨rfl, fun w => ?_⟩⟩
    · have := titleT_inj h h'
      exact ⟨this.1, this.2, rfl⟩
    · have H := Title_c st se w ⟨by omega, by omega⟩ ⟨by omega, by omega⟩
      rw [h] at H
      exact H
  · exact ⟨0, 0, 5, fun w => Read_c s 0 0 5 w (fun st se h' => absurd ⟨st, se, h'⟩ h) (fun _ => ⟨rfl, rfl, rfl⟩), .inr (by decide)⟩
theorem names_stave {c k s a : Int} (c1 : 1 ≤ c) (c3 : c ≤ 3) (k0 : -4 ≤ k) (k1 : k ≤ 4) (h : goodP s a) : ∃ p al, SfC c s a p ∧ SdC c k p (accOf a) s a ∧ SdC c k p 0 s al ∧ AtC k s al := by
  obtain ⟨h1, h2, h3, h4⟩ := h
  have ha := accOf_cases a h3 h4
  refine ⟨_, keyAlt k s, fun w => Staff_yes c s a w c1 c3 ⟨h1, h2, h3, h4⟩, fun w => ?_, fun w => ?_, fun w => Alter_c k s w k0 k1 h1 h2⟩
  · have H := Sounding_yes c k (s - (36 - 6 * c)) (accOf a) w c1 c3 k0 k1 (by omega) (by omega) (by omega) (by omega)
    rw [show s - (36 - 6 * c) + (36 - 6 * c) = s by omega, if_neg (by omega), means_accOf a h3 h4] at H
    exact H
  · have H := Sounding_yes c k (s - (36 - 6 * c)) 0 w c1 c3 k0 k1 (by omega) (by omega) (by omega) (by omega)
    rw [show s - (36 - 6 * c) + (36 - 6 * c) = s by omega, if_pos rfl] at H
    exact H

set_option maxRecDepth 100000 in
set_option maxHeartbeats 16000000 in
theorem Names_walk (step alter steps semis : Int) (s : ByteArray) (clef key : Int) (w : World) (h1 : 0 ≤ step ∧ step ≤ 255) (h2 : 0 ≤ alter ∧ alter ≤ 255) (h3 : -128 ≤ steps ∧ steps ≤ 127) (h4 : -128 ≤ semis ∧ semis ≤ 127) (hsz : s.size ≤ maxLen) (h5 : 0 ≤ clef ∧ clef ≤ 255) (h6 : 0 ≤ key ∧ key ≤ 255) :
    Calls Tryd.prog 13 #[.int .u8 step, .int .u8 alter, .int .i8 steps, .int .i8 semis, .string s, .int .u8 clef, .int .u8 key] w fun e w' => e = .returned (.bool true) ∧ Below w.heap.size w w' := by
  obtain ⟨sp0, sp1⟩ := h1
  obtain ⟨al0, al1⟩ := h2
  obtain ⟨ss0, ss1⟩ := h3
  obtain ⟨sm0, sm1⟩ := h4
  obtain ⟨cl0, cl1⟩ := h5
  obtain ⟨ke0, ke1⟩ := h6
  obtain ⟨bs1, bs2⟩ : -70 < steps.tmod 70 ∧ steps.tmod 70 < 70 := by
    have h1 := Int.tmod_lt_of_pos steps (show (0 : Int) < 70 by decide)
    have h2 := Int.lt_tmod_of_pos steps (show (0 : Int) < 70 by decide)
    omega
  have bo1 : 0 ≤ step % 70 ∧ step % 70 < 70 := by omega
  have bo3 : 0 ≤ alter % 3 ∧ alter % 3 < 3 := by omega
  have bo5 : 0 ≤ clef % 3 ∧ clef % 3 < 3 := by omega
  have bo6 : 0 ≤ key % 9 ∧ key % 9 < 9 := by omega
  generalize hst : steps.tmod 70 = st at *
  generalize hs : step % 70 = p at *
  generalize ha : alter % 3 = a at *
  generalize hcl : clef % 3 = c at *
  generalize hkl : key % 9 = k at *
  obtain ⟨p0, p1⟩ := bo1
  obtain ⟨a0, a1⟩ := bo3
  obtain ⟨q0, q1⟩ := bo5
  obtain ⟨k0, k1⟩ := bo6
  obtain ⟨n1, N1, N2⟩ := names_pitch (s := p) (a := a - 1) ⟨p0, p1, by omega, by omega⟩
  obtain ⟨x2, y2, z2, N3, N4⟩ := names_parse s hsz
  obtain ⟨n3, z3, N5, N6⟩ := names_title (st := st) (se := semis) ⟨by omega, by omega⟩ ⟨by omega, by omega⟩
  obtain ⟨x4, y4, z4, N7, N8⟩ := names_read s
  obtain ⟨sf, al, N9, N10, N11, N12⟩ := names_stave (c := 1 + c) (k := k - 4) (s := p) (a := a - 1) (by omega) (by omega) (by omega) (by omega) ⟨p0, p1, by omega, by omega⟩
  have HB := Below.refl w.heap.size w
  have J1 := Lib.hid N1
  have J2 := Lib.hid N2
  have J3 := Lib.hid N3
  have J4 := Lib.hid N4
  have J5 := Lib.hid N5
  have J6 := Lib.hid N6
  have J7 := Lib.hid N7
  have J8 := Lib.hid N8
  have J9 := Lib.hid N9
  have J10 := Lib.hid N10
  have J11 := Lib.hid N11
  have J12 := Lib.hid N12
  clear N1 N2 N3 N4 N5 N6 N7 N8 N9 N10 N11 N12
  go_enter Tryd.func13, Tryd.ntmps13
  go_wp2_with fail
  refine calls_named fun W0 hW0 => ?_
  have Pp := Pair.made hW0
  replace HB := below_step HB (below_named hW0)
  clear hW0
  refine (J1.out _).mono ?_
  rintro e u1 ⟨rfl, hb1⟩
  replace Pp := Pp.next hb1
  replace HB := below_step HB hb1
  clear hb1
  go_wp2_with fail
  refine (J2.out _).mono ?_
  rintro e u2 ⟨rfl, hb2⟩
  replace Pp := Pp.next hb2
  replace HB := below_step HB hb2
  clear hb2
  obtain ⟨Pp0, Pp1, Pp2, -, -⟩ := id Pp
  go_wp2_with fail
  refine calls_named fun W2 hW2 => ?_
  replace Pp := Pp.next (below_named hW2)
  clear Pp0 Pp1 Pp2
  have Pq := Pair.made hW2
  replace HB := below_step HB (below_named hW2)
  clear hW2
  refine (J3.out _).mono ?_
  rintro e u3 ⟨rfl, hb3⟩
  replace Pp := Pp.next hb3
  replace Pq := Pq.next hb3
  replace HB := below_step HB hb3
  clear hb3
  rcases J4.out with ⟨rfl, N4⟩ | hz2
  · have I4 := Lib.hid N4
    clear N4 J4
    go_wp2_with fail
    refine calls_named fun W3 hW3 => ?_
    replace Pp := Pp.next (below_named hW3)
    replace Pq := Pq.next (below_named hW3)
    have Pr := Pair.made hW3
    replace HB := below_step HB (below_named hW3)
    clear hW3
    refine (I4.out _).mono ?_
    rintro e u4 ⟨rfl, hb4⟩
    replace Pp := Pp.next hb4
    replace Pq := Pq.next hb4
    replace Pr := Pr.next hb4
    replace HB := below_step HB hb4
    clear hb4
    go_wp2_with fail
    refine calls_named fun W4 hW4 => ?_
    replace Pp := Pp.next (below_named hW4)
    replace Pq := Pq.next (below_named hW4)
    replace Pr := Pr.next (below_named hW4)
    have Pi := Pair.made hW4
    replace HB := below_step HB (below_named hW4)
    clear hW4
    refine (J5.out _).mono ?_
    rintro e u5 ⟨rfl, hb5⟩
    replace Pp := Pp.next hb5
    replace Pq := Pq.next hb5
    replace Pr := Pr.next hb5
    replace Pi := Pi.next hb5
    replace HB := below_step HB hb5
    clear hb5
    rcases J6.out with ⟨rfl, N6⟩ | hz3
    · have I6 := Lib.hid N6
      clear N6 J6
      go_wp2_with fail
      refine (I6.out _).mono ?_
      rintro e u6 ⟨rfl, hb6⟩
      replace Pp := Pp.next hb6
      replace Pq := Pq.next hb6
      replace Pr := Pr.next hb6
      replace Pi := Pi.next hb6
      replace HB := below_step HB hb6
      clear hb6
      obtain ⟨Pi0, Pi1, Pi2, -, -⟩ := id Pi
      go_wp2_with fail
      refine calls_named fun W6 hW6 => ?_
      replace Pp := Pp.next (below_named hW6)
      replace Pq := Pq.next (below_named hW6)
      replace Pr := Pr.next (below_named hW6)
      replace Pi := Pi.next (below_named hW6)
      clear Pi0 Pi1 Pi2
      have Pk := Pair.made hW6
      replace HB := below_step HB (below_named hW6)
      clear hW6
      refine (J7.out _).mono ?_
      rintro e u7 ⟨rfl, hb7⟩
      replace Pp := Pp.next hb7
      replace Pq := Pq.next hb7
      replace Pr := Pr.next hb7
      replace Pi := Pi.next hb7
      replace Pk := Pk.next hb7
      replace HB := below_step HB hb7
      clear hb7
      rcases J8.out with ⟨rfl, N8⟩ | hz4
      · have I8 := Lib.hid N8
        clear N8 J8
        go_wp2_with fail
        refine calls_named fun W7 hW7 => ?_
        replace Pp := Pp.next (below_named hW7)
        replace Pq := Pq.next (below_named hW7)
        replace Pr := Pr.next (below_named hW7)
        replace Pi := Pi.next (below_named hW7)
        replace Pk := Pk.next (below_named hW7)
        have Pm := Pair.made hW7
        replace HB := below_step HB (below_named hW7)
        clear hW7
        refine (I8.out _).mono ?_
        rintro e u8 ⟨rfl, hb8⟩
        replace Pp := Pp.next hb8
        replace Pq := Pq.next hb8
        replace Pr := Pr.next hb8
        replace Pi := Pi.next hb8
        replace Pk := Pk.next hb8
        replace Pm := Pm.next hb8
        replace HB := below_step HB hb8
        clear hb8
        obtain ⟨Pp0, Pp1, Pp2, -, -⟩ := id Pp
        go_wp2_with fail
        refine (J9.out _).mono ?_
        rintro e u9 ⟨rfl, hb9⟩
        clear Pp0 Pp1 Pp2
        replace Pp := Pp.next hb9
        replace Pq := Pq.next hb9
        replace Pr := Pr.next hb9
        replace Pi := Pi.next hb9
        replace Pk := Pk.next hb9
        replace Pm := Pm.next hb9
        replace HB := below_step HB hb9
        clear hb9
        rcases (by omega : a = 0 ∨ a = 1 ∨ a = 2) with rfl | rfl | rfl
        · have I10 : Hid (SdC (1 + c) (k - 4) sf 2 p (0 - 1)) := J10
          clear J10
          obtain ⟨Pp0, Pp1, Pp2, -, -⟩ := id Pp
          go_wp2_with fail
          refine calls_named fun V hV => ?_
          have hbV : Below u9.heap.size u9 V := by rw [hV]; go_grown
          replace Pp := Pp.next hbV
          replace Pq := Pq.next hbV
          replace Pr := Pr.next hbV
          replace Pi := Pi.next hbV
          replace Pk := Pk.next hbV
          replace Pm := Pm.next hbV
          replace HB := below_step HB hbV
          clear Pp0 Pp1 Pp2
          clear hbV hV
          refine (I10.out _).mono ?_
          rintro e u10 ⟨rfl, hb10⟩
          replace Pp := Pp.next hb10
          replace Pq := Pq.next hb10
          replace Pr := Pr.next hb10
          replace Pi := Pi.next hb10
          replace Pk := Pk.next hb10
          replace Pm := Pm.next hb10
          replace HB := below_step HB hb10
          clear hb10
          obtain ⟨Pp0, Pp1, Pp2, -, -⟩ := id Pp
          go_wp2_with fail
          refine calls_named fun W10 hW10 => ?_
          replace Pp := Pp.next (below_named hW10)
          replace Pq := Pq.next (below_named hW10)
          replace Pr := Pr.next (below_named hW10)
          replace Pi := Pi.next (below_named hW10)
          replace Pk := Pk.next (below_named hW10)
          replace Pm := Pm.next (below_named hW10)
          clear Pp0 Pp1 Pp2
          have Psnd := Pair.made hW10
          replace HB := below_step HB (below_named hW10)
          clear hW10
          refine (J11.out _).mono ?_
          rintro e u11 ⟨rfl, hb11⟩
          replace Pp := Pp.next hb11
          replace Pq := Pq.next hb11
          replace Pr := Pr.next hb11
          replace Pi := Pi.next hb11
          replace Pk := Pk.next hb11
          replace Pm := Pm.next hb11
          replace Psnd := Psnd.next hb11
          replace HB := below_step HB hb11
          clear hb11
          obtain ⟨Pp0, Pp1, Pp2, -, -⟩ := id Pp
          go_wp2_with fail
          refine calls_named fun W11 hW11 => ?_
          replace Pp := Pp.next (below_named hW11)
          replace Pq := Pq.next (below_named hW11)
          replace Pr := Pr.next (below_named hW11)
          replace Pi := Pi.next (below_named hW11)
          replace Pk := Pk.next (below_named hW11)
          replace Pm := Pm.next (below_named hW11)
          replace Psnd := Psnd.next (below_named hW11)
          clear Pp0 Pp1 Pp2
          have Ppln := Pair.made hW11
          replace HB := below_step HB (below_named hW11)
          clear hW11
          refine (J12.out _).mono ?_
          rintro e u12 ⟨rfl, hb12⟩
          replace Pp := Pp.next hb12
          replace Pq := Pq.next hb12
          replace Pr := Pr.next hb12
          replace Pi := Pi.next hb12
          replace Pk := Pk.next hb12
          replace Pm := Pm.next hb12
          replace Psnd := Psnd.next hb12
          replace Ppln := Ppln.next hb12
          replace HB := below_step HB hb12
          clear hb12
          obtain ⟨Pp0, Pp1, Pp2, -, -⟩ := id Pp
          obtain ⟨Psnd0, Psnd1, Psnd2, -, -⟩ := id Psnd
          obtain ⟨Ppln0, Ppln1, Ppln2, -, -⟩ := id Ppln
          go_wp2_with fail
          refine (awake_c _).mono ?_
          rintro e z ⟨rfl, hbz⟩
          go_wp2_with fail
          go_ret
          exact ⟨rfl, below_step HB hbz⟩
        · have I10 : Hid (SdC (1 + c) (k - 4) sf 3 p (1 - 1)) := J10
          clear J10
          obtain ⟨Pp0, Pp1, Pp2, -, -⟩ := id Pp
          go_wp2_with fail
          refine calls_named fun V hV => ?_
          have hbV : Below u9.heap.size u9 V := by rw [hV]; go_grown
          replace Pp := Pp.next hbV
          replace Pq := Pq.next hbV
          replace Pr := Pr.next hbV
          replace Pi := Pi.next hbV
          replace Pk := Pk.next hbV
          replace Pm := Pm.next hbV
          replace HB := below_step HB hbV
          clear Pp0 Pp1 Pp2
          clear hbV hV
          refine (I10.out _).mono ?_
          rintro e u10 ⟨rfl, hb10⟩
          replace Pp := Pp.next hb10
          replace Pq := Pq.next hb10
          replace Pr := Pr.next hb10
          replace Pi := Pi.next hb10
          replace Pk := Pk.next hb10
          replace Pm := Pm.next hb10
          replace HB := below_step HB hb10
          clear hb10
          obtain ⟨Pp0, Pp1, Pp2, -, -⟩ := id Pp
          go_wp2_with fail
          refine calls_named fun W10 hW10 => ?_
          replace Pp := Pp.next (below_named hW10)
          replace Pq := Pq.next (below_named hW10)
          replace Pr := Pr.next (below_named hW10)
          replace Pi := Pi.next (below_named hW10)
          replace Pk := Pk.next (below_named hW10)
          replace Pm := Pm.next (below_named hW10)
          clear Pp0 Pp1 Pp2
          have Psnd := Pair.made hW10
          replace HB := below_step HB (below_named hW10)
          clear hW10
          refine (J11.out _).mono ?_
          rintro e u11 ⟨rfl, hb11⟩
          replace Pp := Pp.next hb11
          replace Pq := Pq.next hb11
          replace Pr := Pr.next hb11
          replace Pi := Pi.next hb11
          replace Pk := Pk.next hb11
          replace Pm := Pm.next hb11
          replace Psnd := Psnd.next hb11
          replace HB := below_step HB hb11
          clear hb11
          obtain ⟨Pp0, Pp1, Pp2, -, -⟩ := id Pp
          go_wp2_with fail
          refine calls_named fun W11 hW11 => ?_
          replace Pp := Pp.next (below_named hW11)
          replace Pq := Pq.next (below_named hW11)
          replace Pr := Pr.next (below_named hW11)
          replace Pi := Pi.next (below_named hW11)
          replace Pk := Pk.next (below_named hW11)
          replace Pm := Pm.next (below_named hW11)
          replace Psnd := Psnd.next (below_named hW11)
          clear Pp0 Pp1 Pp2
          have Ppln := Pair.made hW11
          replace HB := below_step HB (below_named hW11)
          clear hW11
          refine (J12.out _).mono ?_
          rintro e u12 ⟨rfl, hb12⟩
          replace Pp := Pp.next hb12
          replace Pq := Pq.next hb12
          replace Pr := Pr.next hb12
          replace Pi := Pi.next hb12
          replace Pk := Pk.next hb12
          replace Pm := Pm.next hb12
          replace Psnd := Psnd.next hb12
          replace Ppln := Ppln.next hb12
          replace HB := below_step HB hb12
          clear hb12
          obtain ⟨Pp0, Pp1, Pp2, -, -⟩ := id Pp
          obtain ⟨Psnd0, Psnd1, Psnd2, -, -⟩ := id Psnd
          obtain ⟨Ppln0, Ppln1, Ppln2, -, -⟩ := id Ppln
          go_wp2_with fail
          refine (awake_c _).mono ?_
          rintro e z ⟨rfl, hbz⟩
          go_wp2_with fail
          go_ret
          exact ⟨rfl, below_step HB hbz⟩
        · have I10 : Hid (SdC (1 + c) (k - 4) sf 1 p (2 - 1)) := J10
          clear J10
          obtain ⟨Pp0, Pp1, Pp2, -, -⟩ := id Pp
          go_wp2_with fail
          refine calls_named fun V hV => ?_
          have hbV : Below u9.heap.size u9 V := by rw [hV]; go_grown
          replace Pp := Pp.next hbV
          replace Pq := Pq.next hbV
          replace Pr := Pr.next hbV
          replace Pi := Pi.next hbV
          replace Pk := Pk.next hbV
          replace Pm := Pm.next hbV
          replace HB := below_step HB hbV
          clear Pp0 Pp1 Pp2
          clear hbV hV
          refine (I10.out _).mono ?_
          rintro e u10 ⟨rfl, hb10⟩
          replace Pp := Pp.next hb10
          replace Pq := Pq.next hb10
          replace Pr := Pr.next hb10
          replace Pi := Pi.next hb10
          replace Pk := Pk.next hb10
          replace Pm := Pm.next hb10
          replace HB := below_step HB hb10
          clear hb10
          obtain ⟨Pp0, Pp1, Pp2, -, -⟩ := id Pp
          go_wp2_with fail
          refine calls_named fun W10 hW10 => ?_
          replace Pp := Pp.next (below_named hW10)
          replace Pq := Pq.next (below_named hW10)
          replace Pr := Pr.next (below_named hW10)
          replace Pi := Pi.next (below_named hW10)
          replace Pk := Pk.next (below_named hW10)
          replace Pm := Pm.next (below_named hW10)
          clear Pp0 Pp1 Pp2
          have Psnd := Pair.made hW10
          replace HB := below_step HB (below_named hW10)
          clear hW10
          refine (J11.out _).mono ?_
          rintro e u11 ⟨rfl, hb11⟩
          replace Pp := Pp.next hb11
          replace Pq := Pq.next hb11
          replace Pr := Pr.next hb11
          replace Pi := Pi.next hb11
          replace Pk := Pk.next hb11
          replace Pm := Pm.next hb11
          replace Psnd := Psnd.next hb11
          replace HB := below_step HB hb11
          clear hb11
          obtain ⟨Pp0, Pp1, Pp2, -, -⟩ := id Pp
          go_wp2_with fail
          refine calls_named fun W11 hW11 => ?_
          replace Pp := Pp.next (below_named hW11)
          replace Pq := Pq.next (below_named hW11)
          replace Pr := Pr.next (below_named hW11)
          replace Pi := Pi.next (below_named hW11)
          replace Pk := Pk.next (below_named hW11)
          replace Pm := Pm.next (below_named hW11)
          replace Psnd := Psnd.next (below_named hW11)
          clear Pp0 Pp1 Pp2
          have Ppln := Pair.made hW11
          replace HB := below_step HB (below_named hW11)
          clear hW11
          refine (J12.out _).mono ?_
          rintro e u12 ⟨rfl, hb12⟩
          replace Pp := Pp.next hb12
          replace Pq := Pq.next hb12
          replace Pr := Pr.next hb12
          replace Pi := Pi.next hb12
          replace Pk := Pk.next hb12
          replace Pm := Pm.next hb12
          replace Psnd := Psnd.next hb12
          replace Ppln := Ppln.next hb12
          replace HB := below_step HB hb12
          clear hb12
          obtain ⟨Pp0, Pp1, Pp2, -, -⟩ := id Pp
          obtain ⟨Psnd0, Psnd1, Psnd2, -, -⟩ := id Psnd
          obtain ⟨Ppln0, Ppln1, Ppln2, -, -⟩ := id Ppln
          go_wp2_with fail
          refine (awake_c _).mono ?_
          rintro e z ⟨rfl, hbz⟩
          go_wp2_with fail
          go_ret
          exact ⟨rfl, below_step HB hbz⟩
      · have hz4b : (z4 == 0) = false := beq_eq_false_iff_ne.2 hz4
        clear hz4 J8
        obtain ⟨Pp0, Pp1, Pp2, -, -⟩ := id Pp
        go_wp2_with fail
        refine calls_named fun W7 hW7 => ?_
        replace Pp := Pp.next (below_named hW7)
        replace Pq := Pq.next (below_named hW7)
        replace Pr := Pr.next (below_named hW7)
        replace Pi := Pi.next (below_named hW7)
        replace Pk := Pk.next (below_named hW7)
        clear Pp0 Pp1 Pp2
        have Pm := Pair.made hW7
        replace HB := below_step HB (below_named hW7)
        clear hW7
        refine (J9.out _).mono ?_
        rintro e u8 ⟨rfl, hb8⟩
        replace Pp := Pp.next hb8
        replace Pq := Pq.next hb8
        replace Pr := Pr.next hb8
        replace Pi := Pi.next hb8
        replace Pk := Pk.next hb8
        replace Pm := Pm.next hb8
        replace HB := below_step HB hb8
        clear hb8
        rcases (by omega : a = 0 ∨ a = 1 ∨ a = 2) with rfl | rfl | rfl
        · have I10 : Hid (SdC (1 + c) (k - 4) sf 2 p (0 - 1)) := J10
          clear J10
          obtain ⟨Pp0, Pp1, Pp2, -, -⟩ := id Pp
          go_wp2_with fail
          refine calls_named fun V hV => ?_
          have hbV : Below u8.heap.size u8 V := by rw [hV]; go_grown
          replace Pp := Pp.next hbV
          replace Pq := Pq.next hbV
          replace Pr := Pr.next hbV
          replace Pi := Pi.next hbV
          replace Pk := Pk.next hbV
          replace Pm := Pm.next hbV
          replace HB := below_step HB hbV
          clear Pp0 Pp1 Pp2
          clear hbV hV
          refine (I10.out _).mono ?_
          rintro e u9 ⟨rfl, hb9⟩
          replace Pp := Pp.next hb9
          replace Pq := Pq.next hb9
          replace Pr := Pr.next hb9
          replace Pi := Pi.next hb9
          replace Pk := Pk.next hb9
          replace Pm := Pm.next hb9
          replace HB := below_step HB hb9
          clear hb9
          obtain ⟨Pp0, Pp1, Pp2, -, -⟩ := id Pp
          go_wp2_with fail
          refine calls_named fun W9 hW9 => ?_
          replace Pp := Pp.next (below_named hW9)
          replace Pq := Pq.next (below_named hW9)
          replace Pr := Pr.next (below_named hW9)
          replace Pi := Pi.next (below_named hW9)
          replace Pk := Pk.next (below_named hW9)
          replace Pm := Pm.next (below_named hW9)
          clear Pp0 Pp1 Pp2
          have Psnd := Pair.made hW9
          replace HB := below_step HB (below_named hW9)
          clear hW9
          refine (J11.out _).mono ?_
          rintro e u10 ⟨rfl, hb10⟩
          replace Pp := Pp.next hb10
          replace Pq := Pq.next hb10
          replace Pr := Pr.next hb10
          replace Pi := Pi.next hb10
          replace Pk := Pk.next hb10
          replace Pm := Pm.next hb10
          replace Psnd := Psnd.next hb10
          replace HB := below_step HB hb10
          clear hb10
          obtain ⟨Pp0, Pp1, Pp2, -, -⟩ := id Pp
          go_wp2_with fail
          refine calls_named fun W10 hW10 => ?_
          replace Pp := Pp.next (below_named hW10)
          replace Pq := Pq.next (below_named hW10)
          replace Pr := Pr.next (below_named hW10)
          replace Pi := Pi.next (below_named hW10)
          replace Pk := Pk.next (below_named hW10)
          replace Pm := Pm.next (below_named hW10)
          replace Psnd := Psnd.next (below_named hW10)
          clear Pp0 Pp1 Pp2
          have Ppln := Pair.made hW10
          replace HB := below_step HB (below_named hW10)
          clear hW10
          refine (J12.out _).mono ?_
          rintro e u11 ⟨rfl, hb11⟩
          replace Pp := Pp.next hb11
          replace Pq := Pq.next hb11
          replace Pr := Pr.next hb11
          replace Pi := Pi.next hb11
          replace Pk := Pk.next hb11
          replace Pm := Pm.next hb11
          replace Psnd := Psnd.next hb11
          replace Ppln := Ppln.next hb11
          replace HB := below_step HB hb11
          clear hb11
          obtain ⟨Pp0, Pp1, Pp2, -, -⟩ := id Pp
          obtain ⟨Psnd0, Psnd1, Psnd2, -, -⟩ := id Psnd
          obtain ⟨Ppln0, Ppln1, Ppln2, -, -⟩ := id Ppln
          go_wp2_with fail
          refine (awake_c _).mono ?_
          rintro e z ⟨rfl, hbz⟩
          go_wp2_with fail
          go_ret
          exact ⟨rfl, below_step HB hbz⟩
        · have I10 : Hid (SdC (1 + c) (k - 4) sf 3 p (1 - 1)) := J10
          clear J10
          obtain ⟨Pp0, Pp1, Pp2, -, -⟩ := id Pp
          go_wp2_with fail
          refine calls_named fun V hV => ?_
          have hbV : Below u8.heap.size u8 V := by rw [hV]; go_grown
          replace Pp := Pp.next hbV
          replace Pq := Pq.next hbV
          replace Pr := Pr.next hbV
          replace Pi := Pi.next hbV
          replace Pk := Pk.next hbV
          replace Pm := Pm.next hbV
          replace HB := below_step HB hbV
          clear Pp0 Pp1 Pp2
          clear hbV hV
          refine (I10.out _).mono ?_
          rintro e u9 ⟨rfl, hb9⟩
          replace Pp := Pp.next hb9
          replace Pq := Pq.next hb9
          replace Pr := Pr.next hb9
          replace Pi := Pi.next hb9
          replace Pk := Pk.next hb9
          replace Pm := Pm.next hb9
          replace HB := below_step HB hb9
          clear hb9
          obtain ⟨Pp0, Pp1, Pp2, -, -⟩ := id Pp
          go_wp2_with fail
          refine calls_named fun W9 hW9 => ?_
          replace Pp := Pp.next (below_named hW9)
          replace Pq := Pq.next (below_named hW9)
          replace Pr := Pr.next (below_named hW9)
          replace Pi := Pi.next (below_named hW9)
          replace Pk := Pk.next (below_named hW9)
          replace Pm := Pm.next (below_named hW9)
          clear Pp0 Pp1 Pp2
          have Psnd := Pair.made hW9
          replace HB := below_step HB (below_named hW9)
          clear hW9
          refine (J11.out _).mono ?_
          rintro e u10 ⟨rfl, hb10⟩
          replace Pp := Pp.next hb10
          replace Pq := Pq.next hb10
          replace Pr := Pr.next hb10
          replace Pi := Pi.next hb10
          replace Pk := Pk.next hb10
          replace Pm := Pm.next hb10
          replace Psnd := Psnd.next hb10
          replace HB := below_step HB hb10
          clear hb10
          obtain ⟨Pp0, Pp1, Pp2, -, -⟩ := id Pp
          go_wp2_with fail
          refine calls_named fun W10 hW10 => ?_
          replace Pp := Pp.next (below_named hW10)
          replace Pq := Pq.next (below_named hW10)
          replace Pr := Pr.next (below_named hW10)
          replace Pi := Pi.next (below_named hW10)
          replace Pk := Pk.next (below_named hW10)
          replace Pm := Pm.next (below_named hW10)
          replace Psnd := Psnd.next (below_named hW10)
          clear Pp0 Pp1 Pp2
          have Ppln := Pair.made hW10
          replace HB := below_step HB (below_named hW10)
          clear hW10
          refine (J12.out _).mono ?_
          rintro e u11 ⟨rfl, hb11⟩
          replace Pp := Pp.next hb11
          replace Pq := Pq.next hb11
          replace Pr := Pr.next hb11
          replace Pi := Pi.next hb11
          replace Pk := Pk.next hb11
          replace Pm := Pm.next hb11
          replace Psnd := Psnd.next hb11
          replace Ppln := Ppln.next hb11
          replace HB := below_step HB hb11
          clear hb11
          obtain ⟨Pp0, Pp1, Pp2, -, -⟩ := id Pp
          obtain ⟨Psnd0, Psnd1, Psnd2, -, -⟩ := id Psnd
          obtain ⟨Ppln0, Ppln1, Ppln2, -, -⟩ := id Ppln
          go_wp2_with fail
          refine (awake_c _).mono ?_
          rintro e z ⟨rfl, hbz⟩
          go_wp2_with fail
          go_ret
          exact ⟨rfl, below_step HB hbz⟩
        · have I10 : Hid (SdC (1 + c) (k - 4) sf 1 p (2 - 1)) := J10
          clear J10
          obtain ⟨Pp0, Pp1, Pp2, -, -⟩ := id Pp
          go_wp2_with fail
          refine calls_named fun V hV => ?_
          have hbV : Below u8.heap.size u8 V := by rw [hV]; go_grown
          replace Pp := Pp.next hbV
          replace Pq := Pq.next hbV
          replace Pr := Pr.next hbV
          replace Pi := Pi.next hbV
          replace Pk := Pk.next hbV
          replace Pm := Pm.next hbV
          replace HB := below_step HB hbV
          clear Pp0 Pp1 Pp2
          clear hbV hV
          refine (I10.out _).mono ?_
          rintro e u9 ⟨rfl, hb9⟩
          replace Pp := Pp.next hb9
          replace Pq := Pq.next hb9
          replace Pr := Pr.next hb9
          replace Pi := Pi.next hb9
          replace Pk := Pk.next hb9
          replace Pm := Pm.next hb9
          replace HB := below_step HB hb9
          clear hb9
          obtain ⟨Pp0, Pp1, Pp2, -, -⟩ := id Pp
          go_wp2_with fail
          refine calls_named fun W9 hW9 => ?_
          replace Pp := Pp.next (below_named hW9)
          replace Pq := Pq.next (below_named hW9)
          replace Pr := Pr.next (below_named hW9)
          replace Pi := Pi.next (below_named hW9)
          replace Pk := Pk.next (below_named hW9)
          replace Pm := Pm.next (below_named hW9)
          clear Pp0 Pp1 Pp2
          have Psnd := Pair.made hW9
          replace HB := below_step HB (below_named hW9)
          clear hW9
          refine (J11.out _).mono ?_
          rintro e u10 ⟨rfl, hb10⟩
          replace Pp := Pp.next hb10
          replace Pq := Pq.next hb10
          replace Pr := Pr.next hb10
          replace Pi := Pi.next hb10
          replace Pk := Pk.next hb10
          replace Pm := Pm.next hb10
          replace Psnd := Psnd.next hb10
          replace HB := below_step HB hb10
          clear hb10
          obtain ⟨Pp0, Pp1, Pp2, -, -⟩ := id Pp
          go_wp2_with fail
          refine calls_named fun W10 hW10 => ?_
          replace Pp := Pp.next (below_named hW10)
          replace Pq := Pq.next (below_named hW10)
          replace Pr := Pr.next (below_named hW10)
          replace Pi := Pi.next (below_named hW10)
          replace Pk := Pk.next (below_named hW10)
          replace Pm := Pm.next (below_named hW10)
          replace Psnd := Psnd.next (below_named hW10)
          clear Pp0 Pp1 Pp2
          have Ppln := Pair.made hW10
          replace HB := below_step HB (below_named hW10)
          clear hW10
          refine (J12.out _).mono ?_
          rintro e u11 ⟨rfl, hb11⟩
          replace Pp := Pp.next hb11
          replace Pq := Pq.next hb11
          replace Pr := Pr.next hb11
          replace Pi := Pi.next hb11
          replace Pk := Pk.next hb11
          replace Pm := Pm.next hb11
          replace Psnd := Psnd.next hb11
          replace Ppln := Ppln.next hb11
          replace HB := below_step HB hb11
          clear hb11
          obtain ⟨Pp0, Pp1, Pp2, -, -⟩ := id Pp
          obtain ⟨Psnd0, Psnd1, Psnd2, -, -⟩ := id Psnd
          obtain ⟨Ppln0, Ppln1, Ppln2, -, -⟩ := id Ppln
          go_wp2_with fail
          refine (awake_c _).mono ?_
          rintro e z ⟨rfl, hbz⟩
          go_wp2_with fail
          go_ret
          exact ⟨rfl, below_step HB hbz⟩
    · have hz3b : (z3 == 0) = false := beq_eq_false_iff_ne.2 hz3
      clear hz3 J6
      go_wp2_with fail
      refine (J7.out _).mono ?_
      rintro e u6 ⟨rfl, hb6⟩
      replace Pp := Pp.next hb6
      replace Pq := Pq.next hb6
      replace Pr := Pr.next hb6
      replace Pi := Pi.next hb6
      replace HB := below_step HB hb6
      clear hb6
      rcases J8.out with ⟨rfl, N8⟩ | hz4
      · have I8 := Lib.hid N8
        clear N8 J8
        go_wp2_with fail
        refine calls_named fun W6 hW6 => ?_
        replace Pp := Pp.next (below_named hW6)
        replace Pq := Pq.next (below_named hW6)
        replace Pr := Pr.next (below_named hW6)
        replace Pi := Pi.next (below_named hW6)
        have Pm := Pair.made hW6
        replace HB := below_step HB (below_named hW6)
        clear hW6
        refine (I8.out _).mono ?_
        rintro e u7 ⟨rfl, hb7⟩
        replace Pp := Pp.next hb7
        replace Pq := Pq.next hb7
        replace Pr := Pr.next hb7
        replace Pi := Pi.next hb7
        replace Pm := Pm.next hb7
        replace HB := below_step HB hb7
        clear hb7
        obtain ⟨Pp0, Pp1, Pp2, -, -⟩ := id Pp
        go_wp2_with fail
        refine (J9.out _).mono ?_
        rintro e u8 ⟨rfl, hb8⟩
        clear Pp0 Pp1 Pp2
        replace Pp := Pp.next hb8
        replace Pq := Pq.next hb8
        replace Pr := Pr.next hb8
        replace Pi := Pi.next hb8
        replace Pm := Pm.next hb8
        replace HB := below_step HB hb8
        clear hb8
        rcases (by omega : a = 0 ∨ a = 1 ∨ a = 2) with rfl | rfl | rfl
        · have I10 : Hid (SdC (1 + c) (k - 4) sf 2 p (0 - 1)) := J10
          clear J10
          obtain ⟨Pp0, Pp1, Pp2, -, -⟩ := id Pp
          go_wp2_with fail
          refine calls_named fun V hV => ?_
          have hbV : Below u8.heap.size u8 V := by rw [hV]; go_grown
          replace Pp := Pp.next hbV
          replace Pq := Pq.next hbV
          replace Pr := Pr.next hbV
          replace Pi := Pi.next hbV
          replace Pm := Pm.next hbV
          replace HB := below_step HB hbV
          clear Pp0 Pp1 Pp2
          clear hbV hV
          refine (I10.out _).mono ?_
          rintro e u9 ⟨rfl, hb9⟩
          replace Pp := Pp.next hb9
          replace Pq := Pq.next hb9
          replace Pr := Pr.next hb9
          replace Pi := Pi.next hb9
          replace Pm := Pm.next hb9
          replace HB := below_step HB hb9
          clear hb9
          obtain ⟨Pp0, Pp1, Pp2, -, -⟩ := id Pp
          go_wp2_with fail
          refine calls_named fun W9 hW9 => ?_
          replace Pp := Pp.next (below_named hW9)
          replace Pq := Pq.next (below_named hW9)
          replace Pr := Pr.next (below_named hW9)
          replace Pi := Pi.next (below_named hW9)
          replace Pm := Pm.next (below_named hW9)
          clear Pp0 Pp1 Pp2
          have Psnd := Pair.made hW9
          replace HB := below_step HB (below_named hW9)
          clear hW9
          refine (J11.out _).mono ?_
          rintro e u10 ⟨rfl, hb10⟩
          replace Pp := Pp.next hb10
          replace Pq := Pq.next hb10
          replace Pr := Pr.next hb10
          replace Pi := Pi.next hb10
          replace Pm := Pm.next hb10
          replace Psnd := Psnd.next hb10
          replace HB := below_step HB hb10
          clear hb10
          obtain ⟨Pp0, Pp1, Pp2, -, -⟩ := id Pp
          go_wp2_with fail
          refine calls_named fun W10 hW10 => ?_
          replace Pp := Pp.next (below_named hW10)
          replace Pq := Pq.next (below_named hW10)
          replace Pr := Pr.next (below_named hW10)
          replace Pi := Pi.next (below_named hW10)
          replace Pm := Pm.next (below_named hW10)
          replace Psnd := Psnd.next (below_named hW10)
          clear Pp0 Pp1 Pp2
          have Ppln := Pair.made hW10
          replace HB := below_step HB (below_named hW10)
          clear hW10
          refine (J12.out _).mono ?_
          rintro e u11 ⟨rfl, hb11⟩
          replace Pp := Pp.next hb11
          replace Pq := Pq.next hb11
          replace Pr := Pr.next hb11
          replace Pi := Pi.next hb11
          replace Pm := Pm.next hb11
          replace Psnd := Psnd.next hb11
          replace Ppln := Ppln.next hb11
          replace HB := below_step HB hb11
          clear hb11
          obtain ⟨Pp0, Pp1, Pp2, -, -⟩ := id Pp
          obtain ⟨Psnd0, Psnd1, Psnd2, -, -⟩ := id Psnd
          obtain ⟨Ppln0, Ppln1, Ppln2, -, -⟩ := id Ppln
          go_wp2_with fail
          refine (awake_c _).mono ?_
          rintro e z ⟨rfl, hbz⟩
          go_wp2_with fail
          go_ret
          exact ⟨rfl, below_step HB hbz⟩
        · have I10 : Hid (SdC (1 + c) (k - 4) sf 3 p (1 - 1)) := J10
          clear J10
          obtain ⟨Pp0, Pp1, Pp2, -, -⟩ := id Pp
          go_wp2_with fail
          refine calls_named fun V hV => ?_
          have hbV : Below u8.heap.size u8 V := by rw [hV]; go_grown
          replace Pp := Pp.next hbV
          replace Pq := Pq.next hbV
          replace Pr := Pr.next hbV
          replace Pi := Pi.next hbV
          replace Pm := Pm.next hbV
          replace HB := below_step HB hbV
          clear Pp0 Pp1 Pp2
          clear hbV hV
          refine (I10.out _).mono ?_
          rintro e u9 ⟨rfl, hb9⟩
          replace Pp := Pp.next hb9
          replace Pq := Pq.next hb9
          replace Pr := Pr.next hb9
          replace Pi := Pi.next hb9
          replace Pm := Pm.next hb9
          replace HB := below_step HB hb9
          clear hb9
          obtain ⟨Pp0, Pp1, Pp2, -, -⟩ := id Pp
          go_wp2_with fail
          refine calls_named fun W9 hW9 => ?_
          replace Pp := Pp.next (below_named hW9)
          replace Pq := Pq.next (below_named hW9)
          replace Pr := Pr.next (below_named hW9)
          replace Pi := Pi.next (below_named hW9)
          replace Pm := Pm.next (below_named hW9)
          clear Pp0 Pp1 Pp2
          have Psnd := Pair.made hW9
          replace HB := below_step HB (below_named hW9)
          clear hW9
          refine (J11.out _).mono ?_
          rintro e u10 ⟨rfl, hb10⟩
          replace Pp := Pp.next hb10
          replace Pq := Pq.next hb10
          replace Pr := Pr.next hb10
          replace Pi := Pi.next hb10
          replace Pm := Pm.next hb10
          replace Psnd := Psnd.next hb10
          replace HB := below_step HB hb10
          clear hb10
          obtain ⟨Pp0, Pp1, Pp2, -, -⟩ := id Pp
          go_wp2_with fail
          refine calls_named fun W10 hW10 => ?_
          replace Pp := Pp.next (below_named hW10)
          replace Pq := Pq.next (below_named hW10)
          replace Pr := Pr.next (below_named hW10)
          replace Pi := Pi.next (below_named hW10)
          replace Pm := Pm.next (below_named hW10)
          replace Psnd := Psnd.next (below_named hW10)
          clear Pp0 Pp1 Pp2
          have Ppln := Pair.made hW10
          replace HB := below_step HB (below_named hW10)
          clear hW10
          refine (J12.out _).mono ?_
          rintro e u11 ⟨rfl, hb11⟩
          replace Pp := Pp.next hb11
          replace Pq := Pq.next hb11
          replace Pr := Pr.next hb11
          replace Pi := Pi.next hb11
          replace Pm := Pm.next hb11
          replace Psnd := Psnd.next hb11
          replace Ppln := Ppln.next hb11
          replace HB := below_step HB hb11
          clear hb11
          obtain ⟨Pp0, Pp1, Pp2, -, -⟩ := id Pp
          obtain ⟨Psnd0, Psnd1, Psnd2, -, -⟩ := id Psnd
          obtain ⟨Ppln0, Ppln1, Ppln2, -, -⟩ := id Ppln
          go_wp2_with fail
          refine (awake_c _).mono ?_
          rintro e z ⟨rfl, hbz⟩
          go_wp2_with fail
          go_ret
          exact ⟨rfl, below_step HB hbz⟩
        · have I10 : Hid (SdC (1 + c) (k - 4) sf 1 p (2 - 1)) := J10
          clear J10
          obtain ⟨Pp0, Pp1, Pp2, -, -⟩ := id Pp
          go_wp2_with fail
          refine calls_named fun V hV => ?_
          have hbV : Below u8.heap.size u8 V := by rw [hV]; go_grown
          replace Pp := Pp.next hbV
          replace Pq := Pq.next hbV
          replace Pr := Pr.next hbV
          replace Pi := Pi.next hbV
          replace Pm := Pm.next hbV
          replace HB := below_step HB hbV
          clear Pp0 Pp1 Pp2
          clear hbV hV
          refine (I10.out _).mono ?_
          rintro e u9 ⟨rfl, hb9⟩
          replace Pp := Pp.next hb9
          replace Pq := Pq.next hb9
          replace Pr := Pr.next hb9
          replace Pi := Pi.next hb9
          replace Pm := Pm.next hb9
          replace HB := below_step HB hb9
          clear hb9
          obtain ⟨Pp0, Pp1, Pp2, -, -⟩ := id Pp
          go_wp2_with fail
          refine calls_named fun W9 hW9 => ?_
          replace Pp := Pp.next (below_named hW9)
          replace Pq := Pq.next (below_named hW9)
          replace Pr := Pr.next (below_named hW9)
          replace Pi := Pi.next (below_named hW9)
          replace Pm := Pm.next (below_named hW9)
          clear Pp0 Pp1 Pp2
          have Psnd := Pair.made hW9
          replace HB := below_step HB (below_named hW9)
          clear hW9
          refine (J11.out _).mono ?_
          rintro e u10 ⟨rfl, hb10⟩
          replace Pp := Pp.next hb10
          replace Pq := Pq.next hb10
          replace Pr := Pr.next hb10
          replace Pi := Pi.next hb10
          replace Pm := Pm.next hb10
          replace Psnd := Psnd.next hb10
          replace HB := below_step HB hb10
          clear hb10
          obtain ⟨Pp0, Pp1, Pp2, -, -⟩ := id Pp
          go_wp2_with fail
          refine calls_named fun W10 hW10 => ?_
          replace Pp := Pp.next (below_named hW10)
          replace Pq := Pq.next (below_named hW10)
          replace Pr := Pr.next (below_named hW10)
          replace Pi := Pi.next (below_named hW10)
          replace Pm := Pm.next (below_named hW10)
          replace Psnd := Psnd.next (below_named hW10)
          clear Pp0 Pp1 Pp2
          have Ppln := Pair.made hW10
          replace HB := below_step HB (below_named hW10)
          clear hW10
          refine (J12.out _).mono ?_
          rintro e u11 ⟨rfl, hb11⟩
          replace Pp := Pp.next hb11
          replace Pq := Pq.next hb11
          replace Pr := Pr.next hb11
          replace Pi := Pi.next hb11
          replace Pm := Pm.next hb11
          replace Psnd := Psnd.next hb11
          replace Ppln := Ppln.next hb11
          replace HB := below_step HB hb11
          clear hb11
          obtain ⟨Pp0, Pp1, Pp2, -, -⟩ := id Pp
          obtain ⟨Psnd0, Psnd1, Psnd2, -, -⟩ := id Psnd
          obtain ⟨Ppln0, Ppln1, Ppln2, -, -⟩ := id Ppln
          go_wp2_with fail
          refine (awake_c _).mono ?_
          rintro e z ⟨rfl, hbz⟩
          go_wp2_with fail
          go_ret
          exact ⟨rfl, below_step HB hbz⟩
      · have hz4b : (z4 == 0) = false := beq_eq_false_iff_ne.2 hz4
        clear hz4 J8
        obtain ⟨Pp0, Pp1, Pp2, -, -⟩ := id Pp
        go_wp2_with fail
        refine calls_named fun W6 hW6 => ?_
        replace Pp := Pp.next (below_named hW6)
        replace Pq := Pq.next (below_named hW6)
        replace Pr := Pr.next (below_named hW6)
        replace Pi := Pi.next (below_named hW6)
        clear Pp0 Pp1 Pp2
        have Pm := Pair.made hW6
        replace HB := below_step HB (below_named hW6)
        clear hW6
        refine (J9.out _).mono ?_
        rintro e u7 ⟨rfl, hb7⟩
        replace Pp := Pp.next hb7
        replace Pq := Pq.next hb7
        replace Pr := Pr.next hb7
        replace Pi := Pi.next hb7
        replace Pm := Pm.next hb7
        replace HB := below_step HB hb7
        clear hb7
        rcases (by omega : a = 0 ∨ a = 1 ∨ a = 2) with rfl | rfl | rfl
        · have I10 : Hid (SdC (1 + c) (k - 4) sf 2 p (0 - 1)) := J10
          clear J10
          obtain ⟨Pp0, Pp1, Pp2, -, -⟩ := id Pp
          go_wp2_with fail
          refine calls_named fun V hV => ?_
          have hbV : Below u7.heap.size u7 V := by rw [hV]; go_grown
          replace Pp := Pp.next hbV
          replace Pq := Pq.next hbV
          replace Pr := Pr.next hbV
          replace Pi := Pi.next hbV
          replace Pm := Pm.next hbV
          replace HB := below_step HB hbV
          clear Pp0 Pp1 Pp2
          clear hbV hV
          refine (I10.out _).mono ?_
          rintro e u8 ⟨rfl, hb8⟩
          replace Pp := Pp.next hb8
          replace Pq := Pq.next hb8
          replace Pr := Pr.next hb8
          replace Pi := Pi.next hb8
          replace Pm := Pm.next hb8
          replace HB := below_step HB hb8
          clear hb8
          obtain ⟨Pp0, Pp1, Pp2, -, -⟩ := id Pp
          go_wp2_with fail
          refine calls_named fun W8 hW8 => ?_
          replace Pp := Pp.next (below_named hW8)
          replace Pq := Pq.next (below_named hW8)
          replace Pr := Pr.next (below_named hW8)
          replace Pi := Pi.next (below_named hW8)
          replace Pm := Pm.next (below_named hW8)
          clear Pp0 Pp1 Pp2
          have Psnd := Pair.made hW8
          replace HB := below_step HB (below_named hW8)
          clear hW8
          refine (J11.out _).mono ?_
          rintro e u9 ⟨rfl, hb9⟩
          replace Pp := Pp.next hb9
          replace Pq := Pq.next hb9
          replace Pr := Pr.next hb9
          replace Pi := Pi.next hb9
          replace Pm := Pm.next hb9
          replace Psnd := Psnd.next hb9
          replace HB := below_step HB hb9
          clear hb9
          obtain ⟨Pp0, Pp1, Pp2, -, -⟩ := id Pp
          go_wp2_with fail
          refine calls_named fun W9 hW9 => ?_
          replace Pp := Pp.next (below_named hW9)
          replace Pq := Pq.next (below_named hW9)
          replace Pr := Pr.next (below_named hW9)
          replace Pi := Pi.next (below_named hW9)
          replace Pm := Pm.next (below_named hW9)
          replace Psnd := Psnd.next (below_named hW9)
          clear Pp0 Pp1 Pp2
          have Ppln := Pair.made hW9
          replace HB := below_step HB (below_named hW9)
          clear hW9
          refine (J12.out _).mono ?_
          rintro e u10 ⟨rfl, hb10⟩
          replace Pp := Pp.next hb10
          replace Pq := Pq.next hb10
          replace Pr := Pr.next hb10
          replace Pi := Pi.next hb10
          replace Pm := Pm.next hb10
          replace Psnd := Psnd.next hb10
          replace Ppln := Ppln.next hb10
          replace HB := below_step HB hb10
          clear hb10
          obtain ⟨Pp0, Pp1, Pp2, -, -⟩ := id Pp
          obtain ⟨Psnd0, Psnd1, Psnd2, -, -⟩ := id Psnd
          obtain ⟨Ppln0, Ppln1, Ppln2, -, -⟩ := id Ppln
          go_wp2_with fail
          refine (awake_c _).mono ?_
          rintro e z ⟨rfl, hbz⟩
          go_wp2_with fail
          go_ret
          exact ⟨rfl, below_step HB hbz⟩
        · have I10 : Hid (SdC (1 + c) (k - 4) sf 3 p (1 - 1)) := J10
          clear J10
          obtain ⟨Pp0, Pp1, Pp2, -, -⟩ := id Pp
          go_wp2_with fail
          refine calls_named fun V hV => ?_
          have hbV : Below u7.heap.size u7 V := by rw [hV]; go_grown
          replace Pp := Pp.next hbV
          replace Pq := Pq.next hbV
          replace Pr := Pr.next hbV
          replace Pi := Pi.next hbV
          replace Pm := Pm.next hbV
          replace HB := below_step HB hbV
          clear Pp0 Pp1 Pp2
          clear hbV hV
          refine (I10.out _).mono ?_
          rintro e u8 ⟨rfl, hb8⟩
          replace Pp := Pp.next hb8
          replace Pq := Pq.next hb8
          replace Pr := Pr.next hb8
          replace Pi := Pi.next hb8
          replace Pm := Pm.next hb8
          replace HB := below_step HB hb8
          clear hb8
          obtain ⟨Pp0, Pp1, Pp2, -, -⟩ := id Pp
          go_wp2_with fail
          refine calls_named fun W8 hW8 => ?_
          replace Pp := Pp.next (below_named hW8)
          replace Pq := Pq.next (below_named hW8)
          replace Pr := Pr.next (below_named hW8)
          replace Pi := Pi.next (below_named hW8)
          replace Pm := Pm.next (below_named hW8)
          clear Pp0 Pp1 Pp2
          have Psnd := Pair.made hW8
          replace HB := below_step HB (below_named hW8)
          clear hW8
          refine (J11.out _).mono ?_
          rintro e u9 ⟨rfl, hb9⟩
          replace Pp := Pp.next hb9
          replace Pq := Pq.next hb9
          replace Pr := Pr.next hb9
          replace Pi := Pi.next hb9
          replace Pm := Pm.next hb9
          replace Psnd := Psnd.next hb9
          replace HB := below_step HB hb9
          clear hb9
          obtain ⟨Pp0, Pp1, Pp2, -, -⟩ := id Pp
          go_wp2_with fail
          refine calls_named fun W9 hW9 => ?_
          replace Pp := Pp.next (below_named hW9)
          replace Pq := Pq.next (below_named hW9)
          replace Pr := Pr.next (below_named hW9)
          replace Pi := Pi.next (below_named hW9)
          replace Pm := Pm.next (below_named hW9)
          replace Psnd := Psnd.next (below_named hW9)
          clear Pp0 Pp1 Pp2
          have Ppln := Pair.made hW9
          replace HB := below_step HB (below_named hW9)
          clear hW9
          refine (J12.out _).mono ?_
          rintro e u10 ⟨rfl, hb10⟩
          replace Pp := Pp.next hb10
          replace Pq := Pq.next hb10
          replace Pr := Pr.next hb10
          replace Pi := Pi.next hb10
          replace Pm := Pm.next hb10
          replace Psnd := Psnd.next hb10
          replace Ppln := Ppln.next hb10
          replace HB := below_step HB hb10
          clear hb10
          obtain ⟨Pp0, Pp1, Pp2, -, -⟩ := id Pp
          obtain ⟨Psnd0, Psnd1, Psnd2, -, -⟩ := id Psnd
          obtain ⟨Ppln0, Ppln1, Ppln2, -, -⟩ := id Ppln
          go_wp2_with fail
          refine (awake_c _).mono ?_
          rintro e z ⟨rfl, hbz⟩
          go_wp2_with fail
          go_ret
          exact ⟨rfl, below_step HB hbz⟩
        · have I10 : Hid (SdC (1 + c) (k - 4) sf 1 p (2 - 1)) := J10
          clear J10
          obtain ⟨Pp0, Pp1, Pp2, -, -⟩ := id Pp
          go_wp2_with fail
          refine calls_named fun V hV => ?_
          have hbV : Below u7.heap.size u7 V := by rw [hV]; go_grown
          replace Pp := Pp.next hbV
          replace Pq := Pq.next hbV
          replace Pr := Pr.next hbV
          replace Pi := Pi.next hbV
          replace Pm := Pm.next hbV
          replace HB := below_step HB hbV
          clear Pp0 Pp1 Pp2
          clear hbV hV
          refine (I10.out _).mono ?_
          rintro e u8 ⟨rfl, hb8⟩
          replace Pp := Pp.next hb8
          replace Pq := Pq.next hb8
          replace Pr := Pr.next hb8
          replace Pi := Pi.next hb8
          replace Pm := Pm.next hb8
          replace HB := below_step HB hb8
          clear hb8
          obtain ⟨Pp0, Pp1, Pp2, -, -⟩ := id Pp
          go_wp2_with fail
          refine calls_named fun W8 hW8 => ?_
          replace Pp := Pp.next (below_named hW8)
          replace Pq := Pq.next (below_named hW8)
          replace Pr := Pr.next (below_named hW8)
          replace Pi := Pi.next (below_named hW8)
          replace Pm := Pm.next (below_named hW8)
          clear Pp0 Pp1 Pp2
          have Psnd := Pair.made hW8
          replace HB := below_step HB (below_named hW8)
          clear hW8
          refine (J11.out _).mono ?_
          rintro e u9 ⟨rfl, hb9⟩
          replace Pp := Pp.next hb9
          replace Pq := Pq.next hb9
          replace Pr := Pr.next hb9
          replace Pi := Pi.next hb9
          replace Pm := Pm.next hb9
          replace Psnd := Psnd.next hb9
          replace HB := below_step HB hb9
          clear hb9
          obtain ⟨Pp0, Pp1, Pp2, -, -⟩ := id Pp
          go_wp2_with fail
          refine calls_named fun W9 hW9 => ?_
          replace Pp := Pp.next (below_named hW9)
          replace Pq := Pq.next (below_named hW9)
          replace Pr := Pr.next (below_named hW9)
          replace Pi := Pi.next (below_named hW9)
          replace Pm := Pm.next (below_named hW9)
          replace Psnd := Psnd.next (below_named hW9)
          clear Pp0 Pp1 Pp2
          have Ppln := Pair.made hW9
          replace HB := below_step HB (below_named hW9)
          clear hW9
          refine (J12.out _).mono ?_
          rintro e u10 ⟨rfl, hb10⟩
          replace Pp := Pp.next hb10
          replace Pq := Pq.next hb10
          replace Pr := Pr.next hb10
          replace Pi := Pi.next hb10
          replace Pm := Pm.next hb10
          replace Psnd := Psnd.next hb10
          replace Ppln := Ppln.next hb10
          replace HB := below_step HB hb10
          clear hb10
          obtain ⟨Pp0, Pp1, Pp2, -, -⟩ := id Pp
          obtain ⟨Psnd0, Psnd1, Psnd2, -, -⟩ := id Psnd
          obtain ⟨Ppln0, Ppln1, Ppln2, -, -⟩ := id Ppln
          go_wp2_with fail
          refine (awake_c _).mono ?_
          rintro e z ⟨rfl, hbz⟩
          go_wp2_with fail
          go_ret
          exact ⟨rfl, below_step HB hbz⟩
  · have hz2b : (z2 == 0) = false := beq_eq_false_iff_ne.2 hz2
    clear hz2 J4
    go_wp2_with fail
    refine calls_named fun V hV => ?_
    have hbV : Below u3.heap.size u3 V := by rw [hV]; go_grown
    have Pi : Pair V (u3.heap.size + 1) st semis := by rw [hV]; exact ⟨by go_simp, by go_simp, by simp, by go_simp, by go_simp⟩
    replace Pp := Pp.next hbV
    replace Pq := Pq.next hbV
    replace HB := below_step HB hbV
    clear hbV hV
    refine (J5.out _).mono ?_
    rintro e u4 ⟨rfl, hb4⟩
    replace Pp := Pp.next hb4
    replace Pq := Pq.next hb4
    replace Pi := Pi.next hb4
    replace HB := below_step HB hb4
    clear hb4
    rcases J6.out with ⟨rfl, N6⟩ | hz3
    · have I6 := Lib.hid N6
      clear N6 J6
      go_wp2_with fail
      refine (I6.out _).mono ?_
      rintro e u5 ⟨rfl, hb5⟩
      replace Pp := Pp.next hb5
      replace Pq := Pq.next hb5
      replace Pi := Pi.next hb5
      replace HB := below_step HB hb5
      clear hb5
      obtain ⟨Pi0, Pi1, Pi2, -, -⟩ := id Pi
      go_wp2_with fail
      refine calls_named fun W5 hW5 => ?_
      replace Pp := Pp.next (below_named hW5)
      replace Pq := Pq.next (below_named hW5)
      replace Pi := Pi.next (below_named hW5)
      clear Pi0 Pi1 Pi2
      have Pk := Pair.made hW5
      replace HB := below_step HB (below_named hW5)
      clear hW5
      refine (J7.out _).mono ?_
      rintro e u6 ⟨rfl, hb6⟩
      replace Pp := Pp.next hb6
      replace Pq := Pq.next hb6
      replace Pi := Pi.next hb6
      replace Pk := Pk.next hb6
      replace HB := below_step HB hb6
      clear hb6
      rcases J8.out with ⟨rfl, N8⟩ | hz4
      · have I8 := Lib.hid N8
        clear N8 J8
        go_wp2_with fail
        refine calls_named fun W6 hW6 => ?_
        replace Pp := Pp.next (below_named hW6)
        replace Pq := Pq.next (below_named hW6)
        replace Pi := Pi.next (below_named hW6)
        replace Pk := Pk.next (below_named hW6)
        have Pm := Pair.made hW6
        replace HB := below_step HB (below_named hW6)
        clear hW6
        refine (I8.out _).mono ?_
        rintro e u7 ⟨rfl, hb7⟩
        replace Pp := Pp.next hb7
        replace Pq := Pq.next hb7
        replace Pi := Pi.next hb7
        replace Pk := Pk.next hb7
        replace Pm := Pm.next hb7
        replace HB := below_step HB hb7
        clear hb7
        obtain ⟨Pp0, Pp1, Pp2, -, -⟩ := id Pp
        go_wp2_with fail
        refine (J9.out _).mono ?_
        rintro e u8 ⟨rfl, hb8⟩
        clear Pp0 Pp1 Pp2
        replace Pp := Pp.next hb8
        replace Pq := Pq.next hb8
        replace Pi := Pi.next hb8
        replace Pk := Pk.next hb8
        replace Pm := Pm.next hb8
        replace HB := below_step HB hb8
        clear hb8
        rcases (by omega : a = 0 ∨ a = 1 ∨ a = 2) with rfl | rfl | rfl
        · have I10 : Hid (SdC (1 + c) (k - 4) sf 2 p (0 - 1)) := J10
          clear J10
          obtain ⟨Pp0, Pp1, Pp2, -, -⟩ := id Pp
          go_wp2_with fail
          refine calls_named fun V hV => ?_
          have hbV : Below u8.heap.size u8 V := by rw [hV]; go_grown
          replace Pp := Pp.next hbV
          replace Pq := Pq.next hbV
          replace Pi := Pi.next hbV
          replace Pk := Pk.next hbV
          replace Pm := Pm.next hbV
          replace HB := below_step HB hbV
          clear Pp0 Pp1 Pp2
          clear hbV hV
          refine (I10.out _).mono ?_
          rintro e u9 ⟨rfl, hb9⟩
          replace Pp := Pp.next hb9
          replace Pq := Pq.next hb9
          replace Pi := Pi.next hb9
          replace Pk := Pk.next hb9
          replace Pm := Pm.next hb9
          replace HB := below_step HB hb9
          clear hb9
          obtain ⟨Pp0, Pp1, Pp2, -, -⟩ := id Pp
          go_wp2_with fail
          refine calls_named fun W9 hW9 => ?_
          replace Pp := Pp.next (below_named hW9)
          replace Pq := Pq.next (below_named hW9)
          replace Pi := Pi.next (below_named hW9)
          replace Pk := Pk.next (below_named hW9)
          replace Pm := Pm.next (below_named hW9)
          clear Pp0 Pp1 Pp2
          have Psnd := Pair.made hW9
          replace HB := below_step HB (below_named hW9)
          clear hW9
          refine (J11.out _).mono ?_
          rintro e u10 ⟨rfl, hb10⟩
          replace Pp := Pp.next hb10
          replace Pq := Pq.next hb10
          replace Pi := Pi.next hb10
          replace Pk := Pk.next hb10
          replace Pm := Pm.next hb10
          replace Psnd := Psnd.next hb10
          replace HB := below_step HB hb10
          clear hb10
          obtain ⟨Pp0, Pp1, Pp2, -, -⟩ := id Pp
          go_wp2_with fail
          refine calls_named fun W10 hW10 => ?_
          replace Pp := Pp.next (below_named hW10)
          replace Pq := Pq.next (below_named hW10)
          replace Pi := Pi.next (below_named hW10)
          replace Pk := Pk.next (below_named hW10)
          replace Pm := Pm.next (below_named hW10)
          replace Psnd := Psnd.next (below_named hW10)
          clear Pp0 Pp1 Pp2
          have Ppln := Pair.made hW10
          replace HB := below_step HB (below_named hW10)
          clear hW10
          refine (J12.out _).mono ?_
          rintro e u11 ⟨rfl, hb11⟩
          replace Pp := Pp.next hb11
          replace Pq := Pq.next hb11
          replace Pi := Pi.next hb11
          replace Pk := Pk.next hb11
          replace Pm := Pm.next hb11
          replace Psnd := Psnd.next hb11
          replace Ppln := Ppln.next hb11
          replace HB := below_step HB hb11
          clear hb11
          obtain ⟨Pp0, Pp1, Pp2, -, -⟩ := id Pp
          obtain ⟨Psnd0, Psnd1, Psnd2, -, -⟩ := id Psnd
          obtain ⟨Ppln0, Ppln1, Ppln2, -, -⟩ := id Ppln
          go_wp2_with fail
          refine (awake_c _).mono ?_
          rintro e z ⟨rfl, hbz⟩
          go_wp2_with fail
          go_ret
          exact ⟨rfl, below_step HB hbz⟩
        · have I10 : Hid (SdC (1 + c) (k - 4) sf 3 p (1 - 1)) := J10
          clear J10
          obtain ⟨Pp0, Pp1, Pp2, -, -⟩ := id Pp
          go_wp2_with fail
          refine calls_named fun V hV => ?_
          have hbV : Below u8.heap.size u8 V := by rw [hV]; go_grown
          replace Pp := Pp.next hbV
          replace Pq := Pq.next hbV
          replace Pi := Pi.next hbV
          replace Pk := Pk.next hbV
          replace Pm := Pm.next hbV
          replace HB := below_step HB hbV
          clear Pp0 Pp1 Pp2
          clear hbV hV
          refine (I10.out _).mono ?_
          rintro e u9 ⟨rfl, hb9⟩
          replace Pp := Pp.next hb9
          replace Pq := Pq.next hb9
          replace Pi := Pi.next hb9
          replace Pk := Pk.next hb9
          replace Pm := Pm.next hb9
          replace HB := below_step HB hb9
          clear hb9
          obtain ⟨Pp0, Pp1, Pp2, -, -⟩ := id Pp
          go_wp2_with fail
          refine calls_named fun W9 hW9 => ?_
          replace Pp := Pp.next (below_named hW9)
          replace Pq := Pq.next (below_named hW9)
          replace Pi := Pi.next (below_named hW9)
          replace Pk := Pk.next (below_named hW9)
          replace Pm := Pm.next (below_named hW9)
          clear Pp0 Pp1 Pp2
          have Psnd := Pair.made hW9
          replace HB := below_step HB (below_named hW9)
          clear hW9
          refine (J11.out _).mono ?_
          rintro e u10 ⟨rfl, hb10⟩
          replace Pp := Pp.next hb10
          replace Pq := Pq.next hb10
          replace Pi := Pi.next hb10
          replace Pk := Pk.next hb10
          replace Pm := Pm.next hb10
          replace Psnd := Psnd.next hb10
          replace HB := below_step HB hb10
          clear hb10
          obtain ⟨Pp0, Pp1, Pp2, -, -⟩ := id Pp
          go_wp2_with fail
          refine calls_named fun W10 hW10 => ?_
          replace Pp := Pp.next (below_named hW10)
          replace Pq := Pq.next (below_named hW10)
          replace Pi := Pi.next (below_named hW10)
          replace Pk := Pk.next (below_named hW10)
          replace Pm := Pm.next (below_named hW10)
          replace Psnd := Psnd.next (below_named hW10)
          clear Pp0 Pp1 Pp2
          have Ppln := Pair.made hW10
          replace HB := below_step HB (below_named hW10)
          clear hW10
          refine (J12.out _).mono ?_
          rintro e u11 ⟨rfl, hb11⟩
          replace Pp := Pp.next hb11
          replace Pq := Pq.next hb11
          replace Pi := Pi.next hb11
          replace Pk := Pk.next hb11
          replace Pm := Pm.next hb11
          replace Psnd := Psnd.next hb11
          replace Ppln := Ppln.next hb11
          replace HB := below_step HB hb11
          clear hb11
          obtain ⟨Pp0, Pp1, Pp2, -, -⟩ := id Pp
          obtain ⟨Psnd0, Psnd1, Psnd2, -, -⟩ := id Psnd
          obtain ⟨Ppln0, Ppln1, Ppln2, -, -⟩ := id Ppln
          go_wp2_with fail
          refine (awake_c _).mono ?_
          rintro e z ⟨rfl, hbz⟩
          go_wp2_with fail
          go_ret
          exact ⟨rfl, below_step HB hbz⟩
        · have I10 : Hid (SdC (1 + c) (k - 4) sf 1 p (2 - 1)) := J10
          clear J10
          obtain ⟨Pp0, Pp1, Pp2, -, -⟩ := id Pp
          go_wp2_with fail
          refine calls_named fun V hV => ?_
          have hbV : Below u8.heap.size u8 V := by rw [hV]; go_grown
          replace Pp := Pp.next hbV
          replace Pq := Pq.next hbV
          replace Pi := Pi.next hbV
          replace Pk := Pk.next hbV
          replace Pm := Pm.next hbV
          replace HB := below_step HB hbV
          clear Pp0 Pp1 Pp2
          clear hbV hV
          refine (I10.out _).mono ?_
          rintro e u9 ⟨rfl, hb9⟩
          replace Pp := Pp.next hb9
          replace Pq := Pq.next hb9
          replace Pi := Pi.next hb9
          replace Pk := Pk.next hb9
          replace Pm := Pm.next hb9
          replace HB := below_step HB hb9
          clear hb9
          obtain ⟨Pp0, Pp1, Pp2, -, -⟩ := id Pp
          go_wp2_with fail
          refine calls_named fun W9 hW9 => ?_
          replace Pp := Pp.next (below_named hW9)
          replace Pq := Pq.next (below_named hW9)
          replace Pi := Pi.next (below_named hW9)
          replace Pk := Pk.next (below_named hW9)
          replace Pm := Pm.next (below_named hW9)
          clear Pp0 Pp1 Pp2
          have Psnd := Pair.made hW9
          replace HB := below_step HB (below_named hW9)
          clear hW9
          refine (J11.out _).mono ?_
          rintro e u10 ⟨rfl, hb10⟩
          replace Pp := Pp.next hb10
          replace Pq := Pq.next hb10
          replace Pi := Pi.next hb10
          replace Pk := Pk.next hb10
          replace Pm := Pm.next hb10
          replace Psnd := Psnd.next hb10
          replace HB := below_step HB hb10
          clear hb10
          obtain ⟨Pp0, Pp1, Pp2, -, -⟩ := id Pp
          go_wp2_with fail
          refine calls_named fun W10 hW10 => ?_
          replace Pp := Pp.next (below_named hW10)
          replace Pq := Pq.next (below_named hW10)
          replace Pi := Pi.next (below_named hW10)
          replace Pk := Pk.next (below_named hW10)
          replace Pm := Pm.next (below_named hW10)
          replace Psnd := Psnd.next (below_named hW10)
          clear Pp0 Pp1 Pp2
          have Ppln := Pair.made hW10
          replace HB := below_step HB (below_named hW10)
          clear hW10
          refine (J12.out _).mono ?_
          rintro e u11 ⟨rfl, hb11⟩
          replace Pp := Pp.next hb11
          replace Pq := Pq.next hb11
          replace Pi := Pi.next hb11
          replace Pk := Pk.next hb11
          replace Pm := Pm.next hb11
          replace Psnd := Psnd.next hb11
          replace Ppln := Ppln.next hb11
          replace HB := below_step HB hb11
          clear hb11
          obtain ⟨Pp0, Pp1, Pp2, -, -⟩ := id Pp
          obtain ⟨Psnd0, Psnd1, Psnd2, -, -⟩ := id Psnd
          obtain ⟨Ppln0, Ppln1, Ppln2, -, -⟩ := id Ppln
          go_wp2_with fail
          refine (awake_c _).mono ?_
          rintro e z ⟨rfl, hbz⟩
          go_wp2_with fail
          go_ret
          exact ⟨rfl, below_step HB hbz⟩
      · have hz4b : (z4 == 0) = false := beq_eq_false_iff_ne.2 hz4
        clear hz4 J8
        obtain ⟨Pp0, Pp1, Pp2, -, -⟩ := id Pp
        go_wp2_with fail
        refine calls_named fun W6 hW6 => ?_
        replace Pp := Pp.next (below_named hW6)
        replace Pq := Pq.next (below_named hW6)
        replace Pi := Pi.next (below_named hW6)
        replace Pk := Pk.next (below_named hW6)
        clear Pp0 Pp1 Pp2
        have Pm := Pair.made hW6
        replace HB := below_step HB (below_named hW6)
        clear hW6
        refine (J9.out _).mono ?_
        rintro e u7 ⟨rfl, hb7⟩
        replace Pp := Pp.next hb7
        replace Pq := Pq.next hb7
        replace Pi := Pi.next hb7
        replace Pk := Pk.next hb7
        replace Pm := Pm.next hb7
        replace HB := below_step HB hb7
        clear hb7
        rcases (by omega : a = 0 ∨ a = 1 ∨ a = 2) with rfl | rfl | rfl
        · have I10 : Hid (SdC (1 + c) (k - 4) sf 2 p (0 - 1)) := J10
          clear J10
          obtain ⟨Pp0, Pp1, Pp2, -, -⟩ := id Pp
          go_wp2_with fail
          refine calls_named fun V hV => ?_
          have hbV : Below u7.heap.size u7 V := by rw [hV]; go_grown
          replace Pp := Pp.next hbV
          replace Pq := Pq.next hbV
          replace Pi := Pi.next hbV
          replace Pk := Pk.next hbV
          replace Pm := Pm.next hbV
          replace HB := below_step HB hbV
          clear Pp0 Pp1 Pp2
          clear hbV hV
          refine (I10.out _).mono ?_
          rintro e u8 ⟨rfl, hb8⟩
          replace Pp := Pp.next hb8
          replace Pq := Pq.next hb8
          replace Pi := Pi.next hb8
          replace Pk := Pk.next hb8
          replace Pm := Pm.next hb8
          replace HB := below_step HB hb8
          clear hb8
          obtain ⟨Pp0, Pp1, Pp2, -, -⟩ := id Pp
          go_wp2_with fail
          refine calls_named fun W8 hW8 => ?_
          replace Pp := Pp.next (below_named hW8)
          replace Pq := Pq.next (below_named hW8)
          replace Pi := Pi.next (below_named hW8)
          replace Pk := Pk.next (below_named hW8)
          replace Pm := Pm.next (below_named hW8)
          clear Pp0 Pp1 Pp2
          have Psnd := Pair.made hW8
          replace HB := below_step HB (below_named hW8)
          clear hW8
          refine (J11.out _).mono ?_
          rintro e u9 ⟨rfl, hb9⟩
          replace Pp := Pp.next hb9
          replace Pq := Pq.next hb9
          replace Pi := Pi.next hb9
          replace Pk := Pk.next hb9
          replace Pm := Pm.next hb9
          replace Psnd := Psnd.next hb9
          replace HB := below_step HB hb9
          clear hb9
          obtain ⟨Pp0, Pp1, Pp2, -, -⟩ := id Pp
          go_wp2_with fail
          refine calls_named fun W9 hW9 => ?_
          replace Pp := Pp.next (below_named hW9)
          replace Pq := Pq.next (below_named hW9)
          replace Pi := Pi.next (below_named hW9)
          replace Pk := Pk.next (below_named hW9)
          replace Pm := Pm.next (below_named hW9)
          replace Psnd := Psnd.next (below_named hW9)
          clear Pp0 Pp1 Pp2
          have Ppln := Pair.made hW9
          replace HB := below_step HB (below_named hW9)
          clear hW9
          refine (J12.out _).mono ?_
          rintro e u10 ⟨rfl, hb10⟩
          replace Pp := Pp.next hb10
          replace Pq := Pq.next hb10
          replace Pi := Pi.next hb10
          replace Pk := Pk.next hb10
          replace Pm := Pm.next hb10
          replace Psnd := Psnd.next hb10
          replace Ppln := Ppln.next hb10
          replace HB := below_step HB hb10
          clear hb10
          obtain ⟨Pp0, Pp1, Pp2, -, -⟩ := id Pp
          obtain ⟨Psnd0, Psnd1, Psnd2, -, -⟩ := id Psnd
          obtain ⟨Ppln0, Ppln1, Ppln2, -, -⟩ := id Ppln
          go_wp2_with fail
          refine (awake_c _).mono ?_
          rintro e z ⟨rfl, hbz⟩
          go_wp2_with fail
          go_ret
          exact ⟨rfl, below_step HB hbz⟩
        · have I10 : Hid (SdC (1 + c) (k - 4) sf 3 p (1 - 1)) := J10
          clear J10
          obtain ⟨Pp0, Pp1, Pp2, -, -⟩ := id Pp
          go_wp2_with fail
          refine calls_named fun V hV => ?_
          have hbV : Below u7.heap.size u7 V := by rw [hV]; go_grown
          replace Pp := Pp.next hbV
          replace Pq := Pq.next hbV
          replace Pi := Pi.next hbV
          replace Pk := Pk.next hbV
          replace Pm := Pm.next hbV
          replace HB := below_step HB hbV
          clear Pp0 Pp1 Pp2
          clear hbV hV
          refine (I10.out _).mono ?_
          rintro e u8 ⟨rfl, hb8⟩
          replace Pp := Pp.next hb8
          replace Pq := Pq.next hb8
          replace Pi := Pi.next hb8
          replace Pk := Pk.next hb8
          replace Pm := Pm.next hb8
          replace HB := below_step HB hb8
          clear hb8
          obtain ⟨Pp0, Pp1, Pp2, -, -⟩ := id Pp
          go_wp2_with fail
          refine calls_named fun W8 hW8 => ?_
          replace Pp := Pp.next (below_named hW8)
          replace Pq := Pq.next (below_named hW8)
          replace Pi := Pi.next (below_named hW8)
          replace Pk := Pk.next (below_named hW8)
          replace Pm := Pm.next (below_named hW8)
          clear Pp0 Pp1 Pp2
          have Psnd := Pair.made hW8
          replace HB := below_step HB (below_named hW8)
          clear hW8
          refine (J11.out _).mono ?_
          rintro e u9 ⟨rfl, hb9⟩
          replace Pp := Pp.next hb9
          replace Pq := Pq.next hb9
          replace Pi := Pi.next hb9
          replace Pk := Pk.next hb9
          replace Pm := Pm.next hb9
          replace Psnd := Psnd.next hb9
          replace HB := below_step HB hb9
          clear hb9
          obtain ⟨Pp0, Pp1, Pp2, -, -⟩ := id Pp
          go_wp2_with fail
          refine calls_named fun W9 hW9 => ?_
          replace Pp := Pp.next (below_named hW9)
          replace Pq := Pq.next (below_named hW9)
          replace Pi := Pi.next (below_named hW9)
          replace Pk := Pk.next (below_named hW9)
          replace Pm := Pm.next (below_named hW9)
          replace Psnd := Psnd.next (below_named hW9)
          clear Pp0 Pp1 Pp2
          have Ppln := Pair.made hW9
          replace HB := below_step HB (below_named hW9)
          clear hW9
          refine (J12.out _).mono ?_
          rintro e u10 ⟨rfl, hb10⟩
          replace Pp := Pp.next hb10
          replace Pq := Pq.next hb10
          replace Pi := Pi.next hb10
          replace Pk := Pk.next hb10
          replace Pm := Pm.next hb10
          replace Psnd := Psnd.next hb10
          replace Ppln := Ppln.next hb10
          replace HB := below_step HB hb10
          clear hb10
          obtain ⟨Pp0, Pp1, Pp2, -, -⟩ := id Pp
          obtain ⟨Psnd0, Psnd1, Psnd2, -, -⟩ := id Psnd
          obtain ⟨Ppln0, Ppln1, Ppln2, -, -⟩ := id Ppln
          go_wp2_with fail
          refine (awake_c _).mono ?_
          rintro e z ⟨rfl, hbz⟩
          go_wp2_with fail
          go_ret
          exact ⟨rfl, below_step HB hbz⟩
        · have I10 : Hid (SdC (1 + c) (k - 4) sf 1 p (2 - 1)) := J10
          clear J10
          obtain ⟨Pp0, Pp1, Pp2, -, -⟩ := id Pp
          go_wp2_with fail
          refine calls_named fun V hV => ?_
          have hbV : Below u7.heap.size u7 V := by rw [hV]; go_grown
          replace Pp := Pp.next hbV
          replace Pq := Pq.next hbV
          replace Pi := Pi.next hbV
          replace Pk := Pk.next hbV
          replace Pm := Pm.next hbV
          replace HB := below_step HB hbV
          clear Pp0 Pp1 Pp2
          clear hbV hV
          refine (I10.out _).mono ?_
          rintro e u8 ⟨rfl, hb8⟩
          replace Pp := Pp.next hb8
          replace Pq := Pq.next hb8
          replace Pi := Pi.next hb8
          replace Pk := Pk.next hb8
          replace Pm := Pm.next hb8
          replace HB := below_step HB hb8
          clear hb8
          obtain ⟨Pp0, Pp1, Pp2, -, -⟩ := id Pp
          go_wp2_with fail
          refine calls_named fun W8 hW8 => ?_
          replace Pp := Pp.next (below_named hW8)
          replace Pq := Pq.next (below_named hW8)
          replace Pi := Pi.next (below_named hW8)
          replace Pk := Pk.next (below_named hW8)
          replace Pm := Pm.next (below_named hW8)
          clear Pp0 Pp1 Pp2
          have Psnd := Pair.made hW8
          replace HB := below_step HB (below_named hW8)
          clear hW8
          refine (J11.out _).mono ?_
          rintro e u9 ⟨rfl, hb9⟩
          replace Pp := Pp.next hb9
          replace Pq := Pq.next hb9
          replace Pi := Pi.next hb9
          replace Pk := Pk.next hb9
          replace Pm := Pm.next hb9
          replace Psnd := Psnd.next hb9
          replace HB := below_step HB hb9
          clear hb9
          obtain ⟨Pp0, Pp1, Pp2, -, -⟩ := id Pp
          go_wp2_with fail
          refine calls_named fun W9 hW9 => ?_
          replace Pp := Pp.next (below_named hW9)
          replace Pq := Pq.next (below_named hW9)
          replace Pi := Pi.next (below_named hW9)
          replace Pk := Pk.next (below_named hW9)
          replace Pm := Pm.next (below_named hW9)
          replace Psnd := Psnd.next (below_named hW9)
          clear Pp0 Pp1 Pp2
          have Ppln := Pair.made hW9
          replace HB := below_step HB (below_named hW9)
          clear hW9
          refine (J12.out _).mono ?_
          rintro e u10 ⟨rfl, hb10⟩
          replace Pp := Pp.next hb10
          replace Pq := Pq.next hb10
          replace Pi := Pi.next hb10
          replace Pk := Pk.next hb10
          replace Pm := Pm.next hb10
          replace Psnd := Psnd.next hb10
          replace Ppln := Ppln.next hb10
          replace HB := below_step HB hb10
          clear hb10
          obtain ⟨Pp0, Pp1, Pp2, -, -⟩ := id Pp
          obtain ⟨Psnd0, Psnd1, Psnd2, -, -⟩ := id Psnd
          obtain ⟨Ppln0, Ppln1, Ppln2, -, -⟩ := id Ppln
          go_wp2_with fail
          refine (awake_c _).mono ?_
          rintro e z ⟨rfl, hbz⟩
          go_wp2_with fail
          go_ret
          exact ⟨rfl, below_step HB hbz⟩
    · have hz3b : (z3 == 0) = false := beq_eq_false_iff_ne.2 hz3
      clear hz3 J6
      go_wp2_with fail
      refine (J7.out _).mono ?_
      rintro e u5 ⟨rfl, hb5⟩
      replace Pp := Pp.next hb5
      replace Pq := Pq.next hb5
      replace Pi := Pi.next hb5
      replace HB := below_step HB hb5
      clear hb5
      rcases J8.out with ⟨rfl, N8⟩ | hz4
      · have I8 := Lib.hid N8
        clear N8 J8
        go_wp2_with fail
        refine calls_named fun W5 hW5 => ?_
        replace Pp := Pp.next (below_named hW5)
        replace Pq := Pq.next (below_named hW5)
        replace Pi := Pi.next (below_named hW5)
        have Pm := Pair.made hW5
        replace HB := below_step HB (below_named hW5)
        clear hW5
        refine (I8.out _).mono ?_
        rintro e u6 ⟨rfl, hb6⟩
        replace Pp := Pp.next hb6
        replace Pq := Pq.next hb6
        replace Pi := Pi.next hb6
        replace Pm := Pm.next hb6
        replace HB := below_step HB hb6
        clear hb6
        obtain ⟨Pp0, Pp1, Pp2, -, -⟩ := id Pp
        go_wp2_with fail
        refine (J9.out _).mono ?_
        rintro e u7 ⟨rfl, hb7⟩
        clear Pp0 Pp1 Pp2
        replace Pp := Pp.next hb7
        replace Pq := Pq.next hb7
        replace Pi := Pi.next hb7
        replace Pm := Pm.next hb7
        replace HB := below_step HB hb7
        clear hb7
        rcases (by omega : a = 0 ∨ a = 1 ∨ a = 2) with rfl | rfl | rfl
        · have I10 : Hid (SdC (1 + c) (k - 4) sf 2 p (0 - 1)) := J10
          clear J10
          obtain ⟨Pp0, Pp1, Pp2, -, -⟩ := id Pp
          go_wp2_with fail
          refine calls_named fun V hV => ?_
          have hbV : Below u7.heap.size u7 V := by rw [hV]; go_grown
          replace Pp := Pp.next hbV
          replace Pq := Pq.next hbV
          replace Pi := Pi.next hbV
          replace Pm := Pm.next hbV
          replace HB := below_step HB hbV
          clear Pp0 Pp1 Pp2
          clear hbV hV
          refine (I10.out _).mono ?_
          rintro e u8 ⟨rfl, hb8⟩
          replace Pp := Pp.next hb8
          replace Pq := Pq.next hb8
          replace Pi := Pi.next hb8
          replace Pm := Pm.next hb8
          replace HB := below_step HB hb8
          clear hb8
          obtain ⟨Pp0, Pp1, Pp2, -, -⟩ := id Pp
          go_wp2_with fail
          refine calls_named fun W8 hW8 => ?_
          replace Pp := Pp.next (below_named hW8)
          replace Pq := Pq.next (below_named hW8)
          replace Pi := Pi.next (below_named hW8)
          replace Pm := Pm.next (below_named hW8)
          clear Pp0 Pp1 Pp2
          have Psnd := Pair.made hW8
          replace HB := below_step HB (below_named hW8)
          clear hW8
          refine (J11.out _).mono ?_
          rintro e u9 ⟨rfl, hb9⟩
          replace Pp := Pp.next hb9
          replace Pq := Pq.next hb9
          replace Pi := Pi.next hb9
          replace Pm := Pm.next hb9
          replace Psnd := Psnd.next hb9
          replace HB := below_step HB hb9
          clear hb9
          obtain ⟨Pp0, Pp1, Pp2, -, -⟩ := id Pp
          go_wp2_with fail
          refine calls_named fun W9 hW9 => ?_
          replace Pp := Pp.next (below_named hW9)
          replace Pq := Pq.next (below_named hW9)
          replace Pi := Pi.next (below_named hW9)
          replace Pm := Pm.next (below_named hW9)
          replace Psnd := Psnd.next (below_named hW9)
          clear Pp0 Pp1 Pp2
          have Ppln := Pair.made hW9
          replace HB := below_step HB (below_named hW9)
          clear hW9
          refine (J12.out _).mono ?_
          rintro e u10 ⟨rfl, hb10⟩
          replace Pp := Pp.next hb10
          replace Pq := Pq.next hb10
          replace Pi := Pi.next hb10
          replace Pm := Pm.next hb10
          replace Psnd := Psnd.next hb10
          replace Ppln := Ppln.next hb10
          replace HB := below_step HB hb10
          clear hb10
          obtain ⟨Pp0, Pp1, Pp2, -, -⟩ := id Pp
          obtain ⟨Psnd0, Psnd1, Psnd2, -, -⟩ := id Psnd
          obtain ⟨Ppln0, Ppln1, Ppln2, -, -⟩ := id Ppln
          go_wp2_with fail
          refine (awake_c _).mono ?_
          rintro e z ⟨rfl, hbz⟩
          go_wp2_with fail
          go_ret
          exact ⟨rfl, below_step HB hbz⟩
        · have I10 : Hid (SdC (1 + c) (k - 4) sf 3 p (1 - 1)) := J10
          clear J10
          obtain ⟨Pp0, Pp1, Pp2, -, -⟩ := id Pp
          go_wp2_with fail
          refine calls_named fun V hV => ?_
          have hbV : Below u7.heap.size u7 V := by rw [hV]; go_grown
          replace Pp := Pp.next hbV
          replace Pq := Pq.next hbV
          replace Pi := Pi.next hbV
          replace Pm := Pm.next hbV
          replace HB := below_step HB hbV
          clear Pp0 Pp1 Pp2
          clear hbV hV
          refine (I10.out _).mono ?_
          rintro e u8 ⟨rfl, hb8⟩
          replace Pp := Pp.next hb8
          replace Pq := Pq.next hb8
          replace Pi := Pi.next hb8
          replace Pm := Pm.next hb8
          replace HB := below_step HB hb8
          clear hb8
          obtain ⟨Pp0, Pp1, Pp2, -, -⟩ := id Pp
          go_wp2_with fail
          refine calls_named fun W8 hW8 => ?_
          replace Pp := Pp.next (below_named hW8)
          replace Pq := Pq.next (below_named hW8)
          replace Pi := Pi.next (below_named hW8)
          replace Pm := Pm.next (below_named hW8)
          clear Pp0 Pp1 Pp2
          have Psnd := Pair.made hW8
          replace HB := below_step HB (below_named hW8)
          clear hW8
          refine (J11.out _).mono ?_
          rintro e u9 ⟨rfl, hb9⟩
          replace Pp := Pp.next hb9
          replace Pq := Pq.next hb9
          replace Pi := Pi.next hb9
          replace Pm := Pm.next hb9
          replace Psnd := Psnd.next hb9
          replace HB := below_step HB hb9
          clear hb9
          obtain ⟨Pp0, Pp1, Pp2, -, -⟩ := id Pp
          go_wp2_with fail
          refine calls_named fun W9 hW9 => ?_
          replace Pp := Pp.next (below_named hW9)
          replace Pq := Pq.next (below_named hW9)
          replace Pi := Pi.next (below_named hW9)
          replace Pm := Pm.next (below_named hW9)
          replace Psnd := Psnd.next (below_named hW9)
          clear Pp0 Pp1 Pp2
          have Ppln := Pair.made hW9
          replace HB := below_step HB (below_named hW9)
          clear hW9
          refine (J12.out _).mono ?_
          rintro e u10 ⟨rfl, hb10⟩
          replace Pp := Pp.next hb10
          replace Pq := Pq.next hb10
          replace Pi := Pi.next hb10
          replace Pm := Pm.next hb10
          replace Psnd := Psnd.next hb10
          replace Ppln := Ppln.next hb10
          replace HB := below_step HB hb10
          clear hb10
          obtain ⟨Pp0, Pp1, Pp2, -, -⟩ := id Pp
          obtain ⟨Psnd0, Psnd1, Psnd2, -, -⟩ := id Psnd
          obtain ⟨Ppln0, Ppln1, Ppln2, -, -⟩ := id Ppln
          go_wp2_with fail
          refine (awake_c _).mono ?_
          rintro e z ⟨rfl, hbz⟩
          go_wp2_with fail
          go_ret
          exact ⟨rfl, below_step HB hbz⟩
        · have I10 : Hid (SdC (1 + c) (k - 4) sf 1 p (2 - 1)) := J10
          clear J10
          obtain ⟨Pp0, Pp1, Pp2, -, -⟩ := id Pp
          go_wp2_with fail
          refine calls_named fun V hV => ?_
          have hbV : Below u7.heap.size u7 V := by rw [hV]; go_grown
          replace Pp := Pp.next hbV
          replace Pq := Pq.next hbV
          replace Pi := Pi.next hbV
          replace Pm := Pm.next hbV
          replace HB := below_step HB hbV
          clear Pp0 Pp1 Pp2
          clear hbV hV
          refine (I10.out _).mono ?_
          rintro e u8 ⟨rfl, hb8⟩
          replace Pp := Pp.next hb8
          replace Pq := Pq.next hb8
          replace Pi := Pi.next hb8
          replace Pm := Pm.next hb8
          replace HB := below_step HB hb8
          clear hb8
          obtain ⟨Pp0, Pp1, Pp2, -, -⟩ := id Pp
          go_wp2_with fail
          refine calls_named fun W8 hW8 => ?_
          replace Pp := Pp.next (below_named hW8)
          replace Pq := Pq.next (below_named hW8)
          replace Pi := Pi.next (below_named hW8)
          replace Pm := Pm.next (below_named hW8)
          clear Pp0 Pp1 Pp2
          have Psnd := Pair.made hW8
          replace HB := below_step HB (below_named hW8)
          clear hW8
          refine (J11.out _).mono ?_
          rintro e u9 ⟨rfl, hb9⟩
          replace Pp := Pp.next hb9
          replace Pq := Pq.next hb9
          replace Pi := Pi.next hb9
          replace Pm := Pm.next hb9
          replace Psnd := Psnd.next hb9
          replace HB := below_step HB hb9
          clear hb9
          obtain ⟨Pp0, Pp1, Pp2, -, -⟩ := id Pp
          go_wp2_with fail
          refine calls_named fun W9 hW9 => ?_
          replace Pp := Pp.next (below_named hW9)
          replace Pq := Pq.next (below_named hW9)
          replace Pi := Pi.next (below_named hW9)
          replace Pm := Pm.next (below_named hW9)
          replace Psnd := Psnd.next (below_named hW9)
          clear Pp0 Pp1 Pp2
          have Ppln := Pair.made hW9
          replace HB := below_step HB (below_named hW9)
          clear hW9
          refine (J12.out _).mono ?_
          rintro e u10 ⟨rfl, hb10⟩
          replace Pp := Pp.next hb10
          replace Pq := Pq.next hb10
          replace Pi := Pi.next hb10
          replace Pm := Pm.next hb10
          replace Psnd := Psnd.next hb10
          replace Ppln := Ppln.next hb10
          replace HB := below_step HB hb10
          clear hb10
          obtain ⟨Pp0, Pp1, Pp2, -, -⟩ := id Pp
          obtain ⟨Psnd0, Psnd1, Psnd2, -, -⟩ := id Psnd
          obtain ⟨Ppln0, Ppln1, Ppln2, -, -⟩ := id Ppln
          go_wp2_with fail
          refine (awake_c _).mono ?_
          rintro e z ⟨rfl, hbz⟩
          go_wp2_with fail
          go_ret
          exact ⟨rfl, below_step HB hbz⟩
      · have hz4b : (z4 == 0) = false := beq_eq_false_iff_ne.2 hz4
        clear hz4 J8
        obtain ⟨Pp0, Pp1, Pp2, -, -⟩ := id Pp
        go_wp2_with fail
        refine calls_named fun W5 hW5 => ?_
        replace Pp := Pp.next (below_named hW5)
        replace Pq := Pq.next (below_named hW5)
        replace Pi := Pi.next (below_named hW5)
        clear Pp0 Pp1 Pp2
        have Pm := Pair.made hW5
        replace HB := below_step HB (below_named hW5)
        clear hW5
        refine (J9.out _).mono ?_
        rintro e u6 ⟨rfl, hb6⟩
        replace Pp := Pp.next hb6
        replace Pq := Pq.next hb6
        replace Pi := Pi.next hb6
        replace Pm := Pm.next hb6
        replace HB := below_step HB hb6
        clear hb6
        rcases (by omega : a = 0 ∨ a = 1 ∨ a = 2) with rfl | rfl | rfl
        · have I10 : Hid (SdC (1 + c) (k - 4) sf 2 p (0 - 1)) := J10
          clear J10
          obtain ⟨Pp0, Pp1, Pp2, -, -⟩ := id Pp
          go_wp2_with fail
          refine calls_named fun V hV => ?_
          have hbV : Below u6.heap.size u6 V := by rw [hV]; go_grown
          replace Pp := Pp.next hbV
          replace Pq := Pq.next hbV
          replace Pi := Pi.next hbV
          replace Pm := Pm.next hbV
          replace HB := below_step HB hbV
          clear Pp0 Pp1 Pp2
          clear hbV hV
          refine (I10.out _).mono ?_
          rintro e u7 ⟨rfl, hb7⟩
          replace Pp := Pp.next hb7
          replace Pq := Pq.next hb7
          replace Pi := Pi.next hb7
          replace Pm := Pm.next hb7
          replace HB := below_step HB hb7
          clear hb7
          obtain ⟨Pp0, Pp1, Pp2, -, -⟩ := id Pp
          go_wp2_with fail
          refine calls_named fun W7 hW7 => ?_
          replace Pp := Pp.next (below_named hW7)
          replace Pq := Pq.next (below_named hW7)
          replace Pi := Pi.next (below_named hW7)
          replace Pm := Pm.next (below_named hW7)
          clear Pp0 Pp1 Pp2
          have Psnd := Pair.made hW7
          replace HB := below_step HB (below_named hW7)
          clear hW7
          refine (J11.out _).mono ?_
          rintro e u8 ⟨rfl, hb8⟩
          replace Pp := Pp.next hb8
          replace Pq := Pq.next hb8
          replace Pi := Pi.next hb8
          replace Pm := Pm.next hb8
          replace Psnd := Psnd.next hb8
          replace HB := below_step HB hb8
          clear hb8
          obtain ⟨Pp0, Pp1, Pp2, -, -⟩ := id Pp
          go_wp2_with fail
          refine calls_named fun W8 hW8 => ?_
          replace Pp := Pp.next (below_named hW8)
          replace Pq := Pq.next (below_named hW8)
          replace Pi := Pi.next (below_named hW8)
          replace Pm := Pm.next (below_named hW8)
          replace Psnd := Psnd.next (below_named hW8)
          clear Pp0 Pp1 Pp2
          have Ppln := Pair.made hW8
          replace HB := below_step HB (below_named hW8)
          clear hW8
          refine (J12.out _).mono ?_
          rintro e u9 ⟨rfl, hb9⟩
          replace Pp := Pp.next hb9
          replace Pq := Pq.next hb9
          replace Pi := Pi.next hb9
          replace Pm := Pm.next hb9
          replace Psnd := Psnd.next hb9
          replace Ppln := Ppln.next hb9
          replace HB := below_step HB hb9
          clear hb9
          obtain ⟨Pp0, Pp1, Pp2, -, -⟩ := id Pp
          obtain ⟨Psnd0, Psnd1, Psnd2, -, -⟩ := id Psnd
          obtain ⟨Ppln0, Ppln1, Ppln2, -, -⟩ := id Ppln
          go_wp2_with fail
          refine (awake_c _).mono ?_
          rintro e z ⟨rfl, hbz⟩
          go_wp2_with fail
          go_ret
          exact ⟨rfl, below_step HB hbz⟩
        · have I10 : Hid (SdC (1 + c) (k - 4) sf 3 p (1 - 1)) := J10
          clear J10
          obtain ⟨Pp0, Pp1, Pp2, -, -⟩ := id Pp
          go_wp2_with fail
          refine calls_named fun V hV => ?_
          have hbV : Below u6.heap.size u6 V := by rw [hV]; go_grown
          replace Pp := Pp.next hbV
          replace Pq := Pq.next hbV
          replace Pi := Pi.next hbV
          replace Pm := Pm.next hbV
          replace HB := below_step HB hbV
          clear Pp0 Pp1 Pp2
          clear hbV hV
          refine (I10.out _).mono ?_
          rintro e u7 ⟨rfl, hb7⟩
          replace Pp := Pp.next hb7
          replace Pq := Pq.next hb7
          replace Pi := Pi.next hb7
          replace Pm := Pm.next hb7
          replace HB := below_step HB hb7
          clear hb7
          obtain ⟨Pp0, Pp1, Pp2, -, -⟩ := id Pp
          go_wp2_with fail
          refine calls_named fun W7 hW7 => ?_
          replace Pp := Pp.next (below_named hW7)
          replace Pq := Pq.next (below_named hW7)
          replace Pi := Pi.next (below_named hW7)
          replace Pm := Pm.next (below_named hW7)
          clear Pp0 Pp1 Pp2
          have Psnd := Pair.made hW7
          replace HB := below_step HB (below_named hW7)
          clear hW7
          refine (J11.out _).mono ?_
          rintro e u8 ⟨rfl, hb8⟩
          replace Pp := Pp.next hb8
          replace Pq := Pq.next hb8
          replace Pi := Pi.next hb8
          replace Pm := Pm.next hb8
          replace Psnd := Psnd.next hb8
          replace HB := below_step HB hb8
          clear hb8
          obtain ⟨Pp0, Pp1, Pp2, -, -⟩ := id Pp
          go_wp2_with fail
          refine calls_named fun W8 hW8 => ?_
          replace Pp := Pp.next (below_named hW8)
          replace Pq := Pq.next (below_named hW8)
          replace Pi := Pi.next (below_named hW8)
          replace Pm := Pm.next (below_named hW8)
          replace Psnd := Psnd.next (below_named hW8)
          clear Pp0 Pp1 Pp2
          have Ppln := Pair.made hW8
          replace HB := below_step HB (below_named hW8)
          clear hW8
          refine (J12.out _).mono ?_
          rintro e u9 ⟨rfl, hb9⟩
          replace Pp := Pp.next hb9
          replace Pq := Pq.next hb9
          replace Pi := Pi.next hb9
          replace Pm := Pm.next hb9
          replace Psnd := Psnd.next hb9
          replace Ppln := Ppln.next hb9
          replace HB := below_step HB hb9
          clear hb9
          obtain ⟨Pp0, Pp1, Pp2, -, -⟩ := id Pp
          obtain ⟨Psnd0, Psnd1, Psnd2, -, -⟩ := id Psnd
          obtain ⟨Ppln0, Ppln1, Ppln2, -, -⟩ := id Ppln
          go_wp2_with fail
          refine (awake_c _).mono ?_
          rintro e z ⟨rfl, hbz⟩
          go_wp2_with fail
          go_ret
          exact ⟨rfl, below_step HB hbz⟩
        · have I10 : Hid (SdC (1 + c) (k - 4) sf 1 p (2 - 1)) := J10
          clear J10
          obtain ⟨Pp0, Pp1, Pp2, -, -⟩ := id Pp
          go_wp2_with fail
          refine calls_named fun V hV => ?_
          have hbV : Below u6.heap.size u6 V := by rw [hV]; go_grown
          replace Pp := Pp.next hbV
          replace Pq := Pq.next hbV
          replace Pi := Pi.next hbV
          replace Pm := Pm.next hbV
          replace HB := below_step HB hbV
          clear Pp0 Pp1 Pp2
          clear hbV hV
          refine (I10.out _).mono ?_
          rintro e u7 ⟨rfl, hb7⟩
          replace Pp := Pp.next hb7
          replace Pq := Pq.next hb7
          replace Pi := Pi.next hb7
          replace Pm := Pm.next hb7
          replace HB := below_step HB hb7
          clear hb7
          obtain ⟨Pp0, Pp1, Pp2, -, -⟩ := id Pp
          go_wp2_with fail
          refine calls_named fun W7 hW7 => ?_
          replace Pp := Pp.next (below_named hW7)
          replace Pq := Pq.next (below_named hW7)
          replace Pi := Pi.next (below_named hW7)
          replace Pm := Pm.next (below_named hW7)
          clear Pp0 Pp1 Pp2
          have Psnd := Pair.made hW7
          replace HB := below_step HB (below_named hW7)
          clear hW7
          refine (J11.out _).mono ?_
          rintro e u8 ⟨rfl, hb8⟩
          replace Pp := Pp.next hb8
          replace Pq := Pq.next hb8
          replace Pi := Pi.next hb8
          replace Pm := Pm.next hb8
          replace Psnd := Psnd.next hb8
          replace HB := below_step HB hb8
          clear hb8
          obtain ⟨Pp0, Pp1, Pp2, -, -⟩ := id Pp
          go_wp2_with fail
          refine calls_named fun W8 hW8 => ?_
          replace Pp := Pp.next (below_named hW8)
          replace Pq := Pq.next (below_named hW8)
          replace Pi := Pi.next (below_named hW8)
          replace Pm := Pm.next (below_named hW8)
          replace Psnd := Psnd.next (below_named hW8)
          clear Pp0 Pp1 Pp2
          have Ppln := Pair.made hW8
          replace HB := below_step HB (below_named hW8)
          clear hW8
          refine (J12.out _).mono ?_
          rintro e u9 ⟨rfl, hb9⟩
          replace Pp := Pp.next hb9
          replace Pq := Pq.next hb9
          replace Pi := Pi.next hb9
          replace Pm := Pm.next hb9
          replace Psnd := Psnd.next hb9
          replace Ppln := Ppln.next hb9
          replace HB := below_step HB hb9
          clear hb9
          obtain ⟨Pp0, Pp1, Pp2, -, -⟩ := id Pp
          obtain ⟨Psnd0, Psnd1, Psnd2, -, -⟩ := id Psnd
          obtain ⟨Ppln0, Ppln1, Ppln2, -, -⟩ := id Ppln
          go_wp2_with fail
          refine (awake_c _).mono ?_
          rintro e z ⟨rfl, hbz⟩
          go_wp2_with fail
          go_ret
          exact ⟨rfl, below_step HB hbz⟩
end Go.Proofs.YtkhikdiaaiddaaaDoor
