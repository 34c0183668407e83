/-
  The walk of custoslaw05.ToneField: fractions are a field. Conditions: the arguments are of their types.
-/
import Derived.Test.YtkhikdiaaiddaaaDoorRatLaw
import Derived.Test.YtkhikdiaaiddaaaDoorLine
import Derived.Test.YtkhikdiaaiddaaaDoorAwake
namespace Go.Proofs.YtkhikdiaaiddaaaDoor
open Go.RowKit
set_option linter.unusedSimpArgs false
set_option linter.unusedVariables false

theorem fraction_c (n d : Int) (w : World) (hn0 : -128 ≤ n) (hn1 : n ≤ 127) (hd0 : 0 ≤ d) (hd1 : d ≤ 23) :
    Calls Tryd.prog 38 #[.int .i16 n, .int .u8 d] w fun e w' => e = .returned (.tuple #[.agg #[.int .i64 (Rat.divInt n (1 + d)).num, .int .i64 (Rat.divInt n (1 + d)).den], .bool true]) ∧ Below w.heap.size w w' := by
  have hs := smQ_divInt n (1 + d) (by omega)
  have H := fun w => Ratio_c n (1 + d) w (by omega) (by omega) (by omega) (by omega)
  rw [ratioV_q n (1 + d) (by omega) _ rfl ⟨by omega, by omega⟩] at H
  unfold okQ at H
  generalize (Rat.divInt n (1 + d)).num = x at *
  generalize ((Rat.divInt n (1 + d)).den : Int) = y at *
  have J := Lib.hid H
  clear hs H
  go_enter Tryd.func38, Tryd.ntmps38
  go_wp2_with (go_at_call 56; refine (J.out _).mono ?_; rintro e w1 ⟨rfl, hb1⟩; obtain ⟨hc1, hf1⟩ := bcell hb1; have hz1 := hb1.size; (try simp at hz1); have hy1 : w.heap.size < w1.heap.size := (by omega); have hB1 : Below w.heap.size w w1 := below_step (by go_grown) hb1)
  (try simp only [Exit.inBlock, Exit.then]); refine bodyPost_ret (by simp [results, Tryd.results38, go_sem, *]; try rfl) rfl ?_
  exact ⟨rfl, by go_grown⟩
theorem equal_c (x y : Int) (w : World) :
    Calls Tryd.prog 39 #[.agg #[.int .i64 x, .int .i64 y], .int .i64 0, .agg #[.int .i64 x, .int .i64 y], .int .i64 0] w fun e w' => e = .returned (.bool true) ∧ Below w.heap.size w w' := by
  go_enter Tryd.func39, Tryd.ntmps39
  go_wp2
  go_ret
  exact ⟨rfl, by go_grown⟩


/-- the sign of a comparison -/
def cmpQ (a b : Rat) : Int := if a < b then -1 else if b < a then 1 else 0
theorem cmpQ_cases (a b : Rat) : (cmpQ a b = -1 ∧ cmpQ b a = 1 ∧ a ≠ b) ∨ (cmpQ a b = 1 ∧ cmpQ b a = -1 ∧ a ≠ b) ∨ (cmpQ a b = 0 ∧ cmpQ b a = 0 ∧ a = b) := by
  unfold cmpQ
  by_cases h1 : a < b
  · have h2 : ¬ b < a := fun h => by rw [Rat.lt_iff] at h h1; omega
    exact .inl ⟨if_pos h1, by rw [if_neg h2, if_pos h1], Rat.ne_of_lt h1⟩
  · by_cases h2 : b < a
    · exact .inr (.inl ⟨by rw [if_neg h1, if_pos h2], if_pos h2, Rat.ne_of_gt h2⟩)
    · exact .inr (.inr ⟨by rw [if_neg h1, if_neg h2], by rw [if_neg h2, if_neg h1], Rat.le_antisymm (Rat.not_lt.1 h2) (Rat.not_lt.1 h1)⟩)
theorem cmpQ_add (a b c : Rat) : cmpQ (a + b + c) (b + c) = cmpQ a 0 := by
  unfold cmpQ
  rw [Rat.add_assoc]
  have e : b + c = 0 + (b + c) := (Rat.zero_add _).symm
  have h1 : (a + (b + c) < b + c) ↔ a < 0 := by
    conv => lhs; rhs; rw [e]
    exact Rat.add_lt_add_right
  have h2 : (b + c < a + (b + c)) ↔ 0 < a := by
    conv => lhs; lhs; rw [e]
    exact Rat.add_lt_add_right
  simp only [h1, h2]
set_option maxRecDepth 100000 in
set_option maxHeartbeats 16000000 in
theorem Field_walk (n1 n2 n3 d1 d2 d3 : Int) (w : World) (hn1 : -128 ≤ n1 ∧ n1 ≤ 127) (hn2 : -128 ≤ n2 ∧ n2 ≤ 127) (hn3 : -128 ≤ n3 ∧ n3 ≤ 127) (hd1 : 0 ≤ d1 ∧ d1 ≤ 255) (hd2 : 0 ≤ d2 ∧ d2 ≤ 255) (hd3 : 0 ≤ d3 ∧ d3 ≤ 255) :
    Calls Tryd.prog 10 #[.int .i8 n1, .int .i8 n2, .int .i8 n3, .int .u8 d1, .int .u8 d2, .int .u8 d3] w fun e w' => e = .returned (.bool true) ∧ Below w.heap.size w w' := by
  have H1 := fun w => fraction_c n1 (d1 % 24) w hn1.1 hn1.2 (by omega) (by omega)
  have oa : ofQ (Rat.divInt n1 (1 + d1 % 24)) 128 24 := ⟨n1, 1 + d1 % 24, by omega, rfl, by omega, by omega⟩
  have H2 := fun w => fraction_c n2 (d2 % 24) w hn2.1 hn2.2 (by omega) (by omega)
  have ob : ofQ (Rat.divInt n2 (1 + d2 % 24)) 128 24 := ⟨n2, 1 + d2 % 24, by omega, rfl, by omega, by omega⟩
  have H3 := fun w => fraction_c n3 (d3 % 24) w hn3.1 hn3.2 (by omega) (by omega)
  have oc : ofQ (Rat.divInt n3 (1 + d3 % 24)) 128 24 := ⟨n3, 1 + d3 % 24, by omega, rfl, by omega, by omega⟩
  have hb0 : (Rat.divInt n2 (1 + d2 % 24) = 0) ↔ n2 = 0 := by
    constructor
    · intro h
      rw [← Rat.zero_divInt 1] at h
      have := (Rat.divInt_eq_divInt_iff (by omega) (by omega)).1 h
      simpa using this
    · rintro rfl; exact Rat.zero_divInt _
  generalize Rat.divInt n1 (1 + d1 % 24) = a at *
  generalize Rat.divInt n2 (1 + d2 % 24) = b at *
  generalize Rat.divInt n3 (1 + d3 % 24) = c at *
  have oab := oa.add ob
  have obc := ob.add oc
  have ol := oab.add oc
  have op := oa.mul ob
  have ou := oa.mul oc
  have ov := oa.mul obc
  have sa := oa.sm (by decide) (by decide)
  have sb := ob.sm (by decide) (by decide)
  have sc := oc.sm (by decide) (by decide)
  have sab := oab.sm (by decide) (by decide)
  have sbc := obc.sm (by decide) (by decide)
  have sl := ol.sm (by decide) (by decide)
  have sp := op.sm (by decide) (by decide)
  have su := ou.sm (by decide) (by decide)
  have sv := ov.sm (by decide) (by decide)
  have s0 : smQ 0 := ⟨by decide, by decide⟩
  have H4 := fun w => Add_q a b sa sb w sab
  have H5 := fun w => Add_q b a sb sa w (by rw [Rat.add_comm]; exact sab)
  rw [Rat.add_comm b a] at H5
  have H6 := fun w => Add_q b c sb sc w sbc
  have H7 := fun w => Add_q (a + b) c sab sc w sl
  have H8 := fun w => Add_q a (b + c) sa sbc w (by rw [← Rat.add_assoc]; exact sl)
  rw [← Rat.add_assoc] at H8
  have H11 := fun w => Mul_q a b sa sb w sp
  have H12 := fun w => Mul_q b a sb sa w (by rw [Rat.mul_comm]; exact sp)
  rw [Rat.mul_comm b a] at H12
  have H13 := fun w => Mul_q a c sa sc w su
  have H14 := fun w => Add_q (a * b) (a * c) sp su w (by rw [← Rat.mul_add]; exact sv)
  rw [← Rat.mul_add] at H14
  have H15 := fun w => Mul_q a (b + c) sa sbc w sv
  have H17 := fun w => Sub_q (a + b) b sab sb w (by rw [Rat.add_sub_cancel]; exact sa)
  rw [Rat.add_sub_cancel] at H17
  have H19 := fun w (h : b ≠ 0) => Div_q (a * b) b sp sb w h (by rw [Rat.mul_div_cancel h]; exact sa)
  have H19' := fun w (h : b = 0) => Div_0 (a * b) b sp sb w h
  have H21 : ∀ w, Calls Tryd.prog 41 #[qV a, qV b] w fun e w' => e = .returned (.tuple #[.int .i64 (cmpQ a b), .int .i64 0]) ∧ Below w.heap.size w w' := fun w => Cmp_q a b sa sb w
  have H22 : ∀ w, Calls Tryd.prog 41 #[qV b, qV a] w fun e w' => e = .returned (.tuple #[.int .i64 (cmpQ b a), .int .i64 0]) ∧ Below w.heap.size w w' := fun w => Cmp_q b a sb sa w
  have H23 : ∀ w, Calls Tryd.prog 41 #[qV (a + b + c), qV (b + c)] w fun e w' => e = .returned (.tuple #[.int .i64 (cmpQ (a + b + c) (b + c)), .int .i64 0]) ∧ Below w.heap.size w w' := fun w => Cmp_q (a + b + c) (b + c) sl sbc w
  rw [cmpQ_add] at H23
  have H24 : ∀ w, Calls Tryd.prog 41 #[qV a, .agg #[.int .i64 0, .int .i64 1]] w fun e w' => e = .returned (.tuple #[.int .i64 (cmpQ a 0), .int .i64 0]) ∧ Below w.heap.size w w' := fun w => Cmp_q a 0 sa s0 w
  have HK : Hid ((cmpQ a b = -1 ∧ cmpQ b a = 1 ∧ ¬ (a.num = b.num ∧ (a.den : Int) = b.den)) ∨ (cmpQ a b = 1 ∧ cmpQ b a = -1 ∧ ¬ (a.num = b.num ∧ (a.den : Int) = b.den)) ∨ (cmpQ a b = 0 ∧ cmpQ b a = 0 ∧ a.num = b.num ∧ (a.den : Int) = b.den)) := by
    have hne : a ≠ b → ¬ (a.num = b.num ∧ (a.den : Int) = b.den) := fun h ⟨h1, h2⟩ => h (Rat.ext h1 (by omega))
    rcases cmpQ_cases a b with ⟨h1, h2, h3⟩ | ⟨h1, h2, h3⟩ | ⟨h1, h2, h3⟩
    · exact .inl ⟨h1, h2, hne h3⟩
    · exact .inr (.inl ⟨h1, h2, hne h3⟩)
    · exact .inr (.inr ⟨h1, h2, by rw [h3], by rw [h3]⟩)
  clear oa ob oc oab obc ol op ou ov sa sb sc sab sbc sl sp su sv s0
  unfold qV okQ at *
  have HD : Hid ((n2 ≠ 0 ∧ ∀ w, Calls Tryd.prog 26 #[.agg #[.int .i64 (a * b).num, .int .i64 (a * b).den], .agg #[.int .i64 b.num, .int .i64 b.den]] w fun e w' => e = .returned (.tuple #[.agg #[.int .i64 a.num, .int .i64 a.den], .int .i64 0]) ∧ Below w.heap.size w w') ∨
      (n2 = 0 ∧ ∀ w, Calls Tryd.prog 26 #[.agg #[.int .i64 (a * b).num, .int .i64 (a * b).den], .agg #[.int .i64 b.num, .int .i64 b.den]] w fun e w' => e = .returned (.tuple #[.agg #[.int .i64 0, .int .i64 0], .int .i64 1]) ∧ Below w.heap.size w w')) := by
    by_cases h : b = 0
    · exact .inr ⟨hb0.1 h, fun w => H19' w h⟩
    · refine .inl ⟨fun k => h (hb0.2 k), fun w => ?_⟩
      have := H19 w h
      rw [Rat.mul_div_cancel h] at this
      exact this
  clear H19 H19' hb0
  generalize hn_v : (a * (b + c)).num = vn at *
  generalize hd_v : ((a * (b + c)).den : Int) = vd at *
  generalize hn_p : (a * b).num = pn at *
  generalize hd_p : ((a * b).den : Int) = pd at *
  generalize hn_u : (a * c).num = un at *
  generalize hd_u : ((a * c).den : Int) = ud at *
  generalize hn_l : (a + b + c).num = ln at *
  generalize hd_l : ((a + b + c).den : Int) = ld at *
  generalize hn_s : (a + b).num = sn at *
  generalize hd_s : ((a + b).den : Int) = sd at *
  generalize hn_t : (b + c).num = tn at *
  generalize hd_t : ((b + c).den : Int) = td at *
  generalize hn_a : a.num = an at *
  generalize hd_a : (a.den : Int) = ad at *
  generalize hn_b : b.num = bn at *
  generalize hd_b : (b.den : Int) = bd at *
  generalize hn_c : c.num = cn at *
  generalize hd_c : (c.den : Int) = cd at *
  generalize hx1 : cmpQ a b = k1 at *
  generalize hx2 : cmpQ b a = k2 at *
  generalize hx3 : cmpQ a 0 = k3 at *
  clear hn_v hd_v hn_p hd_p hn_u hd_u hn_l hd_l hn_s hd_s hn_t hd_t hn_a hd_a hn_b hd_b hn_c hd_c hx1 hx2 hx3
  have J1 := Lib.hid H1
  clear H1
  have J2 := Lib.hid H2
  clear H2
  have J3 := Lib.hid H3
  clear H3
  have J4 := Lib.hid H4
  clear H4
  have J5 := Lib.hid H5
  clear H5
  have J6 := Lib.hid H6
  clear H6
  have J7 := Lib.hid H7
  clear H7
  have J8 := Lib.hid H8
  clear H8
  have J11 := Lib.hid H11
  clear H11
  have J12 := Lib.hid H12
  clear H12
  have J13 := Lib.hid H13
  clear H13
  have J14 := Lib.hid H14
  clear H14
  have J15 := Lib.hid H15
  clear H15
  have J17 := Lib.hid H17
  clear H17
  have J21 := Lib.hid H21
  clear H21
  have J22 := Lib.hid H22
  clear H22
  have J23 := Lib.hid H23
  clear H23
  have J24 := Lib.hid H24
  clear H24
  have hm1 : 0 ≤ d1 % 24 ∧ d1 % 24 ≤ 23 := by omega
  have hm2 : 0 ≤ d2 % 24 ∧ d2 % 24 ≤ 23 := by omega
  have hm3 : 0 ≤ d3 % 24 ∧ d3 % 24 ≤ 23 := by omega
  obtain ⟨ln1, un1⟩ := hn1
  obtain ⟨ln2, un2⟩ := hn2
  obtain ⟨ln3, un3⟩ := hn3
  obtain ⟨ld1, ud1⟩ := hd1
  obtain ⟨ld2, ud2⟩ := hd2
  obtain ⟨ld3, ud3⟩ := hd3
  have HB := Below.refl w.heap.size w
  go_enter Tryd.func10, Tryd.ntmps10
  go_wp2_with fail
  refine (J1.out _).mono ?_
  rintro e u1 ⟨rfl, hb1⟩
  replace HB := below_step HB hb1
  clear hb1
  go_wp2_with fail
  refine calls_named fun W1 hW1 => ?_
  have Pa := Pair.made hW1
  replace HB := below_step HB (below_named hW1)
  clear hW1
  refine (J2.out _).mono ?_
  rintro e u2 ⟨rfl, hb2⟩
  replace Pa := Pa.next hb2
  replace HB := below_step HB hb2
  clear hb2
  go_wp2_with fail
  refine calls_named fun W2 hW2 => ?_
  replace Pa := Pa.next (below_named hW2)
  have Pb := Pair.made hW2
  replace HB := below_step HB (below_named hW2)
  clear hW2
  refine (J3.out _).mono ?_
  rintro e u3 ⟨rfl, hb3⟩
  replace Pa := Pa.next hb3
  replace Pb := Pb.next hb3
  replace HB := below_step HB hb3
  clear hb3
  obtain ⟨Pa0, Pa1, Pa2⟩ := id Pa
  obtain ⟨Pb0, Pb1, Pb2⟩ := id Pb
  go_wp2_with fail
  refine calls_named fun W3 hW3 => ?_
  replace Pa := Pa.next (below_named hW3)
  replace Pb := Pb.next (below_named hW3)
  clear Pa0 Pa1 Pa2 Pb0 Pb1 Pb2
  have Pc := Pair.made hW3
  replace HB := below_step HB (below_named hW3)
  clear hW3
  refine (J4.out _).mono ?_
  rintro e u4 ⟨rfl, hb4⟩
  replace Pa := Pa.next hb4
  replace Pb := Pb.next hb4
  replace Pc := Pc.next hb4
  replace HB := below_step HB hb4
  clear hb4
  obtain ⟨Pb0, Pb1, Pb2⟩ := id Pb
  obtain ⟨Pa0, Pa1, Pa2⟩ := id Pa
  go_wp2_with fail
  refine calls_named fun W4 hW4 => ?_
  replace Pa := Pa.next (below_named hW4)
  replace Pb := Pb.next (below_named hW4)
  replace Pc := Pc.next (below_named hW4)
  clear Pb0 Pb1 Pb2 Pa0 Pa1 Pa2
  have Ps := Pair.made hW4
  replace HB := below_step HB (below_named hW4)
  clear hW4
  refine (J5.out _).mono ?_
  rintro e u5 ⟨rfl, hb5⟩
  replace Pa := Pa.next hb5
  replace Pb := Pb.next hb5
  replace Pc := Pc.next hb5
  replace Ps := Ps.next hb5
  replace HB := below_step HB hb5
  clear hb5
  obtain ⟨Pb0, Pb1, Pb2⟩ := id Pb
  obtain ⟨Pc0, Pc1, Pc2⟩ := id Pc
  go_wp2_with fail
  refine calls_named fun W5 hW5 => ?_
  replace Pa := Pa.next (below_named hW5)
  replace Pb := Pb.next (below_named hW5)
  replace Pc := Pc.next (below_named hW5)
  replace Ps := Ps.next (below_named hW5)
  clear Pb0 Pb1 Pb2 Pc0 Pc1 Pc2
  have Pr := Pair.made hW5
  replace HB := below_step HB (below_named hW5)
  clear hW5
  refine (J6.out _).mono ?_
  rintro e u6 ⟨rfl, hb6⟩
  replace Pa := Pa.next hb6
  replace Pb := Pb.next hb6
  replace Pc := Pc.next hb6
  replace Ps := Ps.next hb6
  replace Pr := Pr.next hb6
  replace HB := below_step HB hb6
  clear hb6
  obtain ⟨Ps0, Ps1, Ps2⟩ := id Ps
  obtain ⟨Pc0, Pc1, Pc2⟩ := id Pc
  go_wp2_with fail
  refine calls_named fun W6 hW6 => ?_
  replace Pa := Pa.next (below_named hW6)
  replace Pb := Pb.next (below_named hW6)
  replace Pc := Pc.next (below_named hW6)
  replace Ps := Ps.next (below_named hW6)
  replace Pr := Pr.next (below_named hW6)
  clear Ps0 Ps1 Ps2 Pc0 Pc1 Pc2
  have Pt := Pair.made hW6
  replace HB := below_step HB (below_named hW6)
  clear hW6
  refine (J7.out _).mono ?_
  rintro e u7 ⟨rfl, hb7⟩
  replace Pa := Pa.next hb7
  replace Pb := Pb.next hb7
  replace Pc := Pc.next hb7
  replace Ps := Ps.next hb7
  replace Pr := Pr.next hb7
  replace Pt := Pt.next hb7
  replace HB := below_step HB hb7
  clear hb7
  obtain ⟨Pa0, Pa1, Pa2⟩ := id Pa
  obtain ⟨Pt0, Pt1, Pt2⟩ := id Pt
  go_wp2_with fail
  refine calls_named fun W7 hW7 => ?_
  replace Pa := Pa.next (below_named hW7)
  replace Pb := Pb.next (below_named hW7)
  replace Pc := Pc.next (below_named hW7)
  replace Ps := Ps.next (below_named hW7)
  replace Pr := Pr.next (below_named hW7)
  replace Pt := Pt.next (below_named hW7)
  clear Pa0 Pa1 Pa2 Pt0 Pt1 Pt2
  have Pl := Pair.made hW7
  replace HB := below_step HB (below_named hW7)
  clear hW7
  refine (J8.out _).mono ?_
  rintro e u8 ⟨rfl, hb8⟩
  replace Pa := Pa.next hb8
  replace Pb := Pb.next hb8
  replace Pc := Pc.next hb8
  replace Ps := Ps.next hb8
  replace Pr := Pr.next hb8
  replace Pt := Pt.next hb8
  replace Pl := Pl.next hb8
  replace HB := below_step HB hb8
  clear hb8
  obtain ⟨Ps0, Ps1, Ps2⟩ := id Ps
  obtain ⟨Pr0, Pr1, Pr2⟩ := id Pr
  go_wp2_with fail
  refine calls_named fun W8 hW8 => ?_
  replace Pa := Pa.next (below_named hW8)
  replace Pb := Pb.next (below_named hW8)
  replace Pc := Pc.next (below_named hW8)
  replace Ps := Ps.next (below_named hW8)
  replace Pr := Pr.next (below_named hW8)
  replace Pt := Pt.next (below_named hW8)
  replace Pl := Pl.next (below_named hW8)
  clear Ps0 Ps1 Ps2 Pr0 Pr1 Pr2
  have Pk := Pair.made hW8
  replace HB := below_step HB (below_named hW8)
  clear hW8
  refine (equal_c _ _ _).mono ?_
  rintro e u9 ⟨rfl, hb9⟩
  replace Pa := Pa.next hb9
  replace Pb := Pb.next hb9
  replace Pc := Pc.next hb9
  replace Ps := Ps.next hb9
  replace Pr := Pr.next hb9
  replace Pt := Pt.next hb9
  replace Pl := Pl.next hb9
  replace Pk := Pk.next hb9
  replace HB := below_step HB hb9
  clear hb9
  obtain ⟨Pl0, Pl1, Pl2⟩ := id Pl
  obtain ⟨Pk0, Pk1, Pk2⟩ := id Pk
  go_wp2_with fail
  refine (equal_c _ _ _).mono ?_
  rintro e u10 ⟨rfl, hb10⟩
  clear Pl0 Pl1 Pl2 Pk0 Pk1 Pk2
  replace Pa := Pa.next hb10
  replace Pb := Pb.next hb10
  replace Pc := Pc.next hb10
  replace Ps := Ps.next hb10
  replace Pr := Pr.next hb10
  replace Pt := Pt.next hb10
  replace Pl := Pl.next hb10
  replace Pk := Pk.next hb10
  replace HB := below_step HB hb10
  clear hb10
  obtain ⟨Pa0, Pa1, Pa2⟩ := id Pa
  obtain ⟨Pb0, Pb1, Pb2⟩ := id Pb
  go_wp2_with fail
  refine (J11.out _).mono ?_
  rintro e u11 ⟨rfl, hb11⟩
  clear Pa0 Pa1 Pa2 Pb0 Pb1 Pb2
  replace Pa := Pa.next hb11
  replace Pb := Pb.next hb11
  replace Pc := Pc.next hb11
  replace Ps := Ps.next hb11
  replace Pr := Pr.next hb11
  replace Pt := Pt.next hb11
  replace Pl := Pl.next hb11
  replace Pk := Pk.next hb11
  replace HB := below_step HB hb11
  clear hb11
  obtain ⟨Pb0, Pb1, Pb2⟩ := id Pb
  obtain ⟨Pa0, Pa1, Pa2⟩ := id Pa
  go_wp2_with fail
  refine calls_named fun W11 hW11 => ?_
  replace Pa := Pa.next (below_named hW11)
  replace Pb := Pb.next (below_named hW11)
  replace Pc := Pc.next (below_named hW11)
  replace Ps := Ps.next (below_named hW11)
  replace Pr := Pr.next (below_named hW11)
  replace Pt := Pt.next (below_named hW11)
  replace Pl := Pl.next (below_named hW11)
  replace Pk := Pk.next (below_named hW11)
  clear Pb0 Pb1 Pb2 Pa0 Pa1 Pa2
  have Pp := Pair.made hW11
  replace HB := below_step HB (below_named hW11)
  clear hW11
  refine (J12.out _).mono ?_
  rintro e u12 ⟨rfl, hb12⟩
  replace Pa := Pa.next hb12
  replace Pb := Pb.next hb12
  replace Pc := Pc.next hb12
  replace Ps := Ps.next hb12
  replace Pr := Pr.next hb12
  replace Pt := Pt.next hb12
  replace Pl := Pl.next hb12
  replace Pk := Pk.next hb12
  replace Pp := Pp.next hb12
  replace HB := below_step HB hb12
  clear hb12
  obtain ⟨Pa0, Pa1, Pa2⟩ := id Pa
  obtain ⟨Pc0, Pc1, Pc2⟩ := id Pc
  go_wp2_with fail
  refine calls_named fun W12 hW12 => ?_
  replace Pa := Pa.next (below_named hW12)
  replace Pb := Pb.next (below_named hW12)
  replace Pc := Pc.next (below_named hW12)
  replace Ps := Ps.next (below_named hW12)
  replace Pr := Pr.next (below_named hW12)
  replace Pt := Pt.next (below_named hW12)
  replace Pl := Pl.next (below_named hW12)
  replace Pk := Pk.next (below_named hW12)
  replace Pp := Pp.next (below_named hW12)
  clear Pa0 Pa1 Pa2 Pc0 Pc1 Pc2
  have Pq := Pair.made hW12
  replace HB := below_step HB (below_named hW12)
  clear hW12
  refine (J13.out _).mono ?_
  rintro e u13 ⟨rfl, hb13⟩
  replace Pa := Pa.next hb13
  replace Pb := Pb.next hb13
  replace Pc := Pc.next hb13
  replace Ps := Ps.next hb13
  replace Pr := Pr.next hb13
  replace Pt := Pt.next hb13
  replace Pl := Pl.next hb13
  replace Pk := Pk.next hb13
  replace Pp := Pp.next hb13
  replace Pq := Pq.next hb13
  replace HB := below_step HB hb13
  clear hb13
  obtain ⟨Pp0, Pp1, Pp2⟩ := id Pp
  go_wp2_with fail
  refine calls_named fun W13 hW13 => ?_
  replace Pa := Pa.next (below_named hW13)
  replace Pb := Pb.next (below_named hW13)
  replace Pc := Pc.next (below_named hW13)
  replace Ps := Ps.next (below_named hW13)
  replace Pr := Pr.next (below_named hW13)
  replace Pt := Pt.next (below_named hW13)
  replace Pl := Pl.next (below_named hW13)
  replace Pk := Pk.next (below_named hW13)
  replace Pp := Pp.next (below_named hW13)
  replace Pq := Pq.next (below_named hW13)
  clear Pp0 Pp1 Pp2
  have Pu := Pair.made hW13
  replace HB := below_step HB (below_named hW13)
  clear hW13
  refine (J14.out _).mono ?_
  rintro e u14 ⟨rfl, hb14⟩
  replace Pa := Pa.next hb14
  replace Pb := Pb.next hb14
  replace Pc := Pc.next hb14
  replace Ps := Ps.next hb14
  replace Pr := Pr.next hb14
  replace Pt := Pt.next hb14
  replace Pl := Pl.next hb14
  replace Pk := Pk.next hb14
  replace Pp := Pp.next hb14
  replace Pq := Pq.next hb14
  replace Pu := Pu.next hb14
  replace HB := below_step HB hb14
  clear hb14
  obtain ⟨Pa0, Pa1, Pa2⟩ := id Pa
  obtain ⟨Pt0, Pt1, Pt2⟩ := id Pt
  go_wp2_with fail
  refine calls_named fun W14 hW14 => ?_
  replace Pa := Pa.next (below_named hW14)
  replace Pb := Pb.next (below_named hW14)
  replace Pc := Pc.next (below_named hW14)
  replace Ps := Ps.next (below_named hW14)
  replace Pr := Pr.next (below_named hW14)
  replace Pt := Pt.next (below_named hW14)
  replace Pl := Pl.next (below_named hW14)
  replace Pk := Pk.next (below_named hW14)
  replace Pp := Pp.next (below_named hW14)
  replace Pq := Pq.next (below_named hW14)
  replace Pu := Pu.next (below_named hW14)
  clear Pa0 Pa1 Pa2 Pt0 Pt1 Pt2
  have Pv := Pair.made hW14
  replace HB := below_step HB (below_named hW14)
  clear hW14
  refine (J15.out _).mono ?_
  rintro e u15 ⟨rfl, hb15⟩
  replace Pa := Pa.next hb15
  replace Pb := Pb.next hb15
  replace Pc := Pc.next hb15
  replace Ps := Ps.next hb15
  replace Pr := Pr.next hb15
  replace Pt := Pt.next hb15
  replace Pl := Pl.next hb15
  replace Pk := Pk.next hb15
  replace Pp := Pp.next hb15
  replace Pq := Pq.next hb15
  replace Pu := Pu.next hb15
  replace Pv := Pv.next hb15
  replace HB := below_step HB hb15
  clear hb15
  obtain ⟨Pp0, Pp1, Pp2⟩ := id Pp
  obtain ⟨Pq0, Pq1, Pq2⟩ := id Pq
  go_wp2_with fail
  refine calls_named fun W15 hW15 => ?_
  replace Pa := Pa.next (below_named hW15)
  replace Pb := Pb.next (below_named hW15)
  replace Pc := Pc.next (below_named hW15)
  replace Ps := Ps.next (below_named hW15)
  replace Pr := Pr.next (below_named hW15)
  replace Pt := Pt.next (below_named hW15)
  replace Pl := Pl.next (below_named hW15)
  replace Pk := Pk.next (below_named hW15)
  replace Pp := Pp.next (below_named hW15)
  replace Pq := Pq.next (below_named hW15)
  replace Pu := Pu.next (below_named hW15)
  replace Pv := Pv.next (below_named hW15)
  clear Pp0 Pp1 Pp2 Pq0 Pq1 Pq2
  have Px := Pair.made hW15
  replace HB := below_step HB (below_named hW15)
  clear hW15
  refine (equal_c _ _ _).mono ?_
  rintro e u16 ⟨rfl, hb16⟩
  replace Pa := Pa.next hb16
  replace Pb := Pb.next hb16
  replace Pc := Pc.next hb16
  replace Ps := Ps.next hb16
  replace Pr := Pr.next hb16
  replace Pt := Pt.next hb16
  replace Pl := Pl.next hb16
  replace Pk := Pk.next hb16
  replace Pp := Pp.next hb16
  replace Pq := Pq.next hb16
  replace Pu := Pu.next hb16
  replace Pv := Pv.next hb16
  replace Px := Px.next hb16
  replace HB := below_step HB hb16
  clear hb16
  obtain ⟨Pv0, Pv1, Pv2⟩ := id Pv
  obtain ⟨Px0, Px1, Px2⟩ := id Px
  obtain ⟨Ps0, Ps1, Ps2⟩ := id Ps
  obtain ⟨Pb0, Pb1, Pb2⟩ := id Pb
  go_wp2_with fail
  refine (J17.out _).mono ?_
  rintro e u17 ⟨rfl, hb17⟩
  clear Pv0 Pv1 Pv2 Px0 Px1 Px2 Ps0 Ps1 Ps2 Pb0 Pb1 Pb2
  replace Pa := Pa.next hb17
  replace Pb := Pb.next hb17
  replace Pc := Pc.next hb17
  replace Ps := Ps.next hb17
  replace Pr := Pr.next hb17
  replace Pt := Pt.next hb17
  replace Pl := Pl.next hb17
  replace Pk := Pk.next hb17
  replace Pp := Pp.next hb17
  replace Pq := Pq.next hb17
  replace Pu := Pu.next hb17
  replace Pv := Pv.next hb17
  replace Px := Px.next hb17
  replace HB := below_step HB hb17
  clear hb17
  obtain ⟨Pa0, Pa1, Pa2⟩ := id Pa
  go_wp2_with fail
  refine calls_named fun W17 hW17 => ?_
  replace Pa := Pa.next (below_named hW17)
  replace Pb := Pb.next (below_named hW17)
  replace Pc := Pc.next (below_named hW17)
  replace Ps := Ps.next (below_named hW17)
  replace Pr := Pr.next (below_named hW17)
  replace Pt := Pt.next (below_named hW17)
  replace Pl := Pl.next (below_named hW17)
  replace Pk := Pk.next (below_named hW17)
  replace Pp := Pp.next (below_named hW17)
  replace Pq := Pq.next (below_named hW17)
  replace Pu := Pu.next (below_named hW17)
  replace Pv := Pv.next (below_named hW17)
  replace Px := Px.next (below_named hW17)
  clear Pa0 Pa1 Pa2
  have Py := Pair.made hW17
  replace HB := below_step HB (below_named hW17)
  clear hW17
  refine (equal_c _ _ _).mono ?_
  rintro e u18 ⟨rfl, hb18⟩
  replace Pa := Pa.next hb18
  replace Pb := Pb.next hb18
  replace Pc := Pc.next hb18
  replace Ps := Ps.next hb18
  replace Pr := Pr.next hb18
  replace Pt := Pt.next hb18
  replace Pl := Pl.next hb18
  replace Pk := Pk.next hb18
  replace Pp := Pp.next hb18
  replace Pq := Pq.next hb18
  replace Pu := Pu.next hb18
  replace Pv := Pv.next hb18
  replace Px := Px.next hb18
  replace Py := Py.next hb18
  replace HB := below_step HB hb18
  clear hb18
  obtain ⟨Pp0, Pp1, Pp2⟩ := id Pp
  obtain ⟨Pb0, Pb1, Pb2⟩ := id Pb
  go_wp2_with fail
  rcases HD.out with ⟨hz, JD⟩ | ⟨hz, JD⟩
  · have e1 : (n2 != 0) = true := by simp [hz]
    have e2 : (n2 == 0) = false := by simp [hz]
    clear hz
    refine (JD _).mono ?_
    rintro e u19 ⟨rfl, hb19⟩
    clear Pp0 Pp1 Pp2 Pb0 Pb1 Pb2
    replace Pa := Pa.next hb19
    replace Pb := Pb.next hb19
    replace Pc := Pc.next hb19
    replace Ps := Ps.next hb19
    replace Pr := Pr.next hb19
    replace Pt := Pt.next hb19
    replace Pl := Pl.next hb19
    replace Pk := Pk.next hb19
    replace Pp := Pp.next hb19
    replace Pq := Pq.next hb19
    replace Pu := Pu.next hb19
    replace Pv := Pv.next hb19
    replace Px := Px.next hb19
    replace Py := Py.next hb19
    replace HB := below_step HB hb19
    clear hb19
    obtain ⟨Pa0, Pa1, Pa2⟩ := id Pa
    go_wp2_with fail
    refine calls_named fun W19 hW19 => ?_
    replace Pa := Pa.next (below_named hW19)
    replace Pb := Pb.next (below_named hW19)
    replace Pc := Pc.next (below_named hW19)
    replace Ps := Ps.next (below_named hW19)
    replace Pr := Pr.next (below_named hW19)
    replace Pt := Pt.next (below_named hW19)
    replace Pl := Pl.next (below_named hW19)
    replace Pk := Pk.next (below_named hW19)
    replace Pp := Pp.next (below_named hW19)
    replace Pq := Pq.next (below_named hW19)
    replace Pu := Pu.next (below_named hW19)
    replace Pv := Pv.next (below_named hW19)
    replace Px := Px.next (below_named hW19)
    replace Py := Py.next (below_named hW19)
    clear Pa0 Pa1 Pa2
    have Pz := Pair.made hW19
    replace HB := below_step HB (below_named hW19)
    clear hW19
    refine (equal_c _ _ _).mono ?_
    rintro e u20 ⟨rfl, hb20⟩
    replace Pa := Pa.next hb20
    replace Pb := Pb.next hb20
    replace Pc := Pc.next hb20
    replace Ps := Ps.next hb20
    replace Pr := Pr.next hb20
    replace Pt := Pt.next hb20
    replace Pl := Pl.next hb20
    replace Pk := Pk.next hb20
    replace Pp := Pp.next hb20
    replace Pq := Pq.next hb20
    replace Pu := Pu.next hb20
    replace Pv := Pv.next hb20
    replace Px := Px.next hb20
    replace Py := Py.next hb20
    replace Pz := Pz.next hb20
    replace HB := below_step HB hb20
    clear hb20
    obtain ⟨Pa0, Pa1, Pa2⟩ := id Pa
    obtain ⟨Pb0, Pb1, Pb2⟩ := id Pb
    go_wp2_with fail
    refine (J21.out _).mono ?_
    rintro e u21 ⟨rfl, hb21⟩
    clear Pa0 Pa1 Pa2 Pb0 Pb1 Pb2
    replace Pa := Pa.next hb21
    replace Pb := Pb.next hb21
    replace Pc := Pc.next hb21
    replace Ps := Ps.next hb21
    replace Pr := Pr.next hb21
    replace Pt := Pt.next hb21
    replace Pl := Pl.next hb21
    replace Pk := Pk.next hb21
    replace Pp := Pp.next hb21
    replace Pq := Pq.next hb21
    replace Pu := Pu.next hb21
    replace Pv := Pv.next hb21
    replace Px := Px.next hb21
    replace Py := Py.next hb21
    replace Pz := Pz.next hb21
    replace HB := below_step HB hb21
    clear hb21
    obtain ⟨Pb0, Pb1, Pb2⟩ := id Pb
    obtain ⟨Pa0, Pa1, Pa2⟩ := id Pa
    go_wp2_with fail
    refine (J22.out _).mono ?_
    rintro e u22 ⟨rfl, hb22⟩
    clear Pb0 Pb1 Pb2 Pa0 Pa1 Pa2
    replace Pa := Pa.next hb22
    replace Pb := Pb.next hb22
    replace Pc := Pc.next hb22
    replace Ps := Ps.next hb22
    replace Pr := Pr.next hb22
    replace Pt := Pt.next hb22
    replace Pl := Pl.next hb22
    replace Pk := Pk.next hb22
    replace Pp := Pp.next hb22
    replace Pq := Pq.next hb22
    replace Pu := Pu.next hb22
    replace Pv := Pv.next hb22
    replace Px := Px.next hb22
    replace Py := Py.next hb22
    replace Pz := Pz.next hb22
    replace HB := below_step HB hb22
    clear hb22
    obtain ⟨Pl0, Pl1, Pl2⟩ := id Pl
    obtain ⟨Pt0, Pt1, Pt2⟩ := id Pt
    go_wp2_with fail
    refine (J23.out _).mono ?_
    rintro e u23 ⟨rfl, hb23⟩
    clear Pl0 Pl1 Pl2 Pt0 Pt1 Pt2
    replace Pa := Pa.next hb23
    replace Pb := Pb.next hb23
    replace Pc := Pc.next hb23
    replace Ps := Ps.next hb23
    replace Pr := Pr.next hb23
    replace Pt := Pt.next hb23
    replace Pl := Pl.next hb23
    replace Pk := Pk.next hb23
    replace Pp := Pp.next hb23
    replace Pq := Pq.next hb23
    replace Pu := Pu.next hb23
    replace Pv := Pv.next hb23
    replace Px := Px.next hb23
    replace Py := Py.next hb23
    replace Pz := Pz.next hb23
    replace HB := below_step HB hb23
    clear hb23
    obtain ⟨Pa0, Pa1, Pa2⟩ := id Pa
    go_wp2_with fail
    refine (J24.out _).mono ?_
    rintro e u24 ⟨rfl, hb24⟩
    clear Pa0 Pa1 Pa2
    replace Pa := Pa.next hb24
    replace Pb := Pb.next hb24
    replace Pc := Pc.next hb24
    replace Ps := Ps.next hb24
    replace Pr := Pr.next hb24
    replace Pt := Pt.next hb24
    replace Pl := Pl.next hb24
    replace Pk := Pk.next hb24
    replace Pp := Pp.next hb24
    replace Pq := Pq.next hb24
    replace Pu := Pu.next hb24
    replace Pv := Pv.next hb24
    replace Px := Px.next hb24
    replace Py := Py.next hb24
    replace Pz := Pz.next hb24
    replace HB := below_step HB hb24
    clear hb24
    obtain ⟨Pa0, Pa1, Pa2⟩ := id Pa
    obtain ⟨Pb0, Pb1, Pb2⟩ := id Pb
    rcases HK.out with ⟨rfl, rfl, hne⟩ | ⟨rfl, rfl, hne⟩ | ⟨rfl, rfl, h1, h2⟩
    · go_wp2_with fail
      all_goals
        refine (awake_c _).mono ?_
        rintro e z ⟨rfl, hbz⟩
        go_wp2_with fail
        go_ret
        exact ⟨rfl, below_step HB hbz⟩
    · go_wp2_with fail
      all_goals
        refine (awake_c _).mono ?_
        rintro e z ⟨rfl, hbz⟩
        go_wp2_with fail
        go_ret
        exact ⟨rfl, below_step HB hbz⟩
    · go_wp2_with fail
      all_goals
        refine (awake_c _).mono ?_
        rintro e z ⟨rfl, hbz⟩
        go_wp2_with fail
        go_ret
        exact ⟨rfl, below_step HB hbz⟩
  · have e1 : (n2 != 0) = false := by rw [hz]; rfl
    have e2 : (n2 == 0) = true := by rw [hz]; rfl
    have hz0 := Lib.hid hz
    clear hz
    refine (JD _).mono ?_
    rintro e u19 ⟨rfl, hb19⟩
    clear Pp0 Pp1 Pp2 Pb0 Pb1 Pb2
    replace Pa := Pa.next hb19
    replace Pb := Pb.next hb19
    replace Pc := Pc.next hb19
    replace Ps := Ps.next hb19
    replace Pr := Pr.next hb19
    replace Pt := Pt.next hb19
    replace Pl := Pl.next hb19
    replace Pk := Pk.next hb19
    replace Pp := Pp.next hb19
    replace Pq := Pq.next hb19
    replace Pu := Pu.next hb19
    replace Pv := Pv.next hb19
    replace Px := Px.next hb19
    replace Py := Py.next hb19
    replace HB := below_step HB hb19
    clear hb19
    obtain ⟨Pa0, Pa1, Pa2⟩ := id Pa
    obtain ⟨Pb0, Pb1, Pb2⟩ := id Pb
    go_wp2_with fail
    refine calls_named fun W19 hW19 => ?_
    replace Pa := Pa.next (below_named hW19)
    replace Pb := Pb.next (below_named hW19)
    replace Pc := Pc.next (below_named hW19)
    replace Ps := Ps.next (below_named hW19)
    replace Pr := Pr.next (below_named hW19)
    replace Pt := Pt.next (below_named hW19)
    replace Pl := Pl.next (below_named hW19)
    replace Pk := Pk.next (below_named hW19)
    replace Pp := Pp.next (below_named hW19)
    replace Pq := Pq.next (below_named hW19)
    replace Pu := Pu.next (below_named hW19)
    replace Pv := Pv.next (below_named hW19)
    replace Px := Px.next (below_named hW19)
    replace Py := Py.next (below_named hW19)
    clear Pa0 Pa1 Pa2 Pb0 Pb1 Pb2
    have Pz := Pair.made hW19
    replace HB := below_step HB (below_named hW19)
    clear hW19
    refine (J21.out _).mono ?_
    rintro e u20 ⟨rfl, hb20⟩
    replace Pa := Pa.next hb20
    replace Pb := Pb.next hb20
    replace Pc := Pc.next hb20
    replace Ps := Ps.next hb20
    replace Pr := Pr.next hb20
    replace Pt := Pt.next hb20
    replace Pl := Pl.next hb20
    replace Pk := Pk.next hb20
    replace Pp := Pp.next hb20
    replace Pq := Pq.next hb20
    replace Pu := Pu.next hb20
    replace Pv := Pv.next hb20
    replace Px := Px.next hb20
    replace Py := Py.next hb20
    replace Pz := Pz.next hb20
    replace HB := below_step HB hb20
    clear hb20
    obtain ⟨Pb0, Pb1, Pb2⟩ := id Pb
    obtain ⟨Pa0, Pa1, Pa2⟩ := id Pa
    go_wp2_with fail
    refine (J22.out _).mono ?_
    rintro e u21 ⟨rfl, hb21⟩
    clear Pb0 Pb1 Pb2 Pa0 Pa1 Pa2
    replace Pa := Pa.next hb21
    replace Pb := Pb.next hb21
    replace Pc := Pc.next hb21
    replace Ps := Ps.next hb21
    replace Pr := Pr.next hb21
    replace Pt := Pt.next hb21
    replace Pl := Pl.next hb21
    replace Pk := Pk.next hb21
    replace Pp := Pp.next hb21
    replace Pq := Pq.next hb21
    replace Pu := Pu.next hb21
    replace Pv := Pv.next hb21
    replace Px := Px.next hb21
    replace Py := Py.next hb21
    replace Pz := Pz.next hb21
    replace HB := below_step HB hb21
    clear hb21
    obtain ⟨Pl0, Pl1, Pl2⟩ := id Pl
    obtain ⟨Pt0, Pt1, Pt2⟩ := id Pt
    go_wp2_with fail
    refine (J23.out _).mono ?_
    rintro e u22 ⟨rfl, hb22⟩
    clear Pl0 Pl1 Pl2 Pt0 Pt1 Pt2
    replace Pa := Pa.next hb22
    replace Pb := Pb.next hb22
    replace Pc := Pc.next hb22
    replace Ps := Ps.next hb22
    replace Pr := Pr.next hb22
    replace Pt := Pt.next hb22
    replace Pl := Pl.next hb22
    replace Pk := Pk.next hb22
    replace Pp := Pp.next hb22
    replace Pq := Pq.next hb22
    replace Pu := Pu.next hb22
    replace Pv := Pv.next hb22
    replace Px := Px.next hb22
    replace Py := Py.next hb22
    replace Pz := Pz.next hb22
    replace HB := below_step HB hb22
    clear hb22
    obtain ⟨Pa0, Pa1, Pa2⟩ := id Pa
    go_wp2_with fail
    refine (J24.out _).mono ?_
    rintro e u23 ⟨rfl, hb23⟩
    clear Pa0 Pa1 Pa2
    replace Pa := Pa.next hb23
    replace Pb := Pb.next hb23
    replace Pc := Pc.next hb23
    replace Ps := Ps.next hb23
    replace Pr := Pr.next hb23
    replace Pt := Pt.next hb23
    replace Pl := Pl.next hb23
    replace Pk := Pk.next hb23
    replace Pp := Pp.next hb23
    replace Pq := Pq.next hb23
    replace Pu := Pu.next hb23
    replace Pv := Pv.next hb23
    replace Px := Px.next hb23
    replace Py := Py.next hb23
    replace Pz := Pz.next hb23
    replace HB := below_step HB hb23
    clear hb23
    obtain ⟨Pa0, Pa1, Pa2⟩ := id Pa
    obtain ⟨Pb0, Pb1, Pb2⟩ := id Pb
    rcases HK.out with ⟨rfl, rfl, hne⟩ | ⟨rfl, rfl, hne⟩ | ⟨rfl, rfl, h1, h2⟩
    · go_wp2_with fail
      all_goals
        refine (awake_c _).mono ?_
        rintro e z ⟨rfl, hbz⟩
        go_wp2_with fail
        go_ret
        exact ⟨rfl, below_step HB hbz⟩
    · go_wp2_with fail
      all_goals
        refine (awake_c _).mono ?_
        rintro e z ⟨rfl, hbz⟩
        go_wp2_with fail
        go_ret
        exact ⟨rfl, below_step HB hbz⟩
    · go_wp2_with fail
      all_goals
        refine (awake_c _).mono ?_
        rintro e z ⟨rfl, hbz⟩
        go_wp2_with fail
        go_ret
        exact ⟨rfl, below_step HB hbz⟩
end Go.Proofs.YtkhikdiaaiddaaaDoor
