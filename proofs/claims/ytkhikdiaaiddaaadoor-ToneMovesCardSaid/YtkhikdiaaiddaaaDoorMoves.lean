/-
  The walk of custoslaw05.ToneMoves: transposition is an action of intervals. Conditions: the arguments are of their types.
-/
import Derived.Test.YtkhikdiaaiddaaaDoorMovesLaw
import Derived.Test.YtkhikdiaaiddaaaDoorRef4
import Derived.Test.YtkhikdiaaiddaaaDoorAwake
namespace Go.Proofs.YtkhikdiaaiddaaaDoor
open Go.RowKit
set_option linter.unusedSimpArgs false
set_option linter.unusedVariables false

theorem tmodB (k n : Int) (hn : 0 < n) : -n < k.tmod n ∧ k.tmod n < n := by
  have h1 := Int.tmod_lt_of_pos k hn
  have h2 := Int.lt_tmod_of_pos k hn
  omega
abbrev TrC (s a st se x y z : Int) : Prop := ∀ w, Calls Tryd.prog 44 #[.agg #[.int .i64 s, .int .i64 a], .agg #[.int .i64 st, .int .i64 se]] w fun e w' => e = .returned (.tuple #[.agg #[.int .i64 x, .int .i64 y], .int .i64 z]) ∧ Below w.heap.size w w'
abbrev BtC (s a c d x y z : Int) : Prop := ∀ w, Calls Tryd.prog 45 #[.agg #[.int .i64 s, .int .i64 a], .agg #[.int .i64 c, .int .i64 d]] w fun e w' => e = .returned (.tuple #[.agg #[.int .i64 x, .int .i64 y], .int .i64 z]) ∧ Below w.heap.size w w'
abbrev StC (c s a x : Int) : Prop := ∀ w, Calls Tryd.prog 46 #[.int .i64 c, .agg #[.int .i64 s, .int .i64 a]] w fun e w' => e = .returned (.tuple #[.int .i64 x, .int .i64 0]) ∧ Below w.heap.size w w'
abbrev AlC (k s x : Int) : Prop := ∀ w, Calls Tryd.prog 48 #[.int .i64 k, .int .i64 s] w fun e w' => e = .returned (.tuple #[.int .i64 x, .int .i64 0]) ∧ Below w.heap.size w w'
abbrev KyC (k st se x z : Int) : Prop := ∀ w, Calls Tryd.prog 47 #[.int .i64 k, .agg #[.int .i64 st, .int .i64 se]] w fun e w' => e = .returned (.tuple #[.int .i64 x, .int .i64 z]) ∧ Below w.heap.size w w'
theorem TrC_of {s a st se x y z : Int} (hn : nearP st se) (h : trOf s a st se = (x, y, z)) : TrC s a st se x y z := fun w => by
  obtain ⟨n1, n2, n3, n4⟩ := hn
  have H := Transpose_c s a st se w ⟨by omega, by omega⟩ ⟨by omega, by omega⟩
  rw [h] at H
  exact H
theorem BtC_of {s a c d x y : Int} (h : goodP s a) (k : goodP c d) (hx : c - s = x) (hy : nat7 c + d - (nat7 s + a) = y) : BtC s a c d x y 0 := fun w => by
  obtain ⟨e1, e2, e3⟩ := bt_good h k
  have H := Between_c s a c d w
  rw [e1, e2, e3, hx, hy] at H
  exact H
/-- the first half: what becomes of two pitches and two intervals -/
theorem moves_first {s a r b st se st2 se2 : Int} (c : Int) (hs : goodP s a) (hr : goodP r b) (hn : nearP st se) (hn2 : nearP st2 se2) (hn3 : nearP (st + st2) (se + se2)) (c1 : 1 ≤ c) (c3 : c ≤ 3) :
    (∃ te t1 t2, te ≠ 0 ∧ TrC s a st se t1 t2 te) ∨
    (∃ x o1 o2 oe m1 m2 me y1 y2 ye, TrC s a st se (s + st) x 0 ∧ TrC (s + st) x (-st) (-se) s a 0 ∧ BtC s a (s + st) x st se 0 ∧ TrC (s + st) x st2 se2 o1 o2 oe ∧ TrC s a (st + st2) (se + se2) m1 m2 me ∧
      ((oe = 0 ∧ m1 = o1 ∧ m2 = o2 ∧ me = 0) ∨ oe ≠ 0) ∧ TrC r b st se y1 y2 ye ∧
      ((ye = 0 ∧ y1 = r + st ∧ (∃ g h, BtC s a r b g h 0 ∧ BtC (s + st) x y1 y2 g h 0) ∧ StC c s a (s - (36 - 6 * c)) ∧ StC c r b (r - (36 - 6 * c)) ∧ StC c (s + st) x (s + st - (36 - 6 * c)) ∧ StC c y1 y2 (y1 - (36 - 6 * c))) ∨ ye ≠ 0)) := by
  obtain ⟨⟨t1, t2, te⟩, ht⟩ : ∃ o, trOf s a st se = o := ⟨_, rfl⟩
  by_cases h : te = 0
  · subst h
    right
    have hz : (trOf s a st se).2.2 = 0 := by rw [ht]
    obtain ⟨_, _, t0, t1, x0, x1, e⟩ := trOf_ok hz
    have gt : goodP (s + st) (nat7 s + a + se - nat7 (s + st)) := ⟨t0, t1, x0, x1⟩
    have hback := trOf_back hz
    have hsum := fun k => trOf_sum (st2 := st2) (se2 := se2) hz hn3 k
    obtain ⟨x, hx⟩ : ∃ x, nat7 s + a + se - nat7 (s + st) = x := ⟨_, rfl⟩
    rw [hx] at e gt hback hsum
    obtain ⟨⟨o1, o2, oe⟩, ho⟩ : ∃ o, trOf (s + st) x st2 se2 = o := ⟨_, rfl⟩
    obtain ⟨⟨m1, m2, me⟩, hm⟩ : ∃ o, trOf s a (st + st2) (se + se2) = o := ⟨_, rfl⟩
    obtain ⟨⟨y1, y2, ye⟩, hy⟩ : ∃ o, trOf r b st se = o := ⟨_, rfl⟩
    refine ⟨x, o1, o2, oe, m1, m2, me, y1, y2, ye, TrC_of hn e, TrC_of ⟨by have := hn.2.1; omega, by have := hn.1; omega, by have := hn.2.2.2; omega, by have := hn.2.2.1; omega⟩ hback, BtC_of hs gt (by omega) (by omega), TrC_of hn2 ho, TrC_of hn3 hm, ?_, TrC_of hn hy, ?_⟩
    · by_cases k : oe = 0
      · subst k
        have := hsum (by rw [ho])
        rw [ho, hm] at this
        injection this with e1 e2
        injection e2 with e2 e3
        exact .inl ⟨rfl, e1, e2, e3⟩
      · exact .inr k
    · by_cases k : ye = 0
      · subst k
        obtain ⟨_, _, u0, u1, y0, y1', e2⟩ := trOf_ok (show (trOf r b st se).2.2 = 0 by rw [hy])
        left
        rw [hy] at e2
        injection e2 with e3 e4
        injection e4 with e4 _
        subst e3
        have gu : goodP (r + st) y2 := ⟨u0, u1, by omega, by omega⟩
        exact ⟨rfl, rfl, ⟨r - s, nat7 r + b - (nat7 s + a), BtC_of hs hr rfl rfl, BtC_of gt gu (by omega) (by omega)⟩, fun w => Staff_yes c s a w c1 c3 hs, fun w => Staff_yes c r b w c1 c3 hr, fun w => Staff_yes c _ _ w c1 c3 gt, fun w => Staff_yes c _ _ w c1 c3 gu⟩
      · exact .inr k
  · exact .inl ⟨te, t1, t2, h, TrC_of hn ht⟩
/-- the second half: keys -/
theorem moves_second {k s st se : Int} (k0 : -4 ≤ k) (k1 : k ≤ 4) (g0 : 0 ≤ s) (g1 : s < 70) (hn : nearP st se) :
    ∃ kn ke al z1 z2 ze, KyC k st se kn ke ∧ AlC k s al ∧ TrC s al st se z1 z2 ze ∧ ((ke = 0 ∧ 0 ≤ s + st ∧ s + st < 70 ∧ ze = 0 ∧ AlC kn (s + st) z2) ∨ ke ≠ 0 ∨ (ke = 0 ∧ s + st < 0) ∨ (ke = 0 ∧ 0 ≤ s + st ∧ 70 ≤ s + st)) := by
  obtain ⟨⟨z1, z2, ze⟩, hz⟩ : ∃ o, trOf s (keyAlt k s) st se = o := ⟨_, rfl⟩
  refine ⟨_, _, keyAlt k s, z1, z2, ze, fun w => Key_c k st se w ⟨by have := hn.1; omega, by have := hn.2.1; omega⟩ ⟨by have := hn.2.2.1; omega, by have := hn.2.2.2; omega⟩, fun w => Alter_c k s w k0 k1 g0 g1, TrC_of hn hz, ?_⟩
  by_cases h : keyE k st se = 0
  · have hl : -4 ≤ k + 7 * se - 12 * st ∧ k + 7 * se - 12 * st ≤ 4 := by
      unfold keyE at h
      rw [if_neg (fun x => x hn), if_neg (fun x => x ⟨k0, k1⟩)] at h
      by_cases hl : -4 ≤ k + 7 * se - 12 * st ∧ k + 7 * se - 12 * st ≤ 4
      · exact hl
      · rw [if_pos hl] at h; cases h
    by_cases t0 : 0 ≤ s + st
    · by_cases t1 : s + st < 70
      · left
        have e := trOf_key hn g0 g1 t0 t1 k0 k1 hl.1 hl.2
        have en : keyN k st se = k + 7 * se - 12 * st := by unfold keyN; rw [if_pos h]
        rw [hz] at e
        injection e with e1 e2
        injection e2 with e2 e3
        rw [en, e2]
        exact ⟨h, t0, t1, e3, fun w => Alter_c _ _ w hl.1 hl.2 t0 t1⟩
      · exact .inr (.inr (.inr ⟨h, t0, by omega⟩))
    · exact .inr (.inr (.inl ⟨h, by omega⟩))
  · exact .inr (.inl h)

set_option maxRecDepth 100000 in
set_option maxHeartbeats 8000000 in
theorem Moves_walk (one two alters s1 m1 s2 m2 key clef : Int) (w : World) (h1 : 0 ≤ one ∧ one ≤ 255) (h2 : 0 ≤ two ∧ two ≤ 255) (h3 : 0 ≤ alters ∧ alters ≤ 255) (h4 : -128 ≤ s1 ∧ s1 ≤ 127) (h5 : -128 ≤ m1 ∧ m1 ≤ 127) (h6 : -128 ≤ s2 ∧ s2 ≤ 127) (h7 : -128 ≤ m2 ∧ m2 ≤ 127) (h8 : -128 ≤ key ∧ key ≤ 127) (h9 : 0 ≤ clef ∧ clef ≤ 255) :
    Calls Tryd.prog 12 #[.int .u8 one, .int .u8 two, .int .u8 alters, .int .i8 s1, .int .i8 m1, .int .i8 s2, .int .i8 m2, .int .i8 key, .int .u8 clef] w fun e w' => e = .returned (.bool true) ∧ Below w.heap.size w w' := by
  obtain ⟨one0, one1⟩ := h1
  obtain ⟨two0, two1⟩ := h2
  obtain ⟨al0, al1⟩ := h3
  obtain ⟨c0, c1⟩ := h9
  obtain ⟨bs1, bs2⟩ := tmodB s1 15 (by decide)
  obtain ⟨bm1, bm2⟩ := tmodB m1 25 (by decide)
  obtain ⟨bt1, bt2⟩ := tmodB s2 15 (by decide)
  obtain ⟨bn1, bn2⟩ := tmodB m2 25 (by decide)
  obtain ⟨bk1, bk2⟩ := tmodB key 5 (by decide)
  have bo1 : 0 ≤ one % 70 ∧ one % 70 < 70 := by omega
  have bo2 : 0 ≤ two % 70 ∧ two % 70 < 70 := by omega
  have bo3 : 0 ≤ alters % 3 ∧ alters % 3 < 3 := by omega
  have bo4 : 0 ≤ alters / 3 % 3 ∧ alters / 3 % 3 < 3 := by omega
  have bo5 : 0 ≤ clef % 3 ∧ clef % 3 < 3 := by omega
  generalize hst : s1.tmod 15 = st at *
  generalize hse : m1.tmod 25 = se at *
  generalize hst2 : s2.tmod 15 = st2 at *
  generalize hse2 : m2.tmod 25 = se2 at *
  generalize hk : key.tmod 5 = k at *
  generalize hs : one % 70 = s at *
  generalize hr : two % 70 = r at *
  generalize ha : alters % 3 = a at *
  generalize hb : alters / 3 % 3 = b at *
  generalize hcl : clef % 3 = c at *
  obtain ⟨s0, s1'⟩ := bo1
  obtain ⟨r0, r1⟩ := bo2
  obtain ⟨a0, a1⟩ := bo3
  obtain ⟨b0, b1⟩ := bo4
  obtain ⟨q0, q1⟩ := bo5
  have M1 := Lib.hid (moves_first (s := s) (a := a - 1) (r := r) (b := b - 1) (st := st) (se := se) (st2 := st2) (se2 := se2) (1 + c) ⟨s0, s1', by omega, by omega⟩ ⟨r0, r1, by omega, by omega⟩ ⟨by omega, by omega, by omega, by omega⟩ ⟨by omega, by omega, by omega, by omega⟩ ⟨by omega, by omega, by omega, by omega⟩ (by omega) (by omega))
  have M2 := Lib.hid (moves_second (k := k) (s := s) (st := st) (se := se) (by omega) (by omega) s0 s1' ⟨by omega, by omega, by omega, by omega⟩)
  have HB := Below.refl w.heap.size w
  clear h4 h5 h6 h7
  obtain ⟨ky0, ky1⟩ := h8
  go_enter Tryd.func12, Tryd.ntmps12
  go_wp2_with fail
  refine calls_named fun W0 hW0 => ?_
  have Pp : Pair W0 w.heap.size s (a - 1) := by rw [hW0]; exact ⟨by go_simp, by go_simp, by simp; omega, by go_simp, by go_simp⟩
  have Pq : Pair W0 (w.heap.size + 1) r (b - 1) := by rw [hW0]; exact ⟨by go_simp, by go_simp, by simp, by go_simp, by go_simp⟩
  have Pi : Pair W0 (w.heap.size + 1 + 1) st se := by rw [hW0]; exact ⟨by go_simp, by go_simp, by simp, by go_simp, by go_simp⟩
  have Pj : Pair W0 (w.heap.size + 1 + 1 + 1) st2 se2 := by rw [hW0]; exact ⟨by go_simp, by go_simp, by simp, by go_simp, by go_simp⟩
  replace HB : Below w.heap.size w W0 := by rw [hW0]; go_grown
  clear hW0
  obtain ⟨kn, ke, al, z1, z2, ze, K1, K2, K3, HZ⟩ := M2.out
  have L1 := Lib.hid K1
  have L2 := Lib.hid K2
  have L3 := Lib.hid K3
  have LZ := Lib.hid HZ
  clear M2 K1 K2 K3 HZ
  rcases M1.out with ⟨te, t1, t2, hte, J1⟩ | ⟨x, o1, o2, oe, m1, m2, me, y1, y2, ye, J1, J2, J3, J4, J5, HO, J6, HX⟩
  · have hteb : (te == 0) = false := beq_eq_false_iff_ne.2 hte
    have I1 := Lib.hid J1
    clear J1 hte M1
    refine (I1.out _).mono ?_
    rintro e u1 ⟨rfl, hb1⟩
    replace Pp := Pp.next hb1
    replace Pq := Pq.next hb1
    replace Pi := Pi.next hb1
    replace Pj := Pj.next hb1
    replace HB := below_step HB hb1
    clear hb1
    have hu1 : w.heap.size ≤ u1.heap.size := HB.size
    have hu2 : w.heap.size + 1 + 1 + 1 < u1.heap.size := Pj.lt
    obtain ⟨Pp0, Pp1, Pp2, _, _⟩ := id Pp
    obtain ⟨Pi0, Pi1, Pi2, _, _⟩ := id Pi
    go_wp2_with fail
    refine calls_named fun W1 hW1 => ?_
    replace Pp := Pp.next (below_named hW1)
    replace Pq := Pq.next (below_named hW1)
    replace Pi := Pi.next (below_named hW1)
    replace Pj := Pj.next (below_named hW1)
    clear Pp0 Pp1 Pp2 Pi0 Pi1 Pi2
    have Pt := Pair.made hW1
    replace HB := below_step HB (below_named hW1)
    clear hW1
    refine (L1.out _).mono ?_
    rintro e u2 ⟨rfl, hb2⟩
    replace Pp := Pp.next hb2
    replace Pq := Pq.next hb2
    replace Pi := Pi.next hb2
    replace Pj := Pj.next hb2
    replace Pt := Pt.next hb2
    replace HB := below_step HB hb2
    clear hb2
    obtain ⟨Pp0, Pp1, Pp2, _, _⟩ := id Pp
    go_wp2_with fail
    refine (L2.out _).mono ?_
    rintro e u3 ⟨rfl, hb3⟩
    clear Pp0 Pp1 Pp2
    replace Pp := Pp.next hb3
    replace Pq := Pq.next hb3
    replace Pi := Pi.next hb3
    replace Pj := Pj.next hb3
    replace Pt := Pt.next hb3
    replace HB := below_step HB hb3
    clear hb3
    obtain ⟨Pi0, Pi1, Pi2, _, _⟩ := id Pi
    obtain ⟨Pp0, Pp1, Pp2, Pp3, Pp4⟩ := id Pp
    go_wp2_with fail
    refine calls_named fun V3 hV3 => ?_
    clear Pq
    replace Pi := Pi.off1 (by omega) hV3
    clear Pj
    replace Pt := Pt.off1 (by omega) hV3
    replace Pp := Pp.set1 hV3
    replace HB := below_set1 HB (Nat.le_refl _) hV3
    clear Pi0 Pi1 Pi2 Pp0 Pp1 Pp2 Pp3 Pp4
    clear hV3
    refine (L3.out _).mono ?_
    rintro e u4 ⟨rfl, hb4⟩
    replace Pp := Pp.next hb4
    replace Pi := Pi.next hb4
    replace Pt := Pt.next hb4
    replace HB := below_step HB hb4
    clear hb4
    rcases LZ.out with ⟨rfl, t0, t1, rfl, L4⟩ | hke | ⟨rfl, t0⟩ | ⟨rfl, t0, t1⟩
    · have L5 := Lib.hid L4
      clear L4
      obtain ⟨Pp0, Pp1, Pp2, _, _⟩ := id Pp
      obtain ⟨Pi0, Pi1, Pi2, _, _⟩ := id Pi
      obtain ⟨Pt0, Pt1, Pt2, Pt3, Pt4⟩ := id Pt
      go_wp2_with fail
      refine calls_named fun V4 hV4 => ?_
      clear Pp
      clear Pi
      replace Pt := Pt.set01 hV4
      replace HB := below_set01 HB hu1 hV4
      clear Pp0 Pp1 Pp2 Pi0 Pi1 Pi2 Pt0 Pt1 Pt2 Pt3 Pt4
      clear hV4
      refine (L5.out _).mono ?_
      rintro e u5 ⟨rfl, hb5⟩
      replace Pt := Pt.next hb5
      replace HB := below_step HB hb5
      clear hb5
      obtain ⟨Pt0, Pt1, Pt2, _, _⟩ := id Pt
      go_wp2_with fail
      refine (awake_c _).mono ?_
      rintro e z ⟨rfl, hbz⟩
      go_wp2_with fail
      go_ret
      exact ⟨rfl, below_step HB hbz⟩
    · have hkb : (ke == 0) = false := beq_eq_false_iff_ne.2 hke
      clear hke
      obtain ⟨Pp0, Pp1, Pp2, _, _⟩ := id Pp
      obtain ⟨Pi0, Pi1, Pi2, _, _⟩ := id Pi
      obtain ⟨Pt0, Pt1, Pt2, Pt3, Pt4⟩ := id Pt
      go_wp2_with fail
      refine calls_named fun V4 hV4 => ?_
      clear Pp
      clear Pi
      replace Pt := Pt.set01 hV4
      replace HB := below_set01 HB hu1 hV4
      clear Pp0 Pp1 Pp2 Pi0 Pi1 Pi2 Pt0 Pt1 Pt2 Pt3 Pt4
      clear hV4
      refine (awake_c _).mono ?_
      rintro e z ⟨rfl, hbz⟩
      go_wp2_with fail
      go_ret
      exact ⟨rfl, below_step HB hbz⟩
    · skip
      obtain ⟨Pp0, Pp1, Pp2, _, _⟩ := id Pp
      obtain ⟨Pi0, Pi1, Pi2, _, _⟩ := id Pi
      obtain ⟨Pt0, Pt1, Pt2, Pt3, Pt4⟩ := id Pt
      go_wp2_with fail
      refine calls_named fun V4 hV4 => ?_
      clear Pp
      clear Pi
      replace Pt := Pt.set01 hV4
      replace HB := below_set01 HB hu1 hV4
      clear Pp0 Pp1 Pp2 Pi0 Pi1 Pi2 Pt0 Pt1 Pt2 Pt3 Pt4
      clear hV4
      refine (awake_c _).mono ?_
      rintro e z ⟨rfl, hbz⟩
      go_wp2_with fail
      go_ret
      exact ⟨rfl, below_step HB hbz⟩
    · skip
      obtain ⟨Pp0, Pp1, Pp2, _, _⟩ := id Pp
      obtain ⟨Pi0, Pi1, Pi2, _, _⟩ := id Pi
      obtain ⟨Pt0, Pt1, Pt2, Pt3, Pt4⟩ := id Pt
      go_wp2_with fail
      refine calls_named fun V4 hV4 => ?_
      clear Pp
      clear Pi
      replace Pt := Pt.set01 hV4
      replace HB := below_set01 HB hu1 hV4
      clear Pp0 Pp1 Pp2 Pi0 Pi1 Pi2 Pt0 Pt1 Pt2 Pt3 Pt4
      clear hV4
      refine (awake_c _).mono ?_
      rintro e z ⟨rfl, hbz⟩
      go_wp2_with fail
      go_ret
      exact ⟨rfl, below_step HB hbz⟩
  · have I1 := Lib.hid J1
    have I2 := Lib.hid J2
    have I3 := Lib.hid J3
    have I4 := Lib.hid J4
    have I5 := Lib.hid J5
    have I6 := Lib.hid J6
    have IO := Lib.hid HO
    have IX := Lib.hid HX
    clear J1 J2 J3 J4 J5 J6 HO HX M1
    refine (I1.out _).mono ?_
    rintro e u1 ⟨rfl, hb1⟩
    replace Pp := Pp.next hb1
    replace Pq := Pq.next hb1
    replace Pi := Pi.next hb1
    replace Pj := Pj.next hb1
    replace HB := below_step HB hb1
    clear hb1
    have hu1 : w.heap.size ≤ u1.heap.size := HB.size
    have hu2 : w.heap.size + 1 + 1 + 1 < u1.heap.size := Pj.lt
    obtain ⟨Pi0, Pi1, Pi2, _, _⟩ := id Pi
    go_wp2_with fail
    refine calls_named fun W1 hW1 => ?_
    replace Pp := Pp.next (below_named hW1)
    replace Pq := Pq.next (below_named hW1)
    replace Pi := Pi.next (below_named hW1)
    replace Pj := Pj.next (below_named hW1)
    clear Pi0 Pi1 Pi2
    have Pt := Pair.made hW1
    replace HB := below_step HB (below_named hW1)
    clear hW1
    refine (I2.out _).mono ?_
    rintro e u2 ⟨rfl, hb2⟩
    replace Pp := Pp.next hb2
    replace Pq := Pq.next hb2
    replace Pi := Pi.next hb2
    replace Pj := Pj.next hb2
    replace Pt := Pt.next hb2
    replace HB := below_step HB hb2
    clear hb2
    obtain ⟨Pp0, Pp1, Pp2, _, _⟩ := id Pp
    obtain ⟨Pt0, Pt1, Pt2, _, _⟩ := id Pt
    go_wp2_with fail
    refine calls_named fun W2 hW2 => ?_
    replace Pp := Pp.next (below_named hW2)
    replace Pq := Pq.next (below_named hW2)
    replace Pi := Pi.next (below_named hW2)
    replace Pj := Pj.next (below_named hW2)
    replace Pt := Pt.next (below_named hW2)
    clear Pp0 Pp1 Pp2 Pt0 Pt1 Pt2
    have Pback := Pair.made hW2
    replace HB := below_step HB (below_named hW2)
    clear hW2
    refine (I3.out _).mono ?_
    rintro e u3 ⟨rfl, hb3⟩
    replace Pp := Pp.next hb3
    replace Pq := Pq.next hb3
    replace Pi := Pi.next hb3
    replace Pj := Pj.next hb3
    replace Pt := Pt.next hb3
    replace Pback := Pback.next hb3
    replace HB := below_step HB hb3
    clear hb3
    obtain ⟨Pback0, Pback1, Pback2, _, _⟩ := id Pback
    obtain ⟨Pp0, Pp1, Pp2, _, _⟩ := id Pp
    obtain ⟨Pi0, Pi1, Pi2, _, _⟩ := id Pi
    obtain ⟨Pt0, Pt1, Pt2, _, _⟩ := id Pt
    obtain ⟨Pj0, Pj1, Pj2, _, _⟩ := id Pj
    go_wp2_with fail
    refine calls_named fun W3 hW3 => ?_
    replace Pp := Pp.next (below_named hW3)
    replace Pq := Pq.next (below_named hW3)
    replace Pi := Pi.next (below_named hW3)
    replace Pj := Pj.next (below_named hW3)
    replace Pt := Pt.next (below_named hW3)
    replace Pback := Pback.next (below_named hW3)
    clear Pback0 Pback1 Pback2 Pp0 Pp1 Pp2 Pi0 Pi1 Pi2 Pt0 Pt1 Pt2 Pj0 Pj1 Pj2
    have Pgap := Pair.made hW3
    replace HB := below_step HB (below_named hW3)
    clear hW3
    refine (I4.out _).mono ?_
    rintro e u4 ⟨rfl, hb4⟩
    replace Pp := Pp.next hb4
    replace Pq := Pq.next hb4
    replace Pi := Pi.next hb4
    replace Pj := Pj.next hb4
    replace Pt := Pt.next hb4
    replace Pback := Pback.next hb4
    replace Pgap := Pgap.next hb4
    replace HB := below_step HB hb4
    clear hb4
    obtain ⟨Pp0, Pp1, Pp2, _, _⟩ := id Pp
    obtain ⟨Pi0, Pi1, Pi2, _, _⟩ := id Pi
    obtain ⟨Pj0, Pj1, Pj2, _, _⟩ := id Pj
    go_wp2_with fail
    refine calls_named fun W4 hW4 => ?_
    replace Pp := Pp.next (below_named hW4)
    replace Pq := Pq.next (below_named hW4)
    replace Pi := Pi.next (below_named hW4)
    replace Pj := Pj.next (below_named hW4)
    replace Pt := Pt.next (below_named hW4)
    replace Pback := Pback.next (below_named hW4)
    replace Pgap := Pgap.next (below_named hW4)
    clear Pp0 Pp1 Pp2 Pi0 Pi1 Pi2 Pj0 Pj1 Pj2
    have Pon := Pair.made hW4
    replace HB := below_step HB (below_named hW4)
    clear hW4
    refine (I5.out _).mono ?_
    rintro e u5 ⟨rfl, hb5⟩
    replace Pp := Pp.next hb5
    replace Pq := Pq.next hb5
    replace Pi := Pi.next hb5
    replace Pj := Pj.next hb5
    replace Pt := Pt.next hb5
    replace Pback := Pback.next hb5
    replace Pgap := Pgap.next hb5
    replace Pon := Pon.next hb5
    replace HB := below_step HB hb5
    clear hb5
    rcases IO.out with ⟨rfl, rfl, rfl, rfl⟩ | hoe
    · skip
      clear IO
      obtain ⟨Pon0, Pon1, Pon2, _, _⟩ := id Pon
      obtain ⟨Pq0, Pq1, Pq2, _, _⟩ := id Pq
      obtain ⟨Pi0, Pi1, Pi2, _, _⟩ := id Pi
      go_wp2_with fail
      refine calls_named fun W5 hW5 => ?_
      replace Pp := Pp.next (below_named hW5)
      replace Pq := Pq.next (below_named hW5)
      replace Pi := Pi.next (below_named hW5)
      replace Pj := Pj.next (below_named hW5)
      replace Pt := Pt.next (below_named hW5)
      replace Pback := Pback.next (below_named hW5)
      replace Pgap := Pgap.next (below_named hW5)
      replace Pon := Pon.next (below_named hW5)
      clear Pon0 Pon1 Pon2 Pq0 Pq1 Pq2 Pi0 Pi1 Pi2
      have Psum := Pair.made hW5
      replace HB := below_step HB (below_named hW5)
      clear hW5
      refine (I6.out _).mono ?_
      rintro e u6 ⟨rfl, hb6⟩
      replace Pp := Pp.next hb6
      replace Pq := Pq.next hb6
      replace Pi := Pi.next hb6
      replace Pj := Pj.next hb6
      replace Pt := Pt.next hb6
      replace Pback := Pback.next hb6
      replace Pgap := Pgap.next hb6
      replace Pon := Pon.next hb6
      replace Psum := Psum.next hb6
      replace HB := below_step HB hb6
      clear hb6
      rcases IX.out with ⟨rfl, rfl, ⟨g, h, B1, B2⟩, S1, S2, S3, S4⟩ | hye
      · skip
        have IB1 := Lib.hid B1
        have IB2 := Lib.hid B2
        have IS1 := Lib.hid S1
        have IS2 := Lib.hid S2
        have IS3 := Lib.hid S3
        have IS4 := Lib.hid S4
        clear B1 B2 S1 S2 S3 S4 IX
        obtain ⟨Pp0, Pp1, Pp2, _, _⟩ := id Pp
        obtain ⟨Pq0, Pq1, Pq2, _, _⟩ := id Pq
        go_wp2_with fail
        refine calls_named fun W6 hW6 => ?_
        replace Pp := Pp.next (below_named hW6)
        replace Pq := Pq.next (below_named hW6)
        replace Pi := Pi.next (below_named hW6)
        replace Pj := Pj.next (below_named hW6)
        replace Pt := Pt.next (below_named hW6)
        replace Pback := Pback.next (below_named hW6)
        replace Pgap := Pgap.next (below_named hW6)
        replace Pon := Pon.next (below_named hW6)
        replace Psum := Psum.next (below_named hW6)
        clear Pp0 Pp1 Pp2 Pq0 Pq1 Pq2
        have Pother := Pair.made hW6
        replace HB := below_step HB (below_named hW6)
        clear hW6
        refine (IB1.out _).mono ?_
        rintro e u7 ⟨rfl, hb7⟩
        replace Pp := Pp.next hb7
        replace Pq := Pq.next hb7
        replace Pi := Pi.next hb7
        replace Pj := Pj.next hb7
        replace Pt := Pt.next hb7
        replace Pback := Pback.next hb7
        replace Pgap := Pgap.next hb7
        replace Pon := Pon.next hb7
        replace Psum := Psum.next hb7
        replace Pother := Pother.next hb7
        replace HB := below_step HB hb7
        clear hb7
        obtain ⟨Pt0, Pt1, Pt2, _, _⟩ := id Pt
        obtain ⟨Pother0, Pother1, Pother2, _, _⟩ := id Pother
        go_wp2_with fail
        refine calls_named fun W7 hW7 => ?_
        replace Pp := Pp.next (below_named hW7)
        replace Pq := Pq.next (below_named hW7)
        replace Pi := Pi.next (below_named hW7)
        replace Pj := Pj.next (below_named hW7)
        replace Pt := Pt.next (below_named hW7)
        replace Pback := Pback.next (below_named hW7)
        replace Pgap := Pgap.next (below_named hW7)
        replace Pon := Pon.next (below_named hW7)
        replace Psum := Psum.next (below_named hW7)
        replace Pother := Pother.next (below_named hW7)
        clear Pt0 Pt1 Pt2 Pother0 Pother1 Pother2
        have Pda := Pair.made hW7
        replace HB := below_step HB (below_named hW7)
        clear hW7
        refine (IB2.out _).mono ?_
        rintro e u8 ⟨rfl, hb8⟩
        replace Pp := Pp.next hb8
        replace Pq := Pq.next hb8
        replace Pi := Pi.next hb8
        replace Pj := Pj.next hb8
        replace Pt := Pt.next hb8
        replace Pback := Pback.next hb8
        replace Pgap := Pgap.next hb8
        replace Pon := Pon.next hb8
        replace Psum := Psum.next hb8
        replace Pother := Pother.next hb8
        replace Pda := Pda.next hb8
        replace HB := below_step HB hb8
        clear hb8
        obtain ⟨Pp0, Pp1, Pp2, _, _⟩ := id Pp
        go_wp2_with fail
        refine calls_named fun W8 hW8 => ?_
        replace Pp := Pp.next (below_named hW8)
        replace Pq := Pq.next (below_named hW8)
        replace Pi := Pi.next (below_named hW8)
        replace Pj := Pj.next (below_named hW8)
        replace Pt := Pt.next (below_named hW8)
        replace Pback := Pback.next (below_named hW8)
        replace Pgap := Pgap.next (below_named hW8)
        replace Pon := Pon.next (below_named hW8)
        replace Psum := Psum.next (below_named hW8)
        replace Pother := Pother.next (below_named hW8)
        replace Pda := Pda.next (below_named hW8)
        clear Pp0 Pp1 Pp2
        have Pdb := Pair.made hW8
        replace HB := below_step HB (below_named hW8)
        clear hW8
        refine (IS1.out _).mono ?_
        rintro e u9 ⟨rfl, hb9⟩
        replace Pp := Pp.next hb9
        replace Pq := Pq.next hb9
        replace Pi := Pi.next hb9
        replace Pj := Pj.next hb9
        replace Pt := Pt.next hb9
        replace Pback := Pback.next hb9
        replace Pgap := Pgap.next hb9
        replace Pon := Pon.next hb9
        replace Psum := Psum.next hb9
        replace Pother := Pother.next hb9
        replace Pda := Pda.next hb9
        replace Pdb := Pdb.next hb9
        replace HB := below_step HB hb9
        clear hb9
        obtain ⟨Pq0, Pq1, Pq2, _, _⟩ := id Pq
        go_wp2_with fail
        refine (IS2.out _).mono ?_
        rintro e u10 ⟨rfl, hb10⟩
        clear Pq0 Pq1 Pq2
        replace Pp := Pp.next hb10
        replace Pq := Pq.next hb10
        replace Pi := Pi.next hb10
        replace Pj := Pj.next hb10
        replace Pt := Pt.next hb10
        replace Pback := Pback.next hb10
        replace Pgap := Pgap.next hb10
        replace Pon := Pon.next hb10
        replace Psum := Psum.next hb10
        replace Pother := Pother.next hb10
        replace Pda := Pda.next hb10
        replace Pdb := Pdb.next hb10
        replace HB := below_step HB hb10
        clear hb10
        obtain ⟨Pt0, Pt1, Pt2, _, _⟩ := id Pt
        go_wp2_with fail
        refine (IS3.out _).mono ?_
        rintro e u11 ⟨rfl, hb11⟩
        clear Pt0 Pt1 Pt2
        replace Pp := Pp.next hb11
        replace Pq := Pq.next hb11
        replace Pi := Pi.next hb11
        replace Pj := Pj.next hb11
        replace Pt := Pt.next hb11
        replace Pback := Pback.next hb11
        replace Pgap := Pgap.next hb11
        replace Pon := Pon.next hb11
        replace Psum := Psum.next hb11
        replace Pother := Pother.next hb11
        replace Pda := Pda.next hb11
        replace Pdb := Pdb.next hb11
        replace HB := below_step HB hb11
        clear hb11
        obtain ⟨Pother0, Pother1, Pother2, _, _⟩ := id Pother
        go_wp2_with fail
        refine (IS4.out _).mono ?_
        rintro e u12 ⟨rfl, hb12⟩
        clear Pother0 Pother1 Pother2
        replace Pp := Pp.next hb12
        replace Pq := Pq.next hb12
        replace Pi := Pi.next hb12
        replace Pj := Pj.next hb12
        replace Pt := Pt.next hb12
        replace Pback := Pback.next hb12
        replace Pgap := Pgap.next hb12
        replace Pon := Pon.next hb12
        replace Psum := Psum.next hb12
        replace Pother := Pother.next hb12
        replace Pda := Pda.next hb12
        replace Pdb := Pdb.next hb12
        replace HB := below_step HB hb12
        clear hb12
        obtain ⟨Pda0, Pda1, Pda2, _, _⟩ := id Pda
        obtain ⟨Pdb0, Pdb1, Pdb2, _, _⟩ := id Pdb
        obtain ⟨Pi0, Pi1, Pi2, _, _⟩ := id Pi
        go_wp2_with fail
        refine (L1.out _).mono ?_
        rintro e u13 ⟨rfl, hb13⟩
        clear Pda0 Pda1 Pda2 Pdb0 Pdb1 Pdb2 Pi0 Pi1 Pi2
        replace Pp := Pp.next hb13
        replace Pq := Pq.next hb13
        replace Pi := Pi.next hb13
        replace Pj := Pj.next hb13
        replace Pt := Pt.next hb13
        replace Pback := Pback.next hb13
        replace Pgap := Pgap.next hb13
        replace Pon := Pon.next hb13
        replace Psum := Psum.next hb13
        replace Pother := Pother.next hb13
        replace Pda := Pda.next hb13
        replace Pdb := Pdb.next hb13
        replace HB := below_step HB hb13
        clear hb13
        obtain ⟨Pp0, Pp1, Pp2, _, _⟩ := id Pp
        go_wp2_with fail
        refine (L2.out _).mono ?_
        rintro e u14 ⟨rfl, hb14⟩
        clear Pp0 Pp1 Pp2
        replace Pp := Pp.next hb14
        replace Pq := Pq.next hb14
        replace Pi := Pi.next hb14
        replace Pj := Pj.next hb14
        replace Pt := Pt.next hb14
        replace Pback := Pback.next hb14
        replace Pgap := Pgap.next hb14
        replace Pon := Pon.next hb14
        replace Psum := Psum.next hb14
        replace Pother := Pother.next hb14
        replace Pda := Pda.next hb14
        replace Pdb := Pdb.next hb14
        replace HB := below_step HB hb14
        clear hb14
        obtain ⟨Pi0, Pi1, Pi2, _, _⟩ := id Pi
        obtain ⟨Pp0, Pp1, Pp2, Pp3, Pp4⟩ := id Pp
        go_wp2_with fail
        refine calls_named fun V14 hV14 => ?_
        clear Pq
        replace Pi := Pi.off1 (by omega) hV14
        clear Pj
        replace Pt := Pt.off1 (by omega) hV14
        clear Pback
        clear Pgap
        clear Pon
        clear Psum
        clear Pother
        clear Pda
        clear Pdb
        replace Pp := Pp.set1 hV14
        replace HB := below_set1 HB (Nat.le_refl _) hV14
        clear Pi0 Pi1 Pi2 Pp0 Pp1 Pp2 Pp3 Pp4
        clear hV14
        refine (L3.out _).mono ?_
        rintro e u15 ⟨rfl, hb15⟩
        replace Pp := Pp.next hb15
        replace Pi := Pi.next hb15
        replace Pt := Pt.next hb15
        replace HB := below_step HB hb15
        clear hb15
        rcases LZ.out with ⟨rfl, t0, t1, rfl, L4⟩ | hke | ⟨rfl, t0⟩ | ⟨rfl, t0, t1⟩
        · have L5 := Lib.hid L4
          clear L4
          obtain ⟨Pp0, Pp1, Pp2, _, _⟩ := id Pp
          obtain ⟨Pi0, Pi1, Pi2, _, _⟩ := id Pi
          obtain ⟨Pt0, Pt1, Pt2, Pt3, Pt4⟩ := id Pt
          go_wp2_with fail
          refine calls_named fun V15 hV15 => ?_
          clear Pp
          clear Pi
          replace Pt := Pt.set01 hV15
          replace HB := below_set01 HB hu1 hV15
          clear Pp0 Pp1 Pp2 Pi0 Pi1 Pi2 Pt0 Pt1 Pt2 Pt3 Pt4
          clear hV15
          refine (L5.out _).mono ?_
          rintro e u16 ⟨rfl, hb16⟩
          replace Pt := Pt.next hb16
          replace HB := below_step HB hb16
          clear hb16
          obtain ⟨Pt0, Pt1, Pt2, _, _⟩ := id Pt
          go_wp2_with fail
          refine (awake_c _).mono ?_
          rintro e z ⟨rfl, hbz⟩
          go_wp2_with fail
          go_ret
          exact ⟨rfl, below_step HB hbz⟩
        · have hkb : (ke == 0) = false := beq_eq_false_iff_ne.2 hke
          clear hke
          obtain ⟨Pp0, Pp1, Pp2, _, _⟩ := id Pp
          obtain ⟨Pi0, Pi1, Pi2, _, _⟩ := id Pi
          obtain ⟨Pt0, Pt1, Pt2, Pt3, Pt4⟩ := id Pt
          go_wp2_with fail
          refine calls_named fun V15 hV15 => ?_
          clear Pp
          clear Pi
          replace Pt := Pt.set01 hV15
          replace HB := below_set01 HB hu1 hV15
          clear Pp0 Pp1 Pp2 Pi0 Pi1 Pi2 Pt0 Pt1 Pt2 Pt3 Pt4
          clear hV15
          refine (awake_c _).mono ?_
          rintro e z ⟨rfl, hbz⟩
          go_wp2_with fail
          go_ret
          exact ⟨rfl, below_step HB hbz⟩
        · skip
          obtain ⟨Pp0, Pp1, Pp2, _, _⟩ := id Pp
          obtain ⟨Pi0, Pi1, Pi2, _, _⟩ := id Pi
          obtain ⟨Pt0, Pt1, Pt2, Pt3, Pt4⟩ := id Pt
          go_wp2_with fail
          refine calls_named fun V15 hV15 => ?_
          clear Pp
          clear Pi
          replace Pt := Pt.set01 hV15
          replace HB := below_set01 HB hu1 hV15
          clear Pp0 Pp1 Pp2 Pi0 Pi1 Pi2 Pt0 Pt1 Pt2 Pt3 Pt4
          clear hV15
          refine (awake_c _).mono ?_
          rintro e z ⟨rfl, hbz⟩
          go_wp2_with fail
          go_ret
          exact ⟨rfl, below_step HB hbz⟩
        · skip
          obtain ⟨Pp0, Pp1, Pp2, _, _⟩ := id Pp
          obtain ⟨Pi0, Pi1, Pi2, _, _⟩ := id Pi
          obtain ⟨Pt0, Pt1, Pt2, Pt3, Pt4⟩ := id Pt
          go_wp2_with fail
          refine calls_named fun V15 hV15 => ?_
          clear Pp
          clear Pi
          replace Pt := Pt.set01 hV15
          replace HB := below_set01 HB hu1 hV15
          clear Pp0 Pp1 Pp2 Pi0 Pi1 Pi2 Pt0 Pt1 Pt2 Pt3 Pt4
          clear hV15
          refine (awake_c _).mono ?_
          rintro e z ⟨rfl, hbz⟩
          go_wp2_with fail
          go_ret
          exact ⟨rfl, below_step HB hbz⟩
      · have hyeb : (ye == 0) = false := beq_eq_false_iff_ne.2 hye
        clear hye IX
        obtain ⟨Pi0, Pi1, Pi2, _, _⟩ := id Pi
        go_wp2_with fail
        refine calls_named fun W6 hW6 => ?_
        replace Pp := Pp.next (below_named hW6)
        replace Pq := Pq.next (below_named hW6)
        replace Pi := Pi.next (below_named hW6)
        replace Pj := Pj.next (below_named hW6)
        replace Pt := Pt.next (below_named hW6)
        replace Pback := Pback.next (below_named hW6)
        replace Pgap := Pgap.next (below_named hW6)
        replace Pon := Pon.next (below_named hW6)
        replace Psum := Psum.next (below_named hW6)
        clear Pi0 Pi1 Pi2
        have Pother := Pair.made hW6
        replace HB := below_step HB (below_named hW6)
        clear hW6
        refine (L1.out _).mono ?_
        rintro e u7 ⟨rfl, hb7⟩
        replace Pp := Pp.next hb7
        replace Pq := Pq.next hb7
        replace Pi := Pi.next hb7
        replace Pj := Pj.next hb7
        replace Pt := Pt.next hb7
        replace Pback := Pback.next hb7
        replace Pgap := Pgap.next hb7
        replace Pon := Pon.next hb7
        replace Psum := Psum.next hb7
        replace Pother := Pother.next hb7
        replace HB := below_step HB hb7
        clear hb7
        obtain ⟨Pp0, Pp1, Pp2, _, _⟩ := id Pp
        go_wp2_with fail
        refine (L2.out _).mono ?_
        rintro e u8 ⟨rfl, hb8⟩
        clear Pp0 Pp1 Pp2
        replace Pp := Pp.next hb8
        replace Pq := Pq.next hb8
        replace Pi := Pi.next hb8
        replace Pj := Pj.next hb8
        replace Pt := Pt.next hb8
        replace Pback := Pback.next hb8
        replace Pgap := Pgap.next hb8
        replace Pon := Pon.next hb8
        replace Psum := Psum.next hb8
        replace Pother := Pother.next hb8
        replace HB := below_step HB hb8
        clear hb8
        obtain ⟨Pi0, Pi1, Pi2, _, _⟩ := id Pi
        obtain ⟨Pp0, Pp1, Pp2, Pp3, Pp4⟩ := id Pp
        go_wp2_with fail
        refine calls_named fun V8 hV8 => ?_
        clear Pq
        replace Pi := Pi.off1 (by omega) hV8
        clear Pj
        replace Pt := Pt.off1 (by omega) hV8
        clear Pback
        clear Pgap
        clear Pon
        clear Psum
        clear Pother
        replace Pp := Pp.set1 hV8
        replace HB := below_set1 HB (Nat.le_refl _) hV8
        clear Pi0 Pi1 Pi2 Pp0 Pp1 Pp2 Pp3 Pp4
        clear hV8
        refine (L3.out _).mono ?_
        rintro e u9 ⟨rfl, hb9⟩
        replace Pp := Pp.next hb9
        replace Pi := Pi.next hb9
        replace Pt := Pt.next hb9
        replace HB := below_step HB hb9
        clear hb9
        rcases LZ.out with ⟨rfl, t0, t1, rfl, L4⟩ | hke | ⟨rfl, t0⟩ | ⟨rfl, t0, t1⟩
        · have L5 := Lib.hid L4
          clear L4
          obtain ⟨Pp0, Pp1, Pp2, _, _⟩ := id Pp
          obtain ⟨Pi0, Pi1, Pi2, _, _⟩ := id Pi
          obtain ⟨Pt0, Pt1, Pt2, Pt3, Pt4⟩ := id Pt
          go_wp2_with fail
          refine calls_named fun V9 hV9 => ?_
          clear Pp
          clear Pi
          replace Pt := Pt.set01 hV9
          replace HB := below_set01 HB hu1 hV9
          clear Pp0 Pp1 Pp2 Pi0 Pi1 Pi2 Pt0 Pt1 Pt2 Pt3 Pt4
          clear hV9
          refine (L5.out _).mono ?_
          rintro e u10 ⟨rfl, hb10⟩
          replace Pt := Pt.next hb10
          replace HB := below_step HB hb10
          clear hb10
          obtain ⟨Pt0, Pt1, Pt2, _, _⟩ := id Pt
          go_wp2_with fail
          refine (awake_c _).mono ?_
          rintro e z ⟨rfl, hbz⟩
          go_wp2_with fail
          go_ret
          exact ⟨rfl, below_step HB hbz⟩
        · have hkb : (ke == 0) = false := beq_eq_false_iff_ne.2 hke
          clear hke
          obtain ⟨Pp0, Pp1, Pp2, _, _⟩ := id Pp
          obtain ⟨Pi0, Pi1, Pi2, _, _⟩ := id Pi
          obtain ⟨Pt0, Pt1, Pt2, Pt3, Pt4⟩ := id Pt
          go_wp2_with fail
          refine calls_named fun V9 hV9 => ?_
          clear Pp
          clear Pi
          replace Pt := Pt.set01 hV9
          replace HB := below_set01 HB hu1 hV9
          clear Pp0 Pp1 Pp2 Pi0 Pi1 Pi2 Pt0 Pt1 Pt2 Pt3 Pt4
          clear hV9
          refine (awake_c _).mono ?_
          rintro e z ⟨rfl, hbz⟩
          go_wp2_with fail
          go_ret
          exact ⟨rfl, below_step HB hbz⟩
        · skip
          obtain ⟨Pp0, Pp1, Pp2, _, _⟩ := id Pp
          obtain ⟨Pi0, Pi1, Pi2, _, _⟩ := id Pi
          obtain ⟨Pt0, Pt1, Pt2, Pt3, Pt4⟩ := id Pt
          go_wp2_with fail
          refine calls_named fun V9 hV9 => ?_
          clear Pp
          clear Pi
          replace Pt := Pt.set01 hV9
          replace HB := below_set01 HB hu1 hV9
          clear Pp0 Pp1 Pp2 Pi0 Pi1 Pi2 Pt0 Pt1 Pt2 Pt3 Pt4
          clear hV9
          refine (awake_c _).mono ?_
          rintro e z ⟨rfl, hbz⟩
          go_wp2_with fail
          go_ret
          exact ⟨rfl, below_step HB hbz⟩
        · skip
          obtain ⟨Pp0, Pp1, Pp2, _, _⟩ := id Pp
          obtain ⟨Pi0, Pi1, Pi2, _, _⟩ := id Pi
          obtain ⟨Pt0, Pt1, Pt2, Pt3, Pt4⟩ := id Pt
          go_wp2_with fail
          refine calls_named fun V9 hV9 => ?_
          clear Pp
          clear Pi
          replace Pt := Pt.set01 hV9
          replace HB := below_set01 HB hu1 hV9
          clear Pp0 Pp1 Pp2 Pi0 Pi1 Pi2 Pt0 Pt1 Pt2 Pt3 Pt4
          clear hV9
          refine (awake_c _).mono ?_
          rintro e z ⟨rfl, hbz⟩
          go_wp2_with fail
          go_ret
          exact ⟨rfl, below_step HB hbz⟩
    · have hoeb : (oe == 0) = false := beq_eq_false_iff_ne.2 hoe
      clear hoe IO
      obtain ⟨Pon0, Pon1, Pon2, _, _⟩ := id Pon
      obtain ⟨Pq0, Pq1, Pq2, _, _⟩ := id Pq
      obtain ⟨Pi0, Pi1, Pi2, _, _⟩ := id Pi
      go_wp2_with fail
      refine calls_named fun W5 hW5 => ?_
      replace Pp := Pp.next (below_named hW5)
      replace Pq := Pq.next (below_named hW5)
      replace Pi := Pi.next (below_named hW5)
      replace Pj := Pj.next (below_named hW5)
      replace Pt := Pt.next (below_named hW5)
      replace Pback := Pback.next (below_named hW5)
      replace Pgap := Pgap.next (below_named hW5)
      replace Pon := Pon.next (below_named hW5)
      clear Pon0 Pon1 Pon2 Pq0 Pq1 Pq2 Pi0 Pi1 Pi2
      have Psum := Pair.made hW5
      replace HB := below_step HB (below_named hW5)
      clear hW5
      refine (I6.out _).mono ?_
      rintro e u6 ⟨rfl, hb6⟩
      replace Pp := Pp.next hb6
      replace Pq := Pq.next hb6
      replace Pi := Pi.next hb6
      replace Pj := Pj.next hb6
      replace Pt := Pt.next hb6
      replace Pback := Pback.next hb6
      replace Pgap := Pgap.next hb6
      replace Pon := Pon.next hb6
      replace Psum := Psum.next hb6
      replace HB := below_step HB hb6
      clear hb6
      rcases IX.out with ⟨rfl, rfl, ⟨g, h, B1, B2⟩, S1, S2, S3, S4⟩ | hye
      · skip
        have IB1 := Lib.hid B1
        have IB2 := Lib.hid B2
        have IS1 := Lib.hid S1
        have IS2 := Lib.hid S2
        have IS3 := Lib.hid S3
        have IS4 := Lib.hid S4
        clear B1 B2 S1 S2 S3 S4 IX
        obtain ⟨Pp0, Pp1, Pp2, _, _⟩ := id Pp
        obtain ⟨Pq0, Pq1, Pq2, _, _⟩ := id Pq
        go_wp2_with fail
        refine calls_named fun W6 hW6 => ?_
        replace Pp := Pp.next (below_named hW6)
        replace Pq := Pq.next (below_named hW6)
        replace Pi := Pi.next (below_named hW6)
        replace Pj := Pj.next (below_named hW6)
        replace Pt := Pt.next (below_named hW6)
        replace Pback := Pback.next (below_named hW6)
        replace Pgap := Pgap.next (below_named hW6)
        replace Pon := Pon.next (below_named hW6)
        replace Psum := Psum.next (below_named hW6)
        clear Pp0 Pp1 Pp2 Pq0 Pq1 Pq2
        have Pother := Pair.made hW6
        replace HB := below_step HB (below_named hW6)
        clear hW6
        refine (IB1.out _).mono ?_
        rintro e u7 ⟨rfl, hb7⟩
        replace Pp := Pp.next hb7
        replace Pq := Pq.next hb7
        replace Pi := Pi.next hb7
        replace Pj := Pj.next hb7
        replace Pt := Pt.next hb7
        replace Pback := Pback.next hb7
        replace Pgap := Pgap.next hb7
        replace Pon := Pon.next hb7
        replace Psum := Psum.next hb7
        replace Pother := Pother.next hb7
        replace HB := below_step HB hb7
        clear hb7
        obtain ⟨Pt0, Pt1, Pt2, _, _⟩ := id Pt
        obtain ⟨Pother0, Pother1, Pother2, _, _⟩ := id Pother
        go_wp2_with fail
        refine calls_named fun W7 hW7 => ?_
        replace Pp := Pp.next (below_named hW7)
        replace Pq := Pq.next (below_named hW7)
        replace Pi := Pi.next (below_named hW7)
        replace Pj := Pj.next (below_named hW7)
        replace Pt := Pt.next (below_named hW7)
        replace Pback := Pback.next (below_named hW7)
        replace Pgap := Pgap.next (below_named hW7)
        replace Pon := Pon.next (below_named hW7)
        replace Psum := Psum.next (below_named hW7)
        replace Pother := Pother.next (below_named hW7)
        clear Pt0 Pt1 Pt2 Pother0 Pother1 Pother2
        have Pda := Pair.made hW7
        replace HB := below_step HB (below_named hW7)
        clear hW7
        refine (IB2.out _).mono ?_
        rintro e u8 ⟨rfl, hb8⟩
        replace Pp := Pp.next hb8
        replace Pq := Pq.next hb8
        replace Pi := Pi.next hb8
        replace Pj := Pj.next hb8
        replace Pt := Pt.next hb8
        replace Pback := Pback.next hb8
        replace Pgap := Pgap.next hb8
        replace Pon := Pon.next hb8
        replace Psum := Psum.next hb8
        replace Pother := Pother.next hb8
        replace Pda := Pda.next hb8
        replace HB := below_step HB hb8
        clear hb8
        obtain ⟨Pp0, Pp1, Pp2, _, _⟩ := id Pp
        go_wp2_with fail
        refine calls_named fun W8 hW8 => ?_
        replace Pp := Pp.next (below_named hW8)
        replace Pq := Pq.next (below_named hW8)
        replace Pi := Pi.next (below_named hW8)
        replace Pj := Pj.next (below_named hW8)
        replace Pt := Pt.next (below_named hW8)
        replace Pback := Pback.next (below_named hW8)
        replace Pgap := Pgap.next (below_named hW8)
        replace Pon := Pon.next (below_named hW8)
        replace Psum := Psum.next (below_named hW8)
        replace Pother := Pother.next (below_named hW8)
        replace Pda := Pda.next (below_named hW8)
        clear Pp0 Pp1 Pp2
        have Pdb := Pair.made hW8
        replace HB := below_step HB (below_named hW8)
        clear hW8
        refine (IS1.out _).mono ?_
        rintro e u9 ⟨rfl, hb9⟩
        replace Pp := Pp.next hb9
        replace Pq := Pq.next hb9
        replace Pi := Pi.next hb9
        replace Pj := Pj.next hb9
        replace Pt := Pt.next hb9
        replace Pback := Pback.next hb9
        replace Pgap := Pgap.next hb9
        replace Pon := Pon.next hb9
        replace Psum := Psum.next hb9
        replace Pother := Pother.next hb9
        replace Pda := Pda.next hb9
        replace Pdb := Pdb.next hb9
        replace HB := below_step HB hb9
        clear hb9
        obtain ⟨Pq0, Pq1, Pq2, _, _⟩ := id Pq
        go_wp2_with fail
        refine (IS2.out _).mono ?_
        rintro e u10 ⟨rfl, hb10⟩
        clear Pq0 Pq1 Pq2
        replace Pp := Pp.next hb10
        replace Pq := Pq.next hb10
        replace Pi := Pi.next hb10
        replace Pj := Pj.next hb10
        replace Pt := Pt.next hb10
        replace Pback := Pback.next hb10
        replace Pgap := Pgap.next hb10
        replace Pon := Pon.next hb10
        replace Psum := Psum.next hb10
        replace Pother := Pother.next hb10
        replace Pda := Pda.next hb10
        replace Pdb := Pdb.next hb10
        replace HB := below_step HB hb10
        clear hb10
        obtain ⟨Pt0, Pt1, Pt2, _, _⟩ := id Pt
        go_wp2_with fail
        refine (IS3.out _).mono ?_
        rintro e u11 ⟨rfl, hb11⟩
        clear Pt0 Pt1 Pt2
        replace Pp := Pp.next hb11
        replace Pq := Pq.next hb11
        replace Pi := Pi.next hb11
        replace Pj := Pj.next hb11
        replace Pt := Pt.next hb11
        replace Pback := Pback.next hb11
        replace Pgap := Pgap.next hb11
        replace Pon := Pon.next hb11
        replace Psum := Psum.next hb11
        replace Pother := Pother.next hb11
        replace Pda := Pda.next hb11
        replace Pdb := Pdb.next hb11
        replace HB := below_step HB hb11
        clear hb11
        obtain ⟨Pother0, Pother1, Pother2, _, _⟩ := id Pother
        go_wp2_with fail
        refine (IS4.out _).mono ?_
        rintro e u12 ⟨rfl, hb12⟩
        clear Pother0 Pother1 Pother2
        replace Pp := Pp.next hb12
        replace Pq := Pq.next hb12
        replace Pi := Pi.next hb12
        replace Pj := Pj.next hb12
        replace Pt := Pt.next hb12
        replace Pback := Pback.next hb12
        replace Pgap := Pgap.next hb12
        replace Pon := Pon.next hb12
        replace Psum := Psum.next hb12
        replace Pother := Pother.next hb12
        replace Pda := Pda.next hb12
        replace Pdb := Pdb.next hb12
        replace HB := below_step HB hb12
        clear hb12
        obtain ⟨Pda0, Pda1, Pda2, _, _⟩ := id Pda
        obtain ⟨Pdb0, Pdb1, Pdb2, _, _⟩ := id Pdb
        obtain ⟨Pi0, Pi1, Pi2, _, _⟩ := id Pi
        go_wp2_with fail
        refine (L1.out _).mono ?_
        rintro e u13 ⟨rfl, hb13⟩
        clear Pda0 Pda1 Pda2 Pdb0 Pdb1 Pdb2 Pi0 Pi1 Pi2
        replace Pp := Pp.next hb13
        replace Pq := Pq.next hb13
        replace Pi := Pi.next hb13
        replace Pj := Pj.next hb13
        replace Pt := Pt.next hb13
        replace Pback := Pback.next hb13
        replace Pgap := Pgap.next hb13
        replace Pon := Pon.next hb13
        replace Psum := Psum.next hb13
        replace Pother := Pother.next hb13
        replace Pda := Pda.next hb13
        replace Pdb := Pdb.next hb13
        replace HB := below_step HB hb13
        clear hb13
        obtain ⟨Pp0, Pp1, Pp2, _, _⟩ := id Pp
        go_wp2_with fail
        refine (L2.out _).mono ?_
        rintro e u14 ⟨rfl, hb14⟩
        clear Pp0 Pp1 Pp2
        replace Pp := Pp.next hb14
        replace Pq := Pq.next hb14
        replace Pi := Pi.next hb14
        replace Pj := Pj.next hb14
        replace Pt := Pt.next hb14
        replace Pback := Pback.next hb14
        replace Pgap := Pgap.next hb14
        replace Pon := Pon.next hb14
        replace Psum := Psum.next hb14
        replace Pother := Pother.next hb14
        replace Pda := Pda.next hb14
        replace Pdb := Pdb.next hb14
        replace HB := below_step HB hb14
        clear hb14
        obtain ⟨Pi0, Pi1, Pi2, _, _⟩ := id Pi
        obtain ⟨Pp0, Pp1, Pp2, Pp3, Pp4⟩ := id Pp
        go_wp2_with fail
        refine calls_named fun V14 hV14 => ?_
        clear Pq
        replace Pi := Pi.off1 (by omega) hV14
        clear Pj
        replace Pt := Pt.off1 (by omega) hV14
        clear Pback
        clear Pgap
        clear Pon
        clear Psum
        clear Pother
        clear Pda
        clear Pdb
        replace Pp := Pp.set1 hV14
        replace HB := below_set1 HB (Nat.le_refl _) hV14
        clear Pi0 Pi1 Pi2 Pp0 Pp1 Pp2 Pp3 Pp4
        clear hV14
        refine (L3.out _).mono ?_
        rintro e u15 ⟨rfl, hb15⟩
        replace Pp := Pp.next hb15
        replace Pi := Pi.next hb15
        replace Pt := Pt.next hb15
        replace HB := below_step HB hb15
        clear hb15
        rcases LZ.out with ⟨rfl, t0, t1, rfl, L4⟩ | hke | ⟨rfl, t0⟩ | ⟨rfl, t0, t1⟩
        · have L5 := Lib.hid L4
          clear L4
          obtain ⟨Pp0, Pp1, Pp2, _, _⟩ := id Pp
          obtain ⟨Pi0, Pi1, Pi2, _, _⟩ := id Pi
          obtain ⟨Pt0, Pt1, Pt2, Pt3, Pt4⟩ := id Pt
          go_wp2_with fail
          refine calls_named fun V15 hV15 => ?_
          clear Pp
          clear Pi
          replace Pt := Pt.set01 hV15
          replace HB := below_set01 HB hu1 hV15
          clear Pp0 Pp1 Pp2 Pi0 Pi1 Pi2 Pt0 Pt1 Pt2 Pt3 Pt4
          clear hV15
          refine (L5.out _).mono ?_
          rintro e u16 ⟨rfl, hb16⟩
          replace Pt := Pt.next hb16
          replace HB := below_step HB hb16
          clear hb16
          obtain ⟨Pt0, Pt1, Pt2, _, _⟩ := id Pt
          go_wp2_with fail
          refine (awake_c _).mono ?_
          rintro e z ⟨rfl, hbz⟩
          go_wp2_with fail
          go_ret
          exact ⟨rfl, below_step HB hbz⟩
        · have hkb : (ke == 0) = false := beq_eq_false_iff_ne.2 hke
          clear hke
          obtain ⟨Pp0, Pp1, Pp2, _, _⟩ := id Pp
          obtain ⟨Pi0, Pi1, Pi2, _, _⟩ := id Pi
          obtain ⟨Pt0, Pt1, Pt2, Pt3, Pt4⟩ := id Pt
          go_wp2_with fail
          refine calls_named fun V15 hV15 => ?_
          clear Pp
          clear Pi
          replace Pt := Pt.set01 hV15
          replace HB := below_set01 HB hu1 hV15
          clear Pp0 Pp1 Pp2 Pi0 Pi1 Pi2 Pt0 Pt1 Pt2 Pt3 Pt4
          clear hV15
          refine (awake_c _).mono ?_
          rintro e z ⟨rfl, hbz⟩
          go_wp2_with fail
          go_ret
          exact ⟨rfl, below_step HB hbz⟩
        · skip
          obtain ⟨Pp0, Pp1, Pp2, _, _⟩ := id Pp
          obtain ⟨Pi0, Pi1, Pi2, _, _⟩ := id Pi
          obtain ⟨Pt0, Pt1, Pt2, Pt3, Pt4⟩ := id Pt
          go_wp2_with fail
          refine calls_named fun V15 hV15 => ?_
          clear Pp
          clear Pi
          replace Pt := Pt.set01 hV15
          replace HB := below_set01 HB hu1 hV15
          clear Pp0 Pp1 Pp2 Pi0 Pi1 Pi2 Pt0 Pt1 Pt2 Pt3 Pt4
          clear hV15
          refine (awake_c _).mono ?_
          rintro e z ⟨rfl, hbz⟩
          go_wp2_with fail
          go_ret
          exact ⟨rfl, below_step HB hbz⟩
        · skip
          obtain ⟨Pp0, Pp1, Pp2, _, _⟩ := id Pp
          obtain ⟨Pi0, Pi1, Pi2, _, _⟩ := id Pi
          obtain ⟨Pt0, Pt1, Pt2, Pt3, Pt4⟩ := id Pt
          go_wp2_with fail
          refine calls_named fun V15 hV15 => ?_
          clear Pp
          clear Pi
          replace Pt := Pt.set01 hV15
          replace HB := below_set01 HB hu1 hV15
          clear Pp0 Pp1 Pp2 Pi0 Pi1 Pi2 Pt0 Pt1 Pt2 Pt3 Pt4
          clear hV15
          refine (awake_c _).mono ?_
          rintro e z ⟨rfl, hbz⟩
          go_wp2_with fail
          go_ret
          exact ⟨rfl, below_step HB hbz⟩
      · have hyeb : (ye == 0) = false := beq_eq_false_iff_ne.2 hye
        clear hye IX
        obtain ⟨Pi0, Pi1, Pi2, _, _⟩ := id Pi
        go_wp2_with fail
        refine calls_named fun W6 hW6 => ?_
        replace Pp := Pp.next (below_named hW6)
        replace Pq := Pq.next (below_named hW6)
        replace Pi := Pi.next (below_named hW6)
        replace Pj := Pj.next (below_named hW6)
        replace Pt := Pt.next (below_named hW6)
        replace Pback := Pback.next (below_named hW6)
        replace Pgap := Pgap.next (below_named hW6)
        replace Pon := Pon.next (below_named hW6)
        replace Psum := Psum.next (below_named hW6)
        clear Pi0 Pi1 Pi2
        have Pother := Pair.made hW6
        replace HB := below_step HB (below_named hW6)
        clear hW6
        refine (L1.out _).mono ?_
        rintro e u7 ⟨rfl, hb7⟩
        replace Pp := Pp.next hb7
        replace Pq := Pq.next hb7
        replace Pi := Pi.next hb7
        replace Pj := Pj.next hb7
        replace Pt := Pt.next hb7
        replace Pback := Pback.next hb7
        replace Pgap := Pgap.next hb7
        replace Pon := Pon.next hb7
        replace Psum := Psum.next hb7
        replace Pother := Pother.next hb7
        replace HB := below_step HB hb7
        clear hb7
        obtain ⟨Pp0, Pp1, Pp2, _, _⟩ := id Pp
        go_wp2_with fail
        refine (L2.out _).mono ?_
        rintro e u8 ⟨rfl, hb8⟩
        clear Pp0 Pp1 Pp2
        replace Pp := Pp.next hb8
        replace Pq := Pq.next hb8
        replace Pi := Pi.next hb8
        replace Pj := Pj.next hb8
        replace Pt := Pt.next hb8
        replace Pback := Pback.next hb8
        replace Pgap := Pgap.next hb8
        replace Pon := Pon.next hb8
        replace Psum := Psum.next hb8
        replace Pother := Pother.next hb8
        replace HB := below_step HB hb8
        clear hb8
        obtain ⟨Pi0, Pi1, Pi2, _, _⟩ := id Pi
        obtain ⟨Pp0, Pp1, Pp2, Pp3, Pp4⟩ := id Pp
        go_wp2_with fail
        refine calls_named fun V8 hV8 => ?_
        clear Pq
        replace Pi := Pi.off1 (by omega) hV8
        clear Pj
        replace Pt := Pt.off1 (by omega) hV8
        clear Pback
        clear Pgap
        clear Pon
        clear Psum
        clear Pother
        replace Pp := Pp.set1 hV8
        replace HB := below_set1 HB (Nat.le_refl _) hV8
        clear Pi0 Pi1 Pi2 Pp0 Pp1 Pp2 Pp3 Pp4
        clear hV8
        refine (L3.out _).mono ?_
        rintro e u9 ⟨rfl, hb9⟩
        replace Pp := Pp.next hb9
        replace Pi := Pi.next hb9
        replace Pt := Pt.next hb9
        replace HB := below_step HB hb9
        clear hb9
        rcases LZ.out with ⟨rfl, t0, t1, rfl, L4⟩ | hke | ⟨rfl, t0⟩ | ⟨rfl, t0, t1⟩
        · have L5 := Lib.hid L4
          clear L4
          obtain ⟨Pp0, Pp1, Pp2, _, _⟩ := id Pp
          obtain ⟨Pi0, Pi1, Pi2, _, _⟩ := id Pi
          obtain ⟨Pt0, Pt1, Pt2, Pt3, Pt4⟩ := id Pt
          go_wp2_with fail
          refine calls_named fun V9 hV9 => ?_
          clear Pp
          clear Pi
          replace Pt := Pt.set01 hV9
          replace HB := below_set01 HB hu1 hV9
          clear Pp0 Pp1 Pp2 Pi0 Pi1 Pi2 Pt0 Pt1 Pt2 Pt3 Pt4
          clear hV9
          refine (L5.out _).mono ?_
          rintro e u10 ⟨rfl, hb10⟩
          replace Pt := Pt.next hb10
          replace HB := below_step HB hb10
          clear hb10
          obtain ⟨Pt0, Pt1, Pt2, _, _⟩ := id Pt
          go_wp2_with fail
          refine (awake_c _).mono ?_
          rintro e z ⟨rfl, hbz⟩
          go_wp2_with fail
          go_ret
          exact ⟨rfl, below_step HB hbz⟩
        · have hkb : (ke == 0) = false := beq_eq_false_iff_ne.2 hke
          clear hke
          obtain ⟨Pp0, Pp1, Pp2, _, _⟩ := id Pp
          obtain ⟨Pi0, Pi1, Pi2, _, _⟩ := id Pi
          obtain ⟨Pt0, Pt1, Pt2, Pt3, Pt4⟩ := id Pt
          go_wp2_with fail
          refine calls_named fun V9 hV9 => ?_
          clear Pp
          clear Pi
          replace Pt := Pt.set01 hV9
          replace HB := below_set01 HB hu1 hV9
          clear Pp0 Pp1 Pp2 Pi0 Pi1 Pi2 Pt0 Pt1 Pt2 Pt3 Pt4
          clear hV9
          refine (awake_c _).mono ?_
          rintro e z ⟨rfl, hbz⟩
          go_wp2_with fail
          go_ret
          exact ⟨rfl, below_step HB hbz⟩
        · skip
          obtain ⟨Pp0, Pp1, Pp2, _, _⟩ := id Pp
          obtain ⟨Pi0, Pi1, Pi2, _, _⟩ := id Pi
          obtain ⟨Pt0, Pt1, Pt2, Pt3, Pt4⟩ := id Pt
          go_wp2_with fail
          refine calls_named fun V9 hV9 => ?_
          clear Pp
          clear Pi
          replace Pt := Pt.set01 hV9
          replace HB := below_set01 HB hu1 hV9
          clear Pp0 Pp1 Pp2 Pi0 Pi1 Pi2 Pt0 Pt1 Pt2 Pt3 Pt4
          clear hV9
          refine (awake_c _).mono ?_
          rintro e z ⟨rfl, hbz⟩
          go_wp2_with fail
          go_ret
          exact ⟨rfl, below_step HB hbz⟩
        · skip
          obtain ⟨Pp0, Pp1, Pp2, _, _⟩ := id Pp
          obtain ⟨Pi0, Pi1, Pi2, _, _⟩ := id Pi
          obtain ⟨Pt0, Pt1, Pt2, Pt3, Pt4⟩ := id Pt
          go_wp2_with fail
          refine calls_named fun V9 hV9 => ?_
          clear Pp
          clear Pi
          replace Pt := Pt.set01 hV9
          replace HB := below_set01 HB hu1 hV9
          clear Pp0 Pp1 Pp2 Pi0 Pi1 Pi2 Pt0 Pt1 Pt2 Pt3 Pt4
          clear hV9
          refine (awake_c _).mono ?_
          rintro e z ⟨rfl, hbz⟩
          go_wp2_with fail
          go_ret
          exact ⟨rfl, below_step HB hbz⟩
end Go.Proofs.YtkhikdiaaiddaaaDoor
