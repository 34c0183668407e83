/-
  The contract of custoskit.CopyFeature. Conditions: what is read lies in memory as SW says, and is not too long.
-/
import Derived.Test.YtpcefaccoifejaaGreatDoorK2
namespace Go.Proofs.YtpcefaccoifejaaGreatDoor
open Go.RowKit Go.Maps
set_option linter.unusedSimpArgs false
set_option linter.unusedVariables false
set_option maxRecDepth 100000

/-- all old cells are as they were in W -/
abbrev Sk (W w' : World) : Prop := (∀ b o, b < W.heap.size → w'.cell? ⟨b, o, none⟩ = W.cell? ⟨b, o, none⟩) ∧ Below W.heap.size W w'
theorem Sk_of {W w' : World} (h : Below W.heap.size W w') : Sk W w' := ⟨fun b o hb => h.cell (p := ⟨b, o, none⟩) hb, h⟩
theorem Sk_drew (W : World) : Sk W W.drew := Sk_of (Below.refl _ _).drew
theorem Sk_call {W w2 w1 : World} (h : Sk W w2) (hb : Below w2.heap.size w2 w1) : Sk W w1 := Sk_of (h.2.trans (hb.mono h.2.size))
theorem Sk_alloc {W w2 : World} (h : Sk W w2) (o : Obj) : Sk W (w2.alloc o) := Sk_of (h.2.alloc h.2.size o)
theorem Sk_grown {W w2 w1 : World} (h : Sk W w2) {b : Nat} (hg : w2.grownBy w1 (some b)) (hb : W.heap.size ≤ b) : Sk W w1 :=
  Sk_of (h.2.trans ⟨hg.os, hg.tape, hg.output, hg.size, fun i hi => hg.block i (Nat.lt_of_lt_of_le hi h.2.size) (fun e => by injection e with e; omega)⟩)
theorem below_step {w w1 w2 : World} (h : Below w.heap.size w w1) (k : Below w1.heap.size w1 w2) : Below w.heap.size w w2 := h.trans (k.mono h.size)
/-- block B has k cells, none frozen -/
def Hold (w : World) (B k : Nat) : Prop := ∃ cs T, w.heap[B]? = some (.cells cs T (0, 0)) ∧ cs.size = k
theorem Hold.below {w w' : World} {B k : Nat} (h : Hold w B k) (hb : Below w.heap.size w w') : Hold w' B k := by
  obtain ⟨cs, T, e, s⟩ := h
  exact ⟨cs, T, (hb.block B (Array.getElem?_eq_some_iff.1 e).1).trans e, s⟩
theorem Hold.frozen {w : World} {B k : Nat} (h : Hold w B k) (i : Nat) : w.frozen? ⟨B, i, none⟩ = false := by
  obtain ⟨cs, T, e, s⟩ := h
  exact frozen_of_row w B i cs T e
theorem Hold.cell {w : World} {B k : Nat} (h : Hold w B k) {i : Nat} (hi : i < k) : ∃ u, w.cell? ⟨B, i, none⟩ = some u := by
  obtain ⟨cs, T, e, s⟩ := h
  exact ⟨cs[i], by rw [cell_of_row w B i cs T _ e]; simp [s, hi]⟩
theorem Hold.set {w : World} {B k : Nat} (h : Hold w B k) (b o : Nat) (u : Value) : Hold (w.setCell ⟨b, o, none⟩ u) B k := by
  obtain ⟨cs, T, e, s⟩ := h
  by_cases hb : b = B
  · subst hb
    exact ⟨_, T, heap_setCell_same w b o cs T u e, by simpa using s⟩
  · exact ⟨cs, T, (Below.heap_setCell w ⟨b, o, none⟩ u B (fun x => hb x.symm)).trans e, s⟩
theorem Hold.made (w : World) (cs : Array Value) (T : TypeId) : Hold (w.alloc (.cells cs T)) w.heap.size cs.size := ⟨cs, T, heap_alloc_new w _, rfl⟩
theorem Hold.drew {w : World} {B k : Nat} (h : Hold w B k) : Hold w.drew B k := h
/-- all old cells but those of block B are as they were in W; B has k cells -/
abbrev Sb (W : World) (B k : Nat) (w' : World) : Prop := (∀ b o, b < W.heap.size → b ≠ B → w'.cell? ⟨b, o, none⟩ = W.cell? ⟨b, o, none⟩) ∧ W.grownBy w' (some B) ∧ Hold w' B k
theorem Sb_of {W w' : World} {B k : Nat} (h : W.grownBy w' (some B)) (hh : Hold w' B k) : Sb W B k w' :=
  ⟨fun b o hb hn => World.cell?_of_block (a := ⟨b, o, none⟩) (h.block b hb (fun e => hn (by injection e))), h, hh⟩
theorem Sb_drew {W : World} {B k : Nat} (hh : Hold W B k) : Sb W B k W.drew := Sb_of ⟨rfl, rfl, rfl, Nat.le_refl _, fun _ _ _ => rfl⟩ hh
theorem Sb_call {W w2 w1 : World} {B k : Nat} (h : Sb W B k w2) (hb : Below w2.heap.size w2 w1) : Sb W B k w1 :=
  Sb_of ⟨hb.os.trans h.2.1.os, hb.tape.trans h.2.1.tape, hb.output.trans h.2.1.output, Nat.le_trans h.2.1.size hb.size, fun i hi hn => (hb.block i (Nat.lt_of_lt_of_le hi h.2.1.size)).trans (h.2.1.block i hi hn)⟩ (h.2.2.below hb)
theorem Sb_set {W w1 : World} {B k : Nat} (h : Sb W B k w1) (o : Nat) (u : Value) : Sb W B k (w1.setCell ⟨B, o, none⟩ u) :=
  Sb_of ⟨h.2.1.os, h.2.1.tape, h.2.1.output, by simpa [World.setCell] using h.2.1.size, fun i hi hn => (Below.heap_setCell w1 ⟨B, o, none⟩ u i (fun e => hn (by rw [e]))).trans (h.2.1.block i hi hn)⟩ (h.2.2.set B o u)
theorem Sb_below {w W w1 : World} {B k : Nat} (h : Sb W B k w1) (hW : Below w.heap.size w W) (hB : w.heap.size ≤ B) : Below w.heap.size w w1 :=
  hW.trans ⟨h.2.1.os, h.2.1.tape, h.2.1.output, h.2.1.size, fun i hi => h.2.1.block i (Nat.lt_of_lt_of_le hi hW.size) (fun e => by injection e with e; omega)⟩
/-- all old blocks but B are as they were in W; B has k cells -/
def Kp (W : World) (B k : Nat) (w' : World) : Prop := W.grownBy w' (some B) ∧ Hold w' B k
section
variable {W w1 w2 : World} {B k : Nat}
theorem Kp.cell (h : Kp W B k w1) {b o : Nat} {u : Value} (hc : W.cell? ⟨b, o, none⟩ = some u) (hn : b ≠ B) : w1.cell? ⟨b, o, none⟩ = some u := h.1.cell hc (fun e => hn (by injection e))
theorem Kp.drew (hh : Hold W B k) : Kp W B k W.drew := ⟨⟨rfl, rfl, rfl, Nat.le_refl _, fun _ _ _ => rfl⟩, hh⟩
theorem Kp.call (h : Kp W B k w2) (hb : Below w2.heap.size w2 w1) : Kp W B k w1 := (fun x : Sb W B k w1 => ⟨x.2.1, x.2.2⟩) (Sb_call (Sb_of h.1 h.2) hb)
theorem Kp.set (h : Kp W B k w1) (o : Nat) (u : Value) : Kp W B k (w1.setCell ⟨B, o, none⟩ u) := (fun x : Sb W B k _ => ⟨x.2.1, x.2.2⟩) (Sb_set (Sb_of h.1 h.2) o u)
theorem Kp.below {w : World} (h : Kp W B k w1) (hW : Below w.heap.size w W) (hB : w.heap.size ≤ B) : Below w.heap.size w w1 := Sb_below (Sb_of h.1 h.2) hW hB
end
theorem Hold.open6 {w : World} {B : Nat} (h : Hold w B 6) : (∃ u0 u1 u2 u3 u4 u5, w.cell? ⟨B, 0, none⟩ = some u0 ∧ w.cell? ⟨B, 1, none⟩ = some u1 ∧ w.cell? ⟨B, 2, none⟩ = some u2 ∧ w.cell? ⟨B, 3, none⟩ = some u3 ∧ w.cell? ⟨B, 4, none⟩ = some u4 ∧ w.cell? ⟨B, 5, none⟩ = some u5) ∧ ∀ i, w.frozen? ⟨B, i, none⟩ = false := by
  obtain ⟨u0, h0⟩ := h.cell (i := 0) (by decide)
  obtain ⟨u1, h1⟩ := h.cell (i := 1) (by decide)
  obtain ⟨u2, h2⟩ := h.cell (i := 2) (by decide)
  obtain ⟨u3, h3⟩ := h.cell (i := 3) (by decide)
  obtain ⟨u4, h4⟩ := h.cell (i := 4) (by decide)
  obtain ⟨u5, h5⟩ := h.cell (i := 5) (by decide)
  exact ⟨⟨u0, u1, u2, u3, u4, u5, h0, h1, h2, h3, h4, h5⟩, h.frozen⟩
/-- what is owned stays owned while other blocks are written -/
theorem own_off {w : World} {base size n : Nat} {e : TypeId} {v : Value} {ks : List Value} (h : w.ownsRow base e size v n ks) {b : Nat} (hb : b < base) (o : Nat) (u : Value) : (w.setCell ⟨b, o, none⟩ u).ownsRow base e size v n ks :=
  ownsRow_setCell_below h (a := ⟨b, o, none⟩) hb u
theorem own_low {w : World} {base base' size n : Nat} {e : TypeId} {v : Value} {ks : List Value} (h : w.ownsRow base e size v n ks) (hb : base' ≤ base) : w.ownsRow base' e size v n ks := by
  obtain ⟨h1, h2⟩ := h
  exact ⟨h1, h2.imp id fun ⟨g, cap, cur, e1, e2, r⟩ => ⟨g, cap, cur, e1, Nat.le_trans hb e2, r⟩⟩
/-- the shape of what is owned -/
theorem own_shape {w : World} {base size n : Nat} {e : TypeId} {v : Value} {ks : List Value} (h : w.ownsRow base e size v n ks) : ∃ a cap, v = .slice a n cap := by
  rcases h.2 with ⟨rfl, rfl⟩ | ⟨g, cap, cur, rfl, -⟩
  · exact ⟨_, _, rfl⟩
  · exact ⟨_, _, rfl⟩

theorem wp_named {P : Program} {c : Code} {Q : Exit → Act → World → Prop} {a : Act} {w : World} (h : ∀ W, W = w → c.wp P Q a W) : c.wp P Q a w := h w rfl
set_option maxHeartbeats 400000 in
theorem CopyFeature_c (a b c d e : Int) (v : Value) (os : List Opt) (lo hi : Nat) (w : World) (h : OptsAt w lo hi v os) (hh : hi ≤ w.heap.size) (hl : os.length ≤ 1000000) :
    Calls Tryz.prog 67 #[.agg #[.int .i64 a, .int .i64 b, .int .i64 c, .int .i64 d, .int .i64 e, v]] w fun r w' => ∃ v', r = .returned (.agg #[.int .i64 a, .int .i64 b, .int .i64 c, .int .i64 d, .int .i64 e, v']) ∧ w'.ownsRow w.heap.size 41 2 v' os.length (os.flatMap optV) ∧ Below w.heap.size w w' := by
  have HC := Lib.hid fun W (hb : Below w.heap.size w W) => CopyOptions_c v os lo hi W (h.move (Same.of_below (hb.mono hh))) hl
  obtain ⟨av, cap, rfl, -⟩ := h
  generalize os.flatMap optV = ks at *
  generalize os.length = n at *
  clear hl
  go_enter Tryz.func67, Tryz.ntmps67
  go_wp2_with fail
  refine wp_named fun W hW => ?_
  have k0 : W.cell? ⟨w.heap.size, 0, none⟩ = some (.int .i64 a) := by rw [hW]; go_simp
  have k1 : W.cell? ⟨w.heap.size, 1, none⟩ = some (.int .i64 b) := by rw [hW]; go_simp
  have k2 : W.cell? ⟨w.heap.size, 2, none⟩ = some (.int .i64 c) := by rw [hW]; go_simp
  have k3 : W.cell? ⟨w.heap.size, 3, none⟩ = some (.int .i64 d) := by rw [hW]; go_simp
  have k4 : W.cell? ⟨w.heap.size, 4, none⟩ = some (.int .i64 e) := by rw [hW]; go_simp
  have k5 : W.cell? ⟨w.heap.size, 5, none⟩ = some (.slice av n cap) := by rw [hW]; go_simp
  have hH : Hid (Hold W (w.heap.size + 1) 6) := by
    rw [hW]
    have := Hold.made (w.alloc (.cells #[.int .i64 a, .int .i64 b, .int .i64 c, .int .i64 d, .int .i64 e, .slice av n cap] 47)) #[.int .i64 0, .int .i64 0, .int .i64 0, .int .i64 0, .int .i64 0, .slice none 0 0] 47
    rwa [World.size_alloc] at this
  have hB : Below w.heap.size w W := by rw [hW]; go_grown
  have hz : w.heap.size + 1 < W.heap.size := by rw [hW]; simp
  have y0 : w.heap.size < W.heap.size := by omega
  clear hW
  have HS : Hid (∀ w', Kp W (w.heap.size + 1) 6 w' → (w'.cell? ⟨w.heap.size, 0, none⟩ = some (.int .i64 a) ∧ w'.cell? ⟨w.heap.size, 1, none⟩ = some (.int .i64 b) ∧ w'.cell? ⟨w.heap.size, 2, none⟩ = some (.int .i64 c) ∧ w'.cell? ⟨w.heap.size, 3, none⟩ = some (.int .i64 d) ∧ w'.cell? ⟨w.heap.size, 4, none⟩ = some (.int .i64 e) ∧ w'.cell? ⟨w.heap.size, 5, none⟩ = some (.slice av n cap) ∧ Kp W (w.heap.size + 1) 6 w')) :=
    fun w' K => ⟨K.cell k0 (by omega), K.cell k1 (by omega), K.cell k2 (by omega), K.cell k3 (by omega), K.cell k4 (by omega), K.cell k5 (by omega), K⟩
  clear k0 k1 k2 k3 k4 k5
  go_region_held3 (fun w' => w'.cell? ⟨w.heap.size, 0, none⟩ = some (.int .i64 a) ∧ w'.cell? ⟨w.heap.size, 1, none⟩ = some (.int .i64 b) ∧ w'.cell? ⟨w.heap.size, 2, none⟩ = some (.int .i64 c) ∧ w'.cell? ⟨w.heap.size, 3, none⟩ = some (.int .i64 d) ∧ w'.cell? ⟨w.heap.size, 4, none⟩ = some (.int .i64 e) ∧ w'.cell? ⟨w.heap.size, 5, none⟩ = some (.slice av n cap) ∧ Kp W (w.heap.size + 1) 6 w')
    ((refine HS.out _ ?_; with_reducible (first | exact Kp.drew hH.out | assumption | exact (((((Kp.set (by assumption) _ _).set _ _).set _ _).set _ _).set _ _).set _ _)))
    ((go_at_call 82; have hK2 := (by assumption : _ ∧ _ ∧ _ ∧ _ ∧ _ ∧ _ ∧ Kp W (w.heap.size + 1) 6 _).2.2.2.2.2.2; refine (HC.out _ (hK2.below hB (by omega))).mono ?_; rintro r w3 ⟨v', rfl, ho, hb3⟩; obtain ⟨pa, pc, rfl⟩ := own_shape ho; have hoH := Lib.hid ho; have hK3 := hK2.call hb3; have hs2 := hK2.1.size; clear ho hK2; obtain ⟨⟨u0, u1, u2, u3, u4, u5, c0, c1, c2, c3, c4, c5⟩, cf⟩ := hK3.2.open6; have f0 := cf 0; have f1 := cf 1; have f2 := cf 2; have f3 := cf 3; have f4 := cf 4; have f5 := cf 5; clear cf))
  go_wp2
  (try simp only [Exit.inBlock, Exit.then]); refine bodyPost_ret (by simp [results, Tryz.results67, go_sem, *]; try rfl) rfl ?_
  refine ⟨_, rfl, own_low (own_off (own_off (own_off (own_off (own_off (own_off hoH.out ?_ _ _) ?_ _ _) ?_ _ _) ?_ _ _) ?_ _ _) ?_ _ _) ?_, (by assumption : _ ∧ _ ∧ _ ∧ _ ∧ _ ∧ _ ∧ Kp W (w.heap.size + 1) 6 _).2.2.2.2.2.2.below hB (by omega)⟩
  all_goals (first | omega | (have := hB.size; omega))
end Go.Proofs.YtpcefaccoifejaaGreatDoor
