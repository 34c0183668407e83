/-
  A state of package tone and one of the reference that hold the same alterations do the same. Conditions: the key is one, the map has room.
-/
import Derived.Test.YthfclapnkemjiaaGreatDoorRNew
import Derived.Test.YthfclapnkemjiaaGreatDoorCopy
import Derived.Test.YthfclapnkemjiaaGreatDoorNil
namespace Go.Proofs.YthfclapnkemjiaaGreatDoor
open Go.RowKit
set_option linter.unusedSimpArgs false
set_option linter.unusedVariables false

theorem below_gr {w a b : World} {r : Nat} (h : Below w.heap.size w a) (g : a.grownBy b (some r)) (hr : w.heap.size ≤ r) : Below w.heap.size w b :=
  h.grown g h.size (fun k hk => by injection hk with hk; omega)
/-- the same alterations hold -/
def Agr (key : Int) (g : Int → Option Int) (f : Nat → Int) : Prop := ∀ i : Nat, i < 70 → cur key g (i : Int) = f i ∧ -1 ≤ f i ∧ f i ≤ 1
theorem cur_upd (key : Int) (g : Int → Option Int) (s v t : Int) : cur key (upd g s v) t = if t = s then v else cur key g t := by
  unfold cur upd
  by_cases h : t = s
  · rw [if_pos h, if_pos h]; rfl
  · rw [if_neg h, if_neg h]
theorem Agr.upd {key : Int} {g : Int → Option Int} {f : Nat → Int} (h : Agr key g f) (k : Nat) (v : Int) (h0 : -1 ≤ v) (h1 : v ≤ 1) : Agr key (upd g (k : Int) v) (updN f k v) := fun i hi => by
  rw [cur_upd]
  unfold updN
  by_cases e : i = k
  · subst e; rw [if_pos rfl, if_pos rfl]; exact ⟨rfl, h0, h1⟩
  · rw [if_neg (by omega), if_neg e]; exact h i hi
theorem Agr.start (key : Int) : Agr key (fun _ => none) (fun j => keyAlt key (j : Int)) := fun i _ => ⟨rfl, keyAlt_bd _ _⟩
def PT (sb bm n : Nat) (key : Int) (g : Int → Option Int) (w : World) (x y : Int) (e : Ending) (w' : World) : Prop := e = .returned (.tuple #[.int .i64 x, .int .i64 y]) ∧ St w' sb bm n key g ∧ w.grownBy w' (some bm)
def PR (rb : Nat) (key : Int) (f : Nat → Int) (w : World) (x y : Int) (e : Ending) (w' : World) : Prop := e = .returned (.tuple #[.int .i64 x, .int .i64 y]) ∧ RSt w' rb key f ∧ w.grownBy w' (some rb)
theorem grown_self (w : World) (row : Option Nat) : w.grownBy w row := ⟨rfl, rfl, rfl, Nat.le_refl _, fun _ _ _ => rfl⟩
section
variable {sb bm n rb : Nat} {key : Int} {g : Int → Option Int} {f : Nat → Int} {w : World} {x y : Int} {fn : FuncId} {args : Array Value}
theorem PT_same (h : St w sb bm n key g) (hc : Calls Tryz.prog fn args w fun e w' => e = .returned (.tuple #[.int .i64 x, .int .i64 y]) ∧ w = w') : Calls Tryz.prog fn args w (PT sb bm (n + 1) key g w x y) :=
  hc.mono fun _ _ ⟨he, hw⟩ => ⟨he, by rw [← hw]; exact h.mono (Nat.le_succ _), by rw [← hw]; exact grown_self _ _⟩
theorem PT_below (h : St w sb bm n key g) (hc : Calls Tryz.prog fn args w fun e w' => e = .returned (.tuple #[.int .i64 x, .int .i64 y]) ∧ Below w.heap.size w w') : Calls Tryz.prog fn args w (PT sb bm (n + 1) key g w x y) :=
  hc.mono fun _ _ ⟨he, hb⟩ => ⟨he, (h.below hb).mono (Nat.le_succ _), grown_of_below hb _⟩
theorem PR_same (h : RSt w rb key f) (hc : Calls Tryz.prog fn args w fun e w' => e = .returned (.tuple #[.int .i64 x, .int .i64 y]) ∧ w = w') : Calls Tryz.prog fn args w (PR rb key f w x y) :=
  hc.mono fun _ _ ⟨he, hw⟩ => ⟨he, by rw [← hw]; exact h, by rw [← hw]; exact grown_self _ _⟩
theorem PR_below (h : RSt w rb key f) (hc : Calls Tryz.prog fn args w fun e w' => e = .returned (.tuple #[.int .i64 x, .int .i64 y]) ∧ Below w.heap.size w w') : Calls Tryz.prog fn args w (PR rb key f w x y) :=
  hc.mono fun _ _ ⟨he, hb⟩ => ⟨he, h.below hb, grown_of_below hb _⟩
end
theorem step_cases (step : Int) : (step < 0 ∨ 70 ≤ step) ∨ ∃ k : Nat, k < 70 ∧ step = (k : Int) := by
  by_cases h : step < 0 ∨ 70 ≤ step
  · exact .inl h
  · exact .inr ⟨step.toNat, by omega, by omega⟩
theorem Print_sync {key : Int} {g : Int → Option Int} {f : Nat → Int} (step alter : Int) (h1 : -4 ≤ key) (h2 : key ≤ 4) (hA : Agr key g f) : ∃ x y g' f', Agr key g' f' ∧
    (∀ sb bm n w, n < 1000 → St w sb bm n key g → Calls Tryz.prog 40 #[.pointer (some ⟨sb, 0, none⟩), .int .i64 step, .int .i64 alter] w (PT sb bm (n + 1) key g' w x y)) ∧
    (∀ rb w, RSt w rb key f → Calls Tryz.prog 41 #[.pointer (some ⟨rb, 0, none⟩), .int .i64 step, .int .i64 alter] w (PR rb key f' w x y)) := by
  rcases step_cases step with hs | ⟨k, hk, rfl⟩
  · exact ⟨0, 34, g, f, hA, fun sb bm n w _ h => PT_same h (Print_step sb bm n key step alter g w h hs), fun rb w h => PR_same h (rPrint_bad rb step alter w (by omega))⟩
  · by_cases ha : alter < -1 ∨ 1 < alter
    · exact ⟨0, 34, g, f, hA, fun sb bm n w _ h => PT_below h (Print_bad sb bm n key k alter g w h h1 h2 (by omega) (by omega) ha), fun rb w h => PR_same h (rPrint_bad rb k alter w (by omega))⟩
    · have hc := (hA k hk).1
      by_cases he : f k = alter
      · exact ⟨0, 0, g, f, hA, fun sb bm n w _ h => PT_below h (Print_same sb bm n key k alter g w h h1 h2 (by omega) (by omega) (by omega) (by omega) (hc.trans he)), fun rb w h => PR_same h (rPrint_same rb key alter f k w h hk (by omega) (by omega) he)⟩
      · exact ⟨accOf alter, 0, upd g k alter, updN f k alter, hA.upd k alter (by omega) (by omega),
          fun sb bm n w hn h => (Print_new sb bm n key k alter g w h h1 h2 (by omega) (by omega) (by omega) (by omega) (by unfold maxLen; omega) (by rw [hc]; exact he)).mono fun _ _ ⟨a, b, c⟩ => ⟨a, b, c⟩,
          fun rb w h => (rPrint_new rb key alter f k w h hk (by omega) (by omega) he).mono fun _ _ ⟨a, b, c⟩ => ⟨a, b, c⟩⟩
theorem means_bd (a : Int) : -1 ≤ means a ∧ means a ≤ 1 := by
  unfold means; split
  · omega
  · split <;> omega
theorem Hear_sync {key : Int} {g : Int → Option Int} {f : Nat → Int} (step acc : Int) (h1 : -4 ≤ key) (h2 : key ≤ 4) (hA : Agr key g f) : ∃ x y g' f', Agr key g' f' ∧
    (∀ sb bm n w, n < 1000 → St w sb bm n key g → Calls Tryz.prog 42 #[.pointer (some ⟨sb, 0, none⟩), .int .i64 step, .int .i64 acc] w (PT sb bm (n + 1) key g' w x y)) ∧
    (∀ rb w, RSt w rb key f → Calls Tryz.prog 43 #[.pointer (some ⟨rb, 0, none⟩), .int .i64 step, .int .i64 acc] w (PR rb key f' w x y)) := by
  rcases step_cases step with hs | ⟨k, hk, rfl⟩
  · exact ⟨0, 34, g, f, hA, fun sb bm n w _ h => PT_same h (Hear_step sb bm n key step acc g w h hs), fun rb w h => PR_same h (rHear_step rb step acc w hs)⟩
  · by_cases ha : acc < 0 ∨ 3 < acc
    · exact ⟨0, 66, g, f, hA, fun sb bm n w _ h => PT_below h (Hear_bad sb bm n key k acc g w h h1 h2 (by omega) (by omega) ha), fun rb w h => PR_same h (rHear_acc rb k acc w (by omega) (by omega) ha)⟩
    · have hc := (hA k hk).1
      by_cases h0 : acc = 0
      · subst h0
        exact ⟨f k, 0, g, f, hA, fun sb bm n w _ h => PT_below h (by rw [← hc]; exact Hear_zero sb bm n key k g w h h1 h2 (by omega) (by omega)), fun rb w h => PR_same h (rHear_zero rb key f k w h hk)⟩
      · by_cases he : means acc = f k
        · exact ⟨0, 66, g, f, hA, fun sb bm n w _ h => PT_below h (Hear_same sb bm n key k acc g w h h1 h2 (by omega) (by omega) (by omega) (by omega) (hc.trans he.symm)), fun rb w h => PR_below h (rHear_same rb key acc f k w h hk (by omega) (by omega) he)⟩
        · have hm := means_bd acc
          exact ⟨means acc, 0, upd g k (means acc), updN f k (means acc), hA.upd k _ hm.1 hm.2,
            fun sb bm n w hn h => (Hear_new sb bm n key k acc g w h h1 h2 (by omega) (by omega) (by omega) (by omega) (by unfold maxLen; omega) (by rw [hc]; exact Ne.symm he)).mono fun _ _ ⟨a, b, c⟩ => ⟨a, b, c⟩,
            fun rb w h => (rHear_new rb key acc f k w h hk (by omega) (by omega) he).mono fun _ _ ⟨a, b, c⟩ => ⟨a, b, c⟩⟩
theorem At_sync {key : Int} {g : Int → Option Int} {f : Nat → Int} (step : Int) (h1 : -4 ≤ key) (h2 : key ≤ 4) (hA : Agr key g f) : ∃ x y : Int,
    (∀ sb bm n w, St w sb bm n key g → Calls Tryz.prog 47 #[.pointer (some ⟨sb, 0, none⟩), .int .i64 step] w fun e w' => e = .returned (.tuple #[.int .i64 x, .int .i64 y]) ∧ Below w.heap.size w w') ∧
    (∀ rb w, RSt w rb key f → Calls Tryz.prog 48 #[.pointer (some ⟨rb, 0, none⟩), .int .i64 step] w fun e w' => e = .returned (.tuple #[.int .i64 x, .int .i64 y]) ∧ w = w') := by
  rcases step_cases step with hs | ⟨k, hk, rfl⟩
  · exact ⟨0, 34, fun sb bm n w h => (At_step sb bm n key step g w h hs).mono fun _ _ ⟨a, b⟩ => ⟨a, by rw [← b]; exact Below.refl _ _⟩, fun rb w h => rAt_no rb step w hs⟩
  · have hc := (hA k hk).1
    exact ⟨f k, 0, fun sb bm n w h => by rw [← hc]; exact At_c sb bm n key k g w h h1 h2 (by omega) (by omega), fun rb w h => rAt_yes rb key f k w h hk⟩
theorem St.ne_R {w : World} {sb bm n rb : Nat} {key key' : Int} {g : Int → Option Int} {f : Nat → Int} (h : St w sb bm n key g) (k : RSt w rb key' f) : sb ≠ rb ∧ bm ≠ rb := by
  constructor
  · rintro rfl
    have h1 := h.cells
    have h2 : w.heap[sb]? = some (.cells (rowOf key' f) 63 (0, 0)) := k
    rw [h1] at h2
    injection h2 with h2
    injection h2 with h2
    have := congrArg Array.size h2
    rw [rowOf_size] at this
    cases this
  · rintro rfl
    obtain ⟨D, ⟨es, clock, hb, _⟩, _⟩ := h.map
    have h2 : w.heap[bm]? = some (.cells (rowOf key' f) 63 (0, 0)) := k
    rw [hb] at h2
    injection h2 with h2
    cases h2
/-- block b holds the three numbers of a turn -/
structure Tri (w : World) (b : Nat) (x y z : Int) : Prop where
  t0 : w.cell? ⟨b, 0, none⟩ = some (.int .i64 x)
  t1 : w.cell? ⟨b, 1, none⟩ = some (.int .i64 y)
  t2 : w.cell? ⟨b, 2, none⟩ = some (.int .i64 z)
  lt : b < w.heap.size
theorem Tri.kept {w w' : World} {b : Nat} {x y z : Int} (h : Tri w b x y z) {row : Option Nat} (hg : w.grownBy w' row) (hne : some b ≠ row) : Tri w' b x y z := by
  have c : ∀ o, w'.cell? ⟨b, o, none⟩ = w.cell? ⟨b, o, none⟩ := fun o => World.cell?_of_block (a := ⟨b, o, none⟩) (hg.block b h.lt hne)
  exact ⟨(c 0).trans h.t0, (c 1).trans h.t1, (c 2).trans h.t2, Nat.lt_of_lt_of_le h.lt hg.size⟩
/-- what holds between the rounds -/
structure Both (w : World) (rb : Nat) (key : Int) (k sb bm : Nat) (g : Int → Option Int) (f : Nat → Int) (wr : World) : Prop where
  s : St wr sb bm k key g
  r : RSt wr rb key f
  a : Agr key g f
  lb : w.heap.size ≤ bm
  lr : w.heap.size ≤ rb
  hB : Below w.heap.size w wr
theorem Both.below {w wr W : World} {rb k sb bm : Nat} {key : Int} {g : Int → Option Int} {f : Nat → Int} (h : Both w rb key k sb bm g f wr) (hb : Below wr.heap.size wr W) : Both w rb key k sb bm g f W :=
  ⟨h.s.below hb, h.r.below hb, h.a, h.lb, h.lr, below_step h.hB hb⟩
end Go.Proofs.YthfclapnkemjiaaGreatDoor
