/-
  The walk of custoslaw05.ToneStates, and how a slice of turns reads. Conditions: integers are of their type; the slice is one that can be read.
-/
import Derived.Test.YtkhikdiaaiddaaaDoorStates
import Derived.Test.YtkhikdiaaiddaaaDoorAwake
import Derived.Deep.Slices
import Derived.OpenShut
namespace Go.Proofs.YtkhikdiaaiddaaaDoor
open Go.RowKit
set_option linter.unusedSimpArgs false
set_option linter.unusedVariables false

set_option maxRecDepth 100000 in
/-- a slice of turns: nil, or three numbers a turn -/
theorem turns_open {H : Type} {enc : TypeId × Value → H} {w : World} {base : Nat} {sp : Nat → Bool} {held : Bool} {fuel : Nat} {cs : List Value} {x : DataW H × List MemPlace}
    (h : DataW.trod enc Tryd.prog w base sp held fuel 48 cs = some x) :
    cs = [.slice none 0 0] ∨ ∃ (a : Addr) (len cap : Nat), cs = [.slice (some a) len cap] ∧ len ≤ maxLen ∧ ∀ i, i < len → ∃ x y z : Int,
      w.cell? (a.add (i * 3)) = some (.int .i64 x) ∧ w.cell? ((a.add (i * 3)).add 1) = some (.int .i64 y) ∧ w.cell? ((a.add (i * 3)).add 2) = some (.int .i64 z) := by
  have hc : Tryd.prog.cellsOf 102 = 3 := by kernel_rfl
  have hi : Tryd.prog.cellsOf 3 = 1 := by kernel_rfl
  rcases Deep.open_slice Tryd.underlying48 h with h0 | ⟨a, len, cap, m, n, D, Pl, rfl, _, hl, hm, hmm, _, hel⟩
  · exact .inl h0.1
  · refine .inr ⟨a, len, cap, rfl, by omega, fun i hlt => ?_⟩
    obtain ⟨l, hcl, ht⟩ := hel i (by rw [hmm]; split <;> omega)
    rw [hc] at hcl
    obtain ⟨_, hlen, hat⟩ := World.cells?_some hcl
    obtain ⟨ys, n', _, _, _, hyl, hf⟩ := DataW.trod_struct Tryd.underlying102 ht
    have hyl3 : ys.length = 3 := hyl
    clear hyl hl hm hmm hel
    match l, hlen, ys, hyl3 with
    | [c0, c1, c2], _, [y0, y1, y2], _ =>
      have f0 := hf 0 _ rfl
      have f1 := hf 1 _ rfl
      have f2 := hf 2 _ rfl
      change DataW.trod enc Tryd.prog w base sp held n' 3 (([c0, c1, c2].drop 0).take (Tryd.prog.cellsOf 3)) = some y0 at f0
      change DataW.trod enc Tryd.prog w base sp held n' 3 (([c0, c1, c2].drop 1).take (Tryd.prog.cellsOf 3)) = some y1 at f1
      change DataW.trod enc Tryd.prog w base sp held n' 3 (([c0, c1, c2].drop 2).take (Tryd.prog.cellsOf 3)) = some y2 at f2
      rw [hi] at f0 f1 f2
      obtain ⟨p, e0, _, _⟩ := DataW.trod_int Tryd.underlying3 f0
      obtain ⟨q, e1, _, _⟩ := DataW.trod_int Tryd.underlying3 f1
      obtain ⟨r, e2, _, _⟩ := DataW.trod_int Tryd.underlying3 f2
      simp at e0 e1 e2
      subst e0
      subst e1
      subst e2
      have a0 := hat 0 (by omega)
      have a1 := hat 1 (by omega)
      have a2 := hat 2 (by omega)
      exact ⟨p, q, r, a0, a1, a2⟩
set_option maxRecDepth 100000 in
theorem States_law (key : Int) (a : Option Addr) (len cap : Nat) (w : World) (hl : len ≤ maxLen) (H : len ≤ 60 → Calls Tryd.prog 29 #[.int .i64 key, .slice a len cap] w fun e w' => e = .returned (.bool true) ∧ Below w.heap.size w w') :
    Calls Tryd.prog 6 #[.int .i64 key, .slice a len cap] w fun e w' => e = .returned (.bool true) ∧ Below w.heap.size w w' := by
  unfold maxLen at hl
  by_cases h : len ≤ 60
  · have HS := Lib.hid (H h)
    have h2 : (len : Int) ≤ 60 := by omega
    clear H h
    go_enter Tryd.func6, Tryd.ntmps6
    go_wp2_with fail
    refine HS.out.mono ?_
    rintro e w1 ⟨rfl, hb1⟩
    go_wp2_with fail
    refine (awake_c _).mono ?_
    rintro e w2 ⟨rfl, hb2⟩
    go_wp2_with fail
    go_ret
    exact ⟨rfl, below_step hb1 hb2⟩
  · have h2 : 60 < (len : Int) := by omega
    clear H h
    go_enter Tryd.func6, Tryd.ntmps6
    go_wp2_with fail
    refine (awake_c _).mono ?_
    rintro e w2 ⟨rfl, hb2⟩
    go_wp2_with fail
    go_ret
    exact ⟨rfl, hb2⟩
theorem States_walk (key : Int) (v : Value) (w : World) {H : Type} {enc : TypeId × Value → H} {base : Nat} {sp : Nat → Bool} {held : Bool} {fuel : Nat} {x : DataW H × List MemPlace}
    (h : DataW.trod enc Tryd.prog w base sp held fuel 48 [v] = some x) :
    Calls Tryd.prog 6 #[.int .i64 key, v] w fun e w' => e = .returned (.bool true) ∧ Below w.heap.size w w' := by
  rcases turns_open h with h0 | ⟨a, len, cap, h0, hl, hc⟩
  · injection h0 with h0
    subst h0
    refine States_law key none 0 0 w (Nat.zero_le _) (fun _ => ?_)
    by_cases hk : -4 ≤ key ∧ key ≤ 4
    · exact states_nil key none 0 w hk.1 hk.2
    · exact states_bad key _ w (by omega)
  · injection h0 with h0
    subst h0
    refine States_law key (some a) len cap w hl (fun h60 => ?_)
    by_cases hk : -4 ≤ key ∧ key ≤ 4
    · rcases Nat.eq_zero_or_pos len with rfl | hpos
      · exact states_nil key (some a) cap w hk.1 hk.2
      · obtain ⟨b, off, spot⟩ := a
        obtain ⟨x0, y0, z0, h1, h2, h3⟩ := hc 0 hpos
        have hspot : spot = none := by simpa [Addr.add] using World.cell?_spot h1
        subst hspot
        have hlt : b < w.heap.size := by
          rcases Nat.lt_or_ge b w.heap.size with hb | hb
          · exact hb
          · have : w.heap[b]? = Option.none := by simpa using hb
            simp [World.cell?, Addr.add, this] at h1
        have hval : ∀ i : Nat, ∃ t : Int × Int × Int, i < len → w.cell? ⟨b, off + i * 3, none⟩ = some (.int .i64 t.1) ∧ w.cell? ⟨b, off + i * 3 + 1, none⟩ = some (.int .i64 t.2.1) ∧ w.cell? ⟨b, off + i * 3 + 2, none⟩ = some (.int .i64 t.2.2) := fun i => by
          by_cases hi : i < len
          · obtain ⟨x, y, z, g1, g2, g3⟩ := hc i hi
            rw [Go.WideShapes.add_plain] at g1 g2 g3
            rw [Go.WideShapes.add_plain] at g2 g3
            exact ⟨(x, y, z), fun _ => ⟨g1, g2, g3⟩⟩
          · exact ⟨(0, 0, 0), fun h => absurd h hi⟩
        obtain ⟨T, hT⟩ := Classical.axiomOfChoice hval
        exact states_some key b off len cap (fun i => (T i).1) (fun i => (T i).2.1) (fun i => (T i).2.2) w hk.1 hk.2 h60 hlt hT
    · exact states_bad key _ w (by omega)
end Go.Proofs.YtkhikdiaaiddaaaDoor
