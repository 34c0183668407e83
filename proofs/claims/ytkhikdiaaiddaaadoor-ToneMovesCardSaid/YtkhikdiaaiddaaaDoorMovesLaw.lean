/-
  Plain facts on Transpose, Between and Key: there and back, sums of intervals, keys. No condition but those named.
-/
import Derived.Test.YtkhikdiaaiddaaaDoorBetween
import Derived.Test.YtkhikdiaaiddaaaDoorAlt
namespace Go.Proofs.YtkhikdiaaiddaaaDoor
open Go.RowKit

theorem trOf_ok {s a st se : Int} (h : (trOf s a st se).2.2 = 0) : nearP st se ∧ goodP s a ∧ 0 ≤ s + st ∧ s + st < 70 ∧ -1 ≤ nat7 s + a + se - nat7 (s + st) ∧ nat7 s + a + se - nat7 (s + st) ≤ 1 ∧ trOf s a st se = (s + st, nat7 s + a + se - nat7 (s + st), 0) := by
  unfold trOf at h ⊢
  by_cases h1 : nearP st se
  · by_cases h2 : goodP s a ∧ 0 ≤ s + st ∧ s + st < 70
    · by_cases h3 : -1 ≤ nat7 s + a + se - nat7 (s + st) ∧ nat7 s + a + se - nat7 (s + st) ≤ 1
      · exact ⟨h1, h2.1, h2.2.1, h2.2.2, h3.1, h3.2, by rw [if_neg (fun k => k h1), if_neg (fun k => k h2), if_pos h3]⟩
      · rw [if_neg (fun k => k h1), if_neg (fun k => k h2), if_neg h3] at h; cases h
    · rw [if_neg (fun k => k h1), if_pos h2] at h; cases h
  · rw [if_pos h1] at h; cases h
theorem trOf_mk {s a st se t x : Int} (h1 : nearP st se) (h2 : goodP s a) (ht : s + st = t) (h3 : 0 ≤ t) (h4 : t < 70) (hx : nat7 s + a + se - nat7 t = x) (h5 : -1 ≤ x) (h6 : x ≤ 1) : trOf s a st se = (t, x, 0) := by
  subst ht; subst hx
  unfold trOf
  rw [if_neg (fun k => k h1), if_neg (fun k => k ⟨h2, h3, h4⟩), if_pos ⟨h5, h6⟩]
theorem trOf_back {s a st se : Int} (h : (trOf s a st se).2.2 = 0) : trOf (s + st) (nat7 s + a + se - nat7 (s + st)) (-st) (-se) = (s, a, 0) := by
  obtain ⟨⟨n1, n2, n3, n4⟩, ⟨g1, g2, g3, g4⟩, t0, t1, x0, x1, _⟩ := trOf_ok h
  exact trOf_mk ⟨by omega, by omega, by omega, by omega⟩ ⟨t0, t1, x0, x1⟩ (by omega) g1 g2 (by omega) g3 g4
theorem trOf_sum {s a st se st2 se2 : Int} (h : (trOf s a st se).2.2 = 0) (hn : nearP (st + st2) (se + se2)) (k : (trOf (s + st) (nat7 s + a + se - nat7 (s + st)) st2 se2).2.2 = 0) :
    trOf s a (st + st2) (se + se2) = trOf (s + st) (nat7 s + a + se - nat7 (s + st)) st2 se2 := by
  obtain ⟨⟨n1, n2, n3, n4⟩, ⟨g1, g2, g3, g4⟩, t0, t1, x0, x1, _⟩ := trOf_ok h
  obtain ⟨_, _, u0, u1, y0, y1, e⟩ := trOf_ok k
  rw [e]
  exact trOf_mk hn ⟨g1, g2, g3, g4⟩ (by omega) u0 u1 (by omega) y0 y1
theorem bt_good {s a c d : Int} (h : goodP s a) (k : goodP c d) : btE s a c d = 0 ∧ btX s a c d = c - s ∧ btY s a c d = nat7 c + d - (nat7 s + a) := by
  obtain ⟨g1, g2, g3, g4⟩ := h
  obtain ⟨k1, k2, k3, k4⟩ := k
  have e : btE s a c d = 0 := by
    unfold btE semE
    rw [if_pos ⟨g1, g2, g3, g4⟩, if_pos ⟨k1, k2, k3, k4⟩]; rfl
  unfold btX btY semN
  rw [if_pos e, if_pos e, if_pos ⟨k1, k2, k3, k4⟩, if_pos ⟨g1, g2, g3, g4⟩]
  exact ⟨e, rfl, rfl⟩
/-- the place of a note of the key on the circle of fifths, in a unit of a seventh of a semitone -/
def phi (key m : Int) : Int := 7 * (nat7 m + keyAlt key m) - 12 * m - key
theorem phi_eq : ∀ k ∈ ([-4, -3, -2, -1, 0, 1, 2, 3, 4] : List Int), ∀ l ∈ ([-4, -3, -2, -1, 0, 1, 2, 3, 4] : List Int), ∀ m ∈ ([0, 1, 2, 3, 4, 5, 6] : List Int), ∀ n ∈ ([0, 1, 2, 3, 4, 5, 6] : List Int), (phi k m - phi l n) % 7 = 0 → phi k m = phi l n := by
  decide +kernel
theorem nat7_mod (s : Int) : nat7 s = s / 7 * 12 + nat7 (s % 7) := by
  unfold nat7
  rw [show s % 7 / 7 = 0 by omega, show s % 7 % 7 = s % 7 by omega]
  omega
theorem keyAlt_mod (key s : Int) : keyAlt key s = keyAlt key (s % 7) := by
  unfold keyAlt
  rw [show s % 7 % 7 = s % 7 by omega]
theorem mem9 {k : Int} (h0 : -4 ≤ k) (h1 : k ≤ 4) : k ∈ ([-4, -3, -2, -1, 0, 1, 2, 3, 4] : List Int) := by simp only [List.mem_cons, List.not_mem_nil, or_false]; omega
theorem mem7 {k : Int} (h0 : 0 ≤ k) (h1 : k < 7) : k ∈ ([0, 1, 2, 3, 4, 5, 6] : List Int) := by simp only [List.mem_cons, List.not_mem_nil, or_false]; omega
/-- a pitch of the key stays one of the key -/
theorem key_moves {k s st se : Int} (k0 : -4 ≤ k) (k1 : k ≤ 4) (l0 : -4 ≤ k + 7 * se - 12 * st) (l1 : k + 7 * se - 12 * st ≤ 4) :
    nat7 s + keyAlt k s + se - nat7 (s + st) = keyAlt (k + 7 * se - 12 * st) (s + st) := by
  have h := phi_eq k (mem9 k0 k1) (k + 7 * se - 12 * st) (mem9 l0 l1) (s % 7) (mem7 (by omega) (by omega)) ((s + st) % 7) (mem7 (by omega) (by omega))
  unfold phi at h
  rw [nat7_mod s, nat7_mod (s + st), keyAlt_mod k s, keyAlt_mod _ (s + st)]
  generalize nat7 (s % 7) = a at *
  generalize nat7 ((s + st) % 7) = b at *
  generalize keyAlt k (s % 7) = c at *
  generalize keyAlt (k + 7 * se - 12 * st) ((s + st) % 7) = d at *
  omega
theorem trOf_key {k s st se : Int} (hn : nearP st se) (g0 : 0 ≤ s) (g1 : s < 70) (t0 : 0 ≤ s + st) (t1 : s + st < 70) (k0 : -4 ≤ k) (k1 : k ≤ 4) (l0 : -4 ≤ k + 7 * se - 12 * st) (l1 : k + 7 * se - 12 * st ≤ 4) :
    trOf s (keyAlt k s) st se = (s + st, keyAlt (k + 7 * se - 12 * st) (s + st), 0) := by
  have b := keyAlt_bd k s
  have b2 := keyAlt_bd (k + 7 * se - 12 * st) (s + st)
  exact trOf_mk hn ⟨g0, g1, b.1, b.2⟩ rfl t0 t1 (key_moves k0 k1 l0 l1) b2.1 b2.2
end Go.Proofs.YtkhikdiaaiddaaaDoor
