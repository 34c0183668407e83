/-
  What settled features add to a weight, in whatever order they come. Conditions: the features' places differ; the acts were done on them.
-/
import Derived.Test.YtpcefaccoifejaaGreatDoorK15
namespace Go.Proofs.YtpcefaccoifejaaGreatDoor
open Go.RowKit Go.Maps
set_option linter.unusedSimpArgs false
set_option linter.unusedVariables false

theorem ordA_nodup : ∀ (n : Nat) (acts : List Ac), acts.length = n → (ordA acts).Nodup
  | 0, acts, h => by rw [List.eq_nil_of_length_eq_zero h]; simp [ordA]
  | n + 1, acts, h => by
    rcases List.eq_nil_or_concat acts with rfl | ⟨l, a, rfl⟩
    · simp at h
    · rw [List.concat_eq_append] at h ⊢
      have hl := ordA_nodup n l (by simpa using h)
      rw [ordA_snoc]
      split
      · exact hl
      · rename_i hn
        exact List.nodup_append.2 ⟨hl, by simp, fun x hx y hy e => by
          simp only [List.mem_singleton] at hy
          subst hy
          subst e
          exact hn hx⟩
theorem perm_sum {α : Type} (f : α → Int) {l l' : List α} (h : l.Perm l') : (l.map f).sum = (l'.map f).sum := by
  induction h with
  | nil => rfl
  | cons x _ ih => simp only [List.map_cons, List.sum_cons, ih]
  | swap x y l => simp only [List.map_cons, List.sum_cons]; omega
  | trans _ _ h1 h2 => exact h1.trans h2
theorem filter_sum {α : Type} (f : α → Int) (p : α → Bool) : ∀ (l : List α), (∀ x ∈ l, p x = false → f x = 0) → ((l.filter p).map f).sum = (l.map f).sum
  | [], _ => rfl
  | x :: r, h => by
    have ih := filter_sum f p r (fun y hy => h y (List.mem_cons_of_mem _ hy))
    cases hp : p x
    · rw [List.filter_cons_of_neg (by rw [hp]; exact Bool.false_ne_true)]
      simp only [List.map_cons, List.sum_cons, ih, h x (List.mem_cons_self) hp]
      omega
    · rw [List.filter_cons_of_pos hp]
      simp only [List.map_cons, List.sum_cons, ih]
theorem fs_range (fs : List Ft) : fs = (List.range fs.length).map (ftAt fs) := by
  apply List.ext_getElem
  · simp
  · intro i h1 h2
    rw [List.getElem_map, List.getElem_range, ftAt_get h1]
/-- what settled features add to the weight of number n -/
def wPre {fs : List Ft} {acts : List Ac} (pre : List (SetI fs acts)) (n : Nat) : Int := (pre.map fun x => wOne acts n (ftAt fs x.1)).sum
theorem wPre_end {fs : List Ft} {acts : List Ac} (hg : (fs.map (·.1)).Nodup) {pre : List (SetI fs acts)} (h : pre.map (plOf fs) = ordA acts) (ha : ∀ a ∈ acts, a.2.1 ∈ fs.map (·.1)) (n : Nat) : wPre pre n = wSum acts n fs := by
  have e1 : wPre pre n = ((pre.map (·.1)).map fun i => wOne acts n (ftAt fs i)).sum := by
    unfold wPre
    rw [List.map_map]
    rfl
  have e2 : wSum acts n fs = ((List.range fs.length).map fun i => wOne acts n (ftAt fs i)).sum := by
    unfold wSum
    conv => lhs; rw [fs_range fs]
    rw [List.map_map]
    rfl
  rw [e1, e2, ← filter_sum _ (fun i => touched acts (ftAt fs i).1) (List.range fs.length) (fun i _ hi => by
    unfold wOne
    have hi' : touched acts (ftAt fs i).1 = false := hi
    rw [if_neg (fun x => by rw [hi'] at x; exact Bool.false_ne_true x.1)])]
  refine perm_sum _ ((List.perm_ext_iff_of_nodup ?_ (List.Nodup.sublist List.filter_sublist List.nodup_range)).2 fun i => ?_)
  · have hn : (pre.map (plOf fs)).Nodup := by rw [h]; exact ordA_nodup _ acts rfl
    have : (pre.map (plOf fs)) = (pre.map (·.1)).map (fun i => (ftAt fs i).1) := by rw [List.map_map]; rfl
    rw [this] at hn
    exact (List.pairwise_map.1 hn).imp (fun h e => h (by rw [e]))
  · rw [List.mem_filter, List.mem_range, List.mem_map]
    constructor
    · rintro ⟨x, _, rfl⟩
      exact x.2
    · rintro ⟨hi, ht⟩
      have hm : (ftAt fs i).1 ∈ pre.map (plOf fs) := by rw [h]; exact (ordA_mem _ _).2 ht
      obtain ⟨x, hx, hxe⟩ := List.mem_map.1 hm
      refine ⟨x, hx, ?_⟩
      have a1 := atF_at hg x.2.1
      have a2 := atF_at hg hi
      rw [← ftAt_get x.2.1] at a1
      rw [← ftAt_get hi] at a2
      have : (ftAt fs x.1).1 = (ftAt fs i).1 := hxe
      rw [this, a2] at a1
      exact (Option.some.inj a1).symm
theorem wOne_bd (acts : List Ac) (n : Nat) (f : Ft) : -1 ≤ wOne acts n f ∧ wOne acts n f ≤ 1 := by
  unfold wOne
  split
  · split <;> omega
  · omega
theorem wPre_bd {fs : List Ft} {acts : List Ac} (n : Nat) : ∀ (pre : List (SetI fs acts)), -(pre.length : Int) ≤ wPre pre n ∧ wPre pre n ≤ pre.length
  | [] => by simp [wPre]
  | x :: r => by
    have ih := wPre_bd n r
    have h1 := wOne_bd acts n (ftAt fs x.1)
    have e : wPre (x :: r) n = wOne acts n (ftAt fs x.1) + wPre r n := by simp [wPre]
    rw [e, List.length_cons]
    omega
theorem wPre_snoc {fs : List Ft} {acts : List Ac} (n : Nat) (pre : List (SetI fs acts)) (x : SetI fs acts) : wPre (pre ++ [x]) n = wPre pre n + wOne acts n (ftAt fs x.1) := by
  unfold wPre
  rw [List.map_append, List.sum_append]
  simp
end Go.Proofs.YtpcefaccoifejaaGreatDoor
