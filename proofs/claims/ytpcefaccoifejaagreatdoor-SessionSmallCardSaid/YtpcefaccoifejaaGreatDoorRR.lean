/-
  A region that draws its order, in a round of a range over a function: walked as anywhere. Conditions: no operation of it is a defer statement; its post lets nothing out.
-/
import Derived.Test.YtpcefaccoifejaaGreatDoorKC
import Derived.Shelf.Abstract
namespace Go.Proofs.YtpcefaccoifejaaGreatDoor
open Go.RowKit
set_option linter.unusedVariables false

theorem upon_round {l n : Nat} {P : Program} {o : Oper} {a : Act} {K : Act → World → Prop} {Q : Exit → Act → World → Prop} : ∀ {r : Result Next}, o.upon P a K Q r → o.uponIn (Fence.wide.inRound l) n P a K Q r
  | .ok (.value v) w', h => h
  | .ok .skip w', h => h
  | .ok (.defer d) w', h => h
  | .ok (.enter f args) w', h => ⟨fun h => (by cases h), (callsIn_wide (n := n - 1)).2 h⟩
  | .ok (.row row args) w', h => ⟨fun h => (by cases h), fun c cs _ => by
      obtain ⟨v, w2, r, s⟩ := h c cs
      exact ⟨v, w2, r, stepsIn_wide.2 s⟩⟩
  | .halt (.panic v) w', h => h
def noDefer (ops : Array Oper) : Bool := ops.toList.all fun o => match o.op with | .defer _ => false | _ => true
theorem noDefer_at {ops : Array Oper} (h : noDefer ops = true) {i : Nat} {o : Oper} (hi : ops[i]? = some o) : ∀ c, o.op ≠ .defer c := by
  intro c hc
  unfold noDefer at h
  rw [List.all_eq_true] at h
  have hm : o ∈ ops.toList := by
    obtain ⟨hlt, he⟩ := Array.getElem?_eq_some_iff.1 hi
    rw [← he]
    exact Array.getElem_mem_toList hlt
  have := h o hm
  rw [hc] at this
  cases this
theorem wpAny_round {l n : Nat} {P : Program} {md : Region.Mode} {ops : Array Oper} {Q : Exit → Act → World → Prop} (hd : noDefer ops = true) (hL : ¬ LetsOut Q) :
    ∀ (fuel : Nat) (listed : Array Bool) (a : Act) (w : World), wpAny P md ops Q fuel listed a w → wpAnyIn (Fence.wide.inRound l) n P md ops Q fuel listed a w
  | 0, _, _, _, h => h
  | fuel + 1, listed, a, w, h => by
    refine ⟨h.1, fun i hi => ?_⟩
    have hw := h.2 i hi
    unfold wpOp at hw
    unfold wpOpIn
    cases ho : ops[i]? with
    | none =>
      rw [ho] at hw
      exact wpAny_round hd hL fuel _ _ _ hw
    | some o =>
      rw [ho] at hw
      simp only at hw ⊢
      split
      · rename_i hwant
        rw [if_pos hwant] at hw
        rcases hw with hw | ⟨_, hw⟩
        · refine Oper.wpIn_mono (fun a' w' h' => wpAny_round hd hL fuel _ a' w' h') ⟨fun _ _ => trivial, ?_⟩
          rw [Oper.semAt_plain _ _ _ (noDefer_at hd ho)]
          exact upon_round hw
        · exact absurd hw hL
      · rename_i hwant
        rw [if_neg hwant] at hw
        exact ⟨fun _ _ => trivial, wpAny_round hd hL fuel _ _ _ hw⟩
/-- what a region keeps, in a round -/
theorem round_region {l n id : Nat} {P : Program} {ops : Array Oper} {Q : Exit → Act → World → Prop} {S : World → Prop} {a : Act} {w : World} (hm : P.follows .mixedOrders = true) (hd : noDefer ops = true) (hL : ¬ LetsOut Q) (hS : S w.drew)
    (h : S w.drew → wpAnyH P .any ops Q S ops.size (Array.replicate ops.size false) a w.drew) : (Code.region id ops true).wpIn (Fence.wide.inRound l) n P Q a w :=
  wpIn_region_any hm (wpAny_round hd hL _ _ _ _ (wpAny_of_held _ _ _ _ (h hS)))
theorem arr_at {l : List Oper} {i : Nat} {o : Oper} (h : l[i]? = some o) : l.toArray[i]? = some o := by simpa using h
end Go.Proofs.YtpcefaccoifejaaGreatDoor
