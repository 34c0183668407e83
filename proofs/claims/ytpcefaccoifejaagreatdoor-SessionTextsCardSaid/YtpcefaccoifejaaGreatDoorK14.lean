/-
  Contracts of the methods Log, drop and Undo of a session. Conditions: the session lies in memory as K8 says; its log is not too long.
-/
import Derived.Test.YtpcefaccoifejaaGreatDoorK13
namespace Go.Proofs.YtpcefaccoifejaaGreatDoor
open Go.RowKit Go.Maps
set_option linter.unusedSimpArgs false
set_option linter.unusedVariables false
set_option maxRecDepth 100000

theorem Log_c (lo p m flo fhi : Nat) (va vf : Value) (fs : List Ft) (acts : List Ac) (w : World) (h : SesAt w lo p m flo fhi va vf fs acts) (hn : acts.length ≤ 100000) :
    Calls Tryz.prog 20 #[.pointer (some ⟨p, 0, none⟩)] w fun r w' => (∃ v', r = .returned (.tuple #[v', .int .i64 0]) ∧ w'.ownsRow w.heap.size 60 7 v' acts.length (acts.flatMap acV)) ∧ Below w.heap.size w w' := by
  have HN := Lib.hid fun W (hb : Below w.heap.size w W) => none_c lo p m flo fhi va vf fs acts W (h.below hb)
  have HC := Lib.hid (CloneA_c va acts lo w.heap.size w h.actsAt (by omega))
  obtain ⟨pa, pc, rfl⟩ := own_shape h.acts
  have c0 : w.cell? ⟨p, 0, none⟩ = some (.slice pa acts.length pc) := by rw [cell_of_row _ _ _ _ _ _ h.cells]; rfl
  generalize acts.flatMap acV = ks at *
  generalize acts.length = n at *
  clear h
  go_enter Tryz.func20, Tryz.ntmps20
  go_wp2_with fail
  refine (HN.out _ (Below.refl _ _)).mono ?_
  rintro e w3 ⟨rfl, rfl⟩
  go_wp2_with fail
  refine HC.out.mono ?_
  rintro e w4 ⟨v', rfl, ho, hb4⟩
  obtain ⟨oa, oc, rfl⟩ := own_shape ho
  go_wp2
  go_ret2
  exact ⟨⟨_, rfl, ho⟩, hb4⟩
theorem flat_dropLast (acts : List Ac) : acts.dropLast.flatMap acV = (acts.flatMap acV).take (acts.dropLast.length * 7) := by
  rcases List.eq_nil_or_concat acts with rfl | ⟨l, a, rfl⟩
  · rfl
  · rw [List.concat_eq_append, List.dropLast_concat, List.flatMap_append, ← flatMap_len acV 7 acV_len l, List.take_left]
set_option maxHeartbeats 1000000 in
theorem drop_c (lo p m flo fhi : Nat) (va vf : Value) (fs : List Ft) (acts : List Ac) (w : World) (h : SesAt w lo p m flo fhi va vf fs acts) (hn : acts.length ≤ 100000) (h0 : acts ≠ []) :
    Calls Tryz.prog 53 #[.pointer (some ⟨p, 0, none⟩)] w fun r w' => r = .returned (.tuple #[]) ∧ ∃ va', SesAt w' lo p m flo fhi va' vf fs acts.dropLast ∧ Turn w w' p va va' := by
  have hpos : 0 < acts.length := List.length_pos_iff.2 h0
  have HS := Lib.hid h
  rcases h.acts.2 with ⟨_, hz⟩ | ⟨g, cap, cur, hva, hlo, hg, hcap, hmax, hsz, htk⟩
  · omega
  subst hva
  have c0 : w.cell? ⟨p, 0, none⟩ = some (.slice (some ⟨g, 0, none⟩) acts.length cap) := by rw [cell_of_row _ _ _ _ _ _ h.cells]; rfl
  have f0 : w.frozen? ⟨p, 0, none⟩ = false := frozen_of_row w p 0 _ _ h.cells
  have HC := Lib.hid h.cells
  have HG := Lib.hid hg
  have HX := Lib.hid (And.intro hlo (And.intro hmax (And.intro hsz htk)))
  have HNE := Lib.hid h.p_ne
  have HDL : Hid (acts.dropLast.length = acts.length - 1) := by simp [Hid]
  obtain ⟨n, hn'⟩ : ∃ n, acts.length = n := ⟨_, rfl⟩
  have HN := Lib.hid hn'
  rw [hn'] at hn hpos hcap c0
  have i0 : (0 : Int) ≤ (n : Int) - 1 := by omega
  have i1 : (n : Int) - 1 ≤ (cap : Int) := by omega
  have i2 : (n : Int) ≤ 100000 := by omega
  have hnn : ((n : Int) - 1).toNat = n - 1 := by omega
  clear h hg hlo hmax hsz htk hn'
  go_enter Tryz.func53, Tryz.ntmps53
  go_wp2_with fail
  go_region
  go_wp2
  go_end0
  obtain ⟨hlo, hmax, hsz, htk⟩ := HX.out
  have hgp : g ≠ p := fun e => HNE.out.1 (by rw [← e]; rfl)
  have ht : Turn w (w.setCell ⟨p, 0, none⟩ (.slice (some ⟨g, 0, none⟩) (n - 1) cap)).drew p (.slice (some ⟨g, 0, none⟩) acts.length cap) (.slice (some ⟨g, 0, none⟩) (n - 1) cap) :=
    ⟨rfl, rfl, rfl, by simp [World.setCell], fun b hb h1 _ => Below.heap_setCell w ⟨p, 0, none⟩ _ b h1, fun x hx => .inl hx⟩
  refine ⟨rfl, .slice (some ⟨g, 0, none⟩) (n - 1) cap, HS.out.turned ht ?_ ?_, ht⟩
  · exact heap_setCell_same w p 0 _ _ _ HC.out
  · refine ⟨flatMap_len acV 7 acV_len _, .inr ⟨g, cap, cur, by rw [HDL.out, HN.out], hlo, ?_, by rw [HDL.out, HN.out]; omega, hmax, hsz, ?_⟩⟩
    · exact (Below.heap_setCell w ⟨p, 0, none⟩ _ g hgp).trans HG.out
    · rw [flat_dropLast, ← htk, List.take_take, Nat.min_eq_left]
      rw [HDL.out]
      omega
def undoE (acts : List Ac) : Int := if acts = [] then 6 else 0
theorem Undo_c (lo p m flo fhi : Nat) (va vf : Value) (fs : List Ft) (acts : List Ac) (w : World) (h : SesAt w lo p m flo fhi va vf fs acts) (hn : acts.length ≤ 100000) :
    Calls Tryz.prog 26 #[.pointer (some ⟨p, 0, none⟩)] w fun r w' => r = .returned (.int .i64 (undoE acts)) ∧ ∃ va', SesAt w' lo p m flo fhi va' vf fs acts.dropLast ∧ Turn w w' p va va' := by
  have HN := Lib.hid fun W (hb : Below w.heap.size w W) => none_c lo p m flo fhi va vf fs acts W (h.below hb)
  obtain ⟨pa, pc, hva⟩ := own_shape h.acts
  subst hva
  have c0 : w.cell? ⟨p, 0, none⟩ = some (.slice pa acts.length pc) := by rw [cell_of_row _ _ _ _ _ _ h.cells]; rfl
  have HS := Lib.hid h
  by_cases h0 : acts = []
  · subst h0
    have c0' : w.cell? ⟨p, 0, none⟩ = some (.slice pa 0 pc) := c0
    clear h c0
    go_enter Tryz.func26, Tryz.ntmps26
    go_wp2_with fail
    refine (HN.out _ (Below.refl _ _)).mono ?_
    rintro e w3 ⟨rfl, rfl⟩
    go_wp2
    go_ret
    exact ⟨rfl, _, HS.out, Turn.of_below (Below.refl _ _) _ _⟩
  · have HD := Lib.hid (drop_c lo p m flo fhi _ vf fs acts w h hn h0)
    have HE : Hid (undoE acts = 0) := if_neg h0
    have hpos : 0 < acts.length := List.length_pos_iff.2 h0
    have hp1 : ¬ ((acts.length : Int) = 0) := by omega
    clear h h0
    go_enter Tryz.func26, Tryz.ntmps26
    go_wp2_with fail
    refine (HN.out _ (Below.refl _ _)).mono ?_
    rintro e w3 ⟨rfl, rfl⟩
    go_wp2_with fail
    refine HD.out.mono ?_
    rintro e w4 ⟨rfl, va', h1, h2⟩
    have H := Lib.hid (And.intro h1 h2)
    clear h1 h2
    go_wp2
    go_ret
    exact ⟨by rw [HE.out]; rfl, va', H.out⟩
end Go.Proofs.YtpcefaccoifejaaGreatDoor
