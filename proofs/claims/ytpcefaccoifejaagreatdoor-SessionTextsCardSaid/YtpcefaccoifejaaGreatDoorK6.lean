/-
  Contracts of slices.Clone at options and at acts, and of session's copied. Conditions: what is read lies in memory as SW says, and is not too long.
-/
import Derived.Test.YtpcefaccoifejaaGreatDoorK5
namespace Go.Proofs.YtpcefaccoifejaaGreatDoor
open Go.RowKit Go.Maps
set_option linter.unusedSimpArgs false
set_option linter.unusedVariables false
set_option maxRecDepth 100000

theorem infoAct : Tryz.prog.info? 60 = some Tryz.t60 := by kernel_rfl
theorem acV_one (l : List Ac) : ∀ u ∈ l.flatMap acV, u.oneCell' = true := by
  intro u hu
  obtain ⟨o, _, ho⟩ := List.mem_flatMap.1 hu
  simp only [acV, List.mem_cons, List.not_mem_nil, or_false] at ho
  rcases ho with rfl | rfl | rfl | rfl | rfl | rfl | rfl <;> rfl
theorem CloneO_c (v : Value) (os : List Opt) (lo hi : Nat) (w : World) (h : OptsAt w lo hi v os) (hl : os.length ≤ 1000000) :
    Calls Tryz.prog 65 #[v] w fun e w' => ∃ v', e = .returned v' ∧ w'.ownsRow w.heap.size 41 2 v' os.length (os.flatMap optV) ∧ Below w.heap.size w w' := by
  obtain ⟨a, cap, rfl, hz, hr⟩ := h
  have q22 : ∀ (w : World) (a : Option Addr) (n c n' c' : Nat), (binOp .eql 45 (.slice a n c) (.slice none n' c')).run Tryz.prog w = .ok (.bool a.isNone) w := fun w a n c n' c' => Lib.run_eql_slice_nil w _ _ a n c n' c' Tryz.underlying45
  cases a with
  | none =>
    have hn : os = [] := by
      cases os with
      | nil => rfl
      | cons o r =>
        obtain ⟨b, off, hb, _⟩ := hr (by simp)
        cases hb
    obtain rfl := hz rfl
    subst hn
    clear hr hz
    go_enter Tryz.func65, Tryz.ntmps65
    go_wp2
    go_ret
    exact ⟨_, rfl, World.ownsRow_nil _ _ _ _, Below.refl _ _⟩
  | some ad =>
    have hc : Hid (∀ j u, (os.flatMap optV)[j]? = some u → w.cell? (ad.add j) = some u) := by
      intro j u hu
      cases os with
      | nil => simp at hu
      | cons o r =>
        obtain ⟨b, off, hb, _, _, h3⟩ := hr (by simp)
        injection hb with hb
        subst hb
        exact flat_cells optV_len (by decide) h3 j u hu
    have hca : Hid (∀ (W : World), Below w.heap.size w W → ∀ j u, (os.flatMap optV)[j]? = some u → W.cell? (ad.add j) = some u) := fun W hb j u hu => by
      have hx := hc.out j u hu
      exact (hb.cell (World.block_lt_of_cell? w _ hx)).trans hx
    have hf := flatMap_len optV 2 optV_len os
    have h1 := Lib.hid (optV_one os)
    have hI := Lib.hid infoOpt
    generalize os.flatMap optV = ks at *
    generalize os.length = n at *
    clear hr hz hc
    go_enter Tryz.func65, Tryz.ntmps65
    go_wp2_with (at_builtin; go_loud (refine wpList_append_own _ rfl (.tmp 5) (.tmp 6) _ rfl w.heap.size 41 Tryz.t41 _ 2 16 rfl hI.out rfl rfl rfl rfl (by omega) (.slice (some ⟨w.heap.size, 0, none⟩) 0 0) 0 [] rfl (World.ownsRow_made w #[] 0 (Nat.le_refl _) (Nat.zero_le _) (by simp)) ad n cap ks rfl hf (hca.out _ (by go_grown)) h1.out (by simp only [maxLen]; omega) (by omega) (by simp) ?_); intro v' w' ho hg hn)
    go_ret
    rw [Nat.zero_add, List.nil_append] at ho
    exact ⟨_, rfl, ho, ((Below.refl _ _).alloc (Nat.le_refl _) _).grown hg (by simp) (fun j hj => by simp [Value.ownBlock] at hj; omega)⟩
theorem CloneA_c (v : Value) (os : List Ac) (lo hi : Nat) (w : World) (h : ActsAt w lo hi v os) (hl : os.length ≤ 1000000) :
    Calls Tryz.prog 50 #[v] w fun e w' => ∃ v', e = .returned v' ∧ w'.ownsRow w.heap.size 60 7 v' os.length (os.flatMap acV) ∧ Below w.heap.size w w' := by
  obtain ⟨a, cap, rfl, hz, hr⟩ := h
  have q22 : ∀ (w : World) (a : Option Addr) (n c n' c' : Nat), (binOp .eql 27 (.slice a n c) (.slice none n' c')).run Tryz.prog w = .ok (.bool a.isNone) w := fun w a n c n' c' => Lib.run_eql_slice_nil w _ _ a n c n' c' Tryz.underlying27
  cases a with
  | none =>
    have hn : os = [] := by
      cases os with
      | nil => rfl
      | cons o r =>
        obtain ⟨b, off, hb, _⟩ := hr (by simp)
        cases hb
    obtain rfl := hz rfl
    subst hn
    clear hr hz
    go_enter Tryz.func50, Tryz.ntmps50
    go_wp2
    go_ret
    exact ⟨_, rfl, World.ownsRow_nil _ _ _ _, Below.refl _ _⟩
  | some ad =>
    have hc : Hid (∀ j u, (os.flatMap acV)[j]? = some u → w.cell? (ad.add j) = some u) := by
      intro j u hu
      cases os with
      | nil => simp at hu
      | cons o r =>
        obtain ⟨b, off, hb, _, _, h3⟩ := hr (by simp)
        injection hb with hb
        subst hb
        exact flat_cells acV_len (by decide) h3 j u hu
    have hca : Hid (∀ (W : World), Below w.heap.size w W → ∀ j u, (os.flatMap acV)[j]? = some u → W.cell? (ad.add j) = some u) := fun W hb j u hu => by
      have hx := hc.out j u hu
      exact (hb.cell (World.block_lt_of_cell? w _ hx)).trans hx
    have hf := flatMap_len acV 7 acV_len os
    have h1 := Lib.hid (acV_one os)
    have hI := Lib.hid infoAct
    generalize os.flatMap acV = ks at *
    generalize os.length = n at *
    clear hr hz hc
    go_enter Tryz.func50, Tryz.ntmps50
    go_wp2_with (at_builtin; go_loud (refine wpList_append_own _ rfl (.tmp 5) (.tmp 6) _ rfl w.heap.size 60 Tryz.t60 _ 7 56 rfl hI.out rfl rfl rfl rfl (by omega) (.slice (some ⟨w.heap.size, 0, none⟩) 0 0) 0 [] rfl (World.ownsRow_made w #[] 0 (Nat.le_refl _) (Nat.zero_le _) (by simp)) ad n cap ks rfl hf (hca.out _ (by go_grown)) h1.out (by simp only [maxLen]; omega) (by omega) (by simp) ?_); intro v' w' ho hg hn)
    go_ret
    rw [Nat.zero_add, List.nil_append] at ho
    exact ⟨_, rfl, ho, ((Below.refl _ _).alloc (Nat.le_refl _) _).grown hg (by simp) (fun j hj => by simp [Value.ownBlock] at hj; omega)⟩
/-- all old blocks but the one that may be appended to are as they were in W -/
def Kg (W : World) (row : Option Nat) (w' : World) : Prop := W.grownBy w' row
section
variable {W w1 w2 : World} {row : Option Nat}
theorem Kg.cell (h : Kg W row w1) {b o : Nat} {u : Value} (hc : W.cell? ⟨b, o, none⟩ = some u) (hn : some b ≠ row) : w1.cell? ⟨b, o, none⟩ = some u := World.grownBy.cell h hc hn
theorem Kg.drew (W : World) (row : Option Nat) : Kg W row W.drew := ⟨rfl, rfl, rfl, Nat.le_refl _, fun _ _ _ => rfl⟩
theorem Kg.call (h : Kg W row w2) (hb : Below w2.heap.size w2 w1) : Kg W row w1 :=
  ⟨hb.os.trans h.os, hb.tape.trans h.tape, hb.output.trans h.output, Nat.le_trans h.size hb.size, fun i hi hn => (hb.block i (Nat.lt_of_lt_of_le hi h.size)).trans (h.block i hi hn)⟩
theorem Kg.alloc (h : Kg W row w2) (o : Obj) : Kg W row (w2.alloc o) := h.call ((Below.refl _ _).alloc (Nat.le_refl _) o)
theorem Kg.grown (h : Kg W row w2) (hg : w2.grownBy w1 row) : Kg W row w1 :=
  ⟨hg.os.trans h.os, hg.tape.trans h.tape, hg.output.trans h.output, Nat.le_trans h.size hg.size, fun i hi hn => (hg.block i (Nat.lt_of_lt_of_le hi h.size) hn).trans (h.block i hi hn)⟩
end
set_option maxHeartbeats 1000000 in
theorem copied_c (v : Value) (fs : List Ft) (lo hi : Nat) (w : World) (h : FeatsAt w lo hi v fs) (hh : hi ≤ w.heap.size) (hl : fs.length ≤ 20000) (hw : wfFs fs) :
    Calls Tryz.prog 36 #[v] w fun e w' => ∃ v', e = .returned v' ∧ OwnFeats w' w.heap.size v' fs ∧ Below w.heap.size w w' := by
  obtain ⟨a, cap, vs, rfl, -, hr, ho⟩ := h
  have HR := Lib.hid hr
  have HO := Lib.hid ho
  have HW := Lib.hid hw
  have hI := Lib.hid infoFt
  obtain ⟨n, hn⟩ : ∃ n, fs.length = n := ⟨_, rfl⟩
  have HN := Lib.hid hn
  rw [hn] at hl ⊢
  clear hr ho hw hn
  go_enter Tryz.func36, Tryz.ntmps36
  go_wp2
  go_loopw [3, 8] (fun o i wr => ∃ (k : Nat) (pa : Option Addr) (pc : Nat), k ≤ n ∧ i = .int .i64 (k : Int) ∧ o = .slice pa k pc ∧ OwnFeats wr w.heap.size (.slice pa k pc) (fs.take k) ∧ Below w.heap.size w wr)
    (fun o i wr => n - (intOf i).toNat)
  case atStart => exact ⟨0, none, 0, Nat.zero_le _, rfl, rfl, by rw [List.take_zero]; exact OwnFeats.nil _ _, Below.refl _ _⟩
  case round =>
    obtain ⟨k, pa, pc, hkn, rfl, rfl, hof, hB⟩ := hrel
    by_cases hk : k < n
    · have hkf : k < fs.length := by rw [HN.out]; exact hk
      obtain ⟨b, off, rfl, hb1, hb2, hc⟩ := HR.out (by rw [HN.out]; omega)
      have hcw : ∀ j u, (ftV (ftAt fs k).1 (vs k))[j]? = some u → wr.cell? ⟨b, off + k * 6 + j, none⟩ = some u := fun j u hu => (hB.cell (p := ⟨b, off + k * 6 + j, none⟩) (show b < w.heap.size by omega)).trans (hc k hkf j u hu)
      have HOk := HO.out k hkf
      have hwk := HW.out _ (ftAt_mem hkf)
      have hft : fs.take (k + 1) = fs.take k ++ [ftAt fs k] := by rw [take_snoc hkf, ftAt_get hkf]
      have HFT := Lib.hid hft
      generalize ftAt fs k = f at *
      obtain ⟨⟨p1, p2, p3, p4, p5⟩, os⟩ := f
      have HC := Lib.hid fun W (hb : Below w.heap.size w W) => CloneO_c (vs k) os lo hi W (HOk.move (Same.of_below (hb.mono hh))) hwk.2.2
      obtain ⟨va, vc, hv, -⟩ := HOk
      rw [hv] at HC hcw
      have c0 := hcw 0 _ rfl
      have c1 := hcw 1 _ rfl
      have c2 := hcw 2 _ rfl
      have c3 := hcw 3 _ rfl
      have c4 := hcw 4 _ rfl
      have c5 := hcw 5 _ rfl
      simp only [Nat.add_zero] at c0
      have hk0 : (0 : Int) ≤ k := by omega
      have hk1 : (k : Int) < n := by omega
      obtain ⟨ws, hwl, hrow, hopt⟩ := hof
      have hlen : (fs.take k).length = k := by rw [List.length_take]; omega
      rw [hlen] at hwl hrow
      have hs := hB.size
      have HB := Lib.hid hB
      have HRW := Lib.hid hrow
      have HOP := Lib.hid hopt
      clear hcw hft hwk hB hrow hopt hv
      go_wp2_with fail
      refine wp_named fun W hW => ?_
      have k0 : W.cell? ⟨wr.heap.size, 0, none⟩ = some (.int .i64 p1) := by rw [hW]; go_simp
      have k1 : W.cell? ⟨wr.heap.size, 1, none⟩ = some (.int .i64 p2) := by rw [hW]; go_simp
      have k2 : W.cell? ⟨wr.heap.size, 2, none⟩ = some (.int .i64 p3) := by rw [hW]; go_simp
      have k3 : W.cell? ⟨wr.heap.size, 3, none⟩ = some (.int .i64 p4) := by rw [hW]; go_simp
      have k4 : W.cell? ⟨wr.heap.size, 4, none⟩ = some (.int .i64 p5) := by rw [hW]; go_simp
      have k5 : W.cell? ⟨wr.heap.size, 5, none⟩ = some (.slice va os.length vc) := by rw [hW]; go_simp
      have hBW : Below wr.heap.size wr W := by rw [hW]; go_grown
      have hne : some wr.heap.size ≠ (Value.slice pa k pc).ownBlock := fun e => by have := (HRW.out.lt _ e.symm).2; omega
      have hzW : wr.heap.size < W.heap.size := by rw [hW]; simp
      clear hW
      have HROW := Lib.hid (own_below HRW.out hBW)
      have HOPT := Lib.hid fun i hi => own_below (HOP.out i hi) hBW
      obtain ⟨row, hrow⟩ : ∃ row, (Value.slice pa k pc).ownBlock = row := ⟨_, rfl⟩
      have HRI := Lib.hid hrow
      rw [hrow] at hne
      clear hrow
      have HS : Hid (∀ w', Kg W row w' → (w'.cell? ⟨wr.heap.size, 0, none⟩ = some (.int .i64 p1) ∧ w'.cell? ⟨wr.heap.size, 1, none⟩ = some (.int .i64 p2) ∧ w'.cell? ⟨wr.heap.size, 2, none⟩ = some (.int .i64 p3) ∧ w'.cell? ⟨wr.heap.size, 3, none⟩ = some (.int .i64 p4) ∧ w'.cell? ⟨wr.heap.size, 4, none⟩ = some (.int .i64 p5) ∧ w'.cell? ⟨wr.heap.size, 5, none⟩ = some (.slice va os.length vc) ∧ Kg W row w')) :=
        fun w' K => ⟨K.cell k0 hne, K.cell k1 hne, K.cell k2 hne, K.cell k3 hne, K.cell k4 hne, K.cell k5 hne, K⟩
      clear k0 k1 k2 k3 k4 k5
      have HBW := Lib.hid (HB.out.trans (hBW.mono hs))
      have hs2 : w.heap.size ≤ W.heap.size := HBW.out.size
      clear hBW
      go_region_held3 (fun w' => w'.cell? ⟨wr.heap.size, 0, none⟩ = some (.int .i64 p1) ∧ w'.cell? ⟨wr.heap.size, 1, none⟩ = some (.int .i64 p2) ∧ w'.cell? ⟨wr.heap.size, 2, none⟩ = some (.int .i64 p3) ∧ w'.cell? ⟨wr.heap.size, 3, none⟩ = some (.int .i64 p4) ∧ w'.cell? ⟨wr.heap.size, 4, none⟩ = some (.int .i64 p5) ∧ w'.cell? ⟨wr.heap.size, 5, none⟩ = some (.slice va os.length vc) ∧ Kg W row w')
        ((refine HS.out _ ?_; with_reducible (first | exact Kg.drew _ _ | assumption | exact Kg.alloc (by assumption) _)))
        (first
          | (go_at_call 65; refine (HC.out _ HBW.out.drew).mono ?_; rintro r w3 ⟨v', rfl, hov, hb3⟩; obtain ⟨oa, oc, rfl⟩ := own_shape hov; have hK3 := (Kg.drew W row).call hb3; have hs3 := hb3.size; have HO3 := Lib.hid (own_below (w := W.drew) HROW.out hb3); have HP3 := Lib.hid fun i hi => own_below (w := W.drew) (HOPT.out i hi) hb3; have HV3 := Lib.hid (own_low hov hs2); have HB3 := Lib.hid (HBW.out.drew.trans (hb3.mono hs2)); clear hov hb3)
          | (rw [if_pos (by rfl)]; (refine wp_append_own _ (.tmp 12) (.tmp 19) _ rfl w.heap.size 47 Tryz.t47 _ 6 64 rfl hI.out rfl rfl rfl rfl (by omega) (.slice pa k pc) k _ rfl (HO3.out.alloc _) ⟨w3.heap.size, 0, none⟩ 1 1 (ftV (p1, p2, p3, p4, p5) (.slice oa os.length oc)) rfl rfl (newCells _ _ _) (by simp [ftV, Value.oneCell']) (by simp only [maxLen]; omega) (by omega) (by simp at hs3 ⊢; omega) ?_); intro v' w' hao hag hn; have hK4 : Kg W row w' := Kg.grown (Kg.alloc hK3 _) (by rw [← HRI.out]; exact hag); obtain ⟨ga, gc, rfl⟩ := own_shape hao))
      have HF' := Lib.hid (OwnFeats.snoc (f := ((p1, p2, p3, p4, p5), os)) (by rw [hlen]; exact hwl) (fun i hi => (HP3.out i hi).alloc _) (HV3.out.alloc _) (HO3.out.alloc _) hag (by rw [hlen]; exact hao))
      have HB' := Lib.hid ((HB3.out.alloc (by simp at hs3; omega) _).grown hag (by simp at hs3 ⊢; omega) (fun j hj => (HO3.out.lt j hj).1))
      clear hao hag hn
      go_wp2_with fail
      go_roundw
      case rel => exact ⟨k + 1, ga, gc, by omega, by go_num, rfl, by rw [HFT.out]; exact HF'.out, HB'.out⟩
      case measure => simp [intOf]; omega
    · have hk' : k = n := by omega
      subst hk'
      go_wp2
      go_ret
      rw [← HN.out, List.take_length] at hof
      exact ⟨_, rfl, by rw [HN.out] at hof; exact hof, hB⟩
end Go.Proofs.YtpcefaccoifejaaGreatDoor
