/-
  Features that a call owns, and the contract of custoskit.CopyFeatures. Conditions: what is read lies in memory as SW says, and is not too long.
-/
import Derived.Test.YtpcefaccoifejaaGreatDoorK3
namespace Go.Proofs.YtpcefaccoifejaaGreatDoor
open Go.RowKit Go.Maps
set_option linter.unusedSimpArgs false
set_option linter.unusedVariables false
set_option maxRecDepth 100000

theorem grown_of_below {w w' : World} (h : Below w.heap.size w w') (row : Option Nat) : w.grownBy w' row := ⟨h.os, h.tape, h.output, h.size, fun i hi _ => h.block i hi⟩
theorem own_below {w w' : World} {base size n : Nat} {e : TypeId} {v : Value} {ks : List Value} (h : w.ownsRow base e size v n ks) (hb : Below w.heap.size w w') : w'.ownsRow base e size v n ks :=
  h.kept (grown_of_below hb none) (by cases v.ownBlock <;> simp)
/-- rows of two types lie in two blocks -/
theorem own_apart {w : World} {b1 s1 n1 b2 s2 n2 : Nat} {e1 e2 : TypeId} {v1 v2 : Value} {k1 k2 : List Value} (h1 : w.ownsRow b1 e1 s1 v1 n1 k1) (h2 : w.ownsRow b2 e2 s2 v2 n2 k2) (hne : e1 ≠ e2) : v1.ownBlock = none ∨ v1.ownBlock ≠ v2.ownBlock := by
  rcases h1.2 with ⟨rfl, _⟩ | ⟨g, cap, cur, rfl, -, hg, -⟩
  · exact .inl rfl
  · rcases h2.2 with ⟨rfl, _⟩ | ⟨g2, cap2, cur2, rfl, -, hg2, -⟩
    · exact .inr (by simp [Value.ownBlock])
    · refine .inr fun e => ?_
      simp only [Value.ownBlock, Option.some.injEq] at e
      subst e
      rw [hg] at hg2
      injection hg2 with hg2
      injection hg2 with _ x
      exact hne x
theorem newCells (w : World) (l : List Value) (T : TypeId) : ∀ j u, l[j]? = some u → (w.alloc (.cells l.toArray T)).cell? ((⟨w.heap.size, 0, none⟩ : Addr).add j) = some u := by
  intro j u hu
  have hadd : (⟨w.heap.size, 0, none⟩ : Addr).add j = ⟨w.heap.size, j, none⟩ := by unfold Addr.add; split <;> simp_all
  rw [hadd, cell_of_row _ _ _ _ _ _ (heap_alloc_new w _)]
  simpa using hu

def ftFlat (fs : List Ft) (vs : List Value) : List Value := (fs.zip vs).flatMap fun x => ftV x.1.1 x.2
theorem ftFlat_snoc {fs : List Ft} {vs : List Value} (f : Ft) (v : Value) (h : vs.length = fs.length) : ftFlat (fs ++ [f]) (vs ++ [v]) = ftFlat fs vs ++ ftV f.1 v := by
  unfold ftFlat
  rw [List.zip_append h.symm]
  simp
/-- features in memory of the call's own, from block lo on -/
def OwnFeats (w : World) (lo : Nat) (v : Value) (fs : List Ft) : Prop :=
  ∃ vs : List Value, vs.length = fs.length ∧ w.ownsRow lo 47 6 v fs.length (ftFlat fs vs) ∧
    ∀ i, i < fs.length → w.ownsRow lo 41 2 (vs.getD i default) (ftAt fs i).2.length ((ftAt fs i).2.flatMap optV)
theorem OwnFeats.nil (w : World) (lo : Nat) : OwnFeats w lo (.slice none 0 0) [] := ⟨[], rfl, World.ownsRow_nil _ _ _ _, fun i hi => by cases hi⟩
theorem OwnFeats.below {w w' : World} {lo : Nat} {v : Value} {fs : List Ft} (h : OwnFeats w lo v fs) (hb : Below w.heap.size w w') : OwnFeats w' lo v fs := by
  obtain ⟨vs, h1, h2, h3⟩ := h
  exact ⟨vs, h1, own_below h2 hb, fun i hi => own_below (h3 i hi) hb⟩
theorem OwnFeats.low {w : World} {lo lo' : Nat} {v : Value} {fs : List Ft} (h : OwnFeats w lo v fs) (hl : lo' ≤ lo) : OwnFeats w lo' v fs := by
  obtain ⟨vs, h1, h2, h3⟩ := h
  exact ⟨vs, h1, own_low h2 hl, fun i hi => own_low (h3 i hi) hl⟩
/-- one more -/
theorem OwnFeats.snoc {w w' : World} {lo : Nat} {v v' ov : Value} {fs : List Ft} {vs : List Value} {f : Ft} (hl : vs.length = fs.length)
    (h3 : ∀ i, i < fs.length → w.ownsRow lo 41 2 (vs.getD i default) (ftAt fs i).2.length ((ftAt fs i).2.flatMap optV)) (ho : w.ownsRow lo 41 2 ov f.2.length (f.2.flatMap optV))
    {n : Nat} {ks : List Value} (hv : w.ownsRow lo 47 6 v n ks) (hg : w.grownBy w' v.ownBlock) (hv' : w'.ownsRow lo 47 6 v' (fs.length + 1) (ftFlat fs vs ++ ftV f.1 ov)) : OwnFeats w' lo v' (fs ++ [f]) := by
  have hk : ∀ {ov : Value} {n : Nat} {ks : List Value}, w.ownsRow lo 41 2 ov n ks → w'.ownsRow lo 41 2 ov n ks := fun h => h.kept hg (own_apart h hv (by decide))
  refine ⟨vs ++ [ov], by simp [hl], ?_, fun i hi => ?_⟩
  · rw [ftFlat_snoc f ov hl, List.length_append]
    exact hv'
  · simp only [List.length_append, List.length_cons, List.length_nil] at hi
    by_cases h : i < fs.length
    · have e1 : (vs ++ [ov]).getD i default = vs.getD i default := by
        rw [List.getD_eq_getElem?_getD, List.getElem?_append_left (by omega), ← List.getD_eq_getElem?_getD]
      have e2 : ftAt (fs ++ [f]) i = ftAt fs i := by
        unfold ftAt
        rw [List.getD_eq_getElem?_getD, List.getElem?_append_left h, ← List.getD_eq_getElem?_getD]
      rw [e1, e2]
      exact hk (h3 i h)
    · have hi' : i = fs.length := by omega
      subst hi'
      have e1 : (vs ++ [ov]).getD fs.length default = ov := by
        rw [List.getD_eq_getElem?_getD, ← hl]
        simp
      have e2 : ftAt (fs ++ [f]) fs.length = f := by
        unfold ftAt
        rw [List.getD_eq_getElem?_getD]
        simp
      rw [e1, e2]
      exact hk ho
/-- what is owned can be read -/
theorem OwnFeats.feats {w : World} {lo : Nat} {v : Value} {fs : List Ft} (h : OwnFeats w lo v fs) : FeatsAt w lo w.heap.size v fs := by
  obtain ⟨vs, h1, h2, h3⟩ := h
  have hz : (fs.zip vs).length = fs.length := by rw [List.length_zip, h1, Nat.min_self]
  have h2' : w.ownsRow lo 47 6 v (fs.zip vs).length ((fs.zip vs).flatMap fun x => ftV x.1.1 x.2) := by rw [hz]; exact h2
  obtain ⟨a, cap, e, z, r⟩ := row_of_own (enc := fun x : Ft × Value => ftV x.1.1 x.2) (fun _ => rfl) h2'
  rw [hz] at e r
  refine ⟨a, cap, fun i => vs.getD i default, e, z, r.congr fun i hi => ?_, fun i hi => opts_of_own (h3 i hi)⟩
  have e1 : (fs.zip vs).getD i default = (ftAt fs i, vs.getD i default) := by
    unfold ftAt
    rw [List.getD_eq_getElem?_getD, List.getElem?_eq_getElem (by omega), List.getD_eq_getElem?_getD, List.getD_eq_getElem?_getD, List.getElem?_eq_getElem hi, List.getElem?_eq_getElem (by omega)]
    simp
  rw [e1]
theorem infoFt : Tryz.prog.info? 47 = some Tryz.t47 := by kernel_rfl
theorem take_snoc {α : Type} {l : List α} {k : Nat} (h : k < l.length) : l.take (k + 1) = l.take k ++ [l[k]] := by
  rw [List.take_add_one, List.getElem?_eq_getElem h]
  rfl
theorem ftAt_take {fs : List Ft} {k i : Nat} (h : i < k) : ftAt (fs.take k) i = ftAt fs i := by
  unfold ftAt
  rw [List.getD_eq_getElem?_getD, List.getElem?_take, if_pos h, ← List.getD_eq_getElem?_getD]

set_option maxHeartbeats 1000000 in
theorem CopyFeatures_c (v : Value) (fs : List Ft) (lo hi : Nat) (w : World) (h : FeatsAt w lo hi v fs) (hh : hi ≤ w.heap.size) (hl : fs.length ≤ 20000) (hw : wfFs fs) :
    Calls Tryz.prog 39 #[v] w fun e w' => ∃ v', e = .returned v' ∧ OwnFeats w' w.heap.size v' fs ∧ Below w.heap.size w w' := by
  obtain ⟨a, cap, vs, rfl, -, hr, ho⟩ := h
  have HR := Lib.hid hr
  have HO := Lib.hid ho
  have HW := Lib.hid hw
  have hI := Lib.hid infoFt
  obtain ⟨n, hn⟩ : ∃ n, fs.length = n := ⟨_, rfl⟩
  have HN := Lib.hid hn
  rw [hn] at hl ⊢
  clear hr ho hw hn
  go_enter Tryz.func39, Tryz.ntmps39
  go_wp2
  go_loopw [3, 4] (fun o i wr => ∃ (k : Nat) (pa : Option Addr) (pc : Nat), k ≤ n ∧ i = .int .i64 (k : Int) ∧ o = .slice pa k pc ∧ OwnFeats wr w.heap.size (.slice pa k pc) (fs.take k) ∧ Below w.heap.size w wr)
    (fun o i wr => n - (intOf i).toNat)
  case atStart => exact ⟨0, none, 0, Nat.zero_le _, rfl, rfl, by rw [List.take_zero]; exact OwnFeats.nil _ _, Below.refl _ _⟩
  case round =>
    obtain ⟨k, pa, pc, hkn, rfl, rfl, hof, hB⟩ := hrel
    by_cases hk : k < n
    · have hkf : k < fs.length := by rw [HN.out]; exact hk
      obtain ⟨b, off, rfl, hb1, hb2, hc⟩ := HR.out (by rw [HN.out]; omega)
      have hcw : ∀ j u, (ftV (ftAt fs k).1 (vs k))[j]? = some u → wr.cell? ⟨b, off + k * 6 + j, none⟩ = some u := fun j u hu => (hB.cell (p := ⟨b, off + k * 6 + j, none⟩) (show b < w.heap.size by omega)).trans (hc k hkf j u hu)
      have HOk := HO.out k hkf
      have hwk := HW.out _ (ftAt_mem hkf)
      have hft : fs.take (k + 1) = fs.take k ++ [ftAt fs k] := by rw [take_snoc hkf, ftAt_get hkf]
      have HFT := Lib.hid hft
      generalize ftAt fs k = f at *
      obtain ⟨⟨p1, p2, p3, p4, p5⟩, os⟩ := f
      have HC := Lib.hid fun W (hb : Below w.heap.size w W) => CopyFeature_c p1 p2 p3 p4 p5 (vs k) os lo hi W (HOk.move (Same.of_below (hb.mono hh))) (Nat.le_trans hh hb.size) hwk.2.2
      generalize vs k = vk at *
      have c0 := hcw 0 _ rfl
      have c1 := hcw 1 _ rfl
      have c2 := hcw 2 _ rfl
      have c3 := hcw 3 _ rfl
      have c4 := hcw 4 _ rfl
      have c5 := hcw 5 _ rfl
      simp only [Nat.add_zero] at c0
      have hk0 : (0 : Int) ≤ k := by omega
      have hk1 : (k : Int) < n := by omega
      obtain ⟨ws, hwl, hrow, hopt⟩ := hof
      have hlen : (fs.take k).length = k := by rw [List.length_take]; omega
      rw [hlen] at hwl hrow
      have hs := hB.size
      have HB := Lib.hid hB
      clear hcw hft HOk hwk hB
      go_wp2_with fail
      refine (HC.out _ HB.out).mono ?_
      rintro r w3 ⟨v', rfl, hov, hb3⟩
      obtain ⟨oa, oc, rfl⟩ := own_shape hov
      have hs3 := hb3.size
      have HO3 := Lib.hid (own_below hrow hb3)
      have HP3 := Lib.hid fun i hi => own_below (hopt i hi) hb3
      have HV3 := Lib.hid (own_low hov hs)
      have HB3 := Lib.hid (below_step HB.out hb3)
      clear hrow hopt hov hb3 c0 c1 c2 c3 c4 c5 hs
      have hs3' : w.heap.size ≤ w3.heap.size := HB3.out.size
      go_wp2_with (at_builtin; go_loud (refine wpList_append_own _ rfl (.tmp 11) (.tmp 17) _ rfl w.heap.size 47 Tryz.t47 _ 6 64 rfl hI.out rfl rfl rfl rfl (by omega) (.slice pa k pc) k _ rfl (HO3.out.alloc _) ⟨w3.heap.size, 0, none⟩ 1 1 (ftV (p1, p2, p3, p4, p5) (.slice oa os.length oc)) rfl rfl (newCells _ _ _) (by simp [ftV, Value.oneCell']) (by simp only [maxLen]; omega) (by omega) (by simp; omega) ?_); intro v' w' hao hag hn)
      obtain ⟨ga, gc, rfl⟩ := own_shape hao
      have HF' := Lib.hid (OwnFeats.snoc (f := ((p1, p2, p3, p4, p5), os)) (by rw [hlen]; exact hwl) (fun i hi => (HP3.out i hi).alloc _) (HV3.out.alloc _) (HO3.out.alloc _) hag (by rw [hlen]; exact hao))
      have HB' := Lib.hid (((HB3.out.alloc hs3' _).grown hag (by simp; omega) (fun j hj => (HO3.out.lt j hj).1)))
      clear hao hag hn
      go_wp2_with fail
      go_roundw
      case rel => exact ⟨k + 1, ga, gc, by omega, by go_num, rfl, by rw [HFT.out]; exact HF'.out, HB'.out⟩
      case measure => simp [intOf]; omega
    · have hk' : k = n := by omega
      subst hk'
      go_wp2
      go_ret
      rw [← HN.out, List.take_length] at hof
      exact ⟨_, rfl, by rw [HN.out] at hof; exact hof, hB⟩
end Go.Proofs.YtpcefaccoifejaaGreatDoor
