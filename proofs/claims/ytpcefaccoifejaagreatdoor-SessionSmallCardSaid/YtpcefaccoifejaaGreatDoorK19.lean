/-
  The contract of the method Replay of a session. Conditions: the session lies in memory as K8 says; what is read lies in memory as SW says; numbers are of their type; lists are not too long.
-/
import Derived.Test.YtpcefaccoifejaaGreatDoorKC
namespace Go.Proofs.YtpcefaccoifejaaGreatDoor
open Go.RowKit Go.Maps
set_option linter.unusedSimpArgs false
set_option linter.unusedVariables false
set_option maxRecDepth 100000

/-- a list of acts that was made beside a session -/
structure LeftAt (w : World) (lo flo fhi : Nat) (va lv : Value) (lf : List Ac) : Prop where
  own : w.ownsRow lo 60 7 lv lf.length (lf.flatMap acV)
  apart : ∀ g, lv.ownBlock = some g → va.ownBlock ≠ some g ∧ ¬ (flo ≤ g ∧ g < fhi)
theorem LeftAt.nil (w : World) (lo flo fhi : Nat) (va : Value) : LeftAt w lo flo fhi va (.slice none 0 0) [] := ⟨World.ownsRow_nil _ _ _ _, fun g h => by cases h⟩
section
variable {w w' : World} {lo p m flo fhi : Nat} {va va' vf lv : Value} {fs : List Ft} {acts lf : List Ac}
/-- its block is neither the session's struct nor its map -/
theorem LeftAt.ne (h : LeftAt w lo flo fhi va lv lf) (hs : SesAt w lo p m flo fhi va vf fs acts) {g : Nat} (hg : lv.ownBlock = some g) : g ≠ p ∧ g ≠ m ∧ g < w.heap.size := by
  rcases h.own.2 with ⟨e, _⟩ | ⟨g', cap, cur, e, -, hgg, -⟩
  · rw [e] at hg; cases hg
  · rw [e] at hg
    simp only [Value.ownBlock, Option.some.injEq] at hg
    subst hg
    refine ⟨fun x => ?_, fun x => ?_, (Array.getElem?_eq_some_iff.1 hgg).1⟩
    · subst x
      rw [hs.cells] at hgg
      injection hgg with hgg
      injection hgg with _ h2
      exact absurd h2 (by decide)
    · subst x
      obtain ⟨es, c, hm⟩ := hs.map.obj
      rw [hm] at hgg
      cases hgg
theorem own_same {w w' : World} {lo k n : Nat} {e : TypeId} {v : Value} {ks : List Value} (h : w.ownsRow lo e k v n ks) (hk : ∀ g, v.ownBlock = some g → w'.heap[g]? = w.heap[g]?) : w'.ownsRow lo e k v n ks :=
  ⟨h.1, h.2.imp id fun ⟨g, cap, cur, e1, e2, e3, r⟩ => ⟨g, cap, cur, e1, e2, (hk g (by rw [e1]; rfl)).trans e3, r⟩⟩
theorem LeftAt.turned (h : LeftAt w lo flo fhi va lv lf) (hs : SesAt w lo p m flo fhi va vf fs acts) (ht : Turn w w' p va va') : LeftAt w' lo flo fhi va' lv lf := by
  refine ⟨own_same h.own fun g hg => ?_, fun g hg => ⟨fun e => ?_, (h.apart g hg).2⟩⟩
  · obtain ⟨h1, -, h3⟩ := h.ne hs hg
    exact ht.block g h3 h1 (fun e => (h.apart g hg).1 e.symm)
  · obtain ⟨-, -, h3⟩ := h.ne hs hg
    rcases ht.new g e with h4 | h4
    · exact (h.apart g hg).1 h4
    · omega
theorem LeftAt.below (h : LeftAt w lo flo fhi va lv lf) (hb : Below w.heap.size w w') : LeftAt w' lo flo fhi va lv lf := ⟨own_below h.own hb, h.apart⟩
theorem SesAt.left (hs : SesAt w lo p m flo fhi va vf fs acts) (h : LeftAt w lo flo fhi va lv lf) (hg : w.grownBy w' lv.ownBlock) : SesAt w' lo p m flo fhi va vf fs acts := by
  refine hs.kept (Bs := p) (fun b hb => hg.block b (hs.lt (Array.getElem?_eq_some_iff.1 hs.cells).1 hb) (fun e => ?_)) hg.size
  obtain ⟨h1, h2, -⟩ := h.ne hs e.symm
  obtain ⟨h3, h4⟩ := h.apart b e.symm
  rcases hb with rfl | rfl | ⟨ha, hb⟩ | hb | rfl
  · exact h1 rfl
  · exact h2 rfl
  · exact h4 ⟨ha, hb⟩
  · exact h3 hb
  · exact h1 rfl
end
def RepRes (w : World) (gs : List Ft) (acts : List Ac) (e : Ending) (w' : World) : Prop :=
  Below w.heap.size w w' ∧ ((newE gs ≠ 0 ∧ e = .returned (.tuple #[.pointer none, .slice none 0 0, .int .i64 (newE gs)])) ∨
    (newE gs = 0 ∧ ∃ p m flo fhi va vf lv, e = .returned (.tuple #[.pointer (some ⟨p, 0, none⟩), lv, .int .i64 0]) ∧ SesAt w' w.heap.size p m flo fhi va vf gs (playGo gs [] [] acts).1 ∧
      w'.ownsRow w.heap.size 60 7 lv (playGo gs [] [] acts).2.length ((playGo gs [] [] acts).2.flatMap acV)))
theorem playGo_cons (fs : List Ft) (d l : List Ac) (a : Ac) (r : List Ac) : playGo fs d l (a :: r) = playGo fs (doA fs d a) (if doE fs d a = 0 then l else l ++ [a]) r := by
  unfold playGo doA
  split
  · cases r <;> rfl
  · cases r <;> rfl
theorem drop_ac {fs : List Ac} {k : Nat} (h : k < fs.length) : fs.drop k = acAt fs k :: fs.drop (k + 1) := by
  rw [acAt_get h]
  exact List.drop_eq_getElem_cons h
theorem doA_len (fs : List Ft) (d : List Ac) (a : Ac) : (doA fs d a).length ≤ d.length + 1 := by
  unfold doA
  split <;> simp
set_option maxHeartbeats 2000000 in
theorem Replay_c (lo p m flo fhi : Nat) (va vf : Value) (fs : List Ft) (acts : List Ac) (lv : Value) (gs : List Ft) (llo lhi : Nat) (w : World) (h : SesAt w lo p m flo fhi va vf fs acts) (hl : FeatsAt w llo lhi lv gs) (hlh : lhi ≤ w.heap.size) (hw : wfFs gs) (hwa : wfAs acts)
    (hn : acts.length ≤ 100000) (hlm : gs.length ≤ 4611686018427387904) :
    Calls Tryz.prog 24 #[.pointer (some ⟨p, 0, none⟩), lv] w (RepRes w gs acts) := by
  have HN := Lib.hid fun W (hb : Below w.heap.size w W) => none_c lo p m flo fhi va vf fs acts W (h.below hb)
  have HNEW := Lib.hid fun W (hb : Below w.heap.size w W) => New_c lv gs llo lhi W (hl.move (Same.of_below (hb.mono hlh))) (Nat.le_trans hlh hb.size) hw hlm
  obtain ⟨la, lc, lvs, rfl, -, -, -⟩ := hl
  obtain ⟨pa, pc, hva⟩ := own_shape h.acts
  subst hva
  have HS := Lib.hid h
  have hp : p < w.heap.size := (Array.getElem?_eq_some_iff.1 h.cells).1
  have hI := Lib.hid infoAct
  have HACT := Lib.hid h.actsAt
  have c0 : w.cell? ⟨p, 0, none⟩ = some (.slice pa acts.length pc) := by rw [cell_of_row _ _ _ _ _ _ h.cells]; rfl
  obtain ⟨n, hn'⟩ : ∃ n, acts.length = n := ⟨_, rfl⟩
  have HNA := Lib.hid hn'
  rw [hn'] at hn HACT c0
  clear h hn'
  unfold RepRes
  go_enter Tryz.func24, Tryz.ntmps24
  go_wp2_with fail
  refine (HN.out _ (Below.refl _ _)).mono ?_
  rintro e w1 ⟨rfl, rfl⟩
  go_wp2_with fail
  refine (HNEW.out _ (Below.refl _ _)).mono ?_
  rintro e w1 ⟨hb1, hres⟩
  rcases hres with ⟨hne, rfl⟩ | ⟨he0, p2, m2, flo2, fhi2, vf2, rfl, hs2⟩
  · have HNE := Lib.hid hne
    have HB1 := Lib.hid hb1
    obtain ⟨E, hEq⟩ : ∃ E, newE gs = E := ⟨_, rfl⟩
    have HEQ := Lib.hid hEq
    rw [hEq] at HNE ⊢
    clear hne hb1 hEq
    have hE : ¬ E = 0 := HNE.out
    go_wp2
    (try simp only [Exit.inBlock, Exit.then]); refine bodyPost_ret (by simp [results, Tryz.results24, go_sem, *]; try rfl) rfl ?_
    exact ⟨HB1.out, .inl ⟨by rw [HEQ.out]; exact HNE.out, by rw [HEQ.out]⟩⟩
  · have HE0 := Lib.hid he0
    have HS2 := Lib.hid hs2
    have HB1 := Lib.hid hb1
    have d0 : w1.cell? ⟨p, 0, none⟩ = some (.slice pa n pc) := (hb1.cell (p := ⟨p, 0, none⟩) hp).trans c0
    clear he0 hs2 hb1 c0
    go_wp2
    go_loopw [9, 28] (fun o i wr => ∃ (k : Nat) (dn lf : List Ac) (va2 : Value) (xa : Option Addr) (xc : Nat), k ≤ n ∧ i = .int .i64 (k : Int) ∧ o = .slice xa lf.length xc ∧ dn.length ≤ k ∧ lf.length ≤ k ∧ playGo gs dn lf (acts.drop k) = playGo gs [] [] acts ∧
        SesAt wr w.heap.size p2 m2 flo2 fhi2 va2 vf2 gs dn ∧ LeftAt wr w.heap.size flo2 fhi2 va2 (.slice xa lf.length xc) lf ∧ Below w.heap.size w wr)
      (fun o i wr => n - (intOf i).toNat)
    case atStart => exact ⟨0, [], [], _, none, 0, Nat.zero_le _, rfl, rfl, Nat.le_refl _, Nat.le_refl _, rfl, HS2.out, LeftAt.nil _ _ _ _ _, HB1.out⟩
    case round =>
      obtain ⟨k, dn, lf, va2, xa, xc, hkn, rfl, rfl, hdk, hlk, hplay, hsr, hle, hB⟩ := hrel
      have HPL := Lib.hid hplay
      have HSR := Lib.hid hsr
      have HL := Lib.hid hle
      have HB := Lib.hid hB
      clear hplay hle
      by_cases hk : k < n
      · have hkf : k < acts.length := by rw [HNA.out]; exact hk
        obtain ⟨aa, ac, haa, -, hrow⟩ := HACT.out
        simp only [Value.slice.injEq] at haa
        obtain ⟨rfl, -, rfl⟩ := haa
        obtain ⟨bf, off, rfl, hb1, hb2, hc⟩ := hrow (by omega)
        have hcw : ∀ j u, (acV (acAt acts k))[j]? = some u → wr.cell? ⟨bf, off + k * 7 + j, none⟩ = some u := fun j u hu => (hB.cell (p := ⟨bf, off + k * 7 + j, none⟩) (show bf < w.heap.size by omega)).trans (hc k hkf j u hu)
        have hwk := hwa _ (acAt_mem hkf)
        have hpl : playGo gs (doA gs dn (acAt acts k)) (if doE gs dn (acAt acts k) = 0 then lf else lf ++ [acAt acts k]) (acts.drop (k + 1)) = playGo gs [] [] acts := by
          rw [← playGo_cons, ← drop_ac hkf, HPL.out]
        have HP2 := Lib.hid hpl
        have HDL := Lib.hid (doA_len gs dn (acAt acts k))
        generalize acAt acts k = A at *
        obtain ⟨kd, ⟨q1, q2, q3, q4, q5⟩, av⟩ := A
        have c0 := hcw 0 _ rfl
        have c1 := hcw 1 _ rfl
        have c2 := hcw 2 _ rfl
        have c3 := hcw 3 _ rfl
        have c4 := hcw 4 _ rfl
        have c5 := hcw 5 _ rfl
        have c6 := hcw 6 _ rfl
        simp only [Nat.add_zero] at c0
        have hk0 : (0 : Int) ≤ k := by omega
        have hk1 : (k : Int) < n := by omega
        have hs := hB.size
        have hgl : gs.length ≤ 20000 := (good_of_newE HE0.out).len
        have HDO := Lib.hid fun W (hb : Below wr.heap.size wr W) => Do_c w.heap.size p2 m2 flo2 fhi2 va2 vf2 gs dn kd q1 q2 q3 q4 q5 av W (HSR.out.below hb) (Nat.le_trans hs hb.size) hw hwk.2.1 (by omega) hgl
        have hp2lt : p2 < wr.heap.size := (Array.getElem?_eq_some_iff.1 hsr.cells).1
        have hvalt : ∀ g, va2.ownBlock = some g → w.heap.size ≤ g ∧ g < wr.heap.size := fun g hg => hsr.acts.lt g hg
        have HVL := Lib.hid hvalt
        clear hcw hc hrow hpl hsr hB hwk hvalt
        go_wp2_with fail
        refine (HDO.out _ (by go_grown)).mono ?_
        rintro e w3 ⟨rfl, va3, hs3, ht3⟩
        have hz3 : wr.heap.size < w3.heap.size := by have := ht3.size; simp at this; omega
        have hbW : Below wr.heap.size wr (wr.alloc (.cells #[.int .i64 kd, .int .i64 q1, .int .i64 q2, .int .i64 q3, .int .i64 q4, .int .i64 q5, .int .i64 av] 60)) := (Below.refl _ _).alloc (Nat.le_refl _) _
        have hL3 := (HL.out.below hbW).turned (HSR.out.below hbW) ht3
        have hB3 : Below w.heap.size w w3 := HB.out.trans ((hbW.mono hs).trans (ht3.below (Nat.le_trans hs hbW.size) (HSR.out.lp) (fun g hg => (HVL.out g hg).1)))
        have hbox : w3.heap[wr.heap.size]? = some (.cells #[.int .i64 kd, .int .i64 q1, .int .i64 q2, .int .i64 q3, .int .i64 q4, .int .i64 q5, .int .i64 av] 60 (0, 0)) :=
          (ht3.block _ (by simp) (by omega) (fun e => by have := (HVL.out _ e.symm).2; omega)).trans (heap_alloc_new _ _)
        have HS3 := Lib.hid hs3
        have HL3 := Lib.hid hL3
        have HB3 := Lib.hid hB3
        have e0 : w3.cell? ⟨wr.heap.size, 0, none⟩ = some (.int .i64 kd) := by rw [cell_of_row _ _ _ _ _ _ hbox]; rfl
        have e1 : w3.cell? ⟨wr.heap.size, 1, none⟩ = some (.int .i64 q1) := by rw [cell_of_row _ _ _ _ _ _ hbox]; rfl
        have e2 : w3.cell? ⟨wr.heap.size, 2, none⟩ = some (.int .i64 q2) := by rw [cell_of_row _ _ _ _ _ _ hbox]; rfl
        have e3 : w3.cell? ⟨wr.heap.size, 3, none⟩ = some (.int .i64 q3) := by rw [cell_of_row _ _ _ _ _ _ hbox]; rfl
        have e4 : w3.cell? ⟨wr.heap.size, 4, none⟩ = some (.int .i64 q4) := by rw [cell_of_row _ _ _ _ _ _ hbox]; rfl
        have e5 : w3.cell? ⟨wr.heap.size, 5, none⟩ = some (.int .i64 q5) := by rw [cell_of_row _ _ _ _ _ _ hbox]; rfl
        have e6 : w3.cell? ⟨wr.heap.size, 6, none⟩ = some (.int .i64 av) := by rw [cell_of_row _ _ _ _ _ _ hbox]; rfl
        clear hs3 ht3 hL3 hB3 hbox hbW c0 c1 c2 c3 c4 c5 c6
        generalize hE : doE gs dn (kd, (q1, q2, q3, q4, q5), av) = E at *
        clear hE
        by_cases he : E = 0
        · subst he
          have HP3 := Lib.hid ((congrArg (fun l => playGo gs _ l _) (if_pos rfl)).symm.trans HP2.out)
          go_wp2
          go_roundw
          case rel => exact ⟨k + 1, _, lf, va3, xa, xc, by omega, by go_num, rfl, by have := HDL.out; omega, by omega, HP3.out, HS3.out, HL3.out, HB3.out⟩
          case measure => simp [intOf]; omega
        · have HP3 := Lib.hid ((congrArg (fun l => playGo gs _ l _) (if_neg he)).symm.trans HP2.out)
          have HEN := Lib.hid he
          have hss := HB3.out.size
          go_wp2_with (at_builtin; go_loud (refine wpList_append_lies _ rfl (.tmp 36) (.tmp 38) _ rfl w.heap.size 60 Tryz.t60 _ 7 56 rfl hI.out rfl rfl rfl rfl (by omega) (.slice xa lf.length xc) lf.length _ rfl (HL3.out.own.alloc _) ⟨w3.heap.size, 0, none⟩ 1 1 (acV (kd, (q1, q2, q3, q4, q5), av)) rfl rfl (newCells _ _ _) (by simp [acV, Value.oneCell']) (by omega) (by simp only [maxLen]; omega) (by omega) (by simp; omega) _ rfl ?_); intro g cap w5 hao hag hat hglt)
          have hbA : Below w3.heap.size w3 (w3.alloc (.cells #[.int .i64 kd, .int .i64 q1, .int .i64 q2, .int .i64 q3, .int .i64 q4, .int .i64 q5, .int .i64 av] 60)) := (Below.refl _ _).alloc (Nat.le_refl _) _
          have HS5 := Lib.hid ((HS3.out.below hbA).left (HL3.out.below hbA) hag)
          have HL5 : Hid (LeftAt w5 w.heap.size flo2 fhi2 va3 (.slice (some ⟨g, 0, none⟩) (lf.length + 1) cap) (lf ++ [(kd, (q1, q2, q3, q4, q5), av)])) := by
            refine ⟨?_, fun g' hg' => ?_⟩
            · rw [List.flatMap_append, List.length_append]
              simpa using hao
            · simp only [Value.ownBlock, Option.some.injEq] at hg'
              subst hg'
              rcases hat with h1 | h1
              · exact HL3.out.apart g h1
              · simp only [World.size_alloc] at h1
                subst h1
                refine ⟨fun e => ?_, fun e => ?_⟩
                · have := (HS3.out.acts.lt _ e).2; omega
                · have := HS3.out.hf; omega
          have HB5 := Lib.hid ((HB3.out.alloc hss _).grown hag (by simp; omega) (fun j hj => (HL3.out.own.lt j hj).1))
          clear hao hag hat hglt hbA e0 e1 e2 e3 e4 e5 e6
          go_wp2_with fail
          go_roundw
          case rel => exact ⟨k + 1, _, lf ++ [(kd, (q1, q2, q3, q4, q5), av)], va3, some ⟨g, 0, none⟩, cap, by omega, by go_num, by simp, by have := HDL.out; omega, by simp; omega, HP3.out, HS5.out, by simpa using HL5.out, HB5.out⟩
          case measure => simp [intOf]; omega
      · obtain rfl : k = n := by omega
        have hfin : playGo gs [] [] acts = (dn, lf) := by
          rw [← HPL.out, ← HNA.out, List.drop_length]; rfl
        have HFIN := Lib.hid hfin
        clear hsr hB hfin
        go_wp2
        (try simp only [Exit.inBlock, Exit.then]); refine bodyPost_ret (by simp [results, Tryz.results24, go_sem, *]; try rfl) rfl ?_
        exact ⟨HB.out, .inr ⟨HE0.out, _, _, _, _, _, _, _, rfl, by rw [HFIN.out]; exact HSR.out, by rw [HFIN.out]; exact HL.out.own⟩⟩
end Go.Proofs.YtpcefaccoifejaaGreatDoor
