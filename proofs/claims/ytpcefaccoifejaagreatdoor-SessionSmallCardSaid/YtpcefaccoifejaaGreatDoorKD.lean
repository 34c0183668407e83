/-
  Contracts of custoslaw13's big, own, sameActs and pair. Conditions: what is read lies in memory as SW says.
-/
import Derived.Test.YtpcefaccoifejaaGreatDoorKC
import Derived.OrdersHeld
import Derived.Shelf.Strings.Builder1
import Derived.Shelf.Strings.Builder2
import Derived.Shelf.Strings.OnBuilder
import Derived.Test.YtpcefaccoifejaaGreatDoorKA
namespace Go.Proofs.YtpcefaccoifejaaGreatDoor
open Go.RowKit
set_option linter.unusedVariables false
section
variable {P : Program} {ops : Array Oper} {Q : Exit → Act → World → Prop} {md : Region.Mode} {S : World → Prop}

/-- in state a the operation o is a call that gives v in every world of S and leaves that world -/
def StillCall (P : Program) (ops : Array Oper) (S : World → Prop) (o : Oper) (v : Value) (a : Act) : Prop :=
  Region.wanted o (yielded ops a.tmps) = true ∧ ∃ f args, (∀ w, (execOp a.eval o).run P w = .ok (.enter f args) w) ∧ ∀ w, S w → Calls P f args w fun e w' => e = .returned v ∧ w = w'
theorem StillCall.step {i : Nat} {o : Oper} {v : Value} {a : Act} (hi : ops[i]? = some o) (hy : StillCall P ops S o v a) {K : Act → World → Prop} {w : World} (hS : S w) (h : K (a.put o.dst v) w) : wpOp P ops Q i K a w := by
  obtain ⟨hw, f, args, hr, hc⟩ := hy
  unfold wpOp
  simp only [hi, hw, if_true]
  refine .inl ?_
  unfold Oper.wp
  rw [hr w]
  refine (hc w hS).mono ?_
  rintro e w' ⟨rfl, rfl⟩
  exact h
/-- what oj does commutes with a value that is already there -/
theorem wpOp_before {Y : Act → Prop} {j : Nat} {oi oj : Oper} {v : Value} (hj : ops[j]? = some oj) (hap : oi.apart ops oj = true) (hsj : ∀ cs b, oj.op ≠ .select cs b)
    (hQ : ∀ c a w, Q (.panic c) (a.put oi.dst v) w → Q (.panic c) a w) (keep : ∀ a u, Y a → Y (a.put oj.dst u)) (keepD : ∀ (a : Act) d, Y a → Y { a with defers := d :: a.defers }) {K : Act → World → Prop} {a : Act} {w : World}
    (hy : Y a) (h : wpOp P ops Q j K (a.put oi.dst v) w) : wpOp P ops Q j (fun a' w' => Y a' ∧ K (a'.put oi.dst v) w') a w := by
  obtain ⟨h1, h2, -⟩ := Oper.apart_spec hap
  have hcm : ∀ (b : Act) u, (b.put oi.dst v).put oj.dst u = (b.put oj.dst u).put oi.dst v := fun b u => Act.put_comm b v u h2
  unfold wpOp at h ⊢
  simp only [hj] at h ⊢
  rw [wanted_put oj a oi.dst v h1] at h
  by_cases hw : Region.wanted oj (yielded ops a.tmps) = true
  · rw [if_pos hw] at h ⊢
    rcases h with h | ⟨h, hl⟩
    · refine .inl ?_
      unfold Oper.wp at h ⊢
      rw [execOp_put oj hsj a oi.dst v h1] at h
      cases hr : (execOp a.eval oj).run P w with
      | halt x w' =>
        rw [hr] at h
        cases x with
        | panic u => exact hQ _ _ _ h
        | _ => exact h.elim
      | ok n w' =>
        rw [hr] at h
        cases n with
        | value u => exact ⟨keep a u hy, by rw [← hcm]; exact h⟩
        | skip => exact ⟨keep a undef hy, by rw [← hcm]; exact h⟩
        | defer d =>
          refine ⟨keep _ undef (keepD a d hy), ?_⟩
          have h' : K (({ a.put oi.dst v with defers := d :: (a.put oi.dst v).defers } : Act).put oj.dst undef) w' := h
          rw [Act.put_defers, hcm] at h'
          exact h'
        | enter f args =>
          refine Calls.mono h fun e w'' he => ?_
          cases e with
          | returned u => exact ⟨keep a u hy, by rw [← hcm]; exact he⟩
          | panicked c => exact hQ _ _ _ he
          | outgrown => exact he
        | row row args => exact Rows.mono h fun u w'' he => ⟨keep a u hy, by rw [← hcm]; exact he⟩
        | _ => exact h.elim
    · refine .inr ⟨?_, hl⟩
      unfold Oper.asks at h ⊢
      rw [execOp_put oj hsj a oi.dst v h1] at h
      exact h
  · rw [if_neg hw] at h ⊢
    exact ⟨keep a undef hy, by rw [← hcm]; exact h⟩
theorem StillCall.same {o : Oper} {v : Value} {a a' : Act} (hy : StillCall P ops S o v a) (he : execOp a'.eval o = execOp a.eval o) (hw : Region.wanted o (yielded ops a'.tmps) = Region.wanted o (yielded ops a.tmps)) : StillCall P ops S o v a' := by
  unfold StillCall at hy ⊢
  rw [he, hw]
  exact hy
theorem still_first {i : Nat} {oi : Oper} {v : Value} (hi : ops[i]? = some oi) (hsel : ∀ (j : Nat) (o : Oper) cs b, ops[j]? = some o → o.op ≠ .select cs b) (hQ : ∀ c a w, Q (.panic c) (a.put oi.dst v) w → Q (.panic c) a w) :
    ∀ (fuel : Nat) (listed : Array Bool) (a : Act) (w : World),
      (∀ j oj, ops[j]? = some oj → j ≠ i → listed.getD j true = false → (∀ e ∈ oj.after, Region.binds md e = true → e.on ≠ i) → oi.apart ops oj = true) →
      i ∈ Region.ready md ops listed → StillCall P ops S oi v a → S w →
      wpAnyH P md ops Q S fuel (listed.setIfInBounds i true) (a.put oi.dst v) w → wpAnyH P md ops Q S (fuel + 1) listed a w
  | 0, listed, a, w, _, hr, hy, hS, H => by
    refine ⟨fun h => (by rw [h] at hr; cases hr), fun j hj => ?_⟩
    by_cases hji : j = i
    · subst hji
      exact hy.step hi hS ⟨hS, H⟩
    · have := ready_mono hj hji
      rw [H.1] at this
      cases this
  | fuel + 1, listed, a, w, hfree, hr, hy, hS, H => by
    refine ⟨fun h => (by rw [h] at hr; cases hr), fun j hj => ?_⟩
    by_cases hji : j = i
    · subst hji
      exact hy.step hi hS ⟨hS, H⟩
    · have h1 := H.2 j (ready_mono hj hji)
      obtain ⟨hjun, oj, hoj, hall⟩ := mem_ready.1 hj
      have hnot : ∀ e ∈ oj.after, Region.binds md e = true → e.on ≠ i := fun e he hb heq => by
        have h3 := hall e he hb
        have h0 := (mem_ready.1 hr).1
        rw [heq] at h3
        rcases Nat.lt_or_ge i listed.size with h' | h'
        · simp [h'] at h0 h3; rw [h0] at h3; cases h3
        · simp [Array.getElem?_eq_none h'] at h3
      have hap := hfree j oj hoj hji hjun hnot
      obtain ⟨-, -, h3⟩ := Oper.apart_spec hap
      have h2 := wpOp_before (Y := StillCall P ops S oi v) hoj hap (fun cs b => hsel j oj cs b hoj) hQ
        (fun a u hy => hy.same (execOp_put oi (fun cs b => hsel i oi cs b hi) a oj.dst u h3) (wanted_put oi a oj.dst u h3)) (fun a d hy => hy.same rfl rfl) hy h1
      have hfree' : ∀ k ok, ops[k]? = some ok → k ≠ i → (listed.setIfInBounds j true).getD k true = false → (∀ e ∈ ok.after, Region.binds md e = true → e.on ≠ i) → oi.apart ops ok = true := fun k ok hk hki hun hno => by
        refine hfree k ok hk hki ?_ hno
        by_cases hjk : j = k
        · subst hjk; exact hjun
        · rw [getD_set_ne true hjk] at hun; exact hun
      refine wpOp_mono (fun a' w' h4 => ⟨h4.2.1, still_first hi hsel hQ fuel (listed.setIfInBounds j true) a' w' hfree' (ready_mono hr (Ne.symm hji)) h4.1 h4.2.1 ?_⟩) h2
      rw [Array.setIfInBounds_comm _ _ hji]
      exact h4.2.2
theorem still_take {i : Nat} {oi : Oper} {v : Value} {fuel : Nat} {listed : Array Bool} {a : Act} {w : World} (hi : ops[i]? = some oi) (hs : Region.noSelect ops = true) (hf : Region.free md ops listed i = true) (hr : (Region.ready md ops listed).contains i = true)
    (hQ : ∀ c a w, Q (.panic c) (a.put oi.dst v) w → Q (.panic c) a w) (hy : StillCall P ops S oi v a) (hS : S w)
    (h : wpAnyH P md ops Q S fuel (listed.setIfInBounds i true) (a.put oi.dst v) w) : wpAnyH P md ops Q S (fuel + 1) listed a w :=
  still_first hi (fun j o cs b ho => Region.noSelect_spec hs j o cs b ho) hQ fuel listed a w (fun j oj hj hne hun hno => Region.free_spec hi hf j oj hj hne hun hno) (by simpa using hr) hy hS h
end
end Go.Proofs.YtpcefaccoifejaaGreatDoor

namespace Go.Proofs.YtpcefaccoifejaaGreatDoor
open Go.RowKit

def decL (n : Nat) : List UInt8 := if n < 10 then [48 + n.toUInt8] else [48 + (n / 10).toUInt8, 48 + (n % 10).toUInt8]
/-- a number below 100 in decimal digits -/
def dec (n : Nat) : ByteArray := ⟨(decL n).toArray⟩
set_option maxRecDepth 100000 in
theorem small_c (n : Int) (w : World) (h0 : 0 ≤ n) (h1 : n < 100) :
    Calls Tryz.prog 94 #[.int .i64 n] w fun e w' => e = .returned (.string (dec n.toNat)) ∧ w = w' := by
  obtain ⟨k, rfl⟩ := Int.eq_ofNat_of_zero_le h0
  rw [Int.toNat_natCast]
  by_cases h : k < 10
  · go_enter Tryz.func94, Tryz.ntmps94
    go_wp2
    go_ret
    refine ⟨congrArg (fun s => Ending.returned (Value.string s)) ?_, rfl⟩
    refine (?_ : ∀ j, j < 10 → ByteArray.extract _ j (j + 1) = dec j) k h
    decide +kernel
  · go_enter Tryz.func94, Tryz.ntmps94
    go_wp2
    go_ret
    refine ⟨congrArg (fun s => Ending.returned (Value.string s)) ?_, rfl⟩
    refine (?_ : ∀ j, j < 100 → ¬ j < 10 → ByteArray.extract _ (j * 2) (j * 2 + 2) = dec j) k (by omega) h
    decide +kernel
theorem FormatInt_c (n : Int) (w : World) (h0 : 0 ≤ n) (h1 : n < 100) :
    Calls Tryz.prog 83 #[.int .i64 n, .int .i64 10] w fun e w' => e = .returned (.string (dec n.toNat)) ∧ w = w' := by
  have H := Lib.hid fun w => small_c n w h0 h1
  generalize dec n.toNat = s at *
  go_enter Tryz.func83, Tryz.ntmps83
  go_wp2_with (go_at_call 94; refine (H.out _).mono ?_; rintro e w' ⟨rfl, rfl⟩)
  go_ret
  exact ⟨rfl, rfl⟩
theorem Itoa_i (n : Int) (w : World) (h0 : 0 ≤ n) (h1 : n < 100) :
    Calls Tryz.prog 77 #[.int .i64 n] w fun e w' => e = .returned (.string (dec n.toNat)) ∧ w = w' := by
  have H := Lib.hid fun w => FormatInt_c n w h0 h1
  generalize dec n.toNat = s at *
  go_enter Tryz.func77, Tryz.ntmps77
  go_wp2_with (go_at_call 83; refine (H.out _).mono ?_; rintro e w' ⟨rfl, rfl⟩)
  go_ret
  exact ⟨rfl, rfl⟩
theorem Itoa_c (n : Int) (w : World) (h0 : 0 ≤ n) (h1 : n < 100) :
    Calls Tryz.prog 55 #[.int .i64 n] w fun e w' => e = .returned (.string (dec n.toNat)) ∧ w = w' := by
  have H := Lib.hid fun w => Itoa_i n w h0 h1
  generalize dec n.toNat = s at *
  go_enter Tryz.func55, Tryz.ntmps55
  go_wp2_with (go_at_call 77; refine (H.out _).mono ?_; rintro e w' ⟨rfl, rfl⟩)
  go_ret
  exact ⟨rfl, rfl⟩
end Go.Proofs.YtpcefaccoifejaaGreatDoor

namespace Go.Proofs.YtpcefaccoifejaaGreatDoor
open Go.Shelf
def shRen : Go.Shelf.Ren := ⟨fun | 156 => 56 | 165 => 78 | 166 => 29 | 169 => 31 | 240 => 54 | 241 => 84 | 276 => 76 | 277 => 98 | n => n, fun | 31 => 30 | 9 => 9 | 3 => 3 | 4 => 4 | 0 => 0 | 20 => 20 | 72 => 91 | 76 => 95 | 70 => 88 | 37 => 89 | 75 => 94 | 127 => 127 | 164 => 147 | 5 => 5 | 80 => 98 | n => n, fun n => n⟩
theorem lays156 : Lays.n156 Tryz.prog shRen := {
  mixed := by kernel_rfl,
  f156 := Tryz.func56.trans (congrArg some (by kernel_rfl)),
  f165 := Tryz.func78.trans (congrArg some (by kernel_rfl)),
  f166 := Tryz.func29.trans (congrArg some (by kernel_rfl)),
  f169 := Tryz.func31.trans (congrArg some (by kernel_rfl)),
  f240 := Tryz.func54.trans (congrArg some (by kernel_rfl)),
  f241 := Tryz.func84.trans (congrArg some (by kernel_rfl)),
  f276 := Tryz.func76.trans (congrArg some (by kernel_rfl)),
  f277 := Tryz.func98.trans (congrArg some (by kernel_rfl)),
  t0 := Tryz.underlying0,
  a0 := Tryz.isAgg0,
  z0 := Tryz.sizeOf0,
  v0 := Tryz.zeroValue0,
  t3 := Tryz.underlying3,
  a3 := Tryz.isAgg3,
  z3 := Tryz.sizeOf3,
  v3 := Tryz.zeroValue3,
  t4 := Tryz.underlying4,
  a4 := Tryz.isAgg4,
  z4 := Tryz.sizeOf4,
  v4 := Tryz.zeroValue4,
  t9 := Tryz.underlying9,
  a9 := Tryz.isAgg9,
  z9 := Tryz.sizeOf9,
  v9 := Tryz.zeroValue9,
  t20 := Tryz.underlying20,
  a20 := Tryz.isAgg20,
  z20 := Tryz.sizeOf20,
  v20 := Tryz.zeroValue20,
  t31 := Tryz.underlying30,
  a31 := Tryz.isAgg30,
  z31 := Tryz.sizeOf30,
  v31 := Tryz.zeroValue30,
  t37 := Tryz.underlying89,
  a37 := Tryz.isAgg89,
  z37 := Tryz.sizeOf89,
  v37 := Tryz.zeroValue89,
  t70 := Tryz.underlying88,
  a70 := Tryz.isAgg88,
  z70 := Tryz.sizeOf88,
  v70 := Tryz.zeroValue88,
  t72 := Tryz.underlying91,
  a72 := Tryz.isAgg91,
  z72 := Tryz.sizeOf91,
  v72 := Tryz.zeroValue91,
  t75 := Tryz.underlying94,
  a75 := Tryz.isAgg94,
  z75 := Tryz.sizeOf94,
  v75 := Tryz.zeroValue94,
  t76 := Tryz.underlying95,
  a76 := Tryz.isAgg95,
  z76 := Tryz.sizeOf95,
  v76 := Tryz.zeroValue95,
  t127 := Tryz.underlying127,
  a127 := Tryz.isAgg127,
  z127 := Tryz.sizeOf127,
  v127 := Tryz.zeroValue127,
  t164 := Tryz.underlying147,
  a164 := Tryz.isAgg147,
  z164 := Tryz.sizeOf147,
  v164 := Tryz.zeroValue147 }
theorem lays166 : Lays.n166 Tryz.prog shRen := {
  mixed := by kernel_rfl,
  f166 := Tryz.func29.trans (congrArg some (by kernel_rfl)),
  f240 := Tryz.func54.trans (congrArg some (by kernel_rfl)),
  f276 := Tryz.func76.trans (congrArg some (by kernel_rfl)),
  t0 := Tryz.underlying0,
  a0 := Tryz.isAgg0,
  z0 := Tryz.sizeOf0,
  v0 := Tryz.zeroValue0,
  t3 := Tryz.underlying3,
  a3 := Tryz.isAgg3,
  z3 := Tryz.sizeOf3,
  v3 := Tryz.zeroValue3,
  t4 := Tryz.underlying4,
  a4 := Tryz.isAgg4,
  z4 := Tryz.sizeOf4,
  v4 := Tryz.zeroValue4,
  t9 := Tryz.underlying9,
  a9 := Tryz.isAgg9,
  z9 := Tryz.sizeOf9,
  v9 := Tryz.zeroValue9,
  t20 := Tryz.underlying20,
  a20 := Tryz.isAgg20,
  z20 := Tryz.sizeOf20,
  v20 := Tryz.zeroValue20,
  t37 := Tryz.underlying89,
  a37 := Tryz.isAgg89,
  z37 := Tryz.sizeOf89,
  v37 := Tryz.zeroValue89,
  t70 := Tryz.underlying88,
  a70 := Tryz.isAgg88,
  z70 := Tryz.sizeOf88,
  v70 := Tryz.zeroValue88,
  t72 := Tryz.underlying91,
  a72 := Tryz.isAgg91,
  z72 := Tryz.sizeOf91,
  v72 := Tryz.zeroValue91,
  t75 := Tryz.underlying94,
  a75 := Tryz.isAgg94,
  z75 := Tryz.sizeOf94,
  v75 := Tryz.zeroValue94,
  t164 := Tryz.underlying147,
  a164 := Tryz.isAgg147,
  z164 := Tryz.sizeOf147,
  v164 := Tryz.zeroValue147 }
theorem lays169 : Lays.n169 Tryz.prog shRen := {
  mixed := by kernel_rfl,
  f169 := Tryz.func31.trans (congrArg some (by kernel_rfl)),
  t0 := Tryz.underlying0,
  a0 := Tryz.isAgg0,
  z0 := Tryz.sizeOf0,
  v0 := Tryz.zeroValue0,
  t3 := Tryz.underlying3,
  a3 := Tryz.isAgg3,
  z3 := Tryz.sizeOf3,
  v3 := Tryz.zeroValue3,
  t9 := Tryz.underlying9,
  a9 := Tryz.isAgg9,
  z9 := Tryz.sizeOf9,
  v9 := Tryz.zeroValue9,
  t37 := Tryz.underlying89,
  a37 := Tryz.isAgg89,
  z37 := Tryz.sizeOf89,
  v37 := Tryz.zeroValue89,
  t70 := Tryz.underlying88,
  a70 := Tryz.isAgg88,
  z70 := Tryz.sizeOf88,
  v70 := Tryz.zeroValue88,
  t72 := Tryz.underlying91,
  a72 := Tryz.isAgg91,
  z72 := Tryz.sizeOf91,
  v72 := Tryz.zeroValue91,
  t127 := Tryz.underlying127,
  a127 := Tryz.isAgg127,
  z127 := Tryz.sizeOf127,
  v127 := Tryz.zeroValue127 }
theorem shExtra : Builder.Extra Tryz.prog shRen := {
  sizeBuilder := by kernel_rfl,
  liesBuilder := by kernel_rfl,
  t5 := Tryz.underlying5,
  a5 := Tryz.isAgg5,
  z5 := Tryz.sizeOf5,
  v5 := Tryz.zeroValue5,
  infoByte := by kernel_rfl,
  cellsByte := by kernel_rfl,
  sizeByte := by kernel_rfl,
  neB5 := by decide }
open Go.RowKit in
theorem WriteString_c (B b : Nat) (bs : List Value) (s : ByteArray) (w : World) (h : Lib.IsBuilder 91 5 B b bs w) (hlen : bs.length + s.size ≤ 140737488355328) (hBw : B ≤ w.heap.size) :
    Calls Tryz.prog 29 #[.pointer (some ⟨b, 0, none⟩), .string s] w fun e w' => e = .returned (.tuple #[.int .i64 s.size, .nilIface]) ∧ (Lib.BuilderAt 91 5 B b (.pointer (some ⟨b, 0, none⟩)) (bs ++ Lib.strCells s) w' ∧ Below B w w') := Any.Builder_WriteString lays166 shExtra B b bs s w h hlen hBw
open Go.RowKit in
theorem BString_c (B b : Nat) (l : List UInt8) (w : World) (h : Lib.IsBuilder 91 5 B b (Lib.byteCells l) w) (hBw : B ≤ w.heap.size) :
    Calls Tryz.prog 31 #[.pointer (some ⟨b, 0, none⟩)] w fun e w' => e = .returned (.string ⟨l.toArray⟩) ∧ Below B w w' := Any.Builder_String_any lays169 shExtra B b l w h hBw
open Go.RowKit in
theorem Join_c (bk o c : Nat) (xs : List ByteArray) (sep : ByteArray) (w : World) (hcells : ∀ (j : Nat) x, xs[j]? = some x → w.cell? ⟨bk, o + j, none⟩ = some (.string x)) (hbk : bk < w.heap.size) (hN : xs.length ≤ 140737488355328) (hcap : xs.length ≤ c) (hlen : (Lib.join (xs.map (·.data.toList)) sep.data.toList).length ≤ 140737488355328) :
    Calls Tryz.prog 56 #[.slice (some ⟨bk, o, none⟩) xs.length c, .string sep] w fun e w' => e = .returned (.string ⟨(Lib.join (xs.map (·.data.toList)) sep.data.toList).toArray⟩) ∧ Below w.heap.size w w' := Any.strings_Join lays156 shExtra bk o c xs sep w hcells hbk hN hcap hlen
end Go.Proofs.YtpcefaccoifejaaGreatDoor

namespace Go.Proofs.YtpcefaccoifejaaGreatDoor
open Go.RowKit

theorem wpList_named {P : Program} {ops : Array Oper} {rest : List Oper} {Q : Exit → Act → World → Prop} {a : Act} {w : World} (h : ∀ W, W = w → wpList P ops Q rest a W) : wpList P ops Q rest a w := h w rfl
theorem wpList_veil {P : Program} {ops : Array Oper} {rest : List Oper} {Q : Exit → Act → World → Prop} {a : Act} {w : World} (h : Hid (wpList P ops Q rest a w)) : wpList P ops Q rest a w := h
theorem wpList_unveil {P : Program} {ops : Array Oper} {rest : List Oper} {Q : Exit → Act → World → Prop} {a : Act} {w : World} (h : wpList P ops Q rest a w) : Hid (wpList P ops Q rest a w) := h
end Go.Proofs.YtpcefaccoifejaaGreatDoor

namespace Go.Proofs.YtpcefaccoifejaaGreatDoor
open Go.RowKit Go.Maps
set_option linter.unusedSimpArgs false
set_option linter.unusedVariables false
set_option maxRecDepth 100000

instance decPl : DecidableEq Pl := instDecidableEqProd
instance decPI : DecidableEq (Pl × Int) := instDecidableEqProd
instance decAc : DecidableEq Ac := instDecidableEqProd
theorem own_c (k a b c d e v : Int) (w : World) : Calls Tryz.prog 16 #[.agg #[.int .i64 k, .int .i64 a, .int .i64 b, .int .i64 c, .int .i64 d, .int .i64 e, .int .i64 v]] w fun r w' => r = .returned (.agg #[.int .i64 k, .int .i64 a, .int .i64 b, .int .i64 c, .int .i64 d, .int .i64 e, .int .i64 v]) ∧ Below w.heap.size w w' := by
  go_enter Tryz.func16, Tryz.ntmps16
  go_wp2
  (try simp only [Exit.inBlock, Exit.then]); refine bodyPost_ret (by simp [results, Tryz.results16, go_sem, *]; try rfl) rfl ?_
  exact ⟨rfl, by go_grown⟩
set_option maxHeartbeats 2000000 in
theorem sameActs_c (va vb : Value) (xs ys : List Ac) (lo hi lo2 hi2 : Nat) (w : World) (ha : ActsAt w lo hi va xs) (hb : ActsAt w lo2 hi2 vb ys) (hh : hi ≤ w.heap.size) (hh2 : hi2 ≤ w.heap.size) (hlx : xs.length ≤ 1000000) :
    Calls Tryz.prog 11 #[va, vb] w fun e w' => e = .returned (.bool (decide (xs = ys))) ∧ Below w.heap.size w w' := by
  obtain ⟨xa, xc, rfl, -, hrx⟩ := ha
  obtain ⟨ya, yc, rfl, -, hry⟩ := hb
  have HX := Lib.hid hrx
  have HY := Lib.hid hry
  by_cases hl : xs.length = ys.length
  · have HL := Lib.hid hl
    obtain ⟨n, hn⟩ : ∃ n, xs.length = n := ⟨_, rfl⟩
    have HN := Lib.hid hn
    have hn2 : ys.length = n := hl.symm.trans hn
    rw [hn] at hlx ⊢
    rw [hn2]
    obtain ⟨D, hD⟩ : ∃ D, decide (xs = ys) = D := ⟨_, rfl⟩
    have HD := Lib.hid hD
    rw [hD]
    clear hrx hry hl hn hn2 hD
    go_enter Tryz.func11, Tryz.ntmps11
    go_wp2
    go_loopw [5] (fun i wr => ∃ k : Nat, k ≤ n ∧ i = .int .i64 (k : Int) ∧ (∀ j, j < k → acAt xs j = acAt ys j) ∧ Below w.heap.size w wr)
      (fun i wr => n - (intOf i).toNat)
    case atStart => exact ⟨0, Nat.zero_le _, rfl, fun j hj => absurd hj (Nat.not_lt_zero _), Below.refl _ _⟩
    case round =>
      obtain ⟨k, hkn, rfl, hall, hB⟩ := hrel
      have HALL := Lib.hid hall
      have HB := Lib.hid hB
      clear hall
      by_cases hk : k < n
      · have hkx : k < xs.length := by rw [HN.out]; exact hk
        have hky : k < ys.length := by rw [← HL.out]; exact hkx
        obtain ⟨bx, ox, rfl, hb1, hb2, hcx⟩ := HX.out (by omega)
        obtain ⟨b2, oy, rfl, hb3, hb4, hcy⟩ := HY.out (by omega)
        have hcw : ∀ j u, (acV (acAt xs k))[j]? = some u → wr.cell? ⟨bx, ox + k * 7 + j, none⟩ = some u := fun j u hu => (hB.cell (p := ⟨bx, ox + k * 7 + j, none⟩) (show bx < w.heap.size by omega)).trans (hcx k hkx j u hu)
        have hcv : ∀ j u, (acV (acAt ys k))[j]? = some u → wr.cell? ⟨b2, oy + k * 7 + j, none⟩ = some u := fun j u hu => (hB.cell (p := ⟨b2, oy + k * 7 + j, none⟩) (show b2 < w.heap.size by omega)).trans (hcy k hky j u hu)
        have HST : Hid (acAt xs k = acAt ys k → ∀ j, j < k + 1 → acAt xs j = acAt ys j) := fun h j hj => by
          by_cases e : j = k
          · subst e; exact h
          · exact HALL.out j (by omega)
        have HNE : Hid (acAt xs k ≠ acAt ys k → D = false) := fun h => by
          rw [← HD.out]
          exact decide_eq_false (fun e => h (by rw [e]))
        generalize acAt xs k = X at *
        generalize acAt ys k = Y at *
        obtain ⟨x0, ⟨x1, x2, x3, x4, x5⟩, x6⟩ := X
        obtain ⟨y0, ⟨y1, y2, y3, y4, y5⟩, y6⟩ := Y
        have c0 := hcw 0 _ rfl
        have c1 := hcw 1 _ rfl
        have c2 := hcw 2 _ rfl
        have c3 := hcw 3 _ rfl
        have c4 := hcw 4 _ rfl
        have c5 := hcw 5 _ rfl
        have c6 := hcw 6 _ rfl
        have d0 := hcv 0 _ rfl
        have d1 := hcv 1 _ rfl
        have d2 := hcv 2 _ rfl
        have d3 := hcv 3 _ rfl
        have d4 := hcv 4 _ rfl
        have d5 := hcv 5 _ rfl
        have d6 := hcv 6 _ rfl
        simp only [Nat.add_zero] at c0 d0
        have hk0 : (0 : Int) ≤ k := by omega
        have hk1 : (k : Int) < n := by omega
        have hk2 : (k : Int) ≤ 1000000 := by omega
        have hs := hB.size
        have z1 : bx < wr.heap.size := by omega
        have z2 : b2 < wr.heap.size := by omega
        have HSC : Hid (∀ w', Bw wr w' → (w'.cell? ⟨bx, ox + k * 7, none⟩ = some (.int .i64 x0) ∧ w'.cell? ⟨bx, ox + k * 7 + 1, none⟩ = some (.int .i64 x1) ∧ w'.cell? ⟨bx, ox + k * 7 + 2, none⟩ = some (.int .i64 x2) ∧ w'.cell? ⟨bx, ox + k * 7 + 3, none⟩ = some (.int .i64 x3) ∧ w'.cell? ⟨bx, ox + k * 7 + 4, none⟩ = some (.int .i64 x4) ∧ w'.cell? ⟨bx, ox + k * 7 + 5, none⟩ = some (.int .i64 x5) ∧ w'.cell? ⟨bx, ox + k * 7 + 6, none⟩ = some (.int .i64 x6) ∧ w'.cell? ⟨b2, oy + k * 7, none⟩ = some (.int .i64 y0) ∧ w'.cell? ⟨b2, oy + k * 7 + 1, none⟩ = some (.int .i64 y1) ∧ w'.cell? ⟨b2, oy + k * 7 + 2, none⟩ = some (.int .i64 y2) ∧ w'.cell? ⟨b2, oy + k * 7 + 3, none⟩ = some (.int .i64 y3) ∧ w'.cell? ⟨b2, oy + k * 7 + 4, none⟩ = some (.int .i64 y4) ∧ w'.cell? ⟨b2, oy + k * 7 + 5, none⟩ = some (.int .i64 y5) ∧ w'.cell? ⟨b2, oy + k * 7 + 6, none⟩ = some (.int .i64 y6) ∧ Bw wr w')) := fun w' hb =>
          ⟨(hb.cell (p := ⟨bx, _, none⟩) z1).trans c0, (hb.cell (p := ⟨bx, _, none⟩) z1).trans c1, (hb.cell (p := ⟨bx, _, none⟩) z1).trans c2, (hb.cell (p := ⟨bx, _, none⟩) z1).trans c3, (hb.cell (p := ⟨bx, _, none⟩) z1).trans c4, (hb.cell (p := ⟨bx, _, none⟩) z1).trans c5, (hb.cell (p := ⟨bx, _, none⟩) z1).trans c6,
            (hb.cell (p := ⟨b2, _, none⟩) z2).trans d0, (hb.cell (p := ⟨b2, _, none⟩) z2).trans d1, (hb.cell (p := ⟨b2, _, none⟩) z2).trans d2, (hb.cell (p := ⟨b2, _, none⟩) z2).trans d3, (hb.cell (p := ⟨b2, _, none⟩) z2).trans d4, (hb.cell (p := ⟨b2, _, none⟩) z2).trans d5, (hb.cell (p := ⟨b2, _, none⟩) z2).trans d6, hb⟩
        have HOC := Lib.hid (own_c y0 y1 y2 y3 y4 y5 y6 wr.drew)
        have he := fun w => ein_act x0 x1 x2 x3 x4 x5 x6 y0 y1 y2 y3 y4 y5 y6 w
        clear hcx hcy hcw hcv hB
        by_cases hxy : (x0, (x1, x2, x3, x4, x5), x6) = (y0, (y1, y2, y3, y4, y5), y6)
        · rw [decide_eq_true hxy] at he
          have HS2 := Lib.hid (HST.out hxy)
          clear hxy
          go_wp2_with fail
          go_region_held3 (fun w' => w'.cell? ⟨bx, ox + k * 7, none⟩ = some (.int .i64 x0) ∧ w'.cell? ⟨bx, ox + k * 7 + 1, none⟩ = some (.int .i64 x1) ∧ w'.cell? ⟨bx, ox + k * 7 + 2, none⟩ = some (.int .i64 x2) ∧ w'.cell? ⟨bx, ox + k * 7 + 3, none⟩ = some (.int .i64 x3) ∧ w'.cell? ⟨bx, ox + k * 7 + 4, none⟩ = some (.int .i64 x4) ∧ w'.cell? ⟨bx, ox + k * 7 + 5, none⟩ = some (.int .i64 x5) ∧ w'.cell? ⟨bx, ox + k * 7 + 6, none⟩ = some (.int .i64 x6) ∧ w'.cell? ⟨b2, oy + k * 7, none⟩ = some (.int .i64 y0) ∧ w'.cell? ⟨b2, oy + k * 7 + 1, none⟩ = some (.int .i64 y1) ∧ w'.cell? ⟨b2, oy + k * 7 + 2, none⟩ = some (.int .i64 y2) ∧ w'.cell? ⟨b2, oy + k * 7 + 3, none⟩ = some (.int .i64 y3) ∧ w'.cell? ⟨b2, oy + k * 7 + 4, none⟩ = some (.int .i64 y4) ∧ w'.cell? ⟨b2, oy + k * 7 + 5, none⟩ = some (.int .i64 y5) ∧ w'.cell? ⟨b2, oy + k * 7 + 6, none⟩ = some (.int .i64 y6) ∧ Bw wr w')
            ((refine HSC.out _ ?_; with_reducible (first | exact Bw.drew _ | assumption)))
            ((go_at_call 16; refine HOC.out.mono ?_; rintro rr w3 ⟨rfl, hb3⟩; have hBw3 : Bw wr w3 := below_step (Bw.drew _) hb3; clear hb3))
          have HBK := Lib.hid (by assumption : Bw wr w3)
          go_wp2
          go_roundw
          case rel => exact ⟨k + 1, by omega, by go_num, HS2.out, HB.out.trans (HBK.out.mono HB.out.size)⟩
          case measure => simp [intOf]; omega
        · rw [decide_eq_false hxy] at he
          have hD := HNE.out hxy
          subst hD
          clear hxy
          go_wp2_with fail
          go_region_held3 (fun w' => w'.cell? ⟨bx, ox + k * 7, none⟩ = some (.int .i64 x0) ∧ w'.cell? ⟨bx, ox + k * 7 + 1, none⟩ = some (.int .i64 x1) ∧ w'.cell? ⟨bx, ox + k * 7 + 2, none⟩ = some (.int .i64 x2) ∧ w'.cell? ⟨bx, ox + k * 7 + 3, none⟩ = some (.int .i64 x3) ∧ w'.cell? ⟨bx, ox + k * 7 + 4, none⟩ = some (.int .i64 x4) ∧ w'.cell? ⟨bx, ox + k * 7 + 5, none⟩ = some (.int .i64 x5) ∧ w'.cell? ⟨bx, ox + k * 7 + 6, none⟩ = some (.int .i64 x6) ∧ w'.cell? ⟨b2, oy + k * 7, none⟩ = some (.int .i64 y0) ∧ w'.cell? ⟨b2, oy + k * 7 + 1, none⟩ = some (.int .i64 y1) ∧ w'.cell? ⟨b2, oy + k * 7 + 2, none⟩ = some (.int .i64 y2) ∧ w'.cell? ⟨b2, oy + k * 7 + 3, none⟩ = some (.int .i64 y3) ∧ w'.cell? ⟨b2, oy + k * 7 + 4, none⟩ = some (.int .i64 y4) ∧ w'.cell? ⟨b2, oy + k * 7 + 5, none⟩ = some (.int .i64 y5) ∧ w'.cell? ⟨b2, oy + k * 7 + 6, none⟩ = some (.int .i64 y6) ∧ Bw wr w')
            ((refine HSC.out _ ?_; with_reducible (first | exact Bw.drew _ | assumption)))
            ((go_at_call 16; refine HOC.out.mono ?_; rintro rr w3 ⟨rfl, hb3⟩; have hBw3 : Bw wr w3 := below_step (Bw.drew _) hb3; clear hb3))
          have HBK := Lib.hid (by assumption : Bw wr w3)
          go_wp2
          go_ret
          exact ⟨rfl, HB.out.trans (HBK.out.mono HB.out.size)⟩
      · obtain rfl : k = n := by omega
        have hD : D = true := by
          rw [← HD.out]
          refine decide_eq_true (list_ext_at HL.out (fun i hi => HALL.out i (by rw [← HN.out]; exact hi)))
        subst hD
        clear hB
        go_wp2
        go_ret
        exact ⟨rfl, HB.out⟩
  · have hd : decide (xs = ys) = false := decide_eq_false (fun e => hl (by rw [e]))
    rw [hd]
    have hl2 : ¬ (xs.length : Int) = ys.length := by omega
    clear hrx hry hd
    generalize xs.length = n1 at *
    generalize ys.length = n2 at *
    go_enter Tryz.func11, Tryz.ntmps11
    go_wp2
    go_ret
    exact ⟨rfl, Below.refl _ _⟩
theorem heap_alloc3o (w : World) (A B C : Obj) : (((w.alloc A).alloc B).alloc C).heap[w.heap.size]? = some A := by
  rw [Below.heap_alloc _ _ _ (by simp; omega)]; exact heap_alloc2_old _ _ _
theorem heap_alloc3m (w : World) (A B C : Obj) : (((w.alloc A).alloc B).alloc C).heap[w.heap.size + 1]? = some B := by
  rw [Below.heap_alloc _ _ _ (by simp)]; exact heap_alloc2_new _ _ _
theorem heap_alloc3n (w : World) (A B C : Obj) : (((w.alloc A).alloc B).alloc C).heap[w.heap.size + 2]? = some C := by
  have := heap_alloc_new ((w.alloc A).alloc B) C
  simpa using this
/-- the features of the chapter's examples -/
def pairL : List Ft := [((0, 0, 3, 7, 4), [(1, 0), (2, 3)]), ((0, 0, 3, 13, 0), [(0, 2), (1, 3)])]
theorem pair_c (w : World) : Calls Tryz.prog 12 #[] w fun e w' => (∃ a, e = .returned (.slice (some ⟨a, 0, none⟩) 2 2) ∧ FeatsAt w' w.heap.size w'.heap.size (.slice (some ⟨a, 0, none⟩) 2 2) pairL) ∧ Below w.heap.size w w' := by
  go_enter Tryz.func12, Tryz.ntmps12
  go_wp2
  go_ret
  refine ⟨⟨_, rfl, ?_⟩, by go_grown⟩
  have hz : ∀ (A B C : Obj), (((w.alloc A).alloc B).alloc C).heap.size = w.heap.size + 3 := fun A B C => by simp
  refine ⟨some ⟨w.heap.size + 2, 0, none⟩, 2, fun (i : Nat) => if i = 0 then .slice (some ⟨w.heap.size, 0, none⟩) 2 2 else .slice (some ⟨w.heap.size + 1, 0, none⟩) 2 2, rfl, (fun h => absurd h (by simp)), fun _ => ⟨w.heap.size + 2, 0, rfl, by omega, by rw [hz]; omega, fun i hi j u hu => ?_⟩, fun i hi => ?_⟩
  · rw [cell_of_row _ _ _ _ _ _ (heap_alloc3n _ _ _ _)]
    have hi2 : i = 0 ∨ i = 1 := by simp [pairL] at hi; omega
    rcases hi2 with rfl | rfl
    · have hj : j < 6 := by
        have := (List.getElem?_eq_some_iff.1 hu).1
        rwa [ftV_len] at this
      revert hu
      rcases show j = 0 ∨ j = 1 ∨ j = 2 ∨ j = 3 ∨ j = 4 ∨ j = 5 by omega with rfl | rfl | rfl | rfl | rfl | rfl <;> exact id
    · have hj : j < 6 := by
        have := (List.getElem?_eq_some_iff.1 hu).1
        rwa [ftV_len] at this
      revert hu
      rcases show j = 0 ∨ j = 1 ∨ j = 2 ∨ j = 3 ∨ j = 4 ∨ j = 5 by omega with rfl | rfl | rfl | rfl | rfl | rfl <;> exact id
  · have hi2 : i = 0 ∨ i = 1 := by simp [pairL] at hi; omega
    rcases hi2 with rfl | rfl
    · refine ⟨some ⟨w.heap.size, 0, none⟩, 2, rfl, (fun h => absurd h (by simp)), fun _ => ⟨w.heap.size, 0, rfl, Nat.le_refl _, by rw [hz]; omega, fun k hk j u hu => ?_⟩⟩
      rw [cell_of_row _ _ _ _ _ _ (heap_alloc3o _ _ _ _)]
      have hk2 : k = 0 ∨ k = 1 := by simp [pairL, ftAt] at hk; omega
      rcases hk2 with rfl | rfl
      · have hj : j < 2 := by
          have := (List.getElem?_eq_some_iff.1 hu).1
          rwa [optV_len] at this
        revert hu
        rcases show j = 0 ∨ j = 1 by omega with rfl | rfl <;> exact id
      · have hj : j < 2 := by
          have := (List.getElem?_eq_some_iff.1 hu).1
          rwa [optV_len] at this
        revert hu
        rcases show j = 0 ∨ j = 1 by omega with rfl | rfl <;> exact id
    · refine ⟨some ⟨w.heap.size + 1, 0, none⟩, 2, rfl, (fun h => absurd h (by simp)), fun _ => ⟨w.heap.size + 1, 0, rfl, Nat.le_succ _, by rw [hz]; omega, fun k hk j u hu => ?_⟩⟩
      rw [cell_of_row _ _ _ _ _ _ (heap_alloc3m _ _ _ _)]
      have hk2 : k = 0 ∨ k = 1 := by simp [pairL, ftAt] at hk; omega
      rcases hk2 with rfl | rfl
      · have hj : j < 2 := by
          have := (List.getElem?_eq_some_iff.1 hu).1
          rwa [optV_len] at this
        revert hu
        rcases show j = 0 ∨ j = 1 by omega with rfl | rfl <;> exact id
      · have hj : j < 2 := by
          have := (List.getElem?_eq_some_iff.1 hu).1
          rwa [optV_len] at this
        revert hu
        rcases show j = 0 ∨ j = 1 by omega with rfl | rfl <;> exact id
end Go.Proofs.YtpcefaccoifejaaGreatDoor
