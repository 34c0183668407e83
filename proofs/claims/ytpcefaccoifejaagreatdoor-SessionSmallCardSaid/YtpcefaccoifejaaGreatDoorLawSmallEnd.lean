/-
  The end of the walk of custoslaw13.SessionSmall: what is no session, and the chapter's examples. Conditions: a session lies in the world, as the words say.
-/
import Derived.Test.YtpcefaccoifejaaGreatDoorSA0
namespace Go.Proofs.YtpcefaccoifejaaGreatDoor
open Go.RowKit
set_option linter.unusedSimpArgs false
set_option linter.unusedVariables false
set_option maxRecDepth 1000000

/-- the first region of a code; what begins with a region, as far out as it does -/
def firstRegion : Code → Option Nat
  | .region n _ _ => some n
  | .seq a _ => firstRegion a
  | .block _ c => firstRegion c
  | .scope c => firstRegion c
  | .loop c => firstRegion c
  | _ => none
def fromRegion (n : Nat) : Code → Option Code
  | .seq a b => if firstRegion (.seq a b) = some n then some (.seq a b) else (match fromRegion n a with
    | some c => some c
    | none => fromRegion n b)
  | .block _ c => fromRegion n c
  | .scope c => fromRegion n c
  | .loop c => fromRegion n c
  | .cond _ a b => match fromRegion n a with
    | some c => some c
    | none => fromRegion n b
  | _ => none
noncomputable def endCode : Code := ((Tryz.f4.body.bind (fromRegion 58)).getD .skip)
set_option maxHeartbeats 40000000 in
theorem Small_end (w wM : World) (p m lo flo fhi : Nat) (va' vf : Value) (AL : List Ac) (hBq : Below w.heap.size w wM) (hSq : SesAt wM lo p m flo fhi va' vf pairL AL) (s0 s1 s2 s3 s4 s5 s6 s7 s8 s9 s10 s11 s12 s13 s14 s15 s16 s17 s18 s20 s21 s22 s23 s24 s25 s26 s27 s28 s29 s30 s31 s32 s33 s34 s35 s36 s37 s38 s39 s40 s41 s42 s43 s44 s45 s46 s47 s48 s49 s50 s51 s52 s53 s54 s55 s56 s57 s58 s59 s60 s61 s62 s63 s64 s65 s66 s67 s68 s69 s70 s71 s72 s73 s74 s75 s76 s77 s78 s79 s80 s81 s82 s83 s84 s85 s86 s87 s88 s89 s90 s91 s92 s93 s94 s95 s96 s97 s98 s99 s100 s101 s102 s103 s104 s105 s106 s107 s108 s109 s110 s111 s112 s113 s114 s115 s116 s117 s118 s119 s120 s121 s122 s123 s124 s125 s126 s127 s128 s129 s130 s131 s132 s133 s134 s135 s136 s137 s138 s139 s140 s141 s142 s143 s144 s145 s146 s147 s148 s149 s150 s151 s152 s153 s154 s155 s156 s157 s158 s159 s160 s161 s162 s163 s164 s165 s166 s167 s168 s169 s170 s171 s172 s173 s174 s175 s176 s177 s178 s179 s180 s181 s182 s183 s184 s185 s186 s187 s188 s189 s190 s191 s192 s193 s194 s195 s196 s197 s198 s199 s200 s201 s202 s203 s204 s205 s206 s207 s208 s209 s210 s211 s212 s213 s214 s215 s216 s217 s218 s219 s220 s221 s222 s223 s224 s225 s226 s227 s228 s229 s230 s231 s232 s233 s234 s235 s236 s237 s238 s239 s240 s241 s242 s243 s244 s245 s246 s247 s248 s249 s250 s251 s252 s253 s254 s255 s256 s257 s258 s259 s260 s261 s262 s263 s264 s265 s266 s267 s268 s269 s270 s271 s272 s273 s274 s275 s276 s277 s278 s279 s280 s281 s282 s283 s284 s285 s286 s287 s288 s289 s290 s291 s292 s293 s294 s295 s296 s297 s298 s299 s300 s301 s302 s303 s304 s305 s306 s307 s308 s309 s310 s311 s312 s313 s314 s315 s316 s317 s318 s319 s320 s321 s322 s323 s324 s325 s326 s327 s328 s329 s330 s331 s332 s333 s334 s335 s336 s337 s338 s339 s340 s341 s342 s343 s344 s345 s346 s347 s348 s349 s350 s351 s352 s353 s354 s355 s356 s357 s358 s359 s360 s361 s362 s363 s364 s365 s366 s367 s368 s369 s370 s371 s372 s373 s374 s375 s376 s377 s378 s379 s380 s381 s382 s383 s384 s385 s386 s387 s388 s389 s390 s391 s392 s393 s394 s395 s396 s397 s398 s399 s400 s401 s402 s403 s404 s405 s406 s407 s408 s409 s410 s411 s412 s413 s414 s415 s416 s417 s418 s419 s420 s421 s422 s423 s424 s425 s426 s427 s428 s429 s430 s431 s432 s433 s434 s435 s436 s437 s438 s439 s440 s441 s442 s443 s444 s445 s446 s447 s448 s449 s450 : Value) :
    Code.wp Tryz.prog endCode (bodyPost Tryz.prog Tryz.f4 fun e w' => e = Ending.returned (Value.bool true) ∧ Below w.heap.size w w') ⟨#[s0, s1, s2, s3, s4, s5, s6, s7, s8, s9, s10, s11, s12, s13, s14, s15, s16, s17, s18, .pointer (some ⟨p, 0, none⟩), s20, s21, s22, s23, s24, s25, s26, s27, s28, s29, s30, s31, s32, s33, s34, s35, s36, s37, s38, s39, s40, s41, s42, s43, s44, s45, s46, s47, s48, s49, s50, s51, s52, s53, s54, s55, s56, s57, s58, s59, s60, s61, s62, s63, s64, s65, s66, s67, s68, s69, s70, s71, s72, s73, s74, s75, s76, s77, s78, s79, s80, s81, s82, s83, s84, s85, s86, s87, s88, s89, s90, s91, s92, s93, s94, s95, s96, s97, s98, s99, s100, s101, s102, s103, s104, s105, s106, s107, s108, s109, s110, s111, s112, s113, s114, s115, s116, s117, s118, s119, s120, s121, s122, s123, s124, s125, s126, s127, s128, s129, s130, s131, s132, s133, s134, s135, s136, s137, s138, s139, s140, s141, s142, s143, s144, s145, s146, s147, s148, s149, s150, s151, s152, s153, s154, s155, s156, s157, s158, s159, s160, s161, s162, s163, s164, s165, s166, s167, s168, s169, s170, s171, s172, s173, s174, s175, s176, s177, s178, s179, s180, s181, s182, s183, s184, s185, s186, s187, s188, s189, s190, s191, s192, s193, s194, s195, s196, s197, s198, s199, s200, s201, s202, s203, s204, s205, s206, s207, s208, s209, s210, s211, s212, s213, s214, s215, s216, s217, s218, s219, s220, s221, s222, s223, s224, s225, s226, s227, s228, s229, s230, s231, s232, s233, s234, s235, s236, s237, s238, s239, s240, s241, s242, s243, s244, s245, s246, s247, s248, s249, s250, s251, s252, s253, s254, s255, s256, s257, s258, s259, s260, s261, s262, s263, s264, s265, s266, s267, s268, s269, s270, s271, s272, s273, s274, s275, s276, s277, s278, s279, s280, s281, s282, s283, s284, s285, s286, s287, s288, s289, s290, s291, s292, s293, s294, s295, s296, s297, s298, s299, s300, s301, s302, s303, s304, s305, s306, s307, s308, s309, s310, s311, s312, s313, s314, s315, s316, s317, s318, s319, s320, s321, s322, s323, s324, s325, s326, s327, s328, s329, s330, s331, s332, s333, s334, s335, s336, s337, s338, s339, s340, s341, s342, s343, s344, s345, s346, s347, s348, s349, s350, s351, s352, s353, s354, s355, s356, s357, s358, s359, s360, s361, s362, s363, s364, s365, s366, s367, s368, s369, s370, s371, s372, s373, s374, s375, s376, s377, s378, s379, s380, s381, s382, s383, s384, s385, s386, s387, s388, s389, s390, s391, s392, s393, s394, s395, s396, s397, s398, s399, s400, s401, s402, s403, s404, s405, s406, s407, s408, s409, s410, s411, s412, s413, s414, s415, s416, s417, s418, s419, s420, s421, s422, s423, s424, s425, s426, s427, s428, s429, s430, s431, s432, s433, s434, s435, s436, s437, s438, s439, s440, s441, s442, s443, s444, s445, s446, s447, s448, s449, s450], []⟩ wM := by
  conv => arg 2; whnf
  have HB := Lib.hid hBq
  have HS := Lib.hid hSq
  clear hBq hSq
  go_wp2_with fail
  go_loopw [329] (fun iv wr => ∃ (j : Nat), j ≤ 2 ∧ iv = .int .i64 (j : Int) ∧ wr.heap[wM.heap.size]? = some (.cells #[.slice none 0 0, .slice none 0 0, .map none] 77 (0, 0)) ∧ wr.heap[wM.heap.size + 1]? = some (.cells #[.pointer none, .pointer (some ⟨wM.heap.size, 0, none⟩)] 48 (0, 0)) ∧ Below w.heap.size w wr ∧ SesAt wr lo p m flo fhi va' vf pairL AL) (fun iv _ => 2 - (intOf iv).toNat)
  case atStart => exact ⟨0, by omega, rfl, heap_alloc2_old _ _ _, heap_alloc2_new _ _ _, (HB.out.alloc HB.out.size _).alloc (by simp; have := HB.out.size; omega) _, HS.out.below (((Below.refl _ _).alloc (Nat.le_refl _) _).alloc (by simp) _)⟩
  case round =>
    obtain ⟨j, hj, rfl, hZ, hT, hB, hs⟩ := hrel
    obtain ⟨wN, rfl⟩ : ∃ wo : World, wo = wr := ⟨_, rfl⟩
    have HBN := Lib.hid hB
    have HZ := Lib.hid hZ
    have HT := Lib.hid hT
    have HSN := Lib.hid hs
    have hj0 : (0 : Int) ≤ j := by omega
    clear hs hB HB HS
    by_cases hjl : j < 2
    · obtain ⟨q, hq, hcell⟩ : ∃ q, NoS wN (.pointer q) ∧ wN.cell? ⟨wM.heap.size + 1, j, none⟩ = some (.pointer q) := by
        rw [cell_of_row _ _ _ _ _ _ hT]
        rcases (by omega : j = 0 ∨ j = 1) with rfl | rfl
        · exact ⟨none, .inl rfl, rfl⟩
        · exact ⟨some ⟨wM.heap.size, 0, none⟩, .inr ⟨_, rfl, hZ⟩, rfl⟩
      have hjI : (j : Int) < 2 := by omega
      have HQ := Lib.hid hq
      have hfr : ∀ i, wN.frozen? ⟨wM.heap.size + 1, i, none⟩ = false := fun i => frozen_of_row _ _ _ _ _ hT
      clear hZ hT hq
      go_wp2_with fail
      refine (LogN_c (.pointer q) wN HQ.out).mono ?_
      rintro rr x1 ⟨rfl, hb1⟩
      have HX1 : Hid (Below wN.heap.size wN x1) := hb1
      clear hb1 hcell hfr
      go_wp2_with fail
      refine (ValueN_c (.pointer q) 0 0 0 0 0 x1 (HQ.out.below HX1.out)).mono ?_
      rintro rr x2 ⟨rfl, hb2⟩
      have HX2 : Hid (Below wN.heap.size wN x2) := below_step HX1.out hb2
      clear hb2 HX1
      go_wp2_with fail
      refine (FeaturesN_c (.pointer q) x2 (HQ.out.below HX2.out)).mono ?_
      rintro rr x3 ⟨rfl, hb3⟩
      have HX3 : Hid (Below wN.heap.size wN x3) := below_step HX2.out hb3
      clear hb3 HX2
      go_wp2_with fail
      refine (WeightsN_c (.pointer q) x3 (HQ.out.below HX3.out)).mono ?_
      rintro rr x4 ⟨rfl, hb4⟩
      have HX4 : Hid (Below wN.heap.size wN x4) := below_step HX3.out hb4
      clear hb4 HX3
      have hone := rowW_one (fun _ => 0)
      have hsz : (rowW (fun _ => 0)).size = 17 := rowW_size _
      have hi : (Tryz.prog.info? 64).map (·.size) = some (rowW (fun _ => 0)).size := by rw [hsz]; exact infoW
      have hold : 17 = (rowW (fun _ => 0)).size := hsz.symm
      obtain ⟨row, hrow⟩ : ∃ r, rowW (fun _ => 0) = r := ⟨_, rfl⟩
      rw [hrow] at hone hsz hi hold ⊢
      have Y3 := Lib.hid hi
      have Y4 := Lib.hid hold
      have Y5 := Lib.hid hone
      have HROW := Lib.hid hrow
      clear hone hsz hi hold hrow
      go_wp2_with (first | (refine wpList_named fun X5 hX5 => ?_; have hX5' : X5 = (x4.alloc _).setRow x4.heap.size row := (by with_reducible exact hX5); clear hX5'; refine wpList_veil ?_) | (refine wpList_store_row rfl 64 (.tmp 56) (.tmp 352) rfl x4.heap.size row rfl rfl 64 _ (heap_alloc_new x4 _) Y3.out Y4.out Y5.out ?_))
      have hb45 : Below x4.heap.size x4 X5 := by rw [hX5]; exact below_setRowW ((Below.refl _ _).alloc (Nat.le_refl _) _) (Nat.le_refl _)
      have HR5 : Hid (X5.heap[x4.heap.size]? = some (.cells row 64 (0, 0))) := by rw [hX5]; exact Lib.hid (setRow_heap _ _ _ _ _ _ (heap_alloc_new _ _))
      have HX5 : Hid (Below wN.heap.size wN X5) := below_step HX4.out hb45
      clear hX5 hb45 HX4
      refine wpList_unveil ?_
      go_wp2_with fail
      refine (ReplayN_c (.pointer q) (.slice none 0 0) X5 (HQ.out.below HX5.out)).mono ?_
      rintro rr x6 ⟨rfl, hb6⟩
      have HX6 : Hid (Below wN.heap.size wN x6) := below_step HX5.out hb6
      have HR6 : Hid (x6.heap[x4.heap.size]? = some (.cells row 64 (0, 0))) := (hb6.block _ (Array.getElem?_eq_some_iff.1 HR5.out).1).trans HR5.out
      clear hb6 HX5 HR5
      go_wp2_with fail
      refine (MergeN_c (.pointer q) (.pointer (some ⟨p, 0, none⟩)) x6 (HQ.out.below HX6.out)).mono ?_
      rintro rr x7 ⟨rfl, hb7⟩
      have HX7 : Hid (Below wN.heap.size wN x7) := below_step HX6.out hb7
      have HR7 : Hid (x7.heap[x4.heap.size]? = some (.cells row 64 (0, 0))) := (hb7.block _ (Array.getElem?_eq_some_iff.1 HR6.out).1).trans HR6.out
      clear hb7 HX6 HR6
      go_wp2_with fail
      refine (MergeN2_c lo p m flo fhi va' vf pairL AL (.pointer q) x7 (HSN.out.below HX7.out) (HQ.out.below HX7.out)).mono ?_
      rintro rr x8 ⟨rfl, hb8⟩
      have HX8 : Hid (Below wN.heap.size wN x8) := below_step HX7.out hb8
      have HR8 : Hid (x8.heap[x4.heap.size]? = some (.cells row 64 (0, 0))) := (hb8.block _ (Array.getElem?_eq_some_iff.1 HR7.out).1).trans HR7.out
      clear hb8 HX7 HR7
      have k0 : x8.cell? ⟨x4.heap.size, 0, none⟩ = some (.int .i64 0) := by rw [cell_of_row _ _ _ _ _ _ HR8.out, ← HROW.out]; exact rowW_at _ (by decide)
      have k1 : x8.cell? ⟨x4.heap.size, 1, none⟩ = some (.int .i64 0) := by rw [cell_of_row _ _ _ _ _ _ HR8.out, ← HROW.out]; exact rowW_at _ (by decide)
      have k2 : x8.cell? ⟨x4.heap.size, 2, none⟩ = some (.int .i64 0) := by rw [cell_of_row _ _ _ _ _ _ HR8.out, ← HROW.out]; exact rowW_at _ (by decide)
      have k3 : x8.cell? ⟨x4.heap.size, 3, none⟩ = some (.int .i64 0) := by rw [cell_of_row _ _ _ _ _ _ HR8.out, ← HROW.out]; exact rowW_at _ (by decide)
      have k4 : x8.cell? ⟨x4.heap.size, 4, none⟩ = some (.int .i64 0) := by rw [cell_of_row _ _ _ _ _ _ HR8.out, ← HROW.out]; exact rowW_at _ (by decide)
      have k5 : x8.cell? ⟨x4.heap.size, 5, none⟩ = some (.int .i64 0) := by rw [cell_of_row _ _ _ _ _ _ HR8.out, ← HROW.out]; exact rowW_at _ (by decide)
      have k6 : x8.cell? ⟨x4.heap.size, 6, none⟩ = some (.int .i64 0) := by rw [cell_of_row _ _ _ _ _ _ HR8.out, ← HROW.out]; exact rowW_at _ (by decide)
      have k7 : x8.cell? ⟨x4.heap.size, 7, none⟩ = some (.int .i64 0) := by rw [cell_of_row _ _ _ _ _ _ HR8.out, ← HROW.out]; exact rowW_at _ (by decide)
      have k8 : x8.cell? ⟨x4.heap.size, 8, none⟩ = some (.int .i64 0) := by rw [cell_of_row _ _ _ _ _ _ HR8.out, ← HROW.out]; exact rowW_at _ (by decide)
      have k9 : x8.cell? ⟨x4.heap.size, 9, none⟩ = some (.int .i64 0) := by rw [cell_of_row _ _ _ _ _ _ HR8.out, ← HROW.out]; exact rowW_at _ (by decide)
      have k10 : x8.cell? ⟨x4.heap.size, 10, none⟩ = some (.int .i64 0) := by rw [cell_of_row _ _ _ _ _ _ HR8.out, ← HROW.out]; exact rowW_at _ (by decide)
      have k11 : x8.cell? ⟨x4.heap.size, 11, none⟩ = some (.int .i64 0) := by rw [cell_of_row _ _ _ _ _ _ HR8.out, ← HROW.out]; exact rowW_at _ (by decide)
      have k12 : x8.cell? ⟨x4.heap.size, 12, none⟩ = some (.int .i64 0) := by rw [cell_of_row _ _ _ _ _ _ HR8.out, ← HROW.out]; exact rowW_at _ (by decide)
      have k13 : x8.cell? ⟨x4.heap.size, 13, none⟩ = some (.int .i64 0) := by rw [cell_of_row _ _ _ _ _ _ HR8.out, ← HROW.out]; exact rowW_at _ (by decide)
      have k14 : x8.cell? ⟨x4.heap.size, 14, none⟩ = some (.int .i64 0) := by rw [cell_of_row _ _ _ _ _ _ HR8.out, ← HROW.out]; exact rowW_at _ (by decide)
      have k15 : x8.cell? ⟨x4.heap.size, 15, none⟩ = some (.int .i64 0) := by rw [cell_of_row _ _ _ _ _ _ HR8.out, ← HROW.out]; exact rowW_at _ (by decide)
      have k16 : x8.cell? ⟨x4.heap.size, 16, none⟩ = some (.int .i64 0) := by rw [cell_of_row _ _ _ _ _ _ HR8.out, ← HROW.out]; exact rowW_at _ (by decide)
      have hez := ein_zeroW
      go_wp2_with fail
      refine (CopyN_c (.pointer q) x8 (HQ.out.below HX8.out)).mono ?_
      rintro rr x9 ⟨rfl, hb9⟩
      have HX9 : Hid (Below wN.heap.size wN x9) := below_step HX8.out hb9
      clear hb9 HX8 HR8 k0 k1 k2 k3 k4 k5 k6 k7 k8 k9 k10 k11 k12 k13 k14 k15 k16
      go_wp2_with fail
      refine (DoN_c (.pointer q) 0 0 0 0 0 0 0 x9 (HQ.out.below HX9.out)).mono ?_
      rintro rr x10 ⟨rfl, hb10⟩
      have HX10 : Hid (Below wN.heap.size wN x10) := below_step HX9.out hb10
      clear hb10 HX9
      go_wp2_with fail
      refine (UndoN_c (.pointer q) x10 (HQ.out.below HX10.out)).mono ?_
      rintro rr x11 ⟨rfl, hb11⟩
      have HX11 : Hid (Below wN.heap.size wN x11) := below_step HX10.out hb11
      clear hb11 HX10
      go_wp2_with fail
      go_roundw
      case rel => first | exact ⟨j + 1, by omega, by go_num, (HX11.out.block _ (Array.getElem?_eq_some_iff.1 HZ.out).1).trans HZ.out, (HX11.out.block _ (Array.getElem?_eq_some_iff.1 HT.out).1).trans HT.out, below_step HBN.out HX11.out, HSN.out.below HX11.out⟩ | ((repeat apply Exists.intro); exact ⟨⟨j + 1, by omega, rfl, (HX11.out.block _ (Array.getElem?_eq_some_iff.1 HZ.out).1).trans HZ.out, (HX11.out.block _ (Array.getElem?_eq_some_iff.1 HT.out).1).trans HT.out, below_step HBN.out HX11.out, HSN.out.below HX11.out⟩, rfl⟩)
      case measure => simp [intOf]; omega
    · obtain rfl : j = 2 := by omega
      clear hZ hT
      go_wp2_with fail
      refine (awake_c _).mono ?_
      rintro rr w7 ⟨rfl, hb7⟩
      have HB7 := Lib.hid (below_step HBN.out hb7)
      clear hb7
      go_wp2
      go_ret
      exact ⟨rfl, HB7.out⟩
end Go.Proofs.YtpcefaccoifejaaGreatDoor
