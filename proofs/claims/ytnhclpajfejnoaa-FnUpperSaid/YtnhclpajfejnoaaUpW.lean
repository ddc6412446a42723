/- The law FnUpper: its walk, from the end to the start. -/
import Derived.Test.YtnhclpajfejnoaaMnW
import Derived.Test.YtnhclpajfejnoaaCaT
import Derived.Test.YtnhclpajfejnoaaAfI
import Derived.Test.YtnhclpajfejnoaaCaW
import Derived.Test.YtnhclpajfejnoaaDrM
import Derived.Test.YtnhclpajfejnoaaFuW
import Derived.Test.YtnhclpajfejnoaaPrI
import Derived.Test.YtnhclpajfejnoaaUpK
import Derived.Test.YtnhclpajfejnoaaClA
import Derived.Test.YtnhclpajfejnoaaByt
namespace Go.Proofs.Ytnhclpajfejnoaa
open Go.RowKit

noncomputable def up51 : Code := ((Try.f6.body.bind (restFrom 51)).getD .skip)
theorem mn_bd {P W V : List Int} (h : TreeOk P W) (ha : allB V (-999) 999 = true) {x : Nat} (hx : x < P.length) : (-480000 ≤ (mnP P W V x).1 ∧ (mnP P W V x).1 ≤ 480000) ∧ 0 < (mnP P W V x).2 ∧ (mnP P W V x).2 ≤ 480 := by
  have T := gatY_bz h.par (atE_length P (wvL P W V)) (tot_bd h ha) h.n2 h.n1 0 x
  rw [gatY_zero] at T
  have S1 := gath_posZ h P.length x (by omega) hx
  have S2 := (h.sum_bd x).2
  exact ⟨cutT_bd (by omega) T.1 T.2, cutB_bd (by omega) S2⟩
theorem mnL_nP {P W V : List Int} {x : Nat} (hx : x < P.length) : nP (mnL P W V) x = mnP P W V x := by simp [nP, mnL, hx]
/-- What the last comparison asks. -/
def UpLast (a b m : Int × Int) : Prop := decide (a.1 * m.2 < m.1 * a.2) = false ∧ decide (m.1 * b.2 < b.1 * m.2) = false

set_option maxRecDepth 100000 in
set_option maxHeartbeats 8000000 in
theorem upTail (A1 : Option Addr) (P : List Int) (c1 : Nat) (A2 : Option Addr) (W : List Int) (c2 : Nat) (A3 : Option Addr) (F : List Int) (c3 : Nat) (gm : Nat) (AC : Option Addr) (C : List Int) (cC : Nat) (Ax : Option Addr) (X : List Int) (cx : Nat) (Ah : Option Addr) (hi : List (Int × Int)) (ch : Nat) (Al : Option Addr) (lo : List (Int × Int)) (cl : Nat)
    (HTR : Hid (treeB P W = true)) (HCL : Hid (C.length = (endL P).length)) (HCA : Hid (allB C (-999) 999 = true)) (HFB : Hid (fwB P W F X = true)) (hX : X.length ≤ 24) (hh0 : 0 < hi.length) (hl0 : 0 < lo.length) (fh : frP (nP hi 0) = true) (fl : frP (nP lo 0) = true)
    (HL : Hid (fwV P W F X = true → UpLast (nP hi 0) (nP lo 0) (mnP P W C 0))) (w0 w : World) (HB : Below w0.heap.size w0 w) (h : RdM w A1 P A2 W A3 F) (bx : Bx3 w gm (.slice A1 P.length c1) (.slice A2 W.length c2) (.slice A3 F.length c3))
    (rC : Rd w AC (ints C)) (rX : Rd w Ax (ints X)) (rh : Rd w Ah (pcells hi)) (rl : Rd w Al (pcells lo)) (u0 u1 u2 u3 u4 u5 u6 u7 u8 u9 u10 u11 u12 u13 u14 u15 u16 u17 u18 u19 u20 u21 u22 u23 u24 u25 u29 u30 u31 u33 u34 u35 u36 u37 u38 u39 u41 u42 u43 u44 u45 u46 u47 u48 u49 u50 u51 u52 u53 u54 u55 u56 u57 u58 u59 u60 u61 u62 u63 u64 u65 u66 u67 u68 u69 u70 u71 u72 u73 u74 u75 u76 u77 u78 u79 u80 u81 u82 u83 u84 u85 u86 u87 u88 u89 u90 u91 u92 u93 u94 u95 u96 u97 u98 u99 u100 u101 u102 u103 u104 u105 u106 u107 u108 u109 u110 u111 u112 u113 u114 u115 u116 u117 u118 u119 u120 u121 u122 u123 u124 u125 u126 u127 u128 u129 u130 u131 u132 u133 u134 u135 u136 u137 u138 u139 u140 u141 u142 u143 u144 u145 u146 u147 u148 u149 u150 u151 u152 u153 u154 u155 u156 u157 u158 u159 u160 u161 u162 u163 u164 u165 u166 u167 u168 u169 u170 u171 u172 u173 u174 u175 u176 u177 u178 u179 u180 u181 u182 u183 u184 u185 u186 u187 u188 u189 u190 u191 u192 u193 u194 u195 u196 u197 u198 u199 u200 u201 u202 u203 u204 u205 u206 u207 u208 u209 u210 u211 u212 u213 u214 u215 u216 u217 u218 u219 u220 u221 u222 u223 u224 u225 u226 u227 u228 u229 u230 u231 u232 u233 u234 u235 u236 u237 u238 u239 u240 u241 u242 u243 u244 u245 u246 u247 u248 u249 u250 u251 u252 u253 u254 u255 u256 u257 u258 u259 u260 u261 u262 u263 u264 u265 u266 u267 u268 u269 u270 u271 u272 u273 u274 u275 u276 u277 u278 u279 u280 u281 u282 u283 u284 u285 u286 u287 u288 u289 u290 u291 u292 u293 u294 u295 u296 u297 u298 u299 u300 u301 u302 u303 u304 u305 u306 u307 u308 u309 u310 u311 u312 u313 u314 u315 u316 u317 u318 u319 u320 u321 u322 u323 u324 u325 u326 u327 u328 u329 u330 u331 u332 u333 u334 u335 u336 u337 u338 u339 u340 u341 u342 u343 u344 u345 u346 u347 u348 u349 u350 u351 u352 u353 u354 u355 u356 u357 u358 u359 u360 u361 u362 u363 u364 u365 u366 u367 u368 u369 u370 u371 u372 u373 u374 u375 u376 u377 u378 u379 u380 u381 u382 u383 u384 u385 u386 u387 : Value) :
    Code.wp Try.prog up51 (bodyPost Try.prog Try.f6 fun e w' => e = .returned (.bool true) ∧ Below w0.heap.size w0 w') ⟨#[u0, u1, u2, u3, u4, u5, u6, u7, u8, u9, u10, u11, u12, u13, u14, u15, u16, u17, u18, u19, u20, u21, u22, u23, u24, u25, .pointer (some ⟨gm, 0, none⟩), .slice AC C.length cC, .slice Ah hi.length ch, u29, u30, u31, .slice Al lo.length cl, u33, u34, u35, u36, u37, u38, u39, .slice Ax X.length cx, u41, u42, u43, u44, u45, u46, u47, u48, u49, u50, u51, u52, u53, u54, u55, u56, u57, u58, u59, u60, u61, u62, u63, u64, u65, u66, u67, u68, u69, u70, u71, u72, u73, u74, u75, u76, u77, u78, u79, u80, u81, u82, u83, u84, u85, u86, u87, u88, u89, u90, u91, u92, u93, u94, u95, u96, u97, u98, u99, u100, u101, u102, u103, u104, u105, u106, u107, u108, u109, u110, u111, u112, u113, u114, u115, u116, u117, u118, u119, u120, u121, u122, u123, u124, u125, u126, u127, u128, u129, u130, u131, u132, u133, u134, u135, u136, u137, u138, u139, u140, u141, u142, u143, u144, u145, u146, u147, u148, u149, u150, u151, u152, u153, u154, u155, u156, u157, u158, u159, u160, u161, u162, u163, u164, u165, u166, u167, u168, u169, u170, u171, u172, u173, u174, u175, u176, u177, u178, u179, u180, u181, u182, u183, u184, u185, u186, u187, u188, u189, u190, u191, u192, u193, u194, u195, u196, u197, u198, u199, u200, u201, u202, u203, u204, u205, u206, u207, u208, u209, u210, u211, u212, u213, u214, u215, u216, u217, u218, u219, u220, u221, u222, u223, u224, u225, u226, u227, u228, u229, u230, u231, u232, u233, u234, u235, u236, u237, u238, u239, u240, u241, u242, u243, u244, u245, u246, u247, u248, u249, u250, u251, u252, u253, u254, u255, u256, u257, u258, u259, u260, u261, u262, u263, u264, u265, u266, u267, u268, u269, u270, u271, u272, u273, u274, u275, u276, u277, u278, u279, u280, u281, u282, u283, u284, u285, u286, u287, u288, u289, u290, u291, u292, u293, u294, u295, u296, u297, u298, u299, u300, u301, u302, u303, u304, u305, u306, u307, u308, u309, u310, u311, u312, u313, u314, u315, u316, u317, u318, u319, u320, u321, u322, u323, u324, u325, u326, u327, u328, u329, u330, u331, u332, u333, u334, u335, u336, u337, u338, u339, u340, u341, u342, u343, u344, u345, u346, u347, u348, u349, u350, u351, u352, u353, u354, u355, u356, u357, u358, u359, u360, u361, u362, u363, u364, u365, u366, u367, u368, u369, u370, u371, u372, u373, u374, u375, u376, u377, u378, u379, u380, u381, u382, u383, u384, u385, u386, u387], []⟩ w := by
  conv => arg 2; whnf
  have HT := Lib.hid (treeB_iff.1 HTR.out)
  have hn1 := HT.out.n1
  have hn2 := HT.out.n2
  obtain ⟨f, hf⟩ : ∃ f, fwV P W F X = f := ⟨_, rfl⟩
  rw [hf] at HL
  have HF := Lib.hid hf
  clear hf
  obtain ⟨k0, k1, k2, k3⟩ := id bx
  go_wp2_with fail
  have CC := implFw_c A1 P c1 A2 W c2 A3 F c3 Ax X cx _ h rX (by omega)
  rw [HF.out, HFB.out] at CC
  refine (CC).mono ?_
  rintro e w1 ⟨rfl, bq⟩
  clear CC k0 k1 k2 k3
  replace h := h.below bq (Nat.le_refl _)
  replace rC := rC.below bq (Nat.le_refl _)
  replace rX := rX.below bq (Nat.le_refl _)
  replace rh := rh.below bq (Nat.le_refl _)
  replace rl := rl.below bq (Nat.le_refl _)
  replace bx := bx.below bq
  have HB1 := bUp HB bq HB.size
  clear HB
  clear bq
  clear rX
  obtain ⟨k0, k1, k2, k3⟩ := id bx
  go_wp2_with fail
  refine (implMn_y A1 P c1 A2 W c2 AC C cC _ h.r1 h.r2 rC HTR.out HCL.out HCA.out).mono ?_
  rintro e w2 ⟨Am, cm, rfl, om, bq⟩
  clear k0 k1 k2 k3
  replace h := h.below bq (Nat.le_refl _)
  replace rC := rC.below bq (Nat.le_refl _)
  replace rh := rh.below bq (Nat.le_refl _)
  replace rl := rl.below bq (Nat.le_refl _)
  replace bx := bx.below bq
  have HB2 := bUp HB1 bq HB1.size
  clear HB1
  clear bq
  have rm := Rd.of_own om
  clear om
  obtain ⟨k0, k1, k2, k3⟩ := id bx
  go_wp2_with fail
  refine (specMn_y A1 P c1 A2 W c2 AC C cC _ h.r1 h.r2 rC HTR.out HCL.out HCA.out).mono ?_
  rintro e w3 ⟨An, cn, rfl, on, bq⟩
  clear k0 k1 k2 k3
  replace h := h.below bq (Nat.le_refl _)
  replace rC := rC.below bq (Nat.le_refl _)
  replace rh := rh.below bq (Nat.le_refl _)
  replace rl := rl.below bq (Nat.le_refl _)
  replace bx := bx.below bq
  replace rm := rm.below bq (Nat.le_refl _)
  have HB3 := bUp HB2 bq HB2.size
  clear HB2
  clear bq
  have rn := Rd.of_own on
  clear on
  clear h rC bx
  have HML := Lib.hid (mnL_length P W C)
  have hml : (mnL P W C).length ≤ 24 := by rw [HML.out]; exact hn2
  go_wp2_with fail
  refine (rFracs_same Am An (mnL P W C) _ _ cm cn _ rfl rfl rm rn (by omega)).mono ?_
  rintro e w4 ⟨rfl, bq⟩
  replace rh := rh.below bq (Nat.le_refl _)
  replace rl := rl.below bq (Nat.le_refl _)
  replace rm := rm.below bq (Nat.le_refl _)
  replace rn := rn.below bq (Nat.le_refl _)
  have HB4 := bUp HB3 bq HB3.size
  clear HB3
  clear bq
  clear rn
  go_upto_region 56 with fail
  have hm0 : 0 < (mnL P W C).length := by rw [HML.out]; omega
  have MB := mn_bd HT.out HCA.out (x := 0) (V := C) (by omega)
  have ME := mnL_nP (P := P) (W := W) (V := C) (x := 0) (by omega)
  rw [← ME] at MB HL
  obtain ⟨ah, rfl, a0, a1⟩ := head_cells rh hh0
  obtain ⟨al, rfl, l0, l1⟩ := head_cells rl hl0
  obtain ⟨am, rfl, m0, m1⟩ := head_cells rm hm0
  obtain ⟨fh1, fh2, -⟩ := frP_iff.1 fh
  obtain ⟨fl1, fl2, -⟩ := frP_iff.1 fl
  have ih : (0 : Int) < (hi.length : Int) := by omega
  have il : (0 : Int) < (lo.length : Int) := by omega
  have im : (0 : Int) < ((mnL P W C).length : Int) := by omega
  generalize mnL P W C = ms at *
  clear rh rl rm fh fl ME hml HML HT HTR HCL HCA HFB HF hn1 hn2 hX
  cases f
  · clear HL a0 a1 l0 l1 m1
    have hd1 : Below w4.heap.size w4 w4.drew := Below.drew (Below.refl _ _)
    have SK1 : Hid (∀ w', Below w4.heap.size w4 w' → w'.cell? am = some (.int .i64 (nP ms 0).1)) := Lib.hid fun w' HV => (HV.cell (cell_lt m0)).trans m0
    clear m0
    have hS1_0 := SK1.out _ hd1
    refine tamed_region (S := fun w' => w'.cell? am = some (.int .i64 (nP ms 0).1)) (fun _ => false) (by kernel_rfl) ?_
    refine tame0 (k := 0) ?_ rfl (by kernel_rfl) (by kernel_rfl) (by kernel_rfl) (fun _ _ _ h => h) (by kernel_rfl) (fun v => ?_) ?_
    rotate_left
    · (go_simp; all_goals rfl)
    simp only [Act.put, List.setIfInBounds_toArray]
    refine tame0 (k := 1) ?_ rfl (by kernel_rfl) (by kernel_rfl) (by kernel_rfl) (fun _ _ _ h => h) (by kernel_rfl) (fun v => ?_) ?_
    rotate_left
    · (go_simp; all_goals rfl)
    simp only [Act.put]
    refine tame0 (k := 2) ?_ rfl (by kernel_rfl) (by kernel_rfl) (by kernel_rfl) (fun _ _ _ h => h) (by kernel_rfl) (fun v => ?_) ?_
    rotate_left
    · (go_simp; all_goals rfl)
    simp only [Act.put]
    refine tame_no (k := 3) rfl (by kernel_rfl) (by kernel_rfl) (by kernel_rfl) (fun _ _ _ h => h) (by kernel_rfl) ?_
    simp only [Act.put]
    refine tame_no (k := 4) rfl (by kernel_rfl) (by kernel_rfl) (by kernel_rfl) (fun _ _ _ h => h) (by kernel_rfl) ?_
    simp only [Act.put]
    refine tame_no (k := 5) rfl (by kernel_rfl) (by kernel_rfl) (by kernel_rfl) (fun _ _ _ h => h) (by kernel_rfl) ?_
    simp only [Act.put]
    refine tame_no (k := 6) rfl (by kernel_rfl) (by kernel_rfl) (by kernel_rfl) (fun _ _ _ h => h) (by kernel_rfl) ?_
    simp only [Act.put]
    refine tame_no (k := 7) rfl (by kernel_rfl) (by kernel_rfl) (by kernel_rfl) (fun _ _ _ h => h) (by kernel_rfl) ?_
    simp only [Act.put]
    refine tame_no (k := 8) rfl (by kernel_rfl) (by kernel_rfl) (by kernel_rfl) (fun _ _ _ h => h) (by kernel_rfl) ?_
    simp only [Act.put]
    refine tame_no (k := 9) rfl (by kernel_rfl) (by kernel_rfl) (by kernel_rfl) (fun _ _ _ h => h) (by kernel_rfl) ?_
    simp only [Act.put]
    refine tame_no (k := 10) rfl (by kernel_rfl) (by kernel_rfl) (by kernel_rfl) (fun _ _ _ h => h) (by kernel_rfl) ?_
    simp only [Act.put]
    refine tame_no (k := 11) rfl (by kernel_rfl) (by kernel_rfl) (by kernel_rfl) (fun _ _ _ h => h) (by kernel_rfl) ?_
    simp only [Act.put]
    refine tame_no (k := 12) rfl (by kernel_rfl) (by kernel_rfl) (by kernel_rfl) (fun _ _ _ h => h) (by kernel_rfl) ?_
    simp only [Act.put]
    refine tame_no (k := 13) rfl (by kernel_rfl) (by kernel_rfl) (by kernel_rfl) (fun _ _ _ h => h) (by kernel_rfl) ?_
    simp only [Act.put]
    refine tame_no (k := 14) rfl (by kernel_rfl) (by kernel_rfl) (by kernel_rfl) (fun _ _ _ h => h) (by kernel_rfl) ?_
    simp only [Act.put]
    refine tame_no (k := 15) rfl (by kernel_rfl) (by kernel_rfl) (by kernel_rfl) (fun _ _ _ h => h) (by kernel_rfl) ?_
    simp only [Act.put]
    refine tame_no (k := 16) rfl (by kernel_rfl) (by kernel_rfl) (by kernel_rfl) (fun _ _ _ h => h) (by kernel_rfl) ?_
    simp only [Act.put]
    refine tame_no (k := 17) rfl (by kernel_rfl) (by kernel_rfl) (by kernel_rfl) (fun _ _ _ h => h) (by kernel_rfl) ?_
    simp only [Act.put]
    refine tame_no (k := 18) rfl (by kernel_rfl) (by kernel_rfl) (by kernel_rfl) (fun _ _ _ h => h) (by kernel_rfl) ?_
    simp only [Act.put]
    refine tame_no (k := 19) rfl (by kernel_rfl) (by kernel_rfl) (by kernel_rfl) (fun _ _ _ h => h) (by kernel_rfl) ?_
    simp only [Act.put]
    refine tame_no (k := 20) rfl (by kernel_rfl) (by kernel_rfl) (by kernel_rfl) (fun _ _ _ h => h) (by kernel_rfl) ?_
    simp only [Act.put]
    refine tame0 (k := 21) ?_ rfl (by kernel_rfl) (by kernel_rfl) (by kernel_rfl) (fun _ _ _ h => h) (by kernel_rfl) (fun v => ?_) ?_
    rotate_left
    · (go_simp; all_goals rfl)
    simp only [Act.put]
    have hS1_0v := Lib.hid hS1_0
    clear hS1_0
    refine tame_one (k := 22) (by kernel_rfl) rfl (by kernel_rfl) ?_
    go_simp
    refine ⟨by first | exact hS1_0v | exact Hid.out hS1_0v, ?_⟩
    refine tame_end (by kernel_rfl) ?_
    go_wp2_with fail
    go_ret
    exact ⟨rfl, bUp HB4 hd1 HB4.size⟩
  · obtain ⟨q1, q2⟩ := HL.out rfl
    have Q1 := Lib.hid q1
    have Q2 := Lib.hid q2
    clear HL q1 q2
    generalize (nP hi 0).1 = ph at *
    generalize (nP hi 0).2 = qh at *
    generalize (nP lo 0).1 = pl at *
    generalize (nP lo 0).2 = ql at *
    generalize (nP ms 0).1 = pm at *
    generalize (nP ms 0).2 = qm at *
    have hd2 : Below w4.heap.size w4 w4.drew := Below.drew (Below.refl _ _)
    have SK2 : Hid (∀ w', Below w4.heap.size w4 w' → w'.cell? ah = some (.int .i64 ph) ∧ w'.cell? ⟨ah.block, ah.off + 1, none⟩ = some (.int .i64 qh) ∧ w'.cell? am = some (.int .i64 pm) ∧ w'.cell? ⟨am.block, am.off + 1, none⟩ = some (.int .i64 qm) ∧ w'.cell? al = some (.int .i64 pl) ∧ w'.cell? ⟨al.block, al.off + 1, none⟩ = some (.int .i64 ql)) := Lib.hid fun w' HV => ⟨(HV.cell (cell_lt a0)).trans a0, (HV.cell (cell_lt a1)).trans a1, (HV.cell (cell_lt m0)).trans m0, (HV.cell (cell_lt m1)).trans m1, (HV.cell (cell_lt l0)).trans l0, (HV.cell (cell_lt l1)).trans l1⟩
    clear a0 a1 l0 l1 m0 m1
    have hS2_0 := SK2.out _ hd2
    refine tamed_region (S := fun w' => w'.cell? ah = some (.int .i64 ph) ∧ w'.cell? ⟨ah.block, ah.off + 1, none⟩ = some (.int .i64 qh) ∧ w'.cell? am = some (.int .i64 pm) ∧ w'.cell? ⟨am.block, am.off + 1, none⟩ = some (.int .i64 qm) ∧ w'.cell? al = some (.int .i64 pl) ∧ w'.cell? ⟨al.block, al.off + 1, none⟩ = some (.int .i64 ql)) (fun _ => false) (by kernel_rfl) ?_
    refine tame0 (k := 0) ?_ rfl (by kernel_rfl) (by kernel_rfl) (by kernel_rfl) (fun _ _ _ h => h) (by kernel_rfl) (fun v => ?_) ?_
    rotate_left
    · (go_simp; all_goals rfl)
    simp only [Act.put, List.setIfInBounds_toArray]
    refine tame0 (k := 1) ?_ rfl (by kernel_rfl) (by kernel_rfl) (by kernel_rfl) (fun _ _ _ h => h) (by kernel_rfl) (fun v => ?_) ?_
    rotate_left
    · (go_simp; all_goals rfl)
    simp only [Act.put]
    refine tame0 (k := 2) ?_ rfl (by kernel_rfl) (by kernel_rfl) (by kernel_rfl) (fun _ _ _ h => h) (by kernel_rfl) (fun v => ?_) ?_
    rotate_left
    · (go_simp; all_goals rfl)
    simp only [Act.put]
    refine tame0 (k := 3) ?_ rfl (by kernel_rfl) (by kernel_rfl) (by kernel_rfl) (fun _ _ _ h => h) (by kernel_rfl) (fun v => ?_) ?_
    rotate_left
    · (go_simp; all_goals rfl)
    simp only [Act.put]
    refine tame0 (k := 4) ?_ rfl (by kernel_rfl) (by kernel_rfl) (by kernel_rfl) (fun _ _ _ h => h) (by kernel_rfl) (fun v => ?_) ?_
    rotate_left
    · (go_simp; all_goals rfl)
    simp only [Act.put]
    refine tame (k := 5) ?_ rfl (by kernel_rfl) (by kernel_rfl) (by kernel_rfl) (by kernel_rfl) (fun _ _ _ h => h) (by kernel_rfl) hS2_0 (fun v hv => ?_) ?_
    rotate_left
    · (obtain ⟨k1, k2, k3, k4, k5, k6⟩ := hv; go_simp; all_goals rfl)
    simp only [Act.put]
    refine tame0 (k := 6) ?_ rfl (by kernel_rfl) (by kernel_rfl) (by kernel_rfl) (fun _ _ _ h => h) (by kernel_rfl) (fun v => ?_) ?_
    rotate_left
    · (go_simp; all_goals rfl)
    simp only [Act.put]
    refine tame0 (k := 7) ?_ rfl (by kernel_rfl) (by kernel_rfl) (by kernel_rfl) (fun _ _ _ h => h) (by kernel_rfl) (fun v => ?_) ?_
    rotate_left
    · (go_simp; all_goals rfl)
    simp only [Act.put]
    refine tame (k := 8) ?_ rfl (by kernel_rfl) (by kernel_rfl) (by kernel_rfl) (by kernel_rfl) (fun _ _ _ h => h) (by kernel_rfl) hS2_0 (fun v hv => ?_) ?_
    rotate_left
    · (obtain ⟨k1, k2, k3, k4, k5, k6⟩ := hv; go_simp; all_goals rfl)
    simp only [Act.put]
    refine tame_one (k := 9) (by kernel_rfl) rfl (by kernel_rfl) ?_
    go_simp
    refine (rLess_is _ _ _ _ false Q1.out (by omega) (by omega) (by omega) (by omega) _).mono ?_
    rintro e w5 ⟨rfl, b5⟩
    have hd2_1 := bUp hd2 b5 (Nat.le_refl _)
    have hS2_1 := Lib.hid (SK2.out _ hd2_1)
    refine ⟨by first | exact hS2_1 | exact Hid.out hS2_1, ?_⟩
    refine tame0 (k := 10) ?_ rfl (by kernel_rfl) (by kernel_rfl) (by kernel_rfl) (fun _ _ _ h => h) (by kernel_rfl) (fun v => ?_) ?_
    rotate_left
    · (go_simp; all_goals rfl)
    simp only [Act.put]
    refine tame0 (k := 11) ?_ rfl (by kernel_rfl) (by kernel_rfl) (by kernel_rfl) (fun _ _ _ h => h) (by kernel_rfl) (fun v => ?_) ?_
    rotate_left
    · (go_simp; all_goals rfl)
    simp only [Act.put]
    refine tame0 (k := 12) ?_ rfl (by kernel_rfl) (by kernel_rfl) (by kernel_rfl) (fun _ _ _ h => h) (by kernel_rfl) (fun v => ?_) ?_
    rotate_left
    · (go_simp; all_goals rfl)
    simp only [Act.put]
    refine tame0 (k := 13) ?_ rfl (by kernel_rfl) (by kernel_rfl) (by kernel_rfl) (fun _ _ _ h => h) (by kernel_rfl) (fun v => ?_) ?_
    rotate_left
    · (go_simp; all_goals rfl)
    simp only [Act.put]
    have hS2_1o := Hid.out hS2_1
    refine tame (k := 14) ?_ rfl (by kernel_rfl) (by kernel_rfl) (by kernel_rfl) (by kernel_rfl) (fun _ _ _ h => h) (by kernel_rfl) hS2_1o (fun v hv => ?_) ?_
    rotate_left
    · (obtain ⟨k1, k2, k3, k4, k5, k6⟩ := hv; go_simp; all_goals rfl)
    simp only [Act.put]
    refine tame0 (k := 15) ?_ rfl (by kernel_rfl) (by kernel_rfl) (by kernel_rfl) (fun _ _ _ h => h) (by kernel_rfl) (fun v => ?_) ?_
    rotate_left
    · (go_simp; all_goals rfl)
    simp only [Act.put]
    refine tame0 (k := 16) ?_ rfl (by kernel_rfl) (by kernel_rfl) (by kernel_rfl) (fun _ _ _ h => h) (by kernel_rfl) (fun v => ?_) ?_
    rotate_left
    · (go_simp; all_goals rfl)
    simp only [Act.put]
    refine tame (k := 17) ?_ rfl (by kernel_rfl) (by kernel_rfl) (by kernel_rfl) (by kernel_rfl) (fun _ _ _ h => h) (by kernel_rfl) hS2_1o (fun v hv => ?_) ?_
    rotate_left
    · (obtain ⟨k1, k2, k3, k4, k5, k6⟩ := hv; go_simp; all_goals rfl)
    simp only [Act.put]
    refine tame_one (k := 18) (by kernel_rfl) rfl (by kernel_rfl) ?_
    go_simp
    refine (rLess_is _ _ _ _ false Q2.out (by omega) (by omega) (by omega) (by omega) _).mono ?_
    rintro e w6 ⟨rfl, b6⟩
    have hd2_2 := bUp hd2_1 b6 hd2_1.size
    have hS2_2 := Lib.hid (SK2.out _ hd2_2)
    refine ⟨by first | exact hS2_2 | exact Hid.out hS2_2, ?_⟩
    refine tame0 (k := 19) ?_ rfl (by kernel_rfl) (by kernel_rfl) (by kernel_rfl) (fun _ _ _ h => h) (by kernel_rfl) (fun v => ?_) ?_
    rotate_left
    · (go_simp; all_goals rfl)
    simp only [Act.put]
    refine tame0 (k := 20) ?_ rfl (by kernel_rfl) (by kernel_rfl) (by kernel_rfl) (fun _ _ _ h => h) (by kernel_rfl) (fun v => ?_) ?_
    rotate_left
    · (go_simp; all_goals rfl)
    simp only [Act.put]
    refine tame0 (k := 21) ?_ rfl (by kernel_rfl) (by kernel_rfl) (by kernel_rfl) (fun _ _ _ h => h) (by kernel_rfl) (fun v => ?_) ?_
    rotate_left
    · (go_simp; all_goals rfl)
    simp only [Act.put]
    refine tame_one (k := 22) (by kernel_rfl) rfl (by kernel_rfl) ?_
    go_simp
    refine ⟨by first | exact hS2_2 | exact Hid.out hS2_2, ?_⟩
    refine tame_end (by kernel_rfl) ?_
    go_wp2_with fail
    go_ret
    exact ⟨rfl, bUp HB4 hd2_2 HB4.size⟩

noncomputable def up31 : Code := ((Try.f6.body.bind (restFrom 31)).getD .skip)
structure UpFacts (P W F C : List Int) (hi lo : List (Int × Int)) : Prop where
  tree : treeB P W = true
  clen : C.length = (endL P).length
  call : allB C (-999) 999 = true
  fw : fwB P W F (wtL P W) = true
  hi0 : 0 < hi.length
  lo0 : 0 < lo.length
  fh : frP (nP hi 0) = true
  fl : frP (nP lo 0) = true
  last : fwV P W F (wtL P W) = true → UpLast (nP hi 0) (nP lo 0) (mnP P W C 0)
theorem up_facts {P W F C : List Int} (h1 : prB true P W F C = true) (h2 : prB false P W F C = true) : UpFacts P W F C (prV true P W F C) (prV false P W F C) := by
  obtain ⟨R1, K⟩ := prcs_of h1
  obtain ⟨R2, _⟩ := prcs_of h2
  have hm : mktB P W F = true ∧ clmB P C = true := by
    simp only [prB, Bool.and_eq_true] at h1
    exact ⟨h1.1.1.1, h1.1.1.2⟩
  have hn := K.tree.n1
  have hc : C.length = (endL P).length ∧ allB C (-99) 99 = true := by simpa [clmB] using hm.2
  have h0 : 0 < P.length := by omega
  refine ⟨treeB_iff.2 K.tree, hc.1, allB_mono hc.2 (by decide) (by decide), ?_, by rw [R1.len]; exact h0, by rw [R2.len]; exact h0, R1.fr 0 h0, R2.fr 0 h0, fun hf => mean_law hf h1 h2⟩
  have hw : allB (wtL P W) 1 20 = true := List.all_eq_true.2 fun x hx => by
    obtain ⟨y, hy, rfl⟩ := List.mem_map.1 hx
    obtain ⟨k, hk, e⟩ := List.getElem_of_mem hy
    obtain ⟨j, hj, he, hn⟩ := endL_nth hk
    have e2 : nth (endL P) k = y := by simp [nth, hk, e]
    rw [← e2, hn, Int.toNat_natCast]
    have := K.tree.wt j hj
    rw [if_pos he] at this
    exact inB_iff.2 this
  simp only [fwB, Bool.and_eq_true, decide_eq_true_eq]
  exact ⟨⟨hm.1, wtL_length P W⟩, hw⟩
theorem wtL_take {P W : List Int} {n : Nat} (h : n < (endL P).length) : (wtL P W).take (n + 1) = (wtL P W).take n ++ [nth W (nth (endL P) n).toNat] := by
  have h1 : n < (wtL P W).length := by rw [wtL_length]; exact h
  rw [← wtL_nth h, List.take_add_one, List.getElem?_eq_getElem h1]
  simp [nth, h1]
theorem nameU {α : Type} (a : α) : ∃ b, a = b := ⟨a, rfl⟩

set_option maxRecDepth 100000 in
set_option maxHeartbeats 16000000 in
theorem upMid (A : Option Addr) (bs : List Int) (c : Nat) (w0 w : World) (rc : Rd w A (u8s bs)) (hb : ByOk bs) (hl : bs.length ≤ 65536) (HB : Below w0.heap.size w0 w) (u1 u2 u3 u4 u5 u6 u7 u8 u9 u10 u11 u12 u13 u14 u15 u16 u17 u18 u19 u20 u21 u22 u23 u24 u25 u26 u27 u28 u29 u30 u31 u32 u33 u34 u35 u36 u37 u38 u39 u40 u41 u42 u43 u44 u45 u46 u47 u48 u49 u50 u51 u52 u53 u54 u55 u56 u57 u58 u59 u60 u61 u62 u63 u64 u65 u66 u67 u68 u69 u70 u71 u72 u73 u74 u75 u76 u77 u78 u79 u80 u81 u82 u83 u84 u85 u86 u87 u88 u89 u90 u91 u92 u93 u94 u95 u96 u97 u98 u99 u100 u101 u102 u103 u104 u105 u106 u107 u108 u109 u110 u111 u112 u113 u114 u115 u116 u117 u118 u119 u120 u121 u122 u123 u124 u125 u126 u127 u128 u129 u130 u131 u132 u133 u134 u135 u136 u137 u138 u139 u140 u141 u142 u143 u144 u145 u146 u147 u148 u149 u150 u151 u152 u153 u154 u155 u156 u157 u158 u159 u160 u161 u162 u163 u164 u165 u166 u167 u168 u169 u170 u171 u172 u173 u174 u175 u176 u177 u178 u179 u180 u181 u182 u183 u184 u185 u186 u187 u188 u189 u190 u191 u192 u193 u194 u195 u196 u197 u198 u199 u200 u201 u202 u203 u204 u205 u206 u207 u208 u209 u210 u211 u212 u213 u214 u215 u216 u217 u218 u219 u220 u221 u222 u223 u224 u225 u226 u227 u228 u229 u230 u231 u232 u233 u234 u235 u236 u237 u238 u239 u240 u241 u242 u243 u244 u245 u246 u247 u248 u249 u250 u251 u252 u253 u254 u255 u256 u257 u258 u259 u260 u261 u262 u263 u264 u265 u266 u267 u268 u269 u270 u271 u272 u273 u274 u275 u276 u277 u278 u279 u280 u281 u282 u283 u284 u285 u286 u287 u288 u289 u290 u291 u292 u293 u294 u295 u296 u297 u298 u299 u300 u301 u302 u303 u304 u305 u306 u307 u308 u309 u310 u311 u312 u313 u314 u315 u316 u317 u318 u319 u320 u321 u322 u323 u324 u325 u326 u327 u328 u329 u330 u331 u332 u333 u334 u335 u336 u337 u338 u339 u340 u341 u342 u343 u344 u345 u346 u347 u348 u349 u350 u351 u352 u353 u354 u355 u356 u357 u358 u359 u360 u361 u362 u363 u364 u365 u366 u367 u368 u369 u370 u371 u372 u373 u374 u375 u376 u377 u378 u379 u380 u381 u382 u383 u384 u385 u386 u387 : Value) :
    Code.wp Try.prog up31 (bodyPost Try.prog Try.f6 fun e w' => e = .returned (.bool true) ∧ Below w0.heap.size w0 w') ⟨#[.slice A bs.length c, u1, u2, u3, u4, u5, u6, u7, u8, u9, u10, u11, u12, u13, u14, u15, u16, u17, u18, u19, u20, u21, u22, u23, u24, u25, u26, u27, u28, u29, u30, u31, u32, u33, u34, u35, u36, u37, u38, u39, u40, u41, u42, u43, u44, u45, u46, u47, u48, u49, u50, u51, u52, u53, u54, u55, u56, u57, u58, u59, u60, u61, u62, u63, u64, u65, u66, u67, u68, u69, u70, u71, u72, u73, u74, u75, u76, u77, u78, u79, u80, u81, u82, u83, u84, u85, u86, u87, u88, u89, u90, u91, u92, u93, u94, u95, u96, u97, u98, u99, u100, u101, u102, u103, u104, u105, u106, u107, u108, u109, u110, u111, u112, u113, u114, u115, u116, u117, u118, u119, u120, u121, u122, u123, u124, u125, u126, u127, u128, u129, u130, u131, u132, u133, u134, u135, u136, u137, u138, u139, u140, u141, u142, u143, u144, u145, u146, u147, u148, u149, u150, u151, u152, u153, u154, u155, u156, u157, u158, u159, u160, u161, u162, u163, u164, u165, u166, u167, u168, u169, u170, u171, u172, u173, u174, u175, u176, u177, u178, u179, u180, u181, u182, u183, u184, u185, u186, u187, u188, u189, u190, u191, u192, u193, u194, u195, u196, u197, u198, u199, u200, u201, u202, u203, u204, u205, u206, u207, u208, u209, u210, u211, u212, u213, u214, u215, u216, u217, u218, u219, u220, u221, u222, u223, u224, u225, u226, u227, u228, u229, u230, u231, u232, u233, u234, u235, u236, u237, u238, u239, u240, u241, u242, u243, u244, u245, u246, u247, u248, u249, u250, u251, u252, u253, u254, u255, u256, u257, u258, u259, u260, u261, u262, u263, u264, u265, u266, u267, u268, u269, u270, u271, u272, u273, u274, u275, u276, u277, u278, u279, u280, u281, u282, u283, u284, u285, u286, u287, u288, u289, u290, u291, u292, u293, u294, u295, u296, u297, u298, u299, u300, u301, u302, u303, u304, u305, u306, u307, u308, u309, u310, u311, u312, u313, u314, u315, u316, u317, u318, u319, u320, u321, u322, u323, u324, u325, u326, u327, u328, u329, u330, u331, u332, u333, u334, u335, u336, u337, u338, u339, u340, u341, u342, u343, u344, u345, u346, u347, u348, u349, u350, u351, u352, u353, u354, u355, u356, u357, u358, u359, u360, u361, u362, u363, u364, u365, u366, u367, u368, u369, u370, u371, u372, u373, u374, u375, u376, u377, u378, u379, u380, u381, u382, u383, u384, u385, u386, u387], []⟩ w := by
  conv => arg 2; whnf
  go_wp2_with fail
  refine (drawUp_c A bs c _ rc hb (by omega)).mono ?_
  rintro e w1 ⟨A1, c1, P, A2, c2, W, A3, c3, F, A4, c4, C, rfl, hP, hW, hF, hC, h, rC, b1⟩
  have blB : Below w1.heap.size w1 (w1.alloc (.cells #[.slice A1 P.length c1, .slice A2 W.length c2, .slice A3 F.length c3] 28)) := (Below.refl _ _).alloc (Nat.le_refl _) _
  have bx := Bx3.new w1 (.slice A1 P.length c1) (.slice A2 W.length c2) (.slice A3 F.length c3) 28
  replace h := h.below blB (Nat.le_refl _)
  replace rC := rC.below blB (Nat.le_refl _)
  have HB1 := bUp HB (bUp b1 blB b1.size) HB.size
  obtain ⟨hi, hhi⟩ := nameU (prV true P W F C)
  obtain ⟨lo, hlo⟩ := nameU (prV false P W F C)
  obtain ⟨t1, ht1⟩ := nameU (prB true P W F C)
  obtain ⟨t2, ht2⟩ := nameU (prB false P W F C)
  have lhi : hi.length ≤ 24 := by rw [← hhi]; exact prV_len _ _ _ _ _
  have llo : lo.length ≤ 24 := by rw [← hlo]; exact prV_len _ _ _ _ _
  have HH := Lib.hid (And.intro hhi ht1)
  have HLo := Lib.hid (And.intro hlo ht2)
  clear hhi hlo ht1 ht2 b1 blB rc hb hl HB
  go_wp2_with fail
  generalize w1.alloc (.cells #[.slice A1 P.length c1, .slice A2 W.length c2, .slice A3 F.length c3] 28) = v1 at *
  obtain ⟨gm, hgm⟩ : ∃ gm, gm = w1.heap.size := ⟨_, rfl⟩
  rw [← hgm] at bx ⊢
  clear hgm
  have CC := implUpperPrices_c A1 P c1 A2 W c2 A3 F c3 A4 C c4 _ h rC (by omega)
  rw [HH.out.1, HH.out.2] at CC
  refine (CC).mono ?_
  rintro e w2 ⟨Ah1, ch1, rfl, oh1, bq⟩
  replace h := h.below bq (Nat.le_refl _)
  replace rC := rC.below bq (Nat.le_refl _)
  replace bx := bx.below bq
  have HB2 := bUp HB1 bq HB1.size
  clear HB1
  clear bq
  clear CC
  have rh1 := Rd.of_own oh1
  clear oh1
  have k0 := bx.1
  have k1 := bx.2.1
  have k2 := bx.2.2.1
  go_wp2_with fail
  have CC := specUpperPrices_c A1 P c1 A2 W c2 A3 F c3 A4 C c4 _ h rC (by omega)
  rw [HH.out.1, HH.out.2] at CC
  refine (CC).mono ?_
  rintro e w3 ⟨Ah2, ch2, rfl, oh2, bq⟩
  replace h := h.below bq (Nat.le_refl _)
  replace rC := rC.below bq (Nat.le_refl _)
  replace bx := bx.below bq
  replace rh1 := rh1.below bq (Nat.le_refl _)
  have HB3 := bUp HB2 bq HB2.size
  clear HB2
  clear bq
  clear CC
  have rh2 := Rd.of_own oh2
  clear oh2
  clear k0 k1 k2
  go_wp2_with fail
  refine (rFracs_same Ah1 Ah2 hi _ _ ch1 ch2 _ rfl rfl rh1 rh2 (by omega)).mono ?_
  rintro e w4 ⟨rfl, bq⟩
  replace h := h.below bq (Nat.le_refl _)
  replace rC := rC.below bq (Nat.le_refl _)
  replace bx := bx.below bq
  replace rh1 := rh1.below bq (Nat.le_refl _)
  replace rh2 := rh2.below bq (Nat.le_refl _)
  have HB4 := bUp HB3 bq HB3.size
  clear HB3
  clear bq
  clear rh2
  have k0 := bx.1
  have k1 := bx.2.1
  have k2 := bx.2.2.1
  go_wp2_with fail
  have CC := implLowerPrices_c A1 P c1 A2 W c2 A3 F c3 A4 C c4 _ h rC (by omega)
  rw [HLo.out.1, HLo.out.2] at CC
  refine (CC).mono ?_
  rintro e w5 ⟨Al1, cl1, rfl, ol1, bq⟩
  replace h := h.below bq (Nat.le_refl _)
  replace rC := rC.below bq (Nat.le_refl _)
  replace bx := bx.below bq
  replace rh1 := rh1.below bq (Nat.le_refl _)
  have HB5 := bUp HB4 bq HB4.size
  clear HB4
  clear bq
  clear CC
  have rl1 := Rd.of_own ol1
  clear ol1
  clear k0 k1 k2
  have k0 := bx.1
  have k1 := bx.2.1
  have k2 := bx.2.2.1
  go_wp2_with fail
  have CC := specLowerPrices_c A1 P c1 A2 W c2 A3 F c3 A4 C c4 _ h rC (by omega)
  rw [HLo.out.1, HLo.out.2] at CC
  refine (CC).mono ?_
  rintro e w6 ⟨Al2, cl2, rfl, ol2, bq⟩
  replace h := h.below bq (Nat.le_refl _)
  replace rC := rC.below bq (Nat.le_refl _)
  replace bx := bx.below bq
  replace rh1 := rh1.below bq (Nat.le_refl _)
  replace rl1 := rl1.below bq (Nat.le_refl _)
  have HB6 := bUp HB5 bq HB5.size
  clear HB5
  clear bq
  clear CC
  have rl2 := Rd.of_own ol2
  clear ol2
  clear k0 k1 k2
  go_wp2_with fail
  refine (rFracs_same Al1 Al2 lo _ _ cl1 cl2 _ rfl rfl rl1 rl2 (by omega)).mono ?_
  rintro e w7 ⟨rfl, bq⟩
  replace h := h.below bq (Nat.le_refl _)
  replace rC := rC.below bq (Nat.le_refl _)
  replace bx := bx.below bq
  replace rh1 := rh1.below bq (Nat.le_refl _)
  replace rl1 := rl1.below bq (Nat.le_refl _)
  replace rl2 := rl2.below bq (Nat.le_refl _)
  have HB7 := bUp HB6 bq HB6.size
  clear HB6
  clear bq
  clear rl2
  cases t1
  · go_wp2_with fail
    go_ret
    exact ⟨rfl, HB7⟩
  cases t2
  · go_wp2_with fail
    go_ret
    exact ⟨rfl, HB7⟩
  have UF := up_facts HH.out.2 HLo.out.2
  rw [HH.out.1, HLo.out.1] at UF
  have HT : Hid (treeB P W = true) := Lib.hid UF.tree
  have HE : Hid (eoV P W = endL P) := Lib.hid (if_pos HT.out)
  have UFH := Lib.hid UF
  have len : (endL P).length ≤ 24 := Nat.le_trans (enTo_len P P.length) (treeB_iff.1 HT.out).n2
  have HWL : Hid (W.length = P.length) := Lib.hid (treeB_iff.1 HT.out).len
  clear UF HH HLo
  obtain ⟨k0, k1, k2, k3⟩ := id bx
  go_wp2_with fail
  have CC := implEo_c A1 P c1 A2 W c2 _ h.r1 h.r2 (by omega) (by omega)
  rw [HE.out, HT.out] at CC
  refine (CC).mono ?_
  rintro e w8 ⟨Ae1, ce1, rfl, oe1, bq⟩
  replace h := h.below bq (Nat.le_refl _)
  replace rC := rC.below bq (Nat.le_refl _)
  replace bx := bx.below bq
  replace rh1 := rh1.below bq (Nat.le_refl _)
  replace rl1 := rl1.below bq (Nat.le_refl _)
  have HB8 := bUp HB7 bq HB7.size
  clear HB7
  clear bq
  clear CC
  have re1 := oe1.rd
  clear oe1
  clear k0 k1 k2 k3
  obtain ⟨k0, k1, k2, k3⟩ := id bx
  go_wp2_with fail
  have CC := specEo_c A1 P c1 A2 W c2 _ h.r1 h.r2 (by omega) (by omega)
  rw [HE.out, HT.out] at CC
  refine (CC).mono ?_
  rintro e w9 ⟨Ae2, ce2, rfl, oe2, bq⟩
  replace h := h.below bq (Nat.le_refl _)
  replace rC := rC.below bq (Nat.le_refl _)
  replace bx := bx.below bq
  replace rh1 := rh1.below bq (Nat.le_refl _)
  replace rl1 := rl1.below bq (Nat.le_refl _)
  replace re1 := re1.below bq (Nat.le_refl _)
  have HB9 := bUp HB8 bq HB8.size
  clear HB8
  clear bq
  clear CC
  have re2 := oe2.rd
  clear oe2
  clear k0 k1 k2 k3
  go_wp2_with fail
  refine (rInts_same Ae1 Ae2 (endL P) _ _ ce1 ce2 _ rfl rfl re1 re2 (by omega)).mono ?_
  rintro e w10 ⟨rfl, bq⟩
  replace h := h.below bq (Nat.le_refl _)
  replace rC := rC.below bq (Nat.le_refl _)
  replace bx := bx.below bq
  replace rh1 := rh1.below bq (Nat.le_refl _)
  replace rl1 := rl1.below bq (Nat.le_refl _)
  replace re1 := re1.below bq (Nat.le_refl _)
  replace re2 := re2.below bq (Nat.le_refl _)
  have HB10 := bUp HB9 bq HB9.size
  clear HB9
  clear bq
  clear re2
  have o0 := Own.lit0 w10 w10.heap.size rfl
  have hl0 : Below w10.heap.size w10 (w10.alloc (.cells #[] 3)) := (Below.refl _ _).alloc (Nat.le_refl _) _
  go_wp2_with fail
  rename_i K1 hK1
  replace hK1 := Lib.hid hK1
  go_loopw [40, 41] (fun o i wr => ∃ (n : Nat) (Ax : Option Addr) (cx : Nat), n ≤ (endL P).length ∧ i = .int .i64 (n : Int) ∧ o = .slice Ax n cx ∧ Own wr w10.heap.size Ax cx ((wtL P W).take n) ∧ Below w10.heap.size w10 wr) (fun _ i _ => (endL P).length - (intOf i).toNat)
  case atStart => exact ⟨0, _, 0, by omega, rfl, rfl, o0, hl0⟩
  case round =>
    obtain ⟨v, rfl⟩ : ∃ v : World, v = wr := ⟨_, rfl⟩
    obtain ⟨n, Ax, cx, hn, rfl, rfl, o, HV⟩ := hrel
    clear o0 hl0
    have HO := Lib.hid o
    have HNN := Lib.hid hn
    clear o
    by_cases hlt : n < (endL P).length
    · obtain ⟨y, hy, _, hey⟩ := endL_nth hlt
      obtain ⟨ae, rfl, q1⟩ := (re1.below HV (Nat.le_refl _)).intN hlt
      rw [hey] at q1
      obtain ⟨a2, rfl, q2⟩ := (h.r2.below HV (Nat.le_refl _)).intN (k := y) (by rw [HWL.out]; exact hy)
      have iy : (y : Int) < (W.length : Int) := by rw [HWL.out]; omega
      have in_ : (n : Int) < ((endL P).length : Int) := by omega
      have HTK : Hid ((wtL P W).take (n + 1) = (wtL P W).take n ++ [nth W y]) := Lib.hid (by rw [wtL_take hlt, hey, Int.toNat_natCast])
      have HTL : Hid (((wtL P W).take n).length = n) := Lib.hid (by rw [List.length_take, wtL_length]; omega)
      have HZ := Lib.hid HV.size
      obtain ⟨f0, f1, f2, f3⟩ := bx.below HV
      clear hey
      go_upto_region 50 with fail
      have hd1 : Below v.heap.size v v.drew := Below.drew (Below.refl _ _)
      have SK1 : Hid (∀ w', Below v.heap.size v w' → w'.cell? ⟨gm, 1, none⟩ = some (.slice (some a2) W.length c2) ∧ w'.cell? (ae.add n) = some (.int .i64 (y : Int)) ∧ w'.cell? (a2.add y) = some (.int .i64 (nth W y))) := Lib.hid fun w' HV => ⟨(HV.cell (cell_lt f1)).trans f1, (HV.cell (cell_lt q1)).trans q1, (HV.cell (cell_lt q2)).trans q2⟩
      clear f0 f1 f2 f3 q1 q2
      have hS1_0 := SK1.out _ hd1
      refine tamed_region (S := fun w' => w'.cell? ⟨gm, 1, none⟩ = some (.slice (some a2) W.length c2) ∧ w'.cell? (ae.add n) = some (.int .i64 (y : Int)) ∧ w'.cell? (a2.add y) = some (.int .i64 (nth W y))) (fun k => k == 11 || k == 12) (by kernel_rfl) ?_
      refine tame0 (k := 0) ?_ rfl (by kernel_rfl) (by kernel_rfl) (by kernel_rfl) (fun _ _ _ h => h) (by kernel_rfl) (fun v => ?_) ?_
      rotate_left
      · (go_simp; all_goals rfl)
      simp only [Act.put, List.setIfInBounds_toArray]
      refine tame0 (k := 1) ?_ rfl (by kernel_rfl) (by kernel_rfl) (by kernel_rfl) (fun _ _ _ h => h) (by kernel_rfl) (fun v => ?_) ?_
      rotate_left
      · (go_simp; all_goals rfl)
      simp only [Act.put]
      refine tame0 (k := 2) ?_ rfl (by kernel_rfl) (by kernel_rfl) (by kernel_rfl) (fun _ _ _ h => h) (by kernel_rfl) (fun v => ?_) ?_
      rotate_left
      · (go_simp; all_goals rfl)
      simp only [Act.put]
      refine tameT (k := 3) ?_ rfl (by kernel_rfl) (by kernel_rfl) (by kernel_rfl) (by kernel_rfl) (by kernel_rfl) (fun _ _ _ h => h) (by kernel_rfl) hS1_0 (fun v hv => ?_) ?_
      rotate_left
      · (obtain ⟨k1, k2, k3⟩ := hv; go_simp; all_goals rfl)
      simp only [Act.put]
      refine tame0 (k := 4) ?_ rfl (by kernel_rfl) (by kernel_rfl) (by kernel_rfl) (fun _ _ _ h => h) (by kernel_rfl) (fun v => ?_) ?_
      rotate_left
      · (go_simp; all_goals rfl)
      simp only [Act.put]
      refine tame0 (k := 5) ?_ rfl (by kernel_rfl) (by kernel_rfl) (by kernel_rfl) (fun _ _ _ h => h) (by kernel_rfl) (fun v => ?_) ?_
      rotate_left
      · (go_simp; all_goals rfl)
      simp only [Act.put]
      refine tame0 (k := 6) ?_ rfl (by kernel_rfl) (by kernel_rfl) (by kernel_rfl) (fun _ _ _ h => h) (by kernel_rfl) (fun v => ?_) ?_
      rotate_left
      · (go_simp; all_goals rfl)
      simp only [Act.put]
      refine tameT (k := 7) ?_ rfl (by kernel_rfl) (by kernel_rfl) (by kernel_rfl) (by kernel_rfl) (by kernel_rfl) (fun _ _ _ h => h) (by kernel_rfl) hS1_0 (fun v hv => ?_) ?_
      rotate_left
      · (obtain ⟨k1, k2, k3⟩ := hv; go_simp; all_goals rfl)
      simp only [Act.put]
      refine tame0 (k := 8) ?_ rfl (by kernel_rfl) (by kernel_rfl) (by kernel_rfl) (fun _ _ _ h => h) (by kernel_rfl) (fun v => ?_) ?_
      rotate_left
      · (go_simp; all_goals rfl)
      simp only [Act.put]
      refine tameT (k := 9) ?_ rfl (by kernel_rfl) (by kernel_rfl) (by kernel_rfl) (by kernel_rfl) (by kernel_rfl) (fun _ _ _ h => h) (by kernel_rfl) hS1_0 (fun v hv => ?_) ?_
      rotate_left
      · (obtain ⟨k1, k2, k3⟩ := hv; go_simp; all_goals rfl)
      simp only [Act.put]
      have Hal : Below v.heap.size v (v.alloc (.cells #[.int .i64 (nth W y)] 3)) := (Below.refl _ _).alloc (Nat.le_refl _) _
      refine tame_one (k := 10) (by kernel_rfl) rfl (by kernel_rfl) ?_
      go_simp
      refine ⟨SK1.out _ Hal, ?_⟩
      refine tame_one (k := 11) (by kernel_rfl) rfl (by kernel_rfl) ?_
      refine op_append_ints _ (.tmp 318) (.tmp 328) rfl w10.heap.size Ax n cx ((wtL P W).take n) rfl HTL.out.symm (HO.out.alloc _).drew (some ⟨v.heap.size, 0, none⟩) 1 1 [nth W y] rfl rfl (Rd.box v _ _).drew (by rw [HTL.out]; simp; omega) (by have := HZ.out; simp; omega) ?_
      intro A5 c5 v5 o5 g6 b6
      have g5 : v.grownBy v5 (blk Ax) := grown_of_alloc_drew g6
      clear g6 b6
      refine ⟨fun h => absurd h (by decide), ?_⟩
      simp only [Act.put]
      refine tame_one (k := 12) (by kernel_rfl) rfl (by kernel_rfl) ?_
      go_simp
      try (refine ⟨fun h => absurd h (by decide), ?_⟩)
      refine tame_end (by kernel_rfl) ?_
      clear hd1 SK1
      go_wp2_with fail
      go_roundw
      case rel => exact ⟨n + 1, A5, c5, by omega, by go_num, rfl, by rw [HTK.out]; exact o5, HV.grown g5 HV.size (fun b e => by have := HO.out.ge b e; omega)⟩
      case measure => simp [intOf] <;> omega
    · obtain rfl : n = (endL P).length := by omega
      have hX : (wtL P W).take (endL P).length = wtL P W := List.take_of_length_le (by rw [wtL_length]; exact Nat.le_refl _)
      have O := HO.out
      rw [hX] at O
      have RX := Rd.of_own O
      have HXL : Hid ((wtL P W).length = (endL P).length) := Lib.hid (wtL_length P W)
      clear O HO hX
      go_wp2_with fail
      refine hK1.out _ _ ?_
      replace h := h.below HV (Nat.le_refl _)
      replace rC := rC.below HV (Nat.le_refl _)
      replace bx := bx.below HV
      replace rh1 := rh1.below HV (Nat.le_refl _)
      replace rl1 := rl1.below HV (Nat.le_refl _)
      have HBX := bUp HB10 HV HB10.size
      obtain ⟨U1, U2, U3, U4, U5, U6, U7, U8, U9⟩ := UFH.out
      rw [← HXL.out]
      exact upTail A1 P c1 A2 W c2 A3 F c3 gm A4 C c4 Ax (wtL P W) cx Ah1 hi ch1 Al1 lo cl1 HT (Lib.hid U2) (Lib.hid U3) (Lib.hid U4) (by rw [HXL.out]; exact len) U5 U6 U7 U8 (Lib.hid U9) w0 _ HBX h bx rC RX rh1 rl1 _ _ _ _ _ _ _ _ _ _ _ _ _ _ _ _ _ _ _ _ _ _ _ _ _ _ _ _ _ _ _ _ _ _ _ _ _ _ _ _ _ _ _ _ _ _ _ _ _ _ _ _ _ _ _ _ _ _ _ _ _ _ _ _ _ _ _ _ _ _ _ _ _ _ _ _ _ _ _ _ _ _ _ _ _ _ _ _ _ _ _ _ _ _ _ _ _ _ _ _ _ _ _ _ _ _ _ _ _ _ _ _ _ _ _ _ _ _ _ _ _ _ _ _ _ _ _ _ _ _ _ _ _ _ _ _ _ _ _ _ _ _ _ _ _ _ _ _ _ _ _ _ _ _ _ _ _ _ _ _ _ _ _ _ _ _ _ _ _ _ _ _ _ _ _ _ _ _ _ _ _ _ _ _ _ _ _ _ _ _ _ _ _ _ _ _ _ _ _ _ _ _ _ _ _ _ _ _ _ _ _ _ _ _ _ _ _ _ _ _ _ _ _ _ _ _ _ _ _ _ _ _ _ _ _ _ _ _ _ _ _ _ _ _ _ _ _ _ _ _ _ _ _ _ _ _ _ _ _ _ _ _ _ _ _ _ _ _ _ _ _ _ _ _ _ _ _ _ _ _ _ _ _ _ _ _ _ _ _ _ _ _ _ _ _ _ _ _ _ _ _ _ _ _ _ _ _ _ _ _ _ _ _ _ _ _ _ _ _ _ _ _ _ _ _ _ _ _ _ _ _ _ _ _ _ _ _ _ _ _ _ _ _ _ _ _ _ _ _ _ _ _ _ _ _ _ _ _ _ _ _ _ _ _ _ _ _ _ _ _ _ _ _ _ _ _ _ _ _ _ _ _ _

noncomputable def up22 : Code := ((Try.f6.body.bind (restFrom 22)).getD .skip)
/-- What the law asks of upper and lower prices. -/
def UpBoth (P W F : List Int) (hi lo : List (Int × Int)) : Prop := hi.length = lo.length ∧ sndB P W F = true ∧ (fuV P W F = true → hi = lo) ∧ ∀ x, x < hi.length → frP (nP hi x) = true ∧ frP (nP lo x) = true ∧ decide ((nP hi x).1 * (nP lo x).2 < (nP lo x).1 * (nP hi x).2) = false
/-- Where both kinds of prices are told. -/
def UpIf (P W F : List Int) (hi lo : List (Int × Int)) (t1 t2 : Bool) : Prop := t1 = true → t2 = true → UpBoth P W F hi lo
theorem snd_of_pr {up : Bool} {P W F C : List Int} (h : prB up P W F C = true) : sndB P W F = true := by
  simp only [prB, Bool.and_eq_true] at h
  simp only [sndB, Bool.and_eq_true]
  exact ⟨h.1.1.1, h.1.2⟩
theorem up_both {P W F C : List Int} (h1 : prB true P W F C = true) (h2 : prB false P W F C = true) : UpBoth P W F (prV true P W F C) (prV false P W F C) := by
  obtain ⟨R1, K⟩ := prcs_of h1
  obtain ⟨R2, _⟩ := prcs_of h2
  refine ⟨by rw [R1.len, R2.len], snd_of_pr h1, fun hf => full_law hf h1 h2, fun x hx => ?_⟩
  rw [R1.len] at hx
  exact ⟨R1.fr x hx, R2.fr x hx, low_up_law h1 h2 hx⟩

set_option maxRecDepth 100000 in
set_option maxHeartbeats 16000000 in
theorem upFull (A1 : Option Addr) (P : List Int) (c1 : Nat) (A2 : Option Addr) (W : List Int) (c2 : Nat) (A3 : Option Addr) (F : List Int) (c3 : Nat) (gm : Nat) (A : Option Addr) (bs : List Int) (c : Nat) (Ah : Option Addr) (hi : List (Int × Int)) (ch : Nat) (Al : Option Addr) (lo : List (Int × Int)) (cl : Nat) (t1 t2 : Bool)
    (hh : hi.length ≤ 24) (hlo : lo.length ≤ 24) (HU : Hid (UpIf P W F hi lo t1 t2)) (w0 w : World) (rc : Rd w A (u8s bs)) (hb : ByOk bs) (hl : bs.length ≤ 65536) (HB : Below w0.heap.size w0 w)
    (h : RdM w A1 P A2 W A3 F) (bx : Bx3 w gm (.slice A1 P.length c1) (.slice A2 W.length c2) (.slice A3 F.length c3)) (rh : Rd w Ah (pcells hi)) (rl : Rd w Al (pcells lo)) (u1 u2 u4 u5 u6 u7 u8 u9 u10 u11 u12 u13 u14 u17 u18 u21 u22 u23 u24 u25 u26 u27 u28 u29 u30 u31 u32 u33 u34 u35 u36 u37 u38 u39 u40 u41 u42 u43 u44 u45 u46 u47 u48 u49 u50 u51 u52 u53 u54 u55 u56 u57 u58 u59 u60 u61 u62 u63 u64 u65 u66 u67 u68 u69 u70 u71 u72 u73 u74 u75 u76 u77 u78 u79 u80 u81 u82 u83 u84 u85 u86 u87 u88 u89 u90 u91 u92 u93 u94 u95 u96 u97 u98 u99 u100 u101 u102 u103 u104 u105 u106 u107 u108 u109 u110 u111 u112 u113 u114 u115 u116 u117 u118 u119 u120 u121 u122 u123 u124 u125 u126 u127 u128 u129 u130 u131 u132 u133 u134 u135 u136 u137 u138 u139 u140 u141 u142 u143 u144 u145 u146 u147 u148 u149 u150 u151 u152 u153 u154 u155 u156 u157 u158 u159 u160 u161 u162 u163 u164 u165 u166 u167 u168 u169 u170 u171 u172 u173 u174 u175 u176 u177 u178 u179 u180 u181 u182 u183 u184 u185 u186 u187 u188 u189 u190 u191 u192 u193 u194 u195 u196 u197 u198 u199 u200 u201 u202 u203 u204 u205 u206 u207 u208 u209 u210 u211 u212 u213 u214 u215 u216 u217 u218 u219 u220 u221 u222 u223 u224 u225 u226 u227 u228 u229 u230 u231 u232 u233 u234 u235 u236 u237 u238 u239 u240 u241 u242 u243 u244 u245 u246 u247 u248 u249 u250 u251 u252 u253 u254 u255 u256 u257 u258 u259 u260 u261 u262 u263 u264 u265 u266 u267 u268 u269 u270 u271 u272 u273 u274 u275 u276 u277 u278 u279 u280 u281 u282 u283 u284 u285 u286 u287 u288 u289 u290 u291 u292 u293 u294 u295 u296 u297 u298 u299 u300 u301 u302 u303 u304 u305 u306 u307 u308 u309 u310 u311 u312 u313 u314 u315 u316 u317 u318 u319 u320 u321 u322 u323 u324 u325 u326 u327 u328 u329 u330 u331 u332 u333 u334 u335 u336 u337 u338 u339 u340 u341 u342 u343 u344 u345 u346 u347 u348 u349 u350 u351 u352 u353 u354 u355 u356 u357 u358 u359 u360 u361 u362 u363 u364 u365 u366 u367 u368 u369 u370 u371 u372 u373 u374 u375 u376 u377 u378 u379 u380 u381 u382 u383 u384 u385 u386 u387 : Value) :
    Code.wp Try.prog up22 (bodyPost Try.prog Try.f6 fun e w' => e = .returned (.bool true) ∧ Below w0.heap.size w0 w') ⟨#[.slice A bs.length c, u1, u2, .pointer (some ⟨gm, 0, none⟩), u4, u5, u6, u7, u8, u9, u10, u11, u12, u13, u14, .slice Ah hi.length ch, .bool t1, u17, u18, .slice Al lo.length cl, .bool t2, u21, u22, u23, u24, u25, u26, u27, u28, u29, u30, u31, u32, u33, u34, u35, u36, u37, u38, u39, u40, u41, u42, u43, u44, u45, u46, u47, u48, u49, u50, u51, u52, u53, u54, u55, u56, u57, u58, u59, u60, u61, u62, u63, u64, u65, u66, u67, u68, u69, u70, u71, u72, u73, u74, u75, u76, u77, u78, u79, u80, u81, u82, u83, u84, u85, u86, u87, u88, u89, u90, u91, u92, u93, u94, u95, u96, u97, u98, u99, u100, u101, u102, u103, u104, u105, u106, u107, u108, u109, u110, u111, u112, u113, u114, u115, u116, u117, u118, u119, u120, u121, u122, u123, u124, u125, u126, u127, u128, u129, u130, u131, u132, u133, u134, u135, u136, u137, u138, u139, u140, u141, u142, u143, u144, u145, u146, u147, u148, u149, u150, u151, u152, u153, u154, u155, u156, u157, u158, u159, u160, u161, u162, u163, u164, u165, u166, u167, u168, u169, u170, u171, u172, u173, u174, u175, u176, u177, u178, u179, u180, u181, u182, u183, u184, u185, u186, u187, u188, u189, u190, u191, u192, u193, u194, u195, u196, u197, u198, u199, u200, u201, u202, u203, u204, u205, u206, u207, u208, u209, u210, u211, u212, u213, u214, u215, u216, u217, u218, u219, u220, u221, u222, u223, u224, u225, u226, u227, u228, u229, u230, u231, u232, u233, u234, u235, u236, u237, u238, u239, u240, u241, u242, u243, u244, u245, u246, u247, u248, u249, u250, u251, u252, u253, u254, u255, u256, u257, u258, u259, u260, u261, u262, u263, u264, u265, u266, u267, u268, u269, u270, u271, u272, u273, u274, u275, u276, u277, u278, u279, u280, u281, u282, u283, u284, u285, u286, u287, u288, u289, u290, u291, u292, u293, u294, u295, u296, u297, u298, u299, u300, u301, u302, u303, u304, u305, u306, u307, u308, u309, u310, u311, u312, u313, u314, u315, u316, u317, u318, u319, u320, u321, u322, u323, u324, u325, u326, u327, u328, u329, u330, u331, u332, u333, u334, u335, u336, u337, u338, u339, u340, u341, u342, u343, u344, u345, u346, u347, u348, u349, u350, u351, u352, u353, u354, u355, u356, u357, u358, u359, u360, u361, u362, u363, u364, u365, u366, u367, u368, u369, u370, u371, u372, u373, u374, u375, u376, u377, u378, u379, u380, u381, u382, u383, u384, u385, u386, u387], []⟩ w := by
  conv => arg 2; whnf
  go_upto_region 22 with fail
  rename_i K1 hK1 K0 hK0
  replace hK1 := Lib.hid hK1
  cases t1
  · go_wp2_with fail
    refine hK1.out _ _ ?_
    exact upMid A bs c w0 _ rc hb hl HB _ _ _ _ _ _ _ _ _ _ _ _ _ _ _ _ _ _ _ _ _ _ _ _ _ _ _ _ _ _ _ _ _ _ _ _ _ _ _ _ _ _ _ _ _ _ _ _ _ _ _ _ _ _ _ _ _ _ _ _ _ _ _ _ _ _ _ _ _ _ _ _ _ _ _ _ _ _ _ _ _ _ _ _ _ _ _ _ _ _ _ _ _ _ _ _ _ _ _ _ _ _ _ _ _ _ _ _ _ _ _ _ _ _ _ _ _ _ _ _ _ _ _ _ _ _ _ _ _ _ _ _ _ _ _ _ _ _ _ _ _ _ _ _ _ _ _ _ _ _ _ _ _ _ _ _ _ _ _ _ _ _ _ _ _ _ _ _ _ _ _ _ _ _ _ _ _ _ _ _ _ _ _ _ _ _ _ _ _ _ _ _ _ _ _ _ _ _ _ _ _ _ _ _ _ _ _ _ _ _ _ _ _ _ _ _ _ _ _ _ _ _ _ _ _ _ _ _ _ _ _ _ _ _ _ _ _ _ _ _ _ _ _ _ _ _ _ _ _ _ _ _ _ _ _ _ _ _ _ _ _ _ _ _ _ _ _ _ _ _ _ _ _ _ _ _ _ _ _ _ _ _ _ _ _ _ _ _ _ _ _ _ _ _ _ _ _ _ _ _ _ _ _ _ _ _ _ _ _ _ _ _ _ _ _ _ _ _ _ _ _ _ _ _ _ _ _ _ _ _ _ _ _ _ _ _ _ _ _ _ _ _ _ _ _ _ _ _ _ _ _ _ _ _ _ _ _ _ _ _ _ _ _ _ _ _ _ _ _ _ _ _ _ _ _ _ _ _ _ _ _ _ _ _ _ _ _
  cases t2
  · go_wp2_with fail
    refine hK1.out _ _ ?_
    exact upMid A bs c w0 _ rc hb hl HB _ _ _ _ _ _ _ _ _ _ _ _ _ _ _ _ _ _ _ _ _ _ _ _ _ _ _ _ _ _ _ _ _ _ _ _ _ _ _ _ _ _ _ _ _ _ _ _ _ _ _ _ _ _ _ _ _ _ _ _ _ _ _ _ _ _ _ _ _ _ _ _ _ _ _ _ _ _ _ _ _ _ _ _ _ _ _ _ _ _ _ _ _ _ _ _ _ _ _ _ _ _ _ _ _ _ _ _ _ _ _ _ _ _ _ _ _ _ _ _ _ _ _ _ _ _ _ _ _ _ _ _ _ _ _ _ _ _ _ _ _ _ _ _ _ _ _ _ _ _ _ _ _ _ _ _ _ _ _ _ _ _ _ _ _ _ _ _ _ _ _ _ _ _ _ _ _ _ _ _ _ _ _ _ _ _ _ _ _ _ _ _ _ _ _ _ _ _ _ _ _ _ _ _ _ _ _ _ _ _ _ _ _ _ _ _ _ _ _ _ _ _ _ _ _ _ _ _ _ _ _ _ _ _ _ _ _ _ _ _ _ _ _ _ _ _ _ _ _ _ _ _ _ _ _ _ _ _ _ _ _ _ _ _ _ _ _ _ _ _ _ _ _ _ _ _ _ _ _ _ _ _ _ _ _ _ _ _ _ _ _ _ _ _ _ _ _ _ _ _ _ _ _ _ _ _ _ _ _ _ _ _ _ _ _ _ _ _ _ _ _ _ _ _ _ _ _ _ _ _ _ _ _ _ _ _ _ _ _ _ _ _ _ _ _ _ _ _ _ _ _ _ _ _ _ _ _ _ _ _ _ _ _ _ _ _ _ _ _ _ _ _ _ _ _ _ _ _ _ _ _ _ _ _ _ _ _
  obtain ⟨U1, U2, U3, U4⟩ := HU.out rfl rfl
  have HU1 := Lib.hid U1
  have HS := Lib.hid U2
  have HEQ := Lib.hid U3
  have HLE := Lib.hid U4
  clear HU U1 U2 U3 U4
  obtain ⟨k0, k1, k2, k3⟩ := id bx
  go_wp2_with fail
  obtain ⟨f, hf⟩ := nameU (fuV P W F)
  have CC := implFull_c A1 P c1 A2 W c2 A3 F c3 _ h
  rw [hf, HS.out] at CC
  replace hf := Lib.hid hf
  refine (CC).mono ?_
  rintro e w1 ⟨rfl, bq⟩
  clear CC k0 k1 k2 k3 h bx
  replace rc := rc.below bq (Nat.le_refl _)
  replace rh := rh.below bq (Nat.le_refl _)
  replace rl := rl.below bq (Nat.le_refl _)
  have HB1 := bUp HB bq HB.size
  clear HB
  clear bq
  cases f
  · go_wp2_with fail
    go_loopw [25] (fun i wr => ∃ n : Nat, n ≤ hi.length ∧ i = .int .i64 (n : Int) ∧ Below w1.heap.size w1 wr) (fun i _ => hi.length - (intOf i).toNat)
    case atStart => exact ⟨0, by omega, rfl, Below.refl _ _⟩
    case round =>
      obtain ⟨v, rfl⟩ : ∃ v : World, v = wr := ⟨_, rfl⟩
      obtain ⟨n, hn, rfl, HV⟩ := hrel
      have HNN := Lib.hid hn
      by_cases hlt : n < hi.length
      · obtain ⟨f1, f2, q⟩ := HLE.out n hlt
        have HQ := Lib.hid q
        obtain ⟨⟨fa1, fa2⟩, ⟨fa3, fa4⟩, -⟩ := frP_iff.1 f1
        obtain ⟨⟨fb1, fb2⟩, ⟨fb3, fb4⟩, -⟩ := frP_iff.1 f2
        have i1 : (n : Int) < (hi.length : Int) := by omega
        have hlt2 : n < lo.length := by have := HU1.out; omega
        have i2 : (n : Int) < (lo.length : Int) := by omega
        obtain ⟨y0, y1⟩ := pcells_get hi n hlt
        obtain ⟨z0, z1⟩ := pcells_get lo n hlt2
        have rV := rh.below HV (Nat.le_refl _)
        have rW := rl.below HV (Nat.le_refl _)
        obtain ⟨ad, rfl, p1⟩ := rV _ _ y0
        obtain ⟨_, e, p2⟩ := rV _ _ y1
        injection e with e
        subst e
        have p2' := pairOff 1 (by omega) p2
        obtain ⟨ae, rfl, p3⟩ := rW _ _ z0
        obtain ⟨_, e, p4⟩ := rW _ _ z1
        injection e with e
        subst e
        have p4' := pairOff 1 (by omega) p4
        clear p2 p4 y0 y1 z0 z1 rV rW q f1 f2 hlt2
        change v.cell? _ = some (.int .i64 (nP hi n).1) at p1
        change v.cell? _ = some (.int .i64 (nP hi n).2) at p2'
        change v.cell? _ = some (.int .i64 (nP lo n).1) at p3
        change v.cell? _ = some (.int .i64 (nP lo n).2) at p4'
        generalize (nP hi n).1 = a1 at *
        generalize (nP hi n).2 = a2 at *
        generalize (nP lo n).1 = b1 at *
        generalize (nP lo n).2 = b2 at *
        go_upto_region 29 with fail
        have hd1 : Below v.heap.size v v.drew := Below.drew (Below.refl _ _)
        have SK1 : Hid (∀ w', Below v.heap.size v w' → w'.cell? (ad.add (n * 2)) = some (.int .i64 a1) ∧ w'.cell? ⟨(ad.add (n * 2)).block, (ad.add (n * 2)).off + 1, none⟩ = some (.int .i64 a2) ∧ w'.cell? (ae.add (n * 2)) = some (.int .i64 b1) ∧ w'.cell? ⟨(ae.add (n * 2)).block, (ae.add (n * 2)).off + 1, none⟩ = some (.int .i64 b2)) := Lib.hid fun w' HV => ⟨(HV.cell (cell_lt p1)).trans p1, (HV.cell (cell_lt p2')).trans p2', (HV.cell (cell_lt p3)).trans p3, (HV.cell (cell_lt p4')).trans p4'⟩
        clear p1 p2' p3 p4'
        have hS1_0 := SK1.out _ hd1
        refine tamed_region (S := fun w' => w'.cell? (ad.add (n * 2)) = some (.int .i64 a1) ∧ w'.cell? ⟨(ad.add (n * 2)).block, (ad.add (n * 2)).off + 1, none⟩ = some (.int .i64 a2) ∧ w'.cell? (ae.add (n * 2)) = some (.int .i64 b1) ∧ w'.cell? ⟨(ae.add (n * 2)).block, (ae.add (n * 2)).off + 1, none⟩ = some (.int .i64 b2)) (fun _ => false) (by kernel_rfl) ?_
        refine tame0 (k := 0) ?_ rfl (by kernel_rfl) (by kernel_rfl) (by kernel_rfl) (fun _ _ _ h => h) (by kernel_rfl) (fun v => ?_) ?_
        rotate_left
        · (go_simp; all_goals rfl)
        simp only [Act.put, List.setIfInBounds_toArray]
        refine tame0 (k := 1) ?_ rfl (by kernel_rfl) (by kernel_rfl) (by kernel_rfl) (fun _ _ _ h => h) (by kernel_rfl) (fun v => ?_) ?_
        rotate_left
        · (go_simp; all_goals rfl)
        simp only [Act.put]
        refine tame0 (k := 2) ?_ rfl (by kernel_rfl) (by kernel_rfl) (by kernel_rfl) (fun _ _ _ h => h) (by kernel_rfl) (fun v => ?_) ?_
        rotate_left
        · (go_simp; all_goals rfl)
        simp only [Act.put]
        refine tame (k := 3) ?_ rfl (by kernel_rfl) (by kernel_rfl) (by kernel_rfl) (by kernel_rfl) (fun _ _ _ h => h) (by kernel_rfl) hS1_0 (fun v hv => ?_) ?_
        rotate_left
        · (obtain ⟨k1, k2, k3, k4⟩ := hv; go_simp; all_goals rfl)
        simp only [Act.put]
        refine tame0 (k := 4) ?_ rfl (by kernel_rfl) (by kernel_rfl) (by kernel_rfl) (fun _ _ _ h => h) (by kernel_rfl) (fun v => ?_) ?_
        rotate_left
        · (go_simp; all_goals rfl)
        simp only [Act.put]
        refine tame0 (k := 5) ?_ rfl (by kernel_rfl) (by kernel_rfl) (by kernel_rfl) (fun _ _ _ h => h) (by kernel_rfl) (fun v => ?_) ?_
        rotate_left
        · (go_simp; all_goals rfl)
        simp only [Act.put]
        refine tame0 (k := 6) ?_ rfl (by kernel_rfl) (by kernel_rfl) (by kernel_rfl) (fun _ _ _ h => h) (by kernel_rfl) (fun v => ?_) ?_
        rotate_left
        · (go_simp; all_goals rfl)
        simp only [Act.put]
        refine tame (k := 7) ?_ rfl (by kernel_rfl) (by kernel_rfl) (by kernel_rfl) (by kernel_rfl) (fun _ _ _ h => h) (by kernel_rfl) hS1_0 (fun v hv => ?_) ?_
        rotate_left
        · (obtain ⟨k1, k2, k3, k4⟩ := hv; go_simp; all_goals rfl)
        simp only [Act.put]
        refine tame_one (k := 8) (by kernel_rfl) rfl (by kernel_rfl) ?_
        go_simp
        refine (rLess_is _ _ _ _ false HQ.out (by omega) (by omega) (by omega) (by omega) _).mono ?_
        rintro e w9 ⟨rfl, b9⟩
        have hd1_1 := bUp hd1 b9 (Nat.le_refl _)
        have hS1_1 := Lib.hid (SK1.out _ hd1_1)
        refine ⟨by first | exact hS1_1 | exact Hid.out hS1_1, ?_⟩
        refine tame_end (by kernel_rfl) ?_
        go_wp2_with fail
        go_roundw
        case rel => exact ⟨n + 1, by omega, by go_num, bUp HV hd1_1 HV.size⟩
        case measure => simp [intOf] <;> omega
      · go_wp2_with fail
        refine hK1.out _ _ ?_
        replace rc := rc.below HV (Nat.le_refl _)
        exact upMid A bs c w0 _ rc hb hl (bUp HB1 HV HB1.size) _ _ _ _ _ _ _ _ _ _ _ _ _ _ _ _ _ _ _ _ _ _ _ _ _ _ _ _ _ _ _ _ _ _ _ _ _ _ _ _ _ _ _ _ _ _ _ _ _ _ _ _ _ _ _ _ _ _ _ _ _ _ _ _ _ _ _ _ _ _ _ _ _ _ _ _ _ _ _ _ _ _ _ _ _ _ _ _ _ _ _ _ _ _ _ _ _ _ _ _ _ _ _ _ _ _ _ _ _ _ _ _ _ _ _ _ _ _ _ _ _ _ _ _ _ _ _ _ _ _ _ _ _ _ _ _ _ _ _ _ _ _ _ _ _ _ _ _ _ _ _ _ _ _ _ _ _ _ _ _ _ _ _ _ _ _ _ _ _ _ _ _ _ _ _ _ _ _ _ _ _ _ _ _ _ _ _ _ _ _ _ _ _ _ _ _ _ _ _ _ _ _ _ _ _ _ _ _ _ _ _ _ _ _ _ _ _ _ _ _ _ _ _ _ _ _ _ _ _ _ _ _ _ _ _ _ _ _ _ _ _ _ _ _ _ _ _ _ _ _ _ _ _ _ _ _ _ _ _ _ _ _ _ _ _ _ _ _ _ _ _ _ _ _ _ _ _ _ _ _ _ _ _ _ _ _ _ _ _ _ _ _ _ _ _ _ _ _ _ _ _ _ _ _ _ _ _ _ _ _ _ _ _ _ _ _ _ _ _ _ _ _ _ _ _ _ _ _ _ _ _ _ _ _ _ _ _ _ _ _ _ _ _ _ _ _ _ _ _ _ _ _ _ _ _ _ _ _ _ _ _ _ _ _ _ _ _ _ _ _ _ _ _ _ _ _ _ _ _ _ _ _ _ _ _ _ _
  · obtain rfl := HEQ.out hf.out
    go_wp2_with fail
    refine (rFracs_same Ah Al hi _ _ ch cl _ rfl rfl rh rl (by omega)).mono ?_
    rintro e w2 ⟨rfl, bq⟩
    replace rc := rc.below bq (Nat.le_refl _)
    replace rh := rh.below bq (Nat.le_refl _)
    replace rl := rl.below bq (Nat.le_refl _)
    have HBf := bUp HB1 bq HB1.size
    go_wp2_with fail
    go_loopw [25] (fun i wr => ∃ n : Nat, n ≤ hi.length ∧ i = .int .i64 (n : Int) ∧ Below w2.heap.size w2 wr) (fun i _ => hi.length - (intOf i).toNat)
    case atStart => exact ⟨0, by omega, rfl, Below.refl _ _⟩
    case round =>
      obtain ⟨v, rfl⟩ : ∃ v : World, v = wr := ⟨_, rfl⟩
      obtain ⟨n, hn, rfl, HV⟩ := hrel
      have HNN := Lib.hid hn
      by_cases hlt : n < hi.length
      · obtain ⟨f1, f2, q⟩ := HLE.out n hlt
        have HQ := Lib.hid q
        obtain ⟨⟨fa1, fa2⟩, ⟨fa3, fa4⟩, -⟩ := frP_iff.1 f1
        obtain ⟨⟨fb1, fb2⟩, ⟨fb3, fb4⟩, -⟩ := frP_iff.1 f2
        have i1 : (n : Int) < (hi.length : Int) := by omega
        have hlt2 : n < hi.length := by omega
        have i2 : (n : Int) < (hi.length : Int) := by omega
        obtain ⟨y0, y1⟩ := pcells_get hi n hlt
        obtain ⟨z0, z1⟩ := pcells_get hi n hlt2
        have rV := rh.below HV (Nat.le_refl _)
        have rW := rl.below HV (Nat.le_refl _)
        obtain ⟨ad, rfl, p1⟩ := rV _ _ y0
        obtain ⟨_, e, p2⟩ := rV _ _ y1
        injection e with e
        subst e
        have p2' := pairOff 1 (by omega) p2
        obtain ⟨ae, rfl, p3⟩ := rW _ _ z0
        obtain ⟨_, e, p4⟩ := rW _ _ z1
        injection e with e
        subst e
        have p4' := pairOff 1 (by omega) p4
        clear p2 p4 y0 y1 z0 z1 rV rW q f1 f2 hlt2
        change v.cell? _ = some (.int .i64 (nP hi n).1) at p1
        change v.cell? _ = some (.int .i64 (nP hi n).2) at p2'
        change v.cell? _ = some (.int .i64 (nP hi n).1) at p3
        change v.cell? _ = some (.int .i64 (nP hi n).2) at p4'
        generalize (nP hi n).1 = a1 at *
        generalize (nP hi n).2 = a2 at *
        skip
        go_upto_region 29 with fail
        have hd2 : Below v.heap.size v v.drew := Below.drew (Below.refl _ _)
        have SK2 : Hid (∀ w', Below v.heap.size v w' → w'.cell? (ad.add (n * 2)) = some (.int .i64 a1) ∧ w'.cell? ⟨(ad.add (n * 2)).block, (ad.add (n * 2)).off + 1, none⟩ = some (.int .i64 a2) ∧ w'.cell? (ae.add (n * 2)) = some (.int .i64 a1) ∧ w'.cell? ⟨(ae.add (n * 2)).block, (ae.add (n * 2)).off + 1, none⟩ = some (.int .i64 a2)) := Lib.hid fun w' HV => ⟨(HV.cell (cell_lt p1)).trans p1, (HV.cell (cell_lt p2')).trans p2', (HV.cell (cell_lt p3)).trans p3, (HV.cell (cell_lt p4')).trans p4'⟩
        clear p1 p2' p3 p4'
        have hS2_0 := SK2.out _ hd2
        refine tamed_region (S := fun w' => w'.cell? (ad.add (n * 2)) = some (.int .i64 a1) ∧ w'.cell? ⟨(ad.add (n * 2)).block, (ad.add (n * 2)).off + 1, none⟩ = some (.int .i64 a2) ∧ w'.cell? (ae.add (n * 2)) = some (.int .i64 a1) ∧ w'.cell? ⟨(ae.add (n * 2)).block, (ae.add (n * 2)).off + 1, none⟩ = some (.int .i64 a2)) (fun _ => false) (by kernel_rfl) ?_
        refine tame0 (k := 0) ?_ rfl (by kernel_rfl) (by kernel_rfl) (by kernel_rfl) (fun _ _ _ h => h) (by kernel_rfl) (fun v => ?_) ?_
        rotate_left
        · (go_simp; all_goals rfl)
        simp only [Act.put, List.setIfInBounds_toArray]
        refine tame0 (k := 1) ?_ rfl (by kernel_rfl) (by kernel_rfl) (by kernel_rfl) (fun _ _ _ h => h) (by kernel_rfl) (fun v => ?_) ?_
        rotate_left
        · (go_simp; all_goals rfl)
        simp only [Act.put]
        refine tame0 (k := 2) ?_ rfl (by kernel_rfl) (by kernel_rfl) (by kernel_rfl) (fun _ _ _ h => h) (by kernel_rfl) (fun v => ?_) ?_
        rotate_left
        · (go_simp; all_goals rfl)
        simp only [Act.put]
        refine tame (k := 3) ?_ rfl (by kernel_rfl) (by kernel_rfl) (by kernel_rfl) (by kernel_rfl) (fun _ _ _ h => h) (by kernel_rfl) hS2_0 (fun v hv => ?_) ?_
        rotate_left
        · (obtain ⟨k1, k2, k3, k4⟩ := hv; go_simp; all_goals rfl)
        simp only [Act.put]
        refine tame0 (k := 4) ?_ rfl (by kernel_rfl) (by kernel_rfl) (by kernel_rfl) (fun _ _ _ h => h) (by kernel_rfl) (fun v => ?_) ?_
        rotate_left
        · (go_simp; all_goals rfl)
        simp only [Act.put]
        refine tame0 (k := 5) ?_ rfl (by kernel_rfl) (by kernel_rfl) (by kernel_rfl) (fun _ _ _ h => h) (by kernel_rfl) (fun v => ?_) ?_
        rotate_left
        · (go_simp; all_goals rfl)
        simp only [Act.put]
        refine tame0 (k := 6) ?_ rfl (by kernel_rfl) (by kernel_rfl) (by kernel_rfl) (fun _ _ _ h => h) (by kernel_rfl) (fun v => ?_) ?_
        rotate_left
        · (go_simp; all_goals rfl)
        simp only [Act.put]
        refine tame (k := 7) ?_ rfl (by kernel_rfl) (by kernel_rfl) (by kernel_rfl) (by kernel_rfl) (fun _ _ _ h => h) (by kernel_rfl) hS2_0 (fun v hv => ?_) ?_
        rotate_left
        · (obtain ⟨k1, k2, k3, k4⟩ := hv; go_simp; all_goals rfl)
        simp only [Act.put]
        refine tame_one (k := 8) (by kernel_rfl) rfl (by kernel_rfl) ?_
        go_simp
        refine (rLess_is _ _ _ _ false HQ.out (by omega) (by omega) (by omega) (by omega) _).mono ?_
        rintro e w9 ⟨rfl, b9⟩
        have hd2_1 := bUp hd2 b9 (Nat.le_refl _)
        have hS2_1 := Lib.hid (SK2.out _ hd2_1)
        refine ⟨by first | exact hS2_1 | exact Hid.out hS2_1, ?_⟩
        refine tame_end (by kernel_rfl) ?_
        go_wp2_with fail
        go_roundw
        case rel => exact ⟨n + 1, by omega, by go_num, bUp HV hd2_1 HV.size⟩
        case measure => simp [intOf] <;> omega
      · go_wp2_with fail
        refine hK1.out _ _ ?_
        replace rc := rc.below HV (Nat.le_refl _)
        exact upMid A bs c w0 _ rc hb hl (bUp HBf HV HBf.size) _ _ _ _ _ _ _ _ _ _ _ _ _ _ _ _ _ _ _ _ _ _ _ _ _ _ _ _ _ _ _ _ _ _ _ _ _ _ _ _ _ _ _ _ _ _ _ _ _ _ _ _ _ _ _ _ _ _ _ _ _ _ _ _ _ _ _ _ _ _ _ _ _ _ _ _ _ _ _ _ _ _ _ _ _ _ _ _ _ _ _ _ _ _ _ _ _ _ _ _ _ _ _ _ _ _ _ _ _ _ _ _ _ _ _ _ _ _ _ _ _ _ _ _ _ _ _ _ _ _ _ _ _ _ _ _ _ _ _ _ _ _ _ _ _ _ _ _ _ _ _ _ _ _ _ _ _ _ _ _ _ _ _ _ _ _ _ _ _ _ _ _ _ _ _ _ _ _ _ _ _ _ _ _ _ _ _ _ _ _ _ _ _ _ _ _ _ _ _ _ _ _ _ _ _ _ _ _ _ _ _ _ _ _ _ _ _ _ _ _ _ _ _ _ _ _ _ _ _ _ _ _ _ _ _ _ _ _ _ _ _ _ _ _ _ _ _ _ _ _ _ _ _ _ _ _ _ _ _ _ _ _ _ _ _ _ _ _ _ _ _ _ _ _ _ _ _ _ _ _ _ _ _ _ _ _ _ _ _ _ _ _ _ _ _ _ _ _ _ _ _ _ _ _ _ _ _ _ _ _ _ _ _ _ _ _ _ _ _ _ _ _ _ _ _ _ _ _ _ _ _ _ _ _ _ _ _ _ _ _ _ _ _ _ _ _ _ _ _ _ _ _ _ _ _ _ _ _ _ _ _ _ _ _ _ _ _ _ _ _ _ _ _ _ _ _ _ _ _ _ _ _ _ _ _ _ _

noncomputable def up12 : Code := ((Try.f6.body.bind (restFrom 12)).getD .skip)
/-- What the law asks of a hedge that covers and of one that matches. -/
def UpCov (P W F C : List Int) (s : Int) (cov : Bool) : Prop := cov = true → (-999 ≤ s ∧ s ≤ 999) ∧ (prB true P W F C = true → decide (s * (nP (prV true P W F C) 0).2 < (nP (prV true P W F C) 0).1 * 1) = false)
def UpMat (P W F C : List Int) (s : Int) (cov mat : Bool) : Prop := mat = true → cov = true ∧ (prB true P W F C = true → nP (prV true P W F C) 0 = (s, 1)) ∧ (prB false P W F C = true → nP (prV false P W F C) 0 = (s, 1))
theorem dc_s {pr : Int → Int → Bool} {P W F H C : List Int} {s : Int} (h : dcV pr P W F H C s = true) : (-999 ≤ s ∧ s ≤ 999) ∧ ∀ i, i < (endL P).length → pr (wlE P F H s i) (nth C i) = true := by
  simp only [dcV, dcB, hlB, allP, Bool.and_eq_true, List.all_eq_true, List.mem_range] at h
  exact ⟨inB_iff.1 h.1.1.1.2, h.2⟩
theorem up_cov {P W F H C : List Int} {s : Int} : UpCov P W F C s (dcV prC P W F H C s) := fun h => by
  obtain ⟨h1, h2⟩ := dc_s h
  exact ⟨h1, fun hp => cover_law hp fun i hi => by simpa [prC] using h2 i hi⟩
theorem up_mat {P W F H C : List Int} {s : Int} : UpMat P W F C s (dcV prC P W F H C s) (dcV prM P W F H C s) := fun h => by
  obtain ⟨h1, h2⟩ := dc_s h
  have h3 : ∀ i, i < (endL P).length → wlE P F H s i = nth C i := fun i hi => by simpa [prM] using h2 i hi
  have hb : dcB P W F H C s = true := by
    simp only [dcV, Bool.and_eq_true] at h
    exact h.1
  refine ⟨dcV_all hb fun k hk => ?_, fun hp => match_up hp h1 h3, fun hp => match_lo hp h1 h3⟩
  rw [h3 k hk]
  simp [prC]
theorem pr_len {up : Bool} {P W F C : List Int} (h : prB up P W F C = true) : 0 < (prV up P W F C).length ∧ frP (nP (prV up P W F C) 0) = true := by
  obtain ⟨R, K⟩ := prcs_of h
  have h0 : 0 < P.length := by have := K.tree.n1; omega
  exact ⟨by rw [R.len]; exact h0, R.fr 0 h0⟩

set_option maxRecDepth 100000 in
set_option maxHeartbeats 16000000 in
theorem upPrices (A1 : Option Addr) (P : List Int) (c1 : Nat) (A2 : Option Addr) (W : List Int) (c2 : Nat) (A3 : Option Addr) (F : List Int) (c3 : Nat) (s : Int) (cov mat : Bool) (gm : Nat) (A : Option Addr) (bs : List Int) (c : Nat) (A5 : Option Addr) (C : List Int) (c5 : Nat) (hC : C.length ≤ 60) (HC : Hid (UpCov P W F C s cov)) (HM : Hid (UpMat P W F C s cov mat))
    (w0 w : World) (rc : Rd w A (u8s bs)) (hb : ByOk bs) (hl : bs.length ≤ 65536) (HB : Below w0.heap.size w0 w)
    (h : RdM w A1 P A2 W A3 F) (bx : Bx3 w gm (.slice A1 P.length c1) (.slice A2 W.length c2) (.slice A3 F.length c3)) (rC : Rd w A5 (ints C)) (u1 u2 u5 u8 u9 u10 u12 u13 u14 u15 u16 u17 u18 u19 u20 u21 u22 u23 u24 u25 u26 u27 u28 u29 u30 u31 u32 u33 u34 u35 u36 u37 u38 u39 u40 u41 u42 u43 u44 u45 u46 u47 u48 u49 u50 u51 u52 u53 u54 u55 u56 u57 u58 u59 u60 u61 u62 u63 u64 u65 u66 u67 u68 u69 u70 u71 u72 u73 u74 u75 u76 u77 u78 u79 u80 u81 u82 u83 u84 u85 u86 u87 u88 u89 u90 u91 u92 u93 u94 u95 u96 u97 u98 u99 u100 u101 u102 u103 u104 u105 u106 u107 u108 u109 u110 u111 u112 u113 u114 u115 u116 u117 u118 u119 u120 u121 u122 u123 u124 u125 u126 u127 u128 u129 u130 u131 u132 u133 u134 u135 u136 u137 u138 u139 u140 u141 u142 u143 u144 u145 u146 u147 u148 u149 u150 u151 u152 u153 u154 u155 u156 u157 u158 u159 u160 u161 u162 u163 u164 u165 u166 u167 u168 u169 u170 u171 u172 u173 u174 u175 u176 u177 u178 u179 u180 u181 u182 u183 u184 u185 u186 u187 u188 u189 u190 u191 u192 u193 u194 u195 u196 u197 u198 u199 u200 u201 u202 u203 u204 u205 u206 u207 u208 u209 u210 u211 u212 u213 u214 u215 u216 u217 u218 u219 u220 u221 u222 u223 u224 u225 u226 u227 u228 u229 u230 u231 u232 u233 u234 u235 u236 u237 u238 u239 u240 u241 u242 u243 u244 u245 u246 u247 u248 u249 u250 u251 u252 u253 u254 u255 u256 u257 u258 u259 u260 u261 u262 u263 u264 u265 u266 u267 u268 u269 u270 u271 u272 u273 u274 u275 u276 u277 u278 u279 u280 u281 u282 u283 u284 u285 u286 u287 u288 u289 u290 u291 u292 u293 u294 u295 u296 u297 u298 u299 u300 u301 u302 u303 u304 u305 u306 u307 u308 u309 u310 u311 u312 u313 u314 u315 u316 u317 u318 u319 u320 u321 u322 u323 u324 u325 u326 u327 u328 u329 u330 u331 u332 u333 u334 u335 u336 u337 u338 u339 u340 u341 u342 u343 u344 u345 u346 u347 u348 u349 u350 u351 u352 u353 u354 u355 u356 u357 u358 u359 u360 u361 u362 u363 u364 u365 u366 u367 u368 u369 u370 u371 u372 u373 u374 u375 u376 u377 u378 u379 u380 u381 u382 u383 u384 u385 u386 u387 : Value) :
    Code.wp Try.prog up12 (bodyPost Try.prog Try.f6 fun e w' => e = .returned (.bool true) ∧ Below w0.heap.size w0 w') ⟨#[.slice A bs.length c, u1, u2, .pointer (some ⟨gm, 0, none⟩), .int .i64 s, u5, .slice A5 C.length c5, .bool cov, u8, u9, u10, .bool mat, u12, u13, u14, u15, u16, u17, u18, u19, u20, u21, u22, u23, u24, u25, u26, u27, u28, u29, u30, u31, u32, u33, u34, u35, u36, u37, u38, u39, u40, u41, u42, u43, u44, u45, u46, u47, u48, u49, u50, u51, u52, u53, u54, u55, u56, u57, u58, u59, u60, u61, u62, u63, u64, u65, u66, u67, u68, u69, u70, u71, u72, u73, u74, u75, u76, u77, u78, u79, u80, u81, u82, u83, u84, u85, u86, u87, u88, u89, u90, u91, u92, u93, u94, u95, u96, u97, u98, u99, u100, u101, u102, u103, u104, u105, u106, u107, u108, u109, u110, u111, u112, u113, u114, u115, u116, u117, u118, u119, u120, u121, u122, u123, u124, u125, u126, u127, u128, u129, u130, u131, u132, u133, u134, u135, u136, u137, u138, u139, u140, u141, u142, u143, u144, u145, u146, u147, u148, u149, u150, u151, u152, u153, u154, u155, u156, u157, u158, u159, u160, u161, u162, u163, u164, u165, u166, u167, u168, u169, u170, u171, u172, u173, u174, u175, u176, u177, u178, u179, u180, u181, u182, u183, u184, u185, u186, u187, u188, u189, u190, u191, u192, u193, u194, u195, u196, u197, u198, u199, u200, u201, u202, u203, u204, u205, u206, u207, u208, u209, u210, u211, u212, u213, u214, u215, u216, u217, u218, u219, u220, u221, u222, u223, u224, u225, u226, u227, u228, u229, u230, u231, u232, u233, u234, u235, u236, u237, u238, u239, u240, u241, u242, u243, u244, u245, u246, u247, u248, u249, u250, u251, u252, u253, u254, u255, u256, u257, u258, u259, u260, u261, u262, u263, u264, u265, u266, u267, u268, u269, u270, u271, u272, u273, u274, u275, u276, u277, u278, u279, u280, u281, u282, u283, u284, u285, u286, u287, u288, u289, u290, u291, u292, u293, u294, u295, u296, u297, u298, u299, u300, u301, u302, u303, u304, u305, u306, u307, u308, u309, u310, u311, u312, u313, u314, u315, u316, u317, u318, u319, u320, u321, u322, u323, u324, u325, u326, u327, u328, u329, u330, u331, u332, u333, u334, u335, u336, u337, u338, u339, u340, u341, u342, u343, u344, u345, u346, u347, u348, u349, u350, u351, u352, u353, u354, u355, u356, u357, u358, u359, u360, u361, u362, u363, u364, u365, u366, u367, u368, u369, u370, u371, u372, u373, u374, u375, u376, u377, u378, u379, u380, u381, u382, u383, u384, u385, u386, u387], []⟩ w := by
  conv => arg 2; whnf
  obtain ⟨hi, hhi⟩ := nameU (prV true P W F C)
  obtain ⟨lo, hlo⟩ := nameU (prV false P W F C)
  obtain ⟨t1, ht1⟩ := nameU (prB true P W F C)
  obtain ⟨t2, ht2⟩ := nameU (prB false P W F C)
  have lhi : hi.length ≤ 24 := by rw [← hhi]; exact prV_len _ _ _ _ _
  have llo : lo.length ≤ 24 := by rw [← hlo]; exact prV_len _ _ _ _ _
  have HBO : Hid (UpIf P W F hi lo t1 t2) := Lib.hid (by subst hhi hlo ht1 ht2; exact up_both)
  have HH := Lib.hid (And.intro hhi ht1)
  have HLo := Lib.hid (And.intro hlo ht2)
  have HHL : Hid (t1 = true → 0 < hi.length ∧ frP (nP hi 0) = true) := Lib.hid (by subst hhi ht1; exact pr_len)
  have HLL : Hid (t2 = true → 0 < lo.length ∧ frP (nP lo 0) = true) := Lib.hid (by subst hlo ht2; exact pr_len)
  clear hhi hlo ht1 ht2
  have k0 := bx.1
  have k1 := bx.2.1
  have k2 := bx.2.2.1
  go_wp2_with fail
  have CC := implUpperPrices_c A1 P c1 A2 W c2 A3 F c3 A5 C c5 _ h rC (by omega)
  rw [HH.out.1, HH.out.2] at CC
  refine (CC).mono ?_
  rintro e w1 ⟨Ah1, ch1, rfl, oh1, bq⟩
  replace rc := rc.below bq (Nat.le_refl _)
  replace h := h.below bq (Nat.le_refl _)
  replace rC := rC.below bq (Nat.le_refl _)
  replace bx := bx.below bq
  have HB2 := bUp HB bq HB.size
  clear HB
  clear bq
  clear CC
  have rh1 := Rd.of_own oh1
  clear oh1
  clear k0 k1 k2
  have k0 := bx.1
  have k1 := bx.2.1
  have k2 := bx.2.2.1
  go_wp2_with fail
  have CC := specUpperPrices_c A1 P c1 A2 W c2 A3 F c3 A5 C c5 _ h rC (by omega)
  rw [HH.out.1, HH.out.2] at CC
  refine (CC).mono ?_
  rintro e w2 ⟨Ah2, ch2, rfl, oh2, bq⟩
  replace rc := rc.below bq (Nat.le_refl _)
  replace h := h.below bq (Nat.le_refl _)
  replace rC := rC.below bq (Nat.le_refl _)
  replace bx := bx.below bq
  replace rh1 := rh1.below bq (Nat.le_refl _)
  have HB3 := bUp HB2 bq HB2.size
  clear HB2
  clear bq
  clear CC
  have rh2 := Rd.of_own oh2
  clear oh2
  clear k0 k1 k2
  go_wp2_with fail
  refine (rFracs_same Ah1 Ah2 hi _ _ ch1 ch2 _ rfl rfl rh1 rh2 (by omega)).mono ?_
  rintro e w3 ⟨rfl, bq⟩
  replace rc := rc.below bq (Nat.le_refl _)
  replace h := h.below bq (Nat.le_refl _)
  replace rC := rC.below bq (Nat.le_refl _)
  replace bx := bx.below bq
  replace rh1 := rh1.below bq (Nat.le_refl _)
  replace rh2 := rh2.below bq (Nat.le_refl _)
  have HB4 := bUp HB3 bq HB3.size
  clear HB3
  clear bq
  clear rh2
  have k0 := bx.1
  have k1 := bx.2.1
  have k2 := bx.2.2.1
  go_wp2_with fail
  have CC := implLowerPrices_c A1 P c1 A2 W c2 A3 F c3 A5 C c5 _ h rC (by omega)
  rw [HLo.out.1, HLo.out.2] at CC
  refine (CC).mono ?_
  rintro e w4 ⟨Al1, cl1, rfl, ol1, bq⟩
  replace rc := rc.below bq (Nat.le_refl _)
  replace h := h.below bq (Nat.le_refl _)
  replace rC := rC.below bq (Nat.le_refl _)
  replace bx := bx.below bq
  replace rh1 := rh1.below bq (Nat.le_refl _)
  have HB5 := bUp HB4 bq HB4.size
  clear HB4
  clear bq
  clear CC
  have rl1 := Rd.of_own ol1
  clear ol1
  clear k0 k1 k2
  have k0 := bx.1
  have k1 := bx.2.1
  have k2 := bx.2.2.1
  go_wp2_with fail
  have CC := specLowerPrices_c A1 P c1 A2 W c2 A3 F c3 A5 C c5 _ h rC (by omega)
  rw [HLo.out.1, HLo.out.2] at CC
  refine (CC).mono ?_
  rintro e w5 ⟨Al2, cl2, rfl, ol2, bq⟩
  replace rc := rc.below bq (Nat.le_refl _)
  replace h := h.below bq (Nat.le_refl _)
  replace rC := rC.below bq (Nat.le_refl _)
  replace bx := bx.below bq
  replace rh1 := rh1.below bq (Nat.le_refl _)
  replace rl1 := rl1.below bq (Nat.le_refl _)
  have HB6 := bUp HB5 bq HB5.size
  clear HB5
  clear bq
  clear CC
  have rl2 := Rd.of_own ol2
  clear ol2
  clear k0 k1 k2
  skip
  go_wp2_with fail
  refine (rFracs_same Al1 Al2 lo _ _ cl1 cl2 _ rfl rfl rl1 rl2 (by omega)).mono ?_
  rintro e w6 ⟨rfl, bq⟩
  replace rc := rc.below bq (Nat.le_refl _)
  replace h := h.below bq (Nat.le_refl _)
  replace rC := rC.below bq (Nat.le_refl _)
  replace bx := bx.below bq
  replace rh1 := rh1.below bq (Nat.le_refl _)
  replace rl1 := rl1.below bq (Nat.le_refl _)
  replace rl2 := rl2.below bq (Nat.le_refl _)
  have HB7 := bUp HB6 bq HB6.size
  clear HB6
  clear bq
  clear rl2
  go_upto_region 20 with fail
  rename_i K1 hK1 K0 hK0
  replace hK1 := Lib.hid hK1
  clear rC
  cases t1
  · cases t2
    · go_wp2_with fail
      refine hK1.out _ _ ?_
      exact upFull A1 P c1 A2 W c2 A3 F c3 gm A bs c Ah1 hi ch1 Al1 lo cl1 _ _ lhi llo HBO w0 _ rc hb hl HB7 h bx rh1 rl1 _ _ _ _ _ _ _ _ _ _ _ _ _ _ _ _ _ _ _ _ _ _ _ _ _ _ _ _ _ _ _ _ _ _ _ _ _ _ _ _ _ _ _ _ _ _ _ _ _ _ _ _ _ _ _ _ _ _ _ _ _ _ _ _ _ _ _ _ _ _ _ _ _ _ _ _ _ _ _ _ _ _ _ _ _ _ _ _ _ _ _ _ _ _ _ _ _ _ _ _ _ _ _ _ _ _ _ _ _ _ _ _ _ _ _ _ _ _ _ _ _ _ _ _ _ _ _ _ _ _ _ _ _ _ _ _ _ _ _ _ _ _ _ _ _ _ _ _ _ _ _ _ _ _ _ _ _ _ _ _ _ _ _ _ _ _ _ _ _ _ _ _ _ _ _ _ _ _ _ _ _ _ _ _ _ _ _ _ _ _ _ _ _ _ _ _ _ _ _ _ _ _ _ _ _ _ _ _ _ _ _ _ _ _ _ _ _ _ _ _ _ _ _ _ _ _ _ _ _ _ _ _ _ _ _ _ _ _ _ _ _ _ _ _ _ _ _ _ _ _ _ _ _ _ _ _ _ _ _ _ _ _ _ _ _ _ _ _ _ _ _ _ _ _ _ _ _ _ _ _ _ _ _ _ _ _ _ _ _ _ _ _ _ _ _ _ _ _ _ _ _ _ _ _ _ _ _ _ _ _ _ _ _ _ _ _ _ _ _ _ _ _ _ _ _ _ _ _ _ _ _ _ _ _ _ _ _ _ _ _ _ _ _ _ _ _ _ _ _ _ _ _ _ _ _ _ _ _ _ _ _ _ _ _ _ _ _ _ _ _ _ _ _ _ _ _ _ _ _ _ _ _
    · cases mat
      · go_wp2_with fail
        refine hK1.out _ _ ?_
        exact upFull A1 P c1 A2 W c2 A3 F c3 gm A bs c Ah1 hi ch1 Al1 lo cl1 _ _ lhi llo HBO w0 _ rc hb hl HB7 h bx rh1 rl1 _ _ _ _ _ _ _ _ _ _ _ _ _ _ _ _ _ _ _ _ _ _ _ _ _ _ _ _ _ _ _ _ _ _ _ _ _ _ _ _ _ _ _ _ _ _ _ _ _ _ _ _ _ _ _ _ _ _ _ _ _ _ _ _ _ _ _ _ _ _ _ _ _ _ _ _ _ _ _ _ _ _ _ _ _ _ _ _ _ _ _ _ _ _ _ _ _ _ _ _ _ _ _ _ _ _ _ _ _ _ _ _ _ _ _ _ _ _ _ _ _ _ _ _ _ _ _ _ _ _ _ _ _ _ _ _ _ _ _ _ _ _ _ _ _ _ _ _ _ _ _ _ _ _ _ _ _ _ _ _ _ _ _ _ _ _ _ _ _ _ _ _ _ _ _ _ _ _ _ _ _ _ _ _ _ _ _ _ _ _ _ _ _ _ _ _ _ _ _ _ _ _ _ _ _ _ _ _ _ _ _ _ _ _ _ _ _ _ _ _ _ _ _ _ _ _ _ _ _ _ _ _ _ _ _ _ _ _ _ _ _ _ _ _ _ _ _ _ _ _ _ _ _ _ _ _ _ _ _ _ _ _ _ _ _ _ _ _ _ _ _ _ _ _ _ _ _ _ _ _ _ _ _ _ _ _ _ _ _ _ _ _ _ _ _ _ _ _ _ _ _ _ _ _ _ _ _ _ _ _ _ _ _ _ _ _ _ _ _ _ _ _ _ _ _ _ _ _ _ _ _ _ _ _ _ _ _ _ _ _ _ _ _ _ _ _ _ _ _ _ _ _ _ _ _ _ _ _ _ _ _ _ _ _ _ _ _ _ _ _ _ _ _ _ _ _ _ _ _ _ _ _
      · obtain rfl : cov = true := (HM.out rfl).1
        obtain ⟨hl0, fl⟩ := HLL.out rfl
        have em2 : nP lo 0 = (s, 1) := by
          have := (HM.out rfl).2.2 HLo.out.2
          rwa [HLo.out.1] at this
        have il : (0 : Int) < (lo.length : Int) := by omega
        have rl := rl1
        obtain ⟨al, rfl, l0, l1⟩ := head_cells rl hl0
        rw [em2] at l0 l1
        clear em2 fl rl
        have PE := fun w => (pair_eq s 1 s 1 w).trans (by rw [BEq.rfl, BEq.rfl, Bool.and_self])
        go_wp2_with fail
        refine hK1.out _ _ ?_
        exact upFull A1 P c1 A2 W c2 A3 F c3 gm A bs c Ah1 hi ch1 _ lo cl1 _ _ lhi llo HBO w0 _ rc hb hl HB7 h bx rh1 rl1 _ _ _ _ _ _ _ _ _ _ _ _ _ _ _ _ _ _ _ _ _ _ _ _ _ _ _ _ _ _ _ _ _ _ _ _ _ _ _ _ _ _ _ _ _ _ _ _ _ _ _ _ _ _ _ _ _ _ _ _ _ _ _ _ _ _ _ _ _ _ _ _ _ _ _ _ _ _ _ _ _ _ _ _ _ _ _ _ _ _ _ _ _ _ _ _ _ _ _ _ _ _ _ _ _ _ _ _ _ _ _ _ _ _ _ _ _ _ _ _ _ _ _ _ _ _ _ _ _ _ _ _ _ _ _ _ _ _ _ _ _ _ _ _ _ _ _ _ _ _ _ _ _ _ _ _ _ _ _ _ _ _ _ _ _ _ _ _ _ _ _ _ _ _ _ _ _ _ _ _ _ _ _ _ _ _ _ _ _ _ _ _ _ _ _ _ _ _ _ _ _ _ _ _ _ _ _ _ _ _ _ _ _ _ _ _ _ _ _ _ _ _ _ _ _ _ _ _ _ _ _ _ _ _ _ _ _ _ _ _ _ _ _ _ _ _ _ _ _ _ _ _ _ _ _ _ _ _ _ _ _ _ _ _ _ _ _ _ _ _ _ _ _ _ _ _ _ _ _ _ _ _ _ _ _ _ _ _ _ _ _ _ _ _ _ _ _ _ _ _ _ _ _ _ _ _ _ _ _ _ _ _ _ _ _ _ _ _ _ _ _ _ _ _ _ _ _ _ _ _ _ _ _ _ _ _ _ _ _ _ _ _ _ _ _ _ _ _ _ _ _ _ _ _ _ _ _ _ _ _ _ _ _ _ _ _ _ _ _ _ _ _ _ _ _ _ _ _ _ _ _ _
  · cases cov
    · obtain rfl : mat = false := by
        cases mat
        · rfl
        · exact (HM.out rfl).1.symm
      cases t2
      · go_wp2_with fail
        refine hK1.out _ _ ?_
        exact upFull A1 P c1 A2 W c2 A3 F c3 gm A bs c Ah1 hi ch1 Al1 lo cl1 _ _ lhi llo HBO w0 _ rc hb hl HB7 h bx rh1 rl1 _ _ _ _ _ _ _ _ _ _ _ _ _ _ _ _ _ _ _ _ _ _ _ _ _ _ _ _ _ _ _ _ _ _ _ _ _ _ _ _ _ _ _ _ _ _ _ _ _ _ _ _ _ _ _ _ _ _ _ _ _ _ _ _ _ _ _ _ _ _ _ _ _ _ _ _ _ _ _ _ _ _ _ _ _ _ _ _ _ _ _ _ _ _ _ _ _ _ _ _ _ _ _ _ _ _ _ _ _ _ _ _ _ _ _ _ _ _ _ _ _ _ _ _ _ _ _ _ _ _ _ _ _ _ _ _ _ _ _ _ _ _ _ _ _ _ _ _ _ _ _ _ _ _ _ _ _ _ _ _ _ _ _ _ _ _ _ _ _ _ _ _ _ _ _ _ _ _ _ _ _ _ _ _ _ _ _ _ _ _ _ _ _ _ _ _ _ _ _ _ _ _ _ _ _ _ _ _ _ _ _ _ _ _ _ _ _ _ _ _ _ _ _ _ _ _ _ _ _ _ _ _ _ _ _ _ _ _ _ _ _ _ _ _ _ _ _ _ _ _ _ _ _ _ _ _ _ _ _ _ _ _ _ _ _ _ _ _ _ _ _ _ _ _ _ _ _ _ _ _ _ _ _ _ _ _ _ _ _ _ _ _ _ _ _ _ _ _ _ _ _ _ _ _ _ _ _ _ _ _ _ _ _ _ _ _ _ _ _ _ _ _ _ _ _ _ _ _ _ _ _ _ _ _ _ _ _ _ _ _ _ _ _ _ _ _ _ _ _ _ _ _ _ _ _ _ _ _ _ _ _ _ _ _ _ _ _ _ _ _ _ _ _ _ _ _ _ _ _ _ _ _
      · go_wp2_with fail
        refine hK1.out _ _ ?_
        exact upFull A1 P c1 A2 W c2 A3 F c3 gm A bs c Ah1 hi ch1 Al1 lo cl1 _ _ lhi llo HBO w0 _ rc hb hl HB7 h bx rh1 rl1 _ _ _ _ _ _ _ _ _ _ _ _ _ _ _ _ _ _ _ _ _ _ _ _ _ _ _ _ _ _ _ _ _ _ _ _ _ _ _ _ _ _ _ _ _ _ _ _ _ _ _ _ _ _ _ _ _ _ _ _ _ _ _ _ _ _ _ _ _ _ _ _ _ _ _ _ _ _ _ _ _ _ _ _ _ _ _ _ _ _ _ _ _ _ _ _ _ _ _ _ _ _ _ _ _ _ _ _ _ _ _ _ _ _ _ _ _ _ _ _ _ _ _ _ _ _ _ _ _ _ _ _ _ _ _ _ _ _ _ _ _ _ _ _ _ _ _ _ _ _ _ _ _ _ _ _ _ _ _ _ _ _ _ _ _ _ _ _ _ _ _ _ _ _ _ _ _ _ _ _ _ _ _ _ _ _ _ _ _ _ _ _ _ _ _ _ _ _ _ _ _ _ _ _ _ _ _ _ _ _ _ _ _ _ _ _ _ _ _ _ _ _ _ _ _ _ _ _ _ _ _ _ _ _ _ _ _ _ _ _ _ _ _ _ _ _ _ _ _ _ _ _ _ _ _ _ _ _ _ _ _ _ _ _ _ _ _ _ _ _ _ _ _ _ _ _ _ _ _ _ _ _ _ _ _ _ _ _ _ _ _ _ _ _ _ _ _ _ _ _ _ _ _ _ _ _ _ _ _ _ _ _ _ _ _ _ _ _ _ _ _ _ _ _ _ _ _ _ _ _ _ _ _ _ _ _ _ _ _ _ _ _ _ _ _ _ _ _ _ _ _ _ _ _ _ _ _ _ _ _ _ _ _ _ _ _ _ _ _ _ _ _ _ _ _ _ _ _ _ _ _ _
    · cases mat
      · cases t2
        · obtain ⟨hh0, fh⟩ := HHL.out rfl
          obtain ⟨⟨fh1, fh2⟩, ⟨fh3, fh4⟩, -⟩ := frP_iff.1 fh
          obtain ⟨sb, sq⟩ := HC.out rfl
          have q := sq HH.out.2
          rw [HH.out.1] at q
          clear sq
          have HQ := Lib.hid q
          clear q
          have ih : (0 : Int) < (hi.length : Int) := by omega
          have rh := rh1
          obtain ⟨ah, rfl, a0, a1⟩ := head_cells rh hh0
          obtain ⟨pu, hpu⟩ := nameU (nP hi 0).1
          obtain ⟨qu, hqu⟩ := nameU (nP hi 0).2
          rw [hpu, hqu] at HQ
          rw [hpu] at a0 fh1 fh2
          rw [hqu] at a1 fh3 fh4
          clear hpu hqu fh rh
          go_wp2_with fail
          refine (rLess_is s 1 pu qu false HQ.out (by omega) (by omega) (by omega) (by omega) _).mono ?_
          rintro e w9 ⟨rfl, b9⟩
          replace rc := rc.below b9 (Nat.le_refl _)
          replace h := h.below b9 (Nat.le_refl _)
          replace rh1 := rh1.below b9 (Nat.le_refl _)
          replace rl1 := rl1.below b9 (Nat.le_refl _)
          replace bx := bx.below b9
          have HB9 := bUp HB7 b9 HB7.size
          go_wp2_with fail
          refine hK1.out _ _ ?_
          exact upFull A1 P c1 A2 W c2 A3 F c3 gm A bs c _ hi ch1 Al1 lo cl1 _ _ lhi llo HBO w0 _ rc hb hl HB9 h bx rh1 rl1 _ _ _ _ _ _ _ _ _ _ _ _ _ _ _ _ _ _ _ _ _ _ _ _ _ _ _ _ _ _ _ _ _ _ _ _ _ _ _ _ _ _ _ _ _ _ _ _ _ _ _ _ _ _ _ _ _ _ _ _ _ _ _ _ _ _ _ _ _ _ _ _ _ _ _ _ _ _ _ _ _ _ _ _ _ _ _ _ _ _ _ _ _ _ _ _ _ _ _ _ _ _ _ _ _ _ _ _ _ _ _ _ _ _ _ _ _ _ _ _ _ _ _ _ _ _ _ _ _ _ _ _ _ _ _ _ _ _ _ _ _ _ _ _ _ _ _ _ _ _ _ _ _ _ _ _ _ _ _ _ _ _ _ _ _ _ _ _ _ _ _ _ _ _ _ _ _ _ _ _ _ _ _ _ _ _ _ _ _ _ _ _ _ _ _ _ _ _ _ _ _ _ _ _ _ _ _ _ _ _ _ _ _ _ _ _ _ _ _ _ _ _ _ _ _ _ _ _ _ _ _ _ _ _ _ _ _ _ _ _ _ _ _ _ _ _ _ _ _ _ _ _ _ _ _ _ _ _ _ _ _ _ _ _ _ _ _ _ _ _ _ _ _ _ _ _ _ _ _ _ _ _ _ _ _ _ _ _ _ _ _ _ _ _ _ _ _ _ _ _ _ _ _ _ _ _ _ _ _ _ _ _ _ _ _ _ _ _ _ _ _ _ _ _ _ _ _ _ _ _ _ _ _ _ _ _ _ _ _ _ _ _ _ _ _ _ _ _ _ _ _ _ _ _ _ _ _ _ _ _ _ _ _ _ _ _ _ _ _ _ _ _ _ _ _ _ _ _ _ _ _ _
        · obtain ⟨hh0, fh⟩ := HHL.out rfl
          obtain ⟨⟨fh1, fh2⟩, ⟨fh3, fh4⟩, -⟩ := frP_iff.1 fh
          obtain ⟨sb, sq⟩ := HC.out rfl
          have q := sq HH.out.2
          rw [HH.out.1] at q
          clear sq
          have HQ := Lib.hid q
          clear q
          have ih : (0 : Int) < (hi.length : Int) := by omega
          have rh := rh1
          obtain ⟨ah, rfl, a0, a1⟩ := head_cells rh hh0
          obtain ⟨pu, hpu⟩ := nameU (nP hi 0).1
          obtain ⟨qu, hqu⟩ := nameU (nP hi 0).2
          rw [hpu, hqu] at HQ
          rw [hpu] at a0 fh1 fh2
          rw [hqu] at a1 fh3 fh4
          clear hpu hqu fh rh
          go_wp2_with fail
          refine (rLess_is s 1 pu qu false HQ.out (by omega) (by omega) (by omega) (by omega) _).mono ?_
          rintro e w9 ⟨rfl, b9⟩
          replace rc := rc.below b9 (Nat.le_refl _)
          replace h := h.below b9 (Nat.le_refl _)
          replace rh1 := rh1.below b9 (Nat.le_refl _)
          replace rl1 := rl1.below b9 (Nat.le_refl _)
          replace bx := bx.below b9
          have HB9 := bUp HB7 b9 HB7.size
          go_wp2_with fail
          refine hK1.out _ _ ?_
          exact upFull A1 P c1 A2 W c2 A3 F c3 gm A bs c _ hi ch1 Al1 lo cl1 _ _ lhi llo HBO w0 _ rc hb hl HB9 h bx rh1 rl1 _ _ _ _ _ _ _ _ _ _ _ _ _ _ _ _ _ _ _ _ _ _ _ _ _ _ _ _ _ _ _ _ _ _ _ _ _ _ _ _ _ _ _ _ _ _ _ _ _ _ _ _ _ _ _ _ _ _ _ _ _ _ _ _ _ _ _ _ _ _ _ _ _ _ _ _ _ _ _ _ _ _ _ _ _ _ _ _ _ _ _ _ _ _ _ _ _ _ _ _ _ _ _ _ _ _ _ _ _ _ _ _ _ _ _ _ _ _ _ _ _ _ _ _ _ _ _ _ _ _ _ _ _ _ _ _ _ _ _ _ _ _ _ _ _ _ _ _ _ _ _ _ _ _ _ _ _ _ _ _ _ _ _ _ _ _ _ _ _ _ _ _ _ _ _ _ _ _ _ _ _ _ _ _ _ _ _ _ _ _ _ _ _ _ _ _ _ _ _ _ _ _ _ _ _ _ _ _ _ _ _ _ _ _ _ _ _ _ _ _ _ _ _ _ _ _ _ _ _ _ _ _ _ _ _ _ _ _ _ _ _ _ _ _ _ _ _ _ _ _ _ _ _ _ _ _ _ _ _ _ _ _ _ _ _ _ _ _ _ _ _ _ _ _ _ _ _ _ _ _ _ _ _ _ _ _ _ _ _ _ _ _ _ _ _ _ _ _ _ _ _ _ _ _ _ _ _ _ _ _ _ _ _ _ _ _ _ _ _ _ _ _ _ _ _ _ _ _ _ _ _ _ _ _ _ _ _ _ _ _ _ _ _ _ _ _ _ _ _ _ _ _ _ _ _ _ _ _ _ _ _ _ _ _ _ _ _ _ _ _ _ _ _ _ _ _ _ _ _ _ _ _
      · cases t2
        · obtain ⟨hh0, fh⟩ := HHL.out rfl
          obtain ⟨⟨fh1, fh2⟩, ⟨fh3, fh4⟩, -⟩ := frP_iff.1 fh
          obtain ⟨sb, sq⟩ := HC.out rfl
          have q := sq HH.out.2
          rw [HH.out.1] at q
          clear sq
          have em : nP hi 0 = (s, 1) := by
            have := (HM.out rfl).2.1 HH.out.2
            rwa [HH.out.1] at this
          rw [em] at q fh1 fh2 fh3 fh4
          have HQ := Lib.hid q
          clear q
          have ih : (0 : Int) < (hi.length : Int) := by omega
          have rh := rh1
          obtain ⟨ah, rfl, a0, a1⟩ := head_cells rh hh0
          rw [em] at a0 a1
          clear em fh rh
          have PE := fun w => (pair_eq s 1 s 1 w).trans (by rw [BEq.rfl, BEq.rfl, Bool.and_self])
          go_wp2_with fail
          refine (rLess_is s 1 s 1 false HQ.out (by omega) (by omega) (by omega) (by omega) _).mono ?_
          rintro e w9 ⟨rfl, b9⟩
          replace rc := rc.below b9 (Nat.le_refl _)
          replace h := h.below b9 (Nat.le_refl _)
          replace rh1 := rh1.below b9 (Nat.le_refl _)
          replace rl1 := rl1.below b9 (Nat.le_refl _)
          replace bx := bx.below b9
          have HB9 := bUp HB7 b9 HB7.size
          replace a0 := (b9.cell (cell_lt a0)).trans a0
          replace a1 := (b9.cell (cell_lt a1)).trans a1
          go_wp2_with fail
          refine hK1.out _ _ ?_
          exact upFull A1 P c1 A2 W c2 A3 F c3 gm A bs c _ hi ch1 Al1 lo cl1 _ _ lhi llo HBO w0 _ rc hb hl HB9 h bx rh1 rl1 _ _ _ _ _ _ _ _ _ _ _ _ _ _ _ _ _ _ _ _ _ _ _ _ _ _ _ _ _ _ _ _ _ _ _ _ _ _ _ _ _ _ _ _ _ _ _ _ _ _ _ _ _ _ _ _ _ _ _ _ _ _ _ _ _ _ _ _ _ _ _ _ _ _ _ _ _ _ _ _ _ _ _ _ _ _ _ _ _ _ _ _ _ _ _ _ _ _ _ _ _ _ _ _ _ _ _ _ _ _ _ _ _ _ _ _ _ _ _ _ _ _ _ _ _ _ _ _ _ _ _ _ _ _ _ _ _ _ _ _ _ _ _ _ _ _ _ _ _ _ _ _ _ _ _ _ _ _ _ _ _ _ _ _ _ _ _ _ _ _ _ _ _ _ _ _ _ _ _ _ _ _ _ _ _ _ _ _ _ _ _ _ _ _ _ _ _ _ _ _ _ _ _ _ _ _ _ _ _ _ _ _ _ _ _ _ _ _ _ _ _ _ _ _ _ _ _ _ _ _ _ _ _ _ _ _ _ _ _ _ _ _ _ _ _ _ _ _ _ _ _ _ _ _ _ _ _ _ _ _ _ _ _ _ _ _ _ _ _ _ _ _ _ _ _ _ _ _ _ _ _ _ _ _ _ _ _ _ _ _ _ _ _ _ _ _ _ _ _ _ _ _ _ _ _ _ _ _ _ _ _ _ _ _ _ _ _ _ _ _ _ _ _ _ _ _ _ _ _ _ _ _ _ _ _ _ _ _ _ _ _ _ _ _ _ _ _ _ _ _ _ _ _ _ _ _ _ _ _ _ _ _ _ _ _ _ _ _ _ _ _ _ _ _ _ _ _ _ _ _ _ _
        · obtain ⟨hh0, fh⟩ := HHL.out rfl
          obtain ⟨⟨fh1, fh2⟩, ⟨fh3, fh4⟩, -⟩ := frP_iff.1 fh
          obtain ⟨sb, sq⟩ := HC.out rfl
          have q := sq HH.out.2
          rw [HH.out.1] at q
          clear sq
          have em : nP hi 0 = (s, 1) := by
            have := (HM.out rfl).2.1 HH.out.2
            rwa [HH.out.1] at this
          rw [em] at q fh1 fh2 fh3 fh4
          have HQ := Lib.hid q
          clear q
          have ih : (0 : Int) < (hi.length : Int) := by omega
          have rh := rh1
          obtain ⟨ah, rfl, a0, a1⟩ := head_cells rh hh0
          rw [em] at a0 a1
          clear em fh rh
          have PE := fun w => (pair_eq s 1 s 1 w).trans (by rw [BEq.rfl, BEq.rfl, Bool.and_self])
          obtain ⟨hl0, fl⟩ := HLL.out rfl
          have em2 : nP lo 0 = (s, 1) := by
            have := (HM.out rfl).2.2 HLo.out.2
            rwa [HLo.out.1] at this
          have il : (0 : Int) < (lo.length : Int) := by omega
          have rl := rl1
          obtain ⟨al, rfl, l0, l1⟩ := head_cells rl hl0
          rw [em2] at l0 l1
          clear em2 fl rl
          go_wp2_with fail
          refine (rLess_is s 1 s 1 false HQ.out (by omega) (by omega) (by omega) (by omega) _).mono ?_
          rintro e w9 ⟨rfl, b9⟩
          replace rc := rc.below b9 (Nat.le_refl _)
          replace h := h.below b9 (Nat.le_refl _)
          replace rh1 := rh1.below b9 (Nat.le_refl _)
          replace rl1 := rl1.below b9 (Nat.le_refl _)
          replace bx := bx.below b9
          have HB9 := bUp HB7 b9 HB7.size
          replace a0 := (b9.cell (cell_lt a0)).trans a0
          replace a1 := (b9.cell (cell_lt a1)).trans a1
          replace l0 := (b9.cell (cell_lt l0)).trans l0
          replace l1 := (b9.cell (cell_lt l1)).trans l1
          go_wp2_with fail
          refine hK1.out _ _ ?_
          exact upFull A1 P c1 A2 W c2 A3 F c3 gm A bs c _ hi ch1 _ lo cl1 _ _ lhi llo HBO w0 _ rc hb hl HB9 h bx rh1 rl1 _ _ _ _ _ _ _ _ _ _ _ _ _ _ _ _ _ _ _ _ _ _ _ _ _ _ _ _ _ _ _ _ _ _ _ _ _ _ _ _ _ _ _ _ _ _ _ _ _ _ _ _ _ _ _ _ _ _ _ _ _ _ _ _ _ _ _ _ _ _ _ _ _ _ _ _ _ _ _ _ _ _ _ _ _ _ _ _ _ _ _ _ _ _ _ _ _ _ _ _ _ _ _ _ _ _ _ _ _ _ _ _ _ _ _ _ _ _ _ _ _ _ _ _ _ _ _ _ _ _ _ _ _ _ _ _ _ _ _ _ _ _ _ _ _ _ _ _ _ _ _ _ _ _ _ _ _ _ _ _ _ _ _ _ _ _ _ _ _ _ _ _ _ _ _ _ _ _ _ _ _ _ _ _ _ _ _ _ _ _ _ _ _ _ _ _ _ _ _ _ _ _ _ _ _ _ _ _ _ _ _ _ _ _ _ _ _ _ _ _ _ _ _ _ _ _ _ _ _ _ _ _ _ _ _ _ _ _ _ _ _ _ _ _ _ _ _ _ _ _ _ _ _ _ _ _ _ _ _ _ _ _ _ _ _ _ _ _ _ _ _ _ _ _ _ _ _ _ _ _ _ _ _ _ _ _ _ _ _ _ _ _ _ _ _ _ _ _ _ _ _ _ _ _ _ _ _ _ _ _ _ _ _ _ _ _ _ _ _ _ _ _ _ _ _ _ _ _ _ _ _ _ _ _ _ _ _ _ _ _ _ _ _ _ _ _ _ _ _ _ _ _ _ _ _ _ _ _ _ _ _ _ _ _ _ _ _ _ _ _ _ _ _ _ _ _ _ _ _ _ _ _

set_option maxRecDepth 20000 in
set_option maxHeartbeats 1000000 in
theorem rBigU_c (A : Option Addr) (bs : List Int) (c : Nat) (w : World) (_hl : bs.length ≤ 9223372036854775807) :
    Calls Try.prog 7 #[.slice A bs.length c] w fun e w' => e = .returned (.bool (decide (65536 < (bs.length : Int)))) ∧ w = w' := by
  go_enter Try.func7, Try.ntmps7
  go_wp2
  go_ret
  exact ⟨rfl, rfl⟩
set_option maxRecDepth 100000 in
set_option maxHeartbeats 16000000 in
theorem lawUpp (A : Option Addr) (bs : List Int) (c : Nat) (w : World) (rc : Rd w A (u8s bs)) (hb : ByOk bs) (hlen : bs.length ≤ 9223372036854775807) (_hc : bs.length ≤ c) :
    Calls Try.prog 6 #[.slice A bs.length c] w fun e w' => e = .returned (.bool true) ∧ Below w.heap.size w w' := by
  by_cases hbig : 65536 < (bs.length : Int)
  · have C := rBigU_c A bs c w hlen
    rw [decide_eq_true hbig] at C
    go_enter Try.func6, Try.ntmps6
    go_wp2_with fail
    refine C.mono ?_
    rintro e w' ⟨rfl, rfl⟩
    go_wp2
    go_ret
    exact ⟨rfl, Below.refl _ _⟩
  have hl : bs.length ≤ 65536 := by omega
  have C := rBigU_c A bs c w hlen
  rw [decide_eq_false hbig] at C
  clear hbig
  go_enter Try.func6, Try.ntmps6
  go_wp2_with fail
  refine C.mono ?_
  rintro e w' ⟨rfl, rfl⟩
  clear C
  go_wp2_with fail
  refine (drawDc_c A bs c w rc hb (by omega)).mono ?_
  rintro e w1 ⟨A1, c1, P, A2, c2, W, A3, c3, F, s, A4, c4, H, A5, c5, C, rfl, hP, hW, hF, hH, hC, h, rH, rC, b1⟩
  have blB : Below w1.heap.size w1 (w1.alloc (.cells #[.slice A1 P.length c1, .slice A2 W.length c2, .slice A3 F.length c3] 28)) := (Below.refl _ _).alloc (Nat.le_refl _) _
  have bx := Bx3.new w1 (.slice A1 P.length c1) (.slice A2 W.length c2) (.slice A3 F.length c3) 28
  have HB1 := bUp b1 blB b1.size
  replace rc := rc.below HB1 (Nat.le_refl _)
  replace h := h.below blB (Nat.le_refl _)
  replace rH := rH.below blB (Nat.le_refl _)
  replace rC := rC.below blB (Nat.le_refl _)
  have HUC : Hid (UpCov P W F C s (dcV prC P W F H C s)) := Lib.hid up_cov
  have HUM : Hid (UpMat P W F C s (dcV prC P W F H C s) (dcV prM P W F H C s)) := Lib.hid up_mat
  have D1 := fun A1 c1 A2 c2 A3 c3 A4 c4 A7 c7 w => And.intro (implDoCoverClaims_c A1 P c1 A2 W c2 A3 F c3 s A4 H c4 A7 C c7 w) (specDoCoverClaims_c A1 P c1 A2 W c2 A3 F c3 s A4 H c4 A7 C c7 w)
  have D2 := fun A1 c1 A2 c2 A3 c3 A4 c4 A7 c7 w => And.intro (implDoMatchClaims_c A1 P c1 A2 W c2 A3 F c3 s A4 H c4 A7 C c7 w) (specDoMatchClaims_c A1 P c1 A2 W c2 A3 F c3 s A4 H c4 A7 C c7 w)
  generalize dcV prC P W F H C s = cov at *
  generalize dcV prM P W F H C s = mat at *
  generalize dcB P W F H C s = okk at *
  have HD1 := Lib.hid D1
  have HD2 := Lib.hid D2
  clear D1 D2 b1 blB
  go_wp2_with fail
  generalize w1.alloc (.cells #[.slice A1 P.length c1, .slice A2 W.length c2, .slice A3 F.length c3] 28) = v1 at *
  obtain ⟨gm, hgm⟩ : ∃ gm, gm = w1.heap.size := ⟨_, rfl⟩
  rw [← hgm] at bx ⊢
  clear hgm
  refine ((HD1.out A1 c1 A2 c2 A3 c3 A4 c4 A5 c5 _).1 h rH rC (by omega) (by omega)).mono ?_
  rintro e w2 ⟨rfl, bq⟩
  replace rc := rc.below bq (Nat.le_refl _)
  replace h := h.below bq (Nat.le_refl _)
  replace rH := rH.below bq (Nat.le_refl _)
  replace rC := rC.below bq (Nat.le_refl _)
  replace bx := bx.below bq
  have HB2 := bUp HB1 bq HB1.size
  clear HB1
  clear bq
  have k0 := bx.1
  have k1 := bx.2.1
  have k2 := bx.2.2.1
  go_wp2_with fail
  refine ((HD1.out A1 c1 A2 c2 A3 c3 A4 c4 A5 c5 _).2 h rH rC (by omega) (by omega)).mono ?_
  rintro e w3 ⟨rfl, bq⟩
  replace rc := rc.below bq (Nat.le_refl _)
  replace h := h.below bq (Nat.le_refl _)
  replace rH := rH.below bq (Nat.le_refl _)
  replace rC := rC.below bq (Nat.le_refl _)
  replace bx := bx.below bq
  have HB3 := bUp HB2 bq HB2.size
  clear HB2
  clear bq
  clear k0 k1 k2
  have k0 := bx.1
  have k1 := bx.2.1
  have k2 := bx.2.2.1
  go_wp2_with fail
  refine ((HD2.out A1 c1 A2 c2 A3 c3 A4 c4 A5 c5 _).1 h rH rC (by omega) (by omega)).mono ?_
  rintro e w4 ⟨rfl, bq⟩
  replace rc := rc.below bq (Nat.le_refl _)
  replace h := h.below bq (Nat.le_refl _)
  replace rH := rH.below bq (Nat.le_refl _)
  replace rC := rC.below bq (Nat.le_refl _)
  replace bx := bx.below bq
  have HB4 := bUp HB3 bq HB3.size
  clear HB3
  clear bq
  clear k0 k1 k2
  have k0 := bx.1
  have k1 := bx.2.1
  have k2 := bx.2.2.1
  go_wp2_with fail
  refine ((HD2.out A1 c1 A2 c2 A3 c3 A4 c4 A5 c5 _).2 h rH rC (by omega) (by omega)).mono ?_
  rintro e w5 ⟨rfl, bq⟩
  replace rc := rc.below bq (Nat.le_refl _)
  replace h := h.below bq (Nat.le_refl _)
  replace rH := rH.below bq (Nat.le_refl _)
  replace rC := rC.below bq (Nat.le_refl _)
  replace bx := bx.below bq
  have HB5 := bUp HB4 bq HB4.size
  clear HB4
  clear bq
  clear k0 k1 k2
  go_upto_region 10 with fail
  rename_i K1 hK1 K0 hK0
  replace hK1 := Lib.hid hK1
  clear rH
  cases mat
  · go_wp2_with fail
    refine hK1.out _ _ ?_
    exact upPrices A1 P c1 A2 W c2 A3 F c3 s cov false gm A bs c A5 C c5 hC HUC HUM w _ rc hb hl HB5 h bx rC _ _ _ _ _ _ _ _ _ _ _ _ _ _ _ _ _ _ _ _ _ _ _ _ _ _ _ _ _ _ _ _ _ _ _ _ _ _ _ _ _ _ _ _ _ _ _ _ _ _ _ _ _ _ _ _ _ _ _ _ _ _ _ _ _ _ _ _ _ _ _ _ _ _ _ _ _ _ _ _ _ _ _ _ _ _ _ _ _ _ _ _ _ _ _ _ _ _ _ _ _ _ _ _ _ _ _ _ _ _ _ _ _ _ _ _ _ _ _ _ _ _ _ _ _ _ _ _ _ _ _ _ _ _ _ _ _ _ _ _ _ _ _ _ _ _ _ _ _ _ _ _ _ _ _ _ _ _ _ _ _ _ _ _ _ _ _ _ _ _ _ _ _ _ _ _ _ _ _ _ _ _ _ _ _ _ _ _ _ _ _ _ _ _ _ _ _ _ _ _ _ _ _ _ _ _ _ _ _ _ _ _ _ _ _ _ _ _ _ _ _ _ _ _ _ _ _ _ _ _ _ _ _ _ _ _ _ _ _ _ _ _ _ _ _ _ _ _ _ _ _ _ _ _ _ _ _ _ _ _ _ _ _ _ _ _ _ _ _ _ _ _ _ _ _ _ _ _ _ _ _ _ _ _ _ _ _ _ _ _ _ _ _ _ _ _ _ _ _ _ _ _ _ _ _ _ _ _ _ _ _ _ _ _ _ _ _ _ _ _ _ _ _ _ _ _ _ _ _ _ _ _ _ _ _ _ _ _ _ _ _ _ _ _ _ _ _ _ _ _ _ _ _ _ _ _ _ _ _ _ _ _ _ _ _ _ _ _ _ _ _ _ _ _ _ _ _ _ _ _ _ _
  · obtain rfl : cov = true := (HUM.out rfl).1
    go_wp2_with fail
    refine hK1.out _ _ ?_
    exact upPrices A1 P c1 A2 W c2 A3 F c3 s true true gm A bs c A5 C c5 hC HUC HUM w _ rc hb hl HB5 h bx rC _ _ _ _ _ _ _ _ _ _ _ _ _ _ _ _ _ _ _ _ _ _ _ _ _ _ _ _ _ _ _ _ _ _ _ _ _ _ _ _ _ _ _ _ _ _ _ _ _ _ _ _ _ _ _ _ _ _ _ _ _ _ _ _ _ _ _ _ _ _ _ _ _ _ _ _ _ _ _ _ _ _ _ _ _ _ _ _ _ _ _ _ _ _ _ _ _ _ _ _ _ _ _ _ _ _ _ _ _ _ _ _ _ _ _ _ _ _ _ _ _ _ _ _ _ _ _ _ _ _ _ _ _ _ _ _ _ _ _ _ _ _ _ _ _ _ _ _ _ _ _ _ _ _ _ _ _ _ _ _ _ _ _ _ _ _ _ _ _ _ _ _ _ _ _ _ _ _ _ _ _ _ _ _ _ _ _ _ _ _ _ _ _ _ _ _ _ _ _ _ _ _ _ _ _ _ _ _ _ _ _ _ _ _ _ _ _ _ _ _ _ _ _ _ _ _ _ _ _ _ _ _ _ _ _ _ _ _ _ _ _ _ _ _ _ _ _ _ _ _ _ _ _ _ _ _ _ _ _ _ _ _ _ _ _ _ _ _ _ _ _ _ _ _ _ _ _ _ _ _ _ _ _ _ _ _ _ _ _ _ _ _ _ _ _ _ _ _ _ _ _ _ _ _ _ _ _ _ _ _ _ _ _ _ _ _ _ _ _ _ _ _ _ _ _ _ _ _ _ _ _ _ _ _ _ _ _ _ _ _ _ _ _ _ _ _ _ _ _ _ _ _ _ _ _ _ _ _ _ _ _ _ _ _ _ _ _ _ _ _ _ _ _ _ _ _ _ _ _ _ _ _

end Go.Proofs.Ytnhclpajfejnoaa
