/- The tail of the law FnProphets, behind the comparison of both packages. (Written by gen_fpt.py.) -/
import Derived.Test.YtjnllbmknblecaaProN
import Derived.Test.YtjnllbmknblecaaVw
import Derived.Test.YtjnllbmknblecaaThI
namespace Go.Proofs.Ytjnllbmknblecaa
open Go.RowKit

/-- The code from region k on: a piece of a body. -/
def firstIs (k : Nat) : Code → Bool
  | .region id _ _ => id == k
  | .seq a _ => firstIs k a
  | _ => false
def restFrom (k : Nat) : Code → Option Code
  | .seq a b => if firstIs k a then some (.seq a b) else
    match restFrom k a with
    | some c => some c
    | none => restFrom k b
  | .cond _ a b =>
    match restFrom k a with
    | some c => some c
    | none => restFrom k b
  | .block _ c => restFrom k c
  | .scope c => restFrom k c
  | .loop c => restFrom k c
  | _ => none
noncomputable def fpr28 : Code := ((Try.f14.body.bind (restFrom 28)).getD .skip)

set_option maxRecDepth 100000 in
set_option maxHeartbeats 8000000 in
theorem fprTail (X : List (List Int)) (hq : lawsB X = true) (hX5 : X.length ≤ 5) (AL : Option Addr) (cL : Nat) (aT : Addr) (cT g p : Nat) (w0 w : World) (HB : Below w0.heap.size w0 w) (rL : RdSS w AL X) (sL : SzSS X)
    (rT : Rd w (some aT) (pcells (gtV X))) (B4 : Bx w p (.int .i64 (pmT X)) (.int .i64 (pmB X))) (B8 : Bx w g (.int .i64 (gmT X)) (.int .i64 (gmB X))) (u0 u1 u2 u5 u6 u7 u10 u11 u14 u15 u16 u18 u19 u22 u23 u24 u25 u26 u27 u28 u29 u30 u31 u32 u33 u34 u35 u36 u37 u38 u39 u40 u41 u42 u43 u44 u45 u46 u47 u48 u49 u50 u51 u52 u53 u54 u55 u56 u57 u58 u59 u60 u61 u62 u63 u64 u65 u66 u67 u68 u69 u70 u71 u72 u73 u74 u75 u76 u77 u78 u79 u80 u81 u82 u83 u84 u85 u86 u87 u88 u89 u90 u91 u92 u93 u94 u95 u96 u97 u98 u99 u100 u101 u102 u103 u104 u105 u106 u107 u108 u109 u110 u111 u112 u113 u114 u115 u116 u117 u118 u119 u120 u121 u122 u123 u124 u125 u126 u127 u128 u129 u130 u131 u132 u133 u134 u135 u136 u137 u138 u139 u140 u141 u142 u143 u144 u145 u146 u147 u148 u149 u150 u151 u152 u153 u154 u155 u156 u157 u158 u159 u160 u161 u162 u163 u164 u165 u166 u167 u168 u169 u170 u171 u172 u173 u174 u175 u176 u177 u178 u179 u180 u181 u182 u183 u184 u185 u186 u187 u188 u189 u190 u191 u192 u193 u194 u195 u196 u197 u198 u199 u200 u201 u202 u203 u204 u205 u206 u207 u208 u209 u210 u211 u212 u213 u214 u215 u216 u217 u218 u219 u220 u221 u222 u223 u224 u225 u226 u227 u228 u229 u230 u231 u232 u233 u234 u235 u236 u237 u238 u239 u240 u241 u242 u243 u244 u245 u246 u247 u248 u249 u250 u251 u252 u253 u254 u255 u256 u257 u258 u259 u260 u261 u262 u263 u264 u265 u266 u267 u268 u269 u270 u271 u272 u273 u274 u275 u276 u277 u278 u279 u280 u281 u282 u283 u284 u285 u286 u287 u288 u289 u290 u291 u292 u293 u294 u295 u296 u297 u298 u299 u300 u301 u302 u303 u304 u305 u306 u307 u308 u309 u310 u311 : Value) :
    Code.wp Try.prog fpr28 (bodyPost Try.prog Try.f14 fun e w' => e = .returned (.bool true) ∧ Below w0.heap.size w0 w') ⟨#[u0, u1, u2, .slice AL X.length cL, .pointer (some ⟨p, 0, none⟩), u5, u6, u7, .pointer (some ⟨g, 0, none⟩), .bool true, u10, u11, .slice (some aT) (X.length + 1) cT, .bool true, u14, u15, u16, .bool true, u18, u19, .int .i64 (hlV X), .bool true, u22, u23, u24, u25, u26, u27, u28, u29, u30, u31, u32, u33, u34, u35, u36, u37, u38, u39, u40, u41, u42, u43, u44, u45, u46, u47, u48, u49, u50, u51, u52, u53, u54, u55, u56, u57, u58, u59, u60, u61, u62, u63, u64, u65, u66, u67, u68, u69, u70, u71, u72, u73, u74, u75, u76, u77, u78, u79, u80, u81, u82, u83, u84, u85, u86, u87, u88, u89, u90, u91, u92, u93, u94, u95, u96, u97, u98, u99, u100, u101, u102, u103, u104, u105, u106, u107, u108, u109, u110, u111, u112, u113, u114, u115, u116, u117, u118, u119, u120, u121, u122, u123, u124, u125, u126, u127, u128, u129, u130, u131, u132, u133, u134, u135, u136, u137, u138, u139, u140, u141, u142, u143, u144, u145, u146, u147, u148, u149, u150, u151, u152, u153, u154, u155, u156, u157, u158, u159, u160, u161, u162, u163, u164, u165, u166, u167, u168, u169, u170, u171, u172, u173, u174, u175, u176, u177, u178, u179, u180, u181, u182, u183, u184, u185, u186, u187, u188, u189, u190, u191, u192, u193, u194, u195, u196, u197, u198, u199, u200, u201, u202, u203, u204, u205, u206, u207, u208, u209, u210, u211, u212, u213, u214, u215, u216, u217, u218, u219, u220, u221, u222, u223, u224, u225, u226, u227, u228, u229, u230, u231, u232, u233, u234, u235, u236, u237, u238, u239, u240, u241, u242, u243, u244, u245, u246, u247, u248, u249, u250, u251, u252, u253, u254, u255, u256, u257, u258, u259, u260, u261, u262, u263, u264, u265, u266, u267, u268, u269, u270, u271, u272, u273, u274, u275, u276, u277, u278, u279, u280, u281, u282, u283, u284, u285, u286, u287, u288, u289, u290, u291, u292, u293, u294, u295, u296, u297, u298, u299, u300, u301, u302, u303, u304, u305, u306, u307, u308, u309, u310, u311], []⟩ w := by
  conv => arg 2; whnf
  have HQ := Lib.hid hq
  clear hq
  have hgl := gtV_len HQ.out
  have b41 := B4.1
  have b42 := B4.2.1
  have b45 := B4.2.2.2.2
  have b81 := B8.1
  have b82 := B8.2.1
  have b85 := B8.2.2.2.2
  obtain ⟨y0, y1⟩ := pcells_get (gtV X) 0 (by omega)
  obtain ⟨g0, g1⟩ := gtV_0 HQ.out
  rw [g0] at y0
  rw [g1] at y1
  obtain ⟨_, e, q1⟩ := rT _ _ y0
  injection e with e
  subst e
  obtain ⟨_, e, q2⟩ := rT _ _ y1
  injection e with e
  subst e
  clear y0 y1 g0 g1
  have q2' := pairOff 1 (by omega) q2
  clear q2
  have q1 : w.cell? aT = some (.int .i64 (gmT X)) := by simpa [Addr.add] using q1
  have q2' : w.cell? ⟨aT.block, aT.off + 1, none⟩ = some (.int .i64 (gmB X)) := by simpa [Addr.add] using q2'
  have E2 := fun w => (pair_eq (gmT X) (gmB X) (gmT X) (gmB X) w).trans (by rw [BEq.rfl, BEq.rfl, Bool.and_self])
  have hw2 : IntKind.i64.wrap (2 * gmT X) = 2 * gmT X := by
    obtain ⟨f1, f2, f3, f4⟩ := frb_gm X
    exact IntWalk.i64_in _ (by omega)
  have hw1 : IntKind.i64.wrap ((X.length : Int) + 1) = (X.length : Int) + 1 := IntWalk.i64_in _ (by omega)
  have hbn : ((X.length : Int) + 1 != (X.length : Int) + 1) = false := bne_self_eq_false _
  have hk0 : (0 : Int) < (X.length : Int) + 1 := by omega
  have HP1 := Lib.hid (pro1 HQ.out)
  have HP2 := Lib.hid (pro2 HQ.out)
  have HP5 := Lib.hid (fun k => pro5 (k := k) HQ.out)
  have HF1 := Lib.hid (frb_gm X)
  have HF2 := Lib.hid (frb_pm X)
  have HGL := Lib.hid hgl
  clear hgl B8
  go_upto_region 28 with fail
  have hd1 : Below w.heap.size w w.drew := Below.drew (Below.refl _ _)
  have SK1 : Hid (∀ w', Below w.heap.size w w' → w'.cell? ⟨p, 0, none⟩ = some (.int .i64 (pmT X)) ∧ w'.cell? ⟨p, 1, none⟩ = some (.int .i64 (pmB X)) ∧ w'.cell? ⟨g, 0, none⟩ = some (.int .i64 (gmT X)) ∧ w'.cell? ⟨g, 1, none⟩ = some (.int .i64 (gmB X)) ∧ w'.cell? aT = some (.int .i64 (gmT X)) ∧ w'.cell? ⟨aT.block, aT.off + 1, none⟩ = some (.int .i64 (gmB X))) := Lib.hid fun w' HV => ⟨(HV.cell (p := ⟨p, 0, none⟩) b45).trans b41, (HV.cell (p := ⟨p, 1, none⟩) b45).trans b42, (HV.cell (p := ⟨g, 0, none⟩) b85).trans b81, (HV.cell (p := ⟨g, 1, none⟩) b85).trans b82, (HV.cell (cell_lt q1)).trans q1, (HV.cell (cell_lt q2')).trans q2'⟩
  clear b41 b42 b81 b82 q1 q2'
  have hS1_0 := SK1.out _ hd1
  refine tamed_region (S := fun w' => w'.cell? ⟨p, 0, none⟩ = some (.int .i64 (pmT X)) ∧ w'.cell? ⟨p, 1, none⟩ = some (.int .i64 (pmB X)) ∧ w'.cell? ⟨g, 0, none⟩ = some (.int .i64 (gmT X)) ∧ w'.cell? ⟨g, 1, none⟩ = some (.int .i64 (gmB X)) ∧ w'.cell? aT = some (.int .i64 (gmT X)) ∧ w'.cell? ⟨aT.block, aT.off + 1, none⟩ = some (.int .i64 (gmB X))) (fun _ => false) (by kernel_rfl) ?_
  refine tame0 (k := 0) ?_ rfl (by kernel_rfl) (by kernel_rfl) (by kernel_rfl) (fun _ _ _ h => h) (by kernel_rfl) (fun v => ?_) ?_
  rotate_left
  · (go_simp; all_goals rfl)
  simp only [Act.put, List.setIfInBounds_toArray]
  refine tame0 (k := 1) ?_ rfl (by kernel_rfl) (by kernel_rfl) (by kernel_rfl) (fun _ _ _ h => h) (by kernel_rfl) (fun v => ?_) ?_
  rotate_left
  · (go_simp; all_goals rfl)
  simp only [Act.put]
  refine tame0 (k := 2) ?_ rfl (by kernel_rfl) (by kernel_rfl) (by kernel_rfl) (fun _ _ _ h => h) (by kernel_rfl) (fun v => ?_) ?_
  rotate_left
  · (go_simp; all_goals rfl)
  simp only [Act.put]
  refine tame0 (k := 3) ?_ rfl (by kernel_rfl) (by kernel_rfl) (by kernel_rfl) (fun _ _ _ h => h) (by kernel_rfl) (fun v => ?_) ?_
  rotate_left
  · (go_simp; all_goals rfl)
  simp only [Act.put]
  refine tame0 (k := 4) ?_ rfl (by kernel_rfl) (by kernel_rfl) (by kernel_rfl) (fun _ _ _ h => h) (by kernel_rfl) (fun v => ?_) ?_
  rotate_left
  · (go_simp; all_goals rfl)
  simp only [Act.put]
  refine tame0 (k := 5) ?_ rfl (by kernel_rfl) (by kernel_rfl) (by kernel_rfl) (fun _ _ _ h => h) (by kernel_rfl) (fun v => ?_) ?_
  rotate_left
  · (go_simp; all_goals rfl)
  simp only [Act.put]
  refine tame0 (k := 6) ?_ rfl (by kernel_rfl) (by kernel_rfl) (by kernel_rfl) (fun _ _ _ h => h) (by kernel_rfl) (fun v => ?_) ?_
  rotate_left
  · (go_simp; all_goals rfl)
  simp only [Act.put]
  refine tame0 (k := 7) ?_ rfl (by kernel_rfl) (by kernel_rfl) (by kernel_rfl) (fun _ _ _ h => h) (by kernel_rfl) (fun v => ?_) ?_
  rotate_left
  · (go_simp; all_goals rfl)
  simp only [Act.put]
  refine tame0 (k := 8) ?_ rfl (by kernel_rfl) (by kernel_rfl) (by kernel_rfl) (fun _ _ _ h => h) (by kernel_rfl) (fun v => ?_) ?_
  rotate_left
  · (go_simp; all_goals rfl)
  simp only [Act.put]
  refine tame0 (k := 9) ?_ rfl (by kernel_rfl) (by kernel_rfl) (by kernel_rfl) (fun _ _ _ h => h) (by kernel_rfl) (fun v => ?_) ?_
  rotate_left
  · (go_simp; all_goals rfl)
  simp only [Act.put]
  refine tame0 (k := 10) ?_ rfl (by kernel_rfl) (by kernel_rfl) (by kernel_rfl) (fun _ _ _ h => h) (by kernel_rfl) (fun v => ?_) ?_
  rotate_left
  · (go_simp; all_goals rfl)
  simp only [Act.put]
  refine tame0 (k := 11) ?_ rfl (by kernel_rfl) (by kernel_rfl) (by kernel_rfl) (fun _ _ _ h => h) (by kernel_rfl) (fun v => ?_) ?_
  rotate_left
  · (go_simp; all_goals rfl)
  simp only [Act.put]
  refine tame0 (k := 12) ?_ rfl (by kernel_rfl) (by kernel_rfl) (by kernel_rfl) (fun _ _ _ h => h) (by kernel_rfl) (fun v => ?_) ?_
  rotate_left
  · (go_simp; all_goals rfl)
  simp only [Act.put]
  refine tame0 (k := 13) ?_ rfl (by kernel_rfl) (by kernel_rfl) (by kernel_rfl) (fun _ _ _ h => h) (by kernel_rfl) (fun v => ?_) ?_
  rotate_left
  · (go_simp; all_goals rfl)
  simp only [Act.put]
  refine tame0 (k := 14) ?_ rfl (by kernel_rfl) (by kernel_rfl) (by kernel_rfl) (fun _ _ _ h => h) (by kernel_rfl) (fun v => ?_) ?_
  rotate_left
  · (go_simp; all_goals rfl)
  simp only [Act.put]
  refine tame0 (k := 15) ?_ rfl (by kernel_rfl) (by kernel_rfl) (by kernel_rfl) (fun _ _ _ h => h) (by kernel_rfl) (fun v => ?_) ?_
  rotate_left
  · (go_simp; all_goals rfl)
  simp only [Act.put]
  refine tame0 (k := 16) ?_ rfl (by kernel_rfl) (by kernel_rfl) (by kernel_rfl) (fun _ _ _ h => h) (by kernel_rfl) (fun v => ?_) ?_
  rotate_left
  · (go_simp; all_goals rfl)
  simp only [Act.put]
  refine tame0 (k := 17) ?_ rfl (by kernel_rfl) (by kernel_rfl) (by kernel_rfl) (fun _ _ _ h => h) (by kernel_rfl) (fun v => ?_) ?_
  rotate_left
  · (go_simp; all_goals rfl)
  simp only [Act.put]
  refine tame0 (k := 18) ?_ rfl (by kernel_rfl) (by kernel_rfl) (by kernel_rfl) (fun _ _ _ h => h) (by kernel_rfl) (fun v => ?_) ?_
  rotate_left
  · (go_simp; all_goals rfl)
  simp only [Act.put]
  refine tame0 (k := 19) ?_ rfl (by kernel_rfl) (by kernel_rfl) (by kernel_rfl) (fun _ _ _ h => h) (by kernel_rfl) (fun v => ?_) ?_
  rotate_left
  · (go_simp; all_goals rfl)
  simp only [Act.put]
  refine tame0 (k := 20) ?_ rfl (by kernel_rfl) (by kernel_rfl) (by kernel_rfl) (fun _ _ _ h => h) (by kernel_rfl) (fun v => ?_) ?_
  rotate_left
  · (go_simp; all_goals rfl)
  simp only [Act.put]
  refine tame0 (k := 21) ?_ rfl (by kernel_rfl) (by kernel_rfl) (by kernel_rfl) (fun _ _ _ h => h) (by kernel_rfl) (fun v => ?_) ?_
  rotate_left
  · (go_simp; all_goals rfl)
  simp only [Act.put]
  refine tame0 (k := 22) ?_ rfl (by kernel_rfl) (by kernel_rfl) (by kernel_rfl) (fun _ _ _ h => h) (by kernel_rfl) (fun v => ?_) ?_
  rotate_left
  · (go_simp; all_goals rfl)
  simp only [Act.put]
  refine tame0 (k := 23) ?_ rfl (by kernel_rfl) (by kernel_rfl) (by kernel_rfl) (fun _ _ _ h => h) (by kernel_rfl) (fun v => ?_) ?_
  rotate_left
  · (go_simp; all_goals rfl)
  simp only [Act.put]
  refine tame0 (k := 24) ?_ rfl (by kernel_rfl) (by kernel_rfl) (by kernel_rfl) (fun _ _ _ h => h) (by kernel_rfl) (fun v => ?_) ?_
  rotate_left
  · (go_simp; all_goals rfl)
  simp only [Act.put]
  refine tame (k := 25) ?_ rfl (by kernel_rfl) (by kernel_rfl) (by kernel_rfl) (by kernel_rfl) (fun _ _ _ h => h) (by kernel_rfl) hS1_0 (fun v hv => ?_) ?_
  rotate_left
  · (obtain ⟨k1, k2, k3, k4, k5, k6⟩ := hv; go_simp; all_goals rfl)
  simp only [Act.put]
  refine tame (k := 26) ?_ rfl (by kernel_rfl) (by kernel_rfl) (by kernel_rfl) (by kernel_rfl) (fun _ _ _ h => h) (by kernel_rfl) hS1_0 (fun v hv => ?_) ?_
  rotate_left
  · (obtain ⟨k1, k2, k3, k4, k5, k6⟩ := hv; go_simp; all_goals rfl)
  simp only [Act.put]
  have hS1_0v := Lib.hid hS1_0
  clear hS1_0
  refine tame_one (k := 27) (by kernel_rfl) rfl (by kernel_rfl) ?_
  go_simp
  refine ⟨by first | exact hS1_0v | exact Hid.out hS1_0v, ?_⟩
  refine tame0 (k := 28) ?_ rfl (by kernel_rfl) (by kernel_rfl) (by kernel_rfl) (fun _ _ _ h => h) (by kernel_rfl) (fun v => ?_) ?_
  rotate_left
  · (go_simp; all_goals rfl)
  simp only [Act.put]
  refine tame0 (k := 29) ?_ rfl (by kernel_rfl) (by kernel_rfl) (by kernel_rfl) (fun _ _ _ h => h) (by kernel_rfl) (fun v => ?_) ?_
  rotate_left
  · (go_simp; all_goals rfl)
  simp only [Act.put]
  have hS1_0vo := Hid.out hS1_0v
  refine tame (k := 30) ?_ rfl (by kernel_rfl) (by kernel_rfl) (by kernel_rfl) (by kernel_rfl) (fun _ _ _ h => h) (by kernel_rfl) hS1_0vo (fun v hv => ?_) ?_
  rotate_left
  · (obtain ⟨k1, k2, k3, k4, k5, k6⟩ := hv; go_simp; all_goals rfl)
  simp only [Act.put]
  refine tame (k := 31) ?_ rfl (by kernel_rfl) (by kernel_rfl) (by kernel_rfl) (by kernel_rfl) (fun _ _ _ h => h) (by kernel_rfl) hS1_0vo (fun v hv => ?_) ?_
  rotate_left
  · (obtain ⟨k1, k2, k3, k4, k5, k6⟩ := hv; go_simp; all_goals rfl)
  simp only [Act.put]
  refine tame_one (k := 32) (by kernel_rfl) rfl (by kernel_rfl) ?_
  go_simp
  refine (vLess_is _ _ _ _ false HP1.out (by obtain ⟨f1, f2, f3, f4⟩ := HF2.out; omega) (by obtain ⟨f1, f2, f3, f4⟩ := HF2.out; omega) (by obtain ⟨f1, f2, f3, f4⟩ := HF1.out; omega) (by obtain ⟨f1, f2, f3, f4⟩ := HF1.out; omega) _).mono ?_
  rintro e w30 ⟨rfl, b30⟩
  have hd1_1 := bUp hd1 b30 (Nat.le_refl _)
  have hS1_1 := Lib.hid (SK1.out _ hd1_1)
  refine ⟨by first | exact hS1_1 | exact Hid.out hS1_1, ?_⟩
  refine tame0 (k := 33) ?_ rfl (by kernel_rfl) (by kernel_rfl) (by kernel_rfl) (fun _ _ _ h => h) (by kernel_rfl) (fun v => ?_) ?_
  rotate_left
  · (go_simp; all_goals rfl)
  simp only [Act.put]
  refine tame0 (k := 34) ?_ rfl (by kernel_rfl) (by kernel_rfl) (by kernel_rfl) (fun _ _ _ h => h) (by kernel_rfl) (fun v => ?_) ?_
  rotate_left
  · (go_simp; all_goals rfl)
  simp only [Act.put]
  refine tame0 (k := 35) ?_ rfl (by kernel_rfl) (by kernel_rfl) (by kernel_rfl) (fun _ _ _ h => h) (by kernel_rfl) (fun v => ?_) ?_
  rotate_left
  · (go_simp; all_goals rfl)
  simp only [Act.put]
  have hS1_1o := Hid.out hS1_1
  refine tame (k := 36) ?_ rfl (by kernel_rfl) (by kernel_rfl) (by kernel_rfl) (by kernel_rfl) (fun _ _ _ h => h) (by kernel_rfl) hS1_1o (fun v hv => ?_) ?_
  rotate_left
  · (obtain ⟨k1, k2, k3, k4, k5, k6⟩ := hv; go_simp; all_goals rfl)
  simp only [Act.put]
  refine tame0 (k := 37) ?_ rfl (by kernel_rfl) (by kernel_rfl) (by kernel_rfl) (fun _ _ _ h => h) (by kernel_rfl) (fun v => ?_) ?_
  rotate_left
  · (go_simp; all_goals rfl)
  simp only [Act.put]
  refine tame0 (k := 38) ?_ rfl (by kernel_rfl) (by kernel_rfl) (by kernel_rfl) (fun _ _ _ h => h) (by kernel_rfl) (fun v => ?_) ?_
  rotate_left
  · (go_simp; all_goals rfl)
  simp only [Act.put]
  refine tame (k := 39) ?_ rfl (by kernel_rfl) (by kernel_rfl) (by kernel_rfl) (by kernel_rfl) (fun _ _ _ h => h) (by kernel_rfl) hS1_1o (fun v hv => ?_) ?_
  rotate_left
  · (obtain ⟨k1, k2, k3, k4, k5, k6⟩ := hv; go_simp; all_goals rfl)
  simp only [Act.put]
  refine tame0 (k := 40) ?_ rfl (by kernel_rfl) (by kernel_rfl) (by kernel_rfl) (fun _ _ _ h => h) (by kernel_rfl) (fun v => ?_) ?_
  rotate_left
  · (go_simp; all_goals rfl)
  simp only [Act.put]
  refine tame (k := 41) ?_ rfl (by kernel_rfl) (by kernel_rfl) (by kernel_rfl) (by kernel_rfl) (fun _ _ _ h => h) (by kernel_rfl) hS1_1o (fun v hv => ?_) ?_
  rotate_left
  · (obtain ⟨k1, k2, k3, k4, k5, k6⟩ := hv; go_simp; all_goals rfl)
  simp only [Act.put]
  refine tame_one (k := 42) (by kernel_rfl) rfl (by kernel_rfl) ?_
  go_simp
  refine (vLess_is _ _ _ _ false HP2.out (by obtain ⟨f1, f2, f3, f4⟩ := HF1.out; omega) (by obtain ⟨f1, f2, f3, f4⟩ := HF1.out; omega) (by obtain ⟨f1, f2, f3, f4⟩ := HF2.out; omega) (by obtain ⟨f1, f2, f3, f4⟩ := HF2.out; omega) _).mono ?_
  rintro e w31 ⟨rfl, b31⟩
  have hd1_2 := bUp hd1_1 b31 hd1_1.size
  have hS1_2 := Lib.hid (SK1.out _ hd1_2)
  refine ⟨by first | exact hS1_2 | exact Hid.out hS1_2, ?_⟩
  refine tame0 (k := 43) ?_ rfl (by kernel_rfl) (by kernel_rfl) (by kernel_rfl) (fun _ _ _ h => h) (by kernel_rfl) (fun v => ?_) ?_
  rotate_left
  · (go_simp; all_goals rfl)
  simp only [Act.put]
  refine tame_end (by kernel_rfl) ?_
  have HB1 := bUp HB hd1_2 HB.size
  replace rL := rL.below hd1_2 (Nat.le_refl _)
  replace rT := rT.below hd1_2 (Nat.le_refl _)
  replace B4 := B4.below hd1_2
  clear E2 hbn hk0 HB b30 b31 hd1_2 SK1
  go_wp2_with fail
  go_loopw [37] (fun i wr => ∃ k : Nat, k ≤ X.length ∧ i = .int .i64 k ∧ Below w31.heap.size w31 wr) (fun i _ => X.length - (intOf i).toNat)
  case atStart => exact ⟨0, by omega, rfl, Below.refl _ _⟩
  case round =>
    obtain ⟨v, rfl⟩ : ∃ v : World, v = wr := ⟨_, rfl⟩
    obtain ⟨k, hk, rfl, HV⟩ := hrel
    have hgl := HGL.out
    by_cases hlt : k < X.length
    · obtain ⟨y0, y1⟩ := pcells_get (gtV X) k (by omega)
      obtain ⟨y2, y3⟩ := pcells_get (gtV X) (k + 1) (by omega)
      have rV := rT.below HV (Nat.le_refl _)
      obtain ⟨_, e, q1⟩ := rV _ _ y0
      injection e with e
      subst e
      obtain ⟨_, e, q2⟩ := rV _ _ y1
      injection e with e
      subst e
      obtain ⟨_, e, q3⟩ := rV _ _ y2
      injection e with e
      subst e
      obtain ⟨_, e, q4⟩ := rV _ _ y3
      injection e with e
      subst e
      clear y0 y1 y2 y3
      have q2' := pairOff 1 (by omega) q2
      have q4' := pairOff 1 (by omega) q4
      clear q2 q4
      have HF3 := Lib.hid (frb_gt HQ.out (k := k) (by omega))
      have HF4 := Lib.hid (frb_gt HQ.out (k := k + 1) (by omega))
      have HP6 := Lib.hid (HP5.out k hlt)
      have hw3 : IntKind.i64.wrap ((k : Int) + 1) = (k : Int) + 1 := IntWalk.i64_in _ (by omega)
      have hk0 : (k : Int) < (X.length : Int) + 1 := by omega
      have hk1 : (k : Int) + 1 < (X.length : Int) + 1 := by omega
      clear hgl
      go_upto_region 33 with fail
      have hd2 : Below v.heap.size v v.drew := Below.drew (Below.refl _ _)
      have SK2 : Hid (∀ w', Below v.heap.size v w' → w'.cell? (aT.add (k * 2)) = some (.int .i64 (pT (gtV X) k)) ∧ w'.cell? ⟨(aT.add (k * 2)).block, (aT.add (k * 2)).off + 1, none⟩ = some (.int .i64 (pB (gtV X) k)) ∧ w'.cell? (aT.add ((k + 1) * 2)) = some (.int .i64 (pT (gtV X) (k + 1))) ∧ w'.cell? ⟨(aT.add ((k + 1) * 2)).block, (aT.add ((k + 1) * 2)).off + 1, none⟩ = some (.int .i64 (pB (gtV X) (k + 1)))) := Lib.hid fun w' HV => ⟨(HV.cell (cell_lt q1)).trans q1, (HV.cell (cell_lt q2')).trans q2', (HV.cell (cell_lt q3)).trans q3, (HV.cell (cell_lt q4')).trans q4'⟩
      clear q1 q2' q3 q4'
      have hS2_0 := SK2.out _ hd2
      refine tamed_region (S := fun w' => w'.cell? (aT.add (k * 2)) = some (.int .i64 (pT (gtV X) k)) ∧ w'.cell? ⟨(aT.add (k * 2)).block, (aT.add (k * 2)).off + 1, none⟩ = some (.int .i64 (pB (gtV X) k)) ∧ w'.cell? (aT.add ((k + 1) * 2)) = some (.int .i64 (pT (gtV X) (k + 1))) ∧ w'.cell? ⟨(aT.add ((k + 1) * 2)).block, (aT.add ((k + 1) * 2)).off + 1, none⟩ = some (.int .i64 (pB (gtV X) (k + 1)))) (fun _ => false) (by kernel_rfl) ?_
      refine tame0 (k := 0) ?_ rfl (by kernel_rfl) (by kernel_rfl) (by kernel_rfl) (fun _ _ _ h => h) (by kernel_rfl) (fun v => ?_) ?_
      rotate_left
      · (go_simp; all_goals rfl)
      simp only [Act.put, List.setIfInBounds_toArray]
      refine tame0 (k := 1) ?_ rfl (by kernel_rfl) (by kernel_rfl) (by kernel_rfl) (fun _ _ _ h => h) (by kernel_rfl) (fun v => ?_) ?_
      rotate_left
      · (go_simp; all_goals rfl)
      simp only [Act.put]
      refine tame0 (k := 2) ?_ rfl (by kernel_rfl) (by kernel_rfl) (by kernel_rfl) (fun _ _ _ h => h) (by kernel_rfl) (fun v => ?_) ?_
      rotate_left
      · (go_simp; all_goals rfl)
      simp only [Act.put]
      refine tame (k := 3) ?_ rfl (by kernel_rfl) (by kernel_rfl) (by kernel_rfl) (by kernel_rfl) (fun _ _ _ h => h) (by kernel_rfl) hS2_0 (fun v hv => ?_) ?_
      rotate_left
      · (obtain ⟨k1, k2, k3, k4⟩ := hv; go_simp; all_goals rfl)
      simp only [Act.put]
      refine tame0 (k := 4) ?_ rfl (by kernel_rfl) (by kernel_rfl) (by kernel_rfl) (fun _ _ _ h => h) (by kernel_rfl) (fun v => ?_) ?_
      rotate_left
      · (go_simp; all_goals rfl)
      simp only [Act.put]
      refine tame0 (k := 5) ?_ rfl (by kernel_rfl) (by kernel_rfl) (by kernel_rfl) (fun _ _ _ h => h) (by kernel_rfl) (fun v => ?_) ?_
      rotate_left
      · (go_simp; all_goals rfl)
      simp only [Act.put]
      refine tame0 (k := 6) ?_ rfl (by kernel_rfl) (by kernel_rfl) (by kernel_rfl) (fun _ _ _ h => h) (by kernel_rfl) (fun v => ?_) ?_
      rotate_left
      · (go_simp; all_goals rfl)
      simp only [Act.put]
      refine tame0 (k := 7) ?_ rfl (by kernel_rfl) (by kernel_rfl) (by kernel_rfl) (fun _ _ _ h => h) (by kernel_rfl) (fun v => ?_) ?_
      rotate_left
      · (go_simp; all_goals rfl)
      simp only [Act.put]
      refine tame (k := 8) ?_ rfl (by kernel_rfl) (by kernel_rfl) (by kernel_rfl) (by kernel_rfl) (fun _ _ _ h => h) (by kernel_rfl) hS2_0 (fun v hv => ?_) ?_
      rotate_left
      · (obtain ⟨k1, k2, k3, k4⟩ := hv; go_simp; all_goals rfl)
      simp only [Act.put]
      refine tame_one (k := 9) (by kernel_rfl) rfl (by kernel_rfl) ?_
      go_simp
      refine (vLess_is _ _ _ _ false HP6.out (by obtain ⟨f1, f2, f3, f4⟩ := HF3.out; omega) (by obtain ⟨f1, f2, f3, f4⟩ := HF3.out; omega) (by obtain ⟨f1, f2, f3, f4⟩ := HF4.out; omega) (by obtain ⟨f1, f2, f3, f4⟩ := HF4.out; omega) _).mono ?_
      rintro e w33 ⟨rfl, b33⟩
      have hd2_1 := bUp hd2 b33 (Nat.le_refl _)
      have hS2_1 := Lib.hid (SK2.out _ hd2_1)
      refine ⟨by first | exact hS2_1 | exact Hid.out hS2_1, ?_⟩
      refine tame_end (by kernel_rfl) ?_
      go_wp2_with fail
      go_roundw
      case rel => exact ⟨k + 1, by omega, by go_num, bUp HV hd2_1 HV.size⟩
      case measure => simp [intOf] <;> omega
    · obtain rfl : k = X.length := by omega
      replace rL := rL.below HV (Nat.le_refl _)
      replace B4 := B4.below HV
      have HB6 := bUp HB1 HV HB1.size
      clear HB1
      go_wp2_with fail
      have C := implTh_c AL X cL (hlV X) _ rL sL
      rw [(pro3 HQ.out).1] at C
      refine (C).mono ?_
      rintro e w40 ⟨rfl, bq⟩
      replace rL := rL.below bq (Nat.le_refl _)
      replace B4 := B4.below bq
      have HB7 := bUp HB6 bq HB6.size
      clear HB6
      clear bq
      clear C
      have blB38 : Below w40.heap.size w40 (w40.alloc (.cells #[.int .i64 (tmT X (hlV X)), .int .i64 (tmB X (hlV X))] 26)) := (Below.refl _ _).alloc (Nat.le_refl _) _
      replace rL := rL.below blB38 (Nat.le_refl _)
      replace B4 := B4.below blB38
      have HB8 := bUp HB7 blB38 HB7.size
      clear HB7
      have B38 := Bx.new w40 (.int .i64 (tmT X (hlV X))) (.int .i64 (tmB X (hlV X))) 26
      clear blB38
      have bs1 := B4.1
      have bs2 := B4.2.1
      have bt1 := B38.1
      have bt2 := B38.2.1
      have HF5 := Lib.hid (frb_tm X (hlV X))
      have HP7 := Lib.hid (pro3 HQ.out).2
      have hw5 : IntKind.i64.wrap (2 * tmT X (hlV X)) = 2 * tmT X (hlV X) := by
        obtain ⟨f1, f2, f3, f4⟩ := HF5.out
        exact IntWalk.i64_in _ (by omega)
      go_wp2_with fail
      refine (vLess_is _ _ _ _ false HP7.out (by obtain ⟨f1, f2, f3, f4⟩ := HF5.out; omega) (by obtain ⟨f1, f2, f3, f4⟩ := HF5.out; omega) (by obtain ⟨f1, f2, f3, f4⟩ := HF2.out; omega) (by obtain ⟨f1, f2, f3, f4⟩ := HF2.out; omega) _).mono ?_
      rintro e w41 ⟨rfl, bq⟩
      replace rL := rL.below bq (Nat.le_refl _)
      replace B4 := B4.below bq
      replace B38 := B38.below bq
      have HB9 := bUp HB8 bq HB8.size
      clear HB8
      clear bq
      clear bs1 bs2 bt1 bt2
      go_wp2_with fail
      go_ret
      exact ⟨rfl, HB9⟩
end Go.Proofs.Ytjnllbmknblecaa
