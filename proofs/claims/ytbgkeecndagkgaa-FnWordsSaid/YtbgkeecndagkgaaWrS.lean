/- The law FnWords from the sum of two words' odds on. (Written by gen_wrs.py.) -/
import Derived.Test.YtbgkeecndagkgaaWrT
import Derived.Test.YtbgkeecndagkgaaAddF
namespace Go.Proofs.Ytbgkeecndagkgaa
open Go.RowKit

theorem addFr_any (a b x y : Int) (w : World) :
    Calls Try.prog 20 #[.agg #[.int .i64 a, .int .i64 b], .agg #[.int .i64 x, .int .i64 y]] w fun e w' => ∃ T B ok, e = .returned (.tuple #[.agg #[.int .i64 T, .int .i64 B], .bool ok]) ∧
      (fracB a b = true → fracB x y = true → T = lwT (a * y + x * b) (b * y) ∧ B = lwB (a * y + x * b) (b * y)) ∧ Below w.heap.size w w' := by
  cases h : (fracB a b && fracB x y)
  · refine (addFr_no a b x y w h).mono ?_
    rintro e w' ⟨rfl, hb⟩
    exact ⟨0, 0, false, rfl, fun h1 h2 => (by rw [h1, h2] at h; cases h), hb⟩
  · rw [Bool.and_eq_true] at h
    refine (addFr_yes a b x y w h.1 h.2).mono ?_
    rintro e w' ⟨rfl, hb⟩
    exact ⟨_, _, _, rfl, fun _ _ => ⟨rfl, rfl⟩, hb⟩
noncomputable def wr18 : Code := ((Try.f3.body.bind (restFrom 18)).getD .skip)

set_option maxRecDepth 100000 in
set_option maxHeartbeats 8000000 in
theorem wrMid (f : Int) (wd : List Int) (n : Int) (AW : Option Addr) (cw : Nat) (AF : Option Addr) (cF : Nat) (w0 w : World) (HB : Below w0.heap.size w0 w) (rW : Rd w AW (ints wd)) (hcw : wd.length ≤ cw) (rF : Rd w AF (ints (ffV f wd n)))
    (h : Int) (AX : Option Addr) (xs : List Int) (cx : Nat) (AY : Option Addr) (ys : List Int) (cy : Nat) (rX : Rd w AX (ints xs)) (rY : Rd w AY (ints ys)) (hx : xs.length ≤ 16) (hy : ys.length ≤ 16) (hcx : xs.length ≤ cx) (hcy : ys.length ≤ cy)
    (go : Nat) (B1 : Bx w go (.int .i64 (woT h xs ys)) (.int .i64 (woB h xs ys))) (u0 u1 u2 u8 u9 u11 u12 u13 u14 u15 u16 u17 u18 u19 u20 u26 u27 u28 u29 u30 u31 u32 u33 u34 u35 u36 u37 u38 u39 u40 u41 u42 u43 u44 u45 u46 u47 u48 u49 u50 u51 u52 u53 u54 u55 u56 u57 u58 u59 u60 u61 u62 u63 u64 u65 u66 u67 u68 u69 u70 u71 u72 u73 u74 u75 u76 u77 u78 u79 u80 u81 u82 u83 u84 u85 u86 u87 u88 u89 u90 u91 u92 u93 u94 u95 u96 u97 u98 u99 u100 u101 u102 u103 u104 u105 u106 u107 u108 u109 u110 u111 u112 u113 u114 u115 u116 u117 u118 u119 u120 u121 u122 u123 u124 u125 u126 u127 u128 u129 u130 u131 u132 u133 u134 u135 u136 u137 u138 u139 u140 u141 u142 u143 u144 u145 u146 u147 u148 u149 u150 u151 u152 u153 u154 u155 u156 u157 u158 u159 u160 u161 u162 u163 u164 u165 u166 u167 u168 u169 u170 u171 u172 u173 u174 u175 u176 u177 u178 u179 u180 u181 u182 u183 u184 u185 u186 u187 u188 u189 u190 u191 u192 u193 u194 u195 u196 u197 u198 u199 u200 u201 u202 u203 u204 u205 u206 u207 u208 u209 u210 u211 u212 u213 u214 u215 u216 u217 u218 u219 u220 u221 u222 u223 u224 u225 u226 u227 u228 u229 u230 u231 u232 u233 u234 u235 u236 u237 u238 u239 u240 u241 u242 u243 u244 u245 u246 u247 u248 u249 u250 u251 u252 u253 u254 u255 u256 u257 u258 u259 u260 u261 u262 u263 u264 u265 u266 u267 u268 u269 u270 u271 u272 u273 u274 u275 u276 u277 u278 u279 u280 u281 u282 u283 u284 u285 u286 u287 u288 u289 u290 u291 u292 u293 u294 u295 u296 u297 u298 u299 u300 u301 u302 u303 u304 u305 u306 u307 u308 u309 u310 u311 u312 u313 u314 u315 u316 u317 u318 u319 u320 u321 u322 u323 u324 u325 u326 u327 u328 u329 u330 u331 u332 u333 u334 u335 u336 u337 u338 u339 u340 u341 u342 : Value) :
    Code.wp Try.prog wr18 (bodyPost Try.prog Try.f3 fun e w' => e = .returned (.bool true) ∧ Below w0.heap.size w0 w') ⟨#[u0, u1, u2, .int .i64 f, .slice AW wd.length cw, .int .i64 n, .slice AF (ffV f wd n).length cF, .bool (ffOk f wd n), u8, u9, .int .i64 (wwV f wd), u11, u12, u13, u14, u15, u16, u17, u18, u19, u20, .int .i64 h, .slice AX xs.length cx, .slice AY ys.length cy, .pointer (some ⟨go, 0, none⟩), .bool (woO h xs ys), u26, u27, u28, u29, u30, u31, u32, u33, u34, u35, u36, u37, u38, u39, u40, u41, u42, u43, u44, u45, u46, u47, u48, u49, u50, u51, u52, u53, u54, u55, u56, u57, u58, u59, u60, u61, u62, u63, u64, u65, u66, u67, u68, u69, u70, u71, u72, u73, u74, u75, u76, u77, u78, u79, u80, u81, u82, u83, u84, u85, u86, u87, u88, u89, u90, u91, u92, u93, u94, u95, u96, u97, u98, u99, u100, u101, u102, u103, u104, u105, u106, u107, u108, u109, u110, u111, u112, u113, u114, u115, u116, u117, u118, u119, u120, u121, u122, u123, u124, u125, u126, u127, u128, u129, u130, u131, u132, u133, u134, u135, u136, u137, u138, u139, u140, u141, u142, u143, u144, u145, u146, u147, u148, u149, u150, u151, u152, u153, u154, u155, u156, u157, u158, u159, u160, u161, u162, u163, u164, u165, u166, u167, u168, u169, u170, u171, u172, u173, u174, u175, u176, u177, u178, u179, u180, u181, u182, u183, u184, u185, u186, u187, u188, u189, u190, u191, u192, u193, u194, u195, u196, u197, u198, u199, u200, u201, u202, u203, u204, u205, u206, u207, u208, u209, u210, u211, u212, u213, u214, u215, u216, u217, u218, u219, u220, u221, u222, u223, u224, u225, u226, u227, u228, u229, u230, u231, u232, u233, u234, u235, u236, u237, u238, u239, u240, u241, u242, u243, u244, u245, u246, u247, u248, u249, u250, u251, u252, u253, u254, u255, u256, u257, u258, u259, u260, u261, u262, u263, u264, u265, u266, u267, u268, u269, u270, u271, u272, u273, u274, u275, u276, u277, u278, u279, u280, u281, u282, u283, u284, u285, u286, u287, u288, u289, u290, u291, u292, u293, u294, u295, u296, u297, u298, u299, u300, u301, u302, u303, u304, u305, u306, u307, u308, u309, u310, u311, u312, u313, u314, u315, u316, u317, u318, u319, u320, u321, u322, u323, u324, u325, u326, u327, u328, u329, u330, u331, u332, u333, u334, u335, u336, u337, u338, u339, u340, u341, u342], []⟩ w := by
  conv => arg 2; whnf
  go_upto_region 18 with fail
  rename_i K1 hK1 K0 hK0
  replace hK1 := Lib.hid hK1
  cases hone : woO h xs ys
  · go_wp2_with fail
    refine hK1.out _ _ ?_
    exact wrTail f wd n AW cw AF cF w0 _ (HB) (rW) hcw (rF) _ _ _ _ _ _ _ _ _ _ _ _ _ _ _ _ _ _ _ _ _ _ _ _ _ _ _ _ _ _ _ _ _ _ _ _ _ _ _ _ _ _ _ _ _ _ _ _ _ _ _ _ _ _ _ _ _ _ _ _ _ _ _ _ _ _ _ _ _ _ _ _ _ _ _ _ _ _ _ _ _ _ _ _ _ _ _ _ _ _ _ _ _ _ _ _ _ _ _ _ _ _ _ _ _ _ _ _ _ _ _ _ _ _ _ _ _ _ _ _ _ _ _ _ _ _ _ _ _ _ _ _ _ _ _ _ _ _ _ _ _ _ _ _ _ _ _ _ _ _ _ _ _ _ _ _ _ _ _ _ _ _ _ _ _ _ _ _ _ _ _ _ _ _ _ _ _ _ _ _ _ _ _ _ _ _ _ _ _ _ _ _ _ _ _ _ _ _ _ _ _ _ _ _ _ _ _ _ _ _ _ _ _ _ _ _ _ _ _ _ _ _ _ _ _ _ _ _ _ _ _ _ _ _ _ _ _ _ _ _ _ _ _ _ _ _ _ _ _ _ _ _ _ _ _ _ _ _ _ _ _ _ _ _ _ _ _ _ _ _ _ _ _ _ _ _ _ _ _ _ _ _ _ _ _ _ _ _ _ _ _ _ _ _ _ _ _ _ _ _ _ _ _ _ _ _ _ _ _ _ _ _ _ _ _ _ _ _ _ _ _ _ _ _ _ _ _ _ _ _ _ _ _ _ _ _ _
  · have C := implWo_c h AY AX ys xs cy cx w rY rX (by omega) (by omega) hcy hcx
    have HS : Hid (woO h ys xs = true → _) := Lib.hid (wo_sum hone)
    have HO := Lib.hid hone
    clear hone
    go_wp2_with fail
    refine C.mono ?_
    rintro e w2 ⟨rfl, hb2⟩
    have B2 := B1.below hb2
    have bl3 : Below w2.heap.size w2 (w2.alloc (.cells #[.int .i64 (woT h ys xs), .int .i64 (woB h ys xs)] 35)) := (Below.refl _ _).alloc (Nat.le_refl _) _
    have B3 := B2.below bl3
    have D3 := Bx.new w2 (.int .i64 (woT h ys xs)) (.int .i64 (woB h ys xs)) 35
    have HB3 := bUp hb2 bl3 hb2.size
    have hq1 := B3.1
    have hq2 := B3.2.1
    have hq3 := D3.1
    have hq4 := D3.2.1
    go_wp2_with fail
    refine (addFr_any (woT h xs ys) (woB h xs ys) (woT h ys xs) (woB h ys xs) _).mono ?_
    rintro e w4 ⟨T, B, told, rfl, hTB, hb4⟩
    have HB4 := bUp HB3 hb4 HB3.size
    have HT := Lib.hid hTB
    have bl5 : Below w4.heap.size w4 (w4.alloc (.cells #[.int .i64 T, .int .i64 B] 35)) := (Below.refl _ _).alloc (Nat.le_refl _) _
    have HB5 := bUp HB4 bl5 HB4.size
    have HBB := bUp HB HB5 HB.size
    have rW5 := rW.below HB5 (Nat.le_refl _)
    have rF5 := rF.below HB5 (Nat.le_refl _)
    clear hTB hb2 hb4 bl3 bl5 hq1 hq2 hq3 hq4
    cases hkn : woO h ys xs
    · go_wp2_with fail
      refine hK1.out _ _ ?_
      exact wrTail f wd n AW cw AF cF w0 _ (HBB) (rW5) hcw (rF5) _ _ _ _ _ _ _ _ _ _ _ _ _ _ _ _ _ _ _ _ _ _ _ _ _ _ _ _ _ _ _ _ _ _ _ _ _ _ _ _ _ _ _ _ _ _ _ _ _ _ _ _ _ _ _ _ _ _ _ _ _ _ _ _ _ _ _ _ _ _ _ _ _ _ _ _ _ _ _ _ _ _ _ _ _ _ _ _ _ _ _ _ _ _ _ _ _ _ _ _ _ _ _ _ _ _ _ _ _ _ _ _ _ _ _ _ _ _ _ _ _ _ _ _ _ _ _ _ _ _ _ _ _ _ _ _ _ _ _ _ _ _ _ _ _ _ _ _ _ _ _ _ _ _ _ _ _ _ _ _ _ _ _ _ _ _ _ _ _ _ _ _ _ _ _ _ _ _ _ _ _ _ _ _ _ _ _ _ _ _ _ _ _ _ _ _ _ _ _ _ _ _ _ _ _ _ _ _ _ _ _ _ _ _ _ _ _ _ _ _ _ _ _ _ _ _ _ _ _ _ _ _ _ _ _ _ _ _ _ _ _ _ _ _ _ _ _ _ _ _ _ _ _ _ _ _ _ _ _ _ _ _ _ _ _ _ _ _ _ _ _ _ _ _ _ _ _ _ _ _ _ _ _ _ _ _ _ _ _ _ _ _ _ _ _ _ _ _ _ _ _ _ _ _ _ _ _ _ _ _ _ _ _ _ _ _ _ _ _ _ _ _ _ _ _ _ _ _ _ _ _ _ _ _ _ _ _
    · obtain ⟨s1, s2, s3, s4⟩ := HS.out hkn
      obtain ⟨t1, t2⟩ := HT.out s1 s2
      obtain rfl : T = 1 := by rw [t1]; exact s3
      obtain rfl : B = 1 := by rw [t2]; exact s4
      have PE := fun w => (pair_eq 1 1 1 1 w).trans (by rfl : _ = Result.ok true w)
      clear s1 s2 s3 s4 t1 t2
      cases told
      · go_wp2_with fail
        refine hK1.out _ _ ?_
        exact wrTail f wd n AW cw AF cF w0 _ (HBB) (rW5) hcw (rF5) _ _ _ _ _ _ _ _ _ _ _ _ _ _ _ _ _ _ _ _ _ _ _ _ _ _ _ _ _ _ _ _ _ _ _ _ _ _ _ _ _ _ _ _ _ _ _ _ _ _ _ _ _ _ _ _ _ _ _ _ _ _ _ _ _ _ _ _ _ _ _ _ _ _ _ _ _ _ _ _ _ _ _ _ _ _ _ _ _ _ _ _ _ _ _ _ _ _ _ _ _ _ _ _ _ _ _ _ _ _ _ _ _ _ _ _ _ _ _ _ _ _ _ _ _ _ _ _ _ _ _ _ _ _ _ _ _ _ _ _ _ _ _ _ _ _ _ _ _ _ _ _ _ _ _ _ _ _ _ _ _ _ _ _ _ _ _ _ _ _ _ _ _ _ _ _ _ _ _ _ _ _ _ _ _ _ _ _ _ _ _ _ _ _ _ _ _ _ _ _ _ _ _ _ _ _ _ _ _ _ _ _ _ _ _ _ _ _ _ _ _ _ _ _ _ _ _ _ _ _ _ _ _ _ _ _ _ _ _ _ _ _ _ _ _ _ _ _ _ _ _ _ _ _ _ _ _ _ _ _ _ _ _ _ _ _ _ _ _ _ _ _ _ _ _ _ _ _ _ _ _ _ _ _ _ _ _ _ _ _ _ _ _ _ _ _ _ _ _ _ _ _ _ _ _ _ _ _ _ _ _ _ _ _ _ _ _ _ _ _ _ _ _ _ _ _ _ _ _ _ _ _ _ _ _ _ _
      · go_wp2_with fail
        refine hK1.out _ _ ?_
        exact wrTail f wd n AW cw AF cF w0 _ (HBB) (rW5) hcw (rF5) _ _ _ _ _ _ _ _ _ _ _ _ _ _ _ _ _ _ _ _ _ _ _ _ _ _ _ _ _ _ _ _ _ _ _ _ _ _ _ _ _ _ _ _ _ _ _ _ _ _ _ _ _ _ _ _ _ _ _ _ _ _ _ _ _ _ _ _ _ _ _ _ _ _ _ _ _ _ _ _ _ _ _ _ _ _ _ _ _ _ _ _ _ _ _ _ _ _ _ _ _ _ _ _ _ _ _ _ _ _ _ _ _ _ _ _ _ _ _ _ _ _ _ _ _ _ _ _ _ _ _ _ _ _ _ _ _ _ _ _ _ _ _ _ _ _ _ _ _ _ _ _ _ _ _ _ _ _ _ _ _ _ _ _ _ _ _ _ _ _ _ _ _ _ _ _ _ _ _ _ _ _ _ _ _ _ _ _ _ _ _ _ _ _ _ _ _ _ _ _ _ _ _ _ _ _ _ _ _ _ _ _ _ _ _ _ _ _ _ _ _ _ _ _ _ _ _ _ _ _ _ _ _ _ _ _ _ _ _ _ _ _ _ _ _ _ _ _ _ _ _ _ _ _ _ _ _ _ _ _ _ _ _ _ _ _ _ _ _ _ _ _ _ _ _ _ _ _ _ _ _ _ _ _ _ _ _ _ _ _ _ _ _ _ _ _ _ _ _ _ _ _ _ _ _ _ _ _ _ _ _ _ _ _ _ _ _ _ _ _ _ _ _ _ _ _ _ _ _ _ _ _ _ _ _ _ _
end Go.Proofs.Ytbgkeecndagkgaa
