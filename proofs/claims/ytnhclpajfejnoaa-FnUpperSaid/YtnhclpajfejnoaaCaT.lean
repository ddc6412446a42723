/- The tail of the law FnCalls. (Written by gen_cat.py.) -/
import Derived.Test.YtnhclpajfejnoaaCaL
import Derived.Test.YtnhclpajfejnoaaDrK
import Derived.Test.YtnhclpajfejnoaaVw
namespace Go.Proofs.Ytnhclpajfejnoaa
open Go.RowKit

noncomputable def ca48 : Code := ((Try.f3.body.bind (restFrom 48)).getD .skip)
/-- What the tail asks of the four lists of prices. -/
def CaLaw (a b c d : List (Int × Int)) (g : Int) : Prop := 0 < a.length ∧ 0 < b.length ∧ 0 < c.length ∧ 0 < d.length ∧ frP (nP a 0) = true ∧ frP (nP b 0) = true ∧ frP (nP c 0) = true ∧ frP (nP d 0) = true ∧
  decide ((nP a 0).1 * (nP b 0).2 < ((nP b 0).1 + g * (nP b 0).2) * (nP a 0).2) = false ∧ decide (((nP d 0).1 + g * (nP d 0).2) * (nP c 0).2 < (nP c 0).1 * (nP d 0).2) = false
theorem head_cells {w : World} {A : Option Addr} {l : List (Int × Int)} (h : Rd w A (pcells l)) (hl : 0 < l.length) : ∃ ad, A = some ad ∧ w.cell? ad = some (.int .i64 (nP l 0).1) ∧ w.cell? ⟨ad.block, ad.off + 1, none⟩ = some (.int .i64 (nP l 0).2) := by
  obtain ⟨y0, y1⟩ := pcells_get l 0 hl
  obtain ⟨ad, e, q1⟩ := h _ _ y0
  obtain ⟨ad2, e2, q2⟩ := h _ _ y1
  rw [e] at e2
  injection e2 with e2
  subst e2
  refine ⟨ad, e, by show w.cell? ad = some (.int .i64 (pT l 0)); simpa [Addr.add] using q1, ?_⟩
  have q3 := pairOff (i := 0 * 2) 1 (by omega) q2
  show w.cell? ⟨ad.block, ad.off + 1, none⟩ = some (.int .i64 (pB l 0))
  simpa [Addr.add] using q3

set_option maxRecDepth 100000 in
set_option maxHeartbeats 8000000 in
theorem caTail (F : List Int) (k : Int) (hF : 0 < F.length) (hFb : 0 ≤ nth F 0 ∧ nth F 0 ≤ 20) (hk : 0 ≤ k ∧ k ≤ 20) (gm : Nat) (x1 x2 : Value) (A3 : Option Addr) (c3 : Nat) (Aa Ab Ac Ad : Option Addr) (ca cb cc cd : Nat) (a b c d : List (Int × Int)) (ta tb tc td : Bool) (w0 w : World) (HB : Below w0.heap.size w0 w)
    (bx : Bx3 w gm x1 x2 (.slice A3 F.length c3)) (r3 : Rd w A3 (ints F)) (ra : Rd w Aa (pcells a)) (rb : Rd w Ab (pcells b)) (rc : Rd w Ac (pcells c)) (rd : Rd w Ad (pcells d))
    (HL : ta = true → tb = true → tc = true → td = true → CaLaw a b c d (nth F 0 - k)) (u0 u1 u2 u5 u6 u7 u8 u9 u10 u11 u12 u13 u14 u15 u16 u17 u18 u19 u20 u21 u22 u31 u32 u33 u34 u35 u36 u37 u38 u39 u40 u41 u42 u43 u44 u45 u46 u47 u48 u49 u50 u51 u52 u53 u54 u55 u56 u57 u58 u59 u60 u61 u62 u63 u64 u65 u66 u67 u68 u69 u70 u71 u72 u73 u74 u75 u76 u77 u78 u79 u80 u81 u82 u83 u84 u85 u86 u87 u88 u89 u90 u91 u92 u93 u94 u95 u96 u97 u98 u99 u100 u101 u102 u103 u104 u105 u106 u107 u108 u109 u110 u111 u112 u113 u114 u115 u116 u117 u118 u119 u120 u121 u122 u123 u124 u125 u126 u127 u128 u129 u130 u131 u132 u133 u134 u135 u136 u137 u138 u139 u140 u141 u142 u143 u144 u145 u146 u147 u148 u149 u150 u151 u152 u153 u154 u155 u156 u157 u158 u159 u160 u161 u162 u163 u164 u165 u166 u167 u168 u169 u170 u171 u172 u173 u174 u175 u176 u177 u178 u179 u180 u181 u182 u183 u184 u185 u186 u187 u188 u189 u190 u191 u192 u193 u194 u195 u196 u197 u198 u199 u200 u201 u202 u203 u204 u205 u206 u207 u208 u209 u210 u211 u212 u213 u214 u215 u216 u217 u218 u219 u220 u221 u222 u223 u224 u225 u226 u227 u228 u229 u230 u231 u232 u233 u234 u235 u236 u237 u238 u239 u240 u241 u242 u243 u244 u245 u246 u247 u248 u249 u250 u251 u252 u253 u254 u255 u256 u257 u258 u259 u260 u261 u262 u263 u264 u265 u266 u267 u268 u269 u270 u271 u272 u273 u274 u275 u276 u277 u278 u279 u280 u281 u282 u283 u284 u285 u286 u287 u288 u289 u290 u291 u292 u293 u294 u295 u296 u297 u298 u299 u300 u301 u302 u303 u304 u305 u306 u307 u308 u309 u310 u311 u312 u313 u314 u315 u316 u317 u318 u319 u320 u321 u322 u323 u324 u325 u326 u327 u328 u329 u330 u331 u332 : Value) :
    Code.wp Try.prog ca48 (bodyPost Try.prog Try.f3 fun e w' => e = .returned (.bool true) ∧ Below w0.heap.size w0 w') ⟨#[u0, u1, u2, .pointer (some ⟨gm, 0, none⟩), .int .i64 k, u5, u6, u7, u8, u9, u10, u11, u12, u13, u14, u15, u16, u17, u18, u19, u20, u21, u22, .slice Aa a.length ca, .bool ta, .slice Ab b.length cb, .bool tb, .slice Ac c.length cc, .bool tc, .slice Ad d.length cd, .bool td, u31, u32, u33, u34, u35, u36, u37, u38, u39, u40, u41, u42, u43, u44, u45, u46, u47, u48, u49, u50, u51, u52, u53, u54, u55, u56, u57, u58, u59, u60, u61, u62, u63, u64, u65, u66, u67, u68, u69, u70, u71, u72, u73, u74, u75, u76, u77, u78, u79, u80, u81, u82, u83, u84, u85, u86, u87, u88, u89, u90, u91, u92, u93, u94, u95, u96, u97, u98, u99, u100, u101, u102, u103, u104, u105, u106, u107, u108, u109, u110, u111, u112, u113, u114, u115, u116, u117, u118, u119, u120, u121, u122, u123, u124, u125, u126, u127, u128, u129, u130, u131, u132, u133, u134, u135, u136, u137, u138, u139, u140, u141, u142, u143, u144, u145, u146, u147, u148, u149, u150, u151, u152, u153, u154, u155, u156, u157, u158, u159, u160, u161, u162, u163, u164, u165, u166, u167, u168, u169, u170, u171, u172, u173, u174, u175, u176, u177, u178, u179, u180, u181, u182, u183, u184, u185, u186, u187, u188, u189, u190, u191, u192, u193, u194, u195, u196, u197, u198, u199, u200, u201, u202, u203, u204, u205, u206, u207, u208, u209, u210, u211, u212, u213, u214, u215, u216, u217, u218, u219, u220, u221, u222, u223, u224, u225, u226, u227, u228, u229, u230, u231, u232, u233, u234, u235, u236, u237, u238, u239, u240, u241, u242, u243, u244, u245, u246, u247, u248, u249, u250, u251, u252, u253, u254, u255, u256, u257, u258, u259, u260, u261, u262, u263, u264, u265, u266, u267, u268, u269, u270, u271, u272, u273, u274, u275, u276, u277, u278, u279, u280, u281, u282, u283, u284, u285, u286, u287, u288, u289, u290, u291, u292, u293, u294, u295, u296, u297, u298, u299, u300, u301, u302, u303, u304, u305, u306, u307, u308, u309, u310, u311, u312, u313, u314, u315, u316, u317, u318, u319, u320, u321, u322, u323, u324, u325, u326, u327, u328, u329, u330, u331, u332], []⟩ w := by
  conv => arg 2; whnf
  cases ta
  · go_wp2_with fail
    go_ret
    exact ⟨rfl, HB⟩
  cases tb
  · go_wp2_with fail
    go_ret
    exact ⟨rfl, HB⟩
  cases tc
  · go_wp2_with fail
    go_ret
    exact ⟨rfl, HB⟩
  cases td
  · go_wp2_with fail
    go_ret
    exact ⟨rfl, HB⟩
  obtain ⟨la, lb, lc, ld, fa, fb, fc, fd, q1, q2⟩ := HL rfl rfl rfl rfl
  obtain ⟨aa, rfl, a0, a1⟩ := head_cells ra la
  obtain ⟨ab, rfl, b0, b1⟩ := head_cells rb lb
  obtain ⟨ac, rfl, c0, c1⟩ := head_cells rc lc
  obtain ⟨ad, rfl, d0, d1⟩ := head_cells rd ld
  obtain ⟨af, rfl, f0⟩ := r3.intN hF
  have f0 : w.cell? af = some (.int .i64 (nth F 0)) := by simpa [Addr.add] using f0
  obtain ⟨k0, k1, k2, k3⟩ := bx
  obtain ⟨fa1, fa2, -⟩ := frP_iff.1 fa
  obtain ⟨fb1, fb2, -⟩ := frP_iff.1 fb
  obtain ⟨fc1, fc2, -⟩ := frP_iff.1 fc
  obtain ⟨fd1, fd2, -⟩ := frP_iff.1 fd
  have Q1 := Lib.hid q1
  have Q2 := Lib.hid q2
  have e1 : IntKind.i64.wrap (nth F 0 - k) = nth F 0 - k := IntWalk.i64_in _ (by omega)
  have iF : (0 : Int) < (F.length : Int) := by omega
  have ia : (0 : Int) < (a.length : Int) := by omega
  have ib : (0 : Int) < (b.length : Int) := by omega
  have ic : (0 : Int) < (c.length : Int) := by omega
  have id_ : (0 : Int) < (d.length : Int) := by omega
  clear HL ra rb rc rd r3 fa fb fc fd q1 q2 hF
  generalize (nP a 0).1 = pa at *
  generalize (nP a 0).2 = qa at *
  generalize (nP b 0).1 = pb at *
  generalize (nP b 0).2 = qb at *
  generalize (nP c 0).1 = pc at *
  generalize (nP c 0).2 = qc at *
  generalize (nP d 0).1 = pd at *
  generalize (nP d 0).2 = qd at *
  have gb : -20 ≤ nth F 0 - k ∧ nth F 0 - k ≤ 20 := by omega
  have m1 := mulA_bd (A := 20) (B := 1000000) gb.1 gb.2 (y := qb) (by omega) (by omega) (by decide)
  have m2 := mulA_bd (A := 20) (B := 1000000) gb.1 gb.2 (y := qd) (by omega) (by omega) (by decide)
  go_upto_region 50 with fail
  go_wp2_with fail
  clear e1 f0 k0 k1 k2 k3 iF
  generalize nth F 0 - k = g at *
  have e2 : IntKind.i64.wrap (g * qb) = g * qb := IntWalk.i64_in _ (by omega)
  have e3 : IntKind.i64.wrap (pb + g * qb) = pb + g * qb := IntWalk.i64_in _ (by omega)
  have e4 : IntKind.i64.wrap (g * qd) = g * qd := IntWalk.i64_in _ (by omega)
  have e5 : IntKind.i64.wrap (pd + g * qd) = pd + g * qd := IntWalk.i64_in _ (by omega)
  have hh : -1100000000 ≤ pb + g * qb ∧ pb + g * qb ≤ 1100000000 := by omega
  have hl : -1100000000 ≤ pd + g * qd ∧ pd + g * qd ≤ 1100000000 := by omega
  have A0 := Lib.hid a0
  have A1' := Lib.hid a1
  have C0 := Lib.hid c0
  have C1 := Lib.hid c1
  have D0 := Lib.hid d0
  have D1 := Lib.hid d1
  clear a0 a1 c0 c1 d0 d1
  have hd3 : Below w.heap.size w w.drew := Below.drew (Below.refl _ _)
  have SK3 : Hid (∀ w', Below w.heap.size w w' → w'.cell? ab = some (.int .i64 pb) ∧ w'.cell? ⟨ab.block, ab.off + 1, none⟩ = some (.int .i64 qb)) := Lib.hid fun w' HV => ⟨(HV.cell (cell_lt b0)).trans b0, (HV.cell (cell_lt b1)).trans b1⟩
  clear b0 b1
  have hS3_0 := SK3.out _ hd3
  refine tamed_region (S := fun w' => w'.cell? ab = some (.int .i64 pb) ∧ w'.cell? ⟨ab.block, ab.off + 1, none⟩ = some (.int .i64 qb)) (fun k => k == 17) (by kernel_rfl) ?_
  refine tame0 (k := 0) ?_ rfl (by kernel_rfl) (by kernel_rfl) (by kernel_rfl) (fun _ _ _ h => h) (by kernel_rfl) (fun v => ?_) ?_
  rotate_left
  · (go_simp; all_goals rfl)
  simp only [Act.put, List.setIfInBounds_toArray]
  refine tame0 (k := 1) ?_ rfl (by kernel_rfl) (by kernel_rfl) (by kernel_rfl) (fun _ _ _ h => h) (by kernel_rfl) (fun v => ?_) ?_
  rotate_left
  · (go_simp; all_goals rfl)
  simp only [Act.put]
  refine tame0 (k := 2) ?_ rfl (by kernel_rfl) (by kernel_rfl) (by kernel_rfl) (fun _ _ _ h => h) (by kernel_rfl) (fun v => ?_) ?_
  rotate_left
  · (go_simp; all_goals rfl)
  simp only [Act.put]
  refine tameT (k := 3) ?_ rfl (by kernel_rfl) (by kernel_rfl) (by kernel_rfl) (by kernel_rfl) (by kernel_rfl) (fun _ _ _ h => h) (by kernel_rfl) hS3_0 (fun v hv => ?_) ?_
  rotate_left
  · (obtain ⟨k1, k2⟩ := hv; go_simp; all_goals rfl)
  simp only [Act.put]
  refine tame0 (k := 4) ?_ rfl (by kernel_rfl) (by kernel_rfl) (by kernel_rfl) (fun _ _ _ h => h) (by kernel_rfl) (fun v => ?_) ?_
  rotate_left
  · (go_simp; all_goals rfl)
  simp only [Act.put]
  refine tame0 (k := 5) ?_ rfl (by kernel_rfl) (by kernel_rfl) (by kernel_rfl) (fun _ _ _ h => h) (by kernel_rfl) (fun v => ?_) ?_
  rotate_left
  · (go_simp; all_goals rfl)
  simp only [Act.put]
  refine tame0 (k := 6) ?_ rfl (by kernel_rfl) (by kernel_rfl) (by kernel_rfl) (fun _ _ _ h => h) (by kernel_rfl) (fun v => ?_) ?_
  rotate_left
  · (go_simp; all_goals rfl)
  simp only [Act.put]
  refine tame0 (k := 7) ?_ rfl (by kernel_rfl) (by kernel_rfl) (by kernel_rfl) (fun _ _ _ h => h) (by kernel_rfl) (fun v => ?_) ?_
  rotate_left
  · (go_simp; all_goals rfl)
  simp only [Act.put]
  refine tameT (k := 8) ?_ rfl (by kernel_rfl) (by kernel_rfl) (by kernel_rfl) (by kernel_rfl) (by kernel_rfl) (fun _ _ _ h => h) (by kernel_rfl) hS3_0 (fun v hv => ?_) ?_
  rotate_left
  · (obtain ⟨k1, k2⟩ := hv; go_simp; all_goals rfl)
  simp only [Act.put]
  refine tame0 (k := 9) ?_ rfl (by kernel_rfl) (by kernel_rfl) (by kernel_rfl) (fun _ _ _ h => h) (by kernel_rfl) (fun v => ?_) ?_
  rotate_left
  · (go_simp; all_goals rfl)
  simp only [Act.put]
  refine tame0 (k := 10) ?_ rfl (by kernel_rfl) (by kernel_rfl) (by kernel_rfl) (fun _ _ _ h => h) (by kernel_rfl) (fun v => ?_) ?_
  rotate_left
  · (go_simp; all_goals rfl)
  simp only [Act.put]
  refine tame0 (k := 11) ?_ rfl (by kernel_rfl) (by kernel_rfl) (by kernel_rfl) (fun _ _ _ h => h) (by kernel_rfl) (fun v => ?_) ?_
  rotate_left
  · (go_simp; all_goals rfl)
  simp only [Act.put]
  refine tame0 (k := 12) ?_ rfl (by kernel_rfl) (by kernel_rfl) (by kernel_rfl) (fun _ _ _ h => h) (by kernel_rfl) (fun v => ?_) ?_
  rotate_left
  · (go_simp; all_goals rfl)
  simp only [Act.put]
  refine tame0 (k := 13) ?_ rfl (by kernel_rfl) (by kernel_rfl) (by kernel_rfl) (fun _ _ _ h => h) (by kernel_rfl) (fun v => ?_) ?_
  rotate_left
  · (go_simp; all_goals rfl)
  simp only [Act.put]
  refine tameT (k := 14) ?_ rfl (by kernel_rfl) (by kernel_rfl) (by kernel_rfl) (by kernel_rfl) (by kernel_rfl) (fun _ _ _ h => h) (by kernel_rfl) hS3_0 (fun v hv => ?_) ?_
  rotate_left
  · (obtain ⟨k1, k2⟩ := hv; go_simp; all_goals rfl)
  simp only [Act.put]
  refine tame0 (k := 15) ?_ rfl (by kernel_rfl) (by kernel_rfl) (by kernel_rfl) (fun _ _ _ h => h) (by kernel_rfl) (fun v => ?_) ?_
  rotate_left
  · (go_simp; all_goals rfl)
  simp only [Act.put]
  have Hal : Below w.heap.size w (w.alloc (.cells #[.int .i64 0, .int .i64 0] 40)) := (Below.refl _ _).alloc (Nat.le_refl _) _
  refine tame_one (k := 16) (by kernel_rfl) rfl (by kernel_rfl) ?_
  go_simp
  refine ⟨SK3.out _ Hal, ?_⟩
  refine tame_one (k := 17) (by kernel_rfl) rfl (by kernel_rfl) ?_
  go_simp
  try (refine ⟨fun h => absurd h (by decide), ?_⟩)
  refine tame_end (by kernel_rfl) ?_
  clear hd3 SK3 Hal
  go_upto_region 52 with fail
  have H1 : Below w.heap.size w (w.alloc (.cells #[.int .i64 (pb + g * qb), .int .i64 qb] 40)).drew := Below.drew ((Below.refl _ _).alloc (Nat.le_refl _) _)
  have X1 : Hid (Bx (w.alloc (.cells #[.int .i64 (pb + g * qb), .int .i64 qb] 40)).drew w.heap.size (.int .i64 (pb + g * qb)) (.int .i64 qb)) := Lib.hid (Bx.new w (.int .i64 (pb + g * qb)) (.int .i64 qb) 40)
  obtain ⟨p1, hp1⟩ : ∃ p1, p1 = w.heap.size := ⟨_, rfl⟩
  have lw1 : p1 < (w.alloc (.cells #[.int .i64 (pb + g * qb), .int .i64 qb] 40)).drew.heap.size := by rw [hp1]; exact X1.out.2.2.2.2
  generalize (w.alloc (.cells #[.int .i64 (pb + g * qb), .int .i64 qb] 40)).drew = w1 at *
  have d0 := (H1.cell (cell_lt D0.out)).trans D0.out
  have d1 := (H1.cell (cell_lt D1.out)).trans D1.out
  have A0' := Lib.hid ((H1.cell (cell_lt A0.out)).trans A0.out)
  have A1'' := Lib.hid ((H1.cell (cell_lt A1'.out)).trans A1'.out)
  have C0' := Lib.hid ((H1.cell (cell_lt C0.out)).trans C0.out)
  have C1' := Lib.hid ((H1.cell (cell_lt C1.out)).trans C1.out)
  have HB1 := bUp HB H1 HB.size
  rw [← hp1] at X1 ⊢
  clear hp1 H1 HB A0 A1' C0 C1 D0 D1
  have hd2 : Below w1.heap.size w1 w1.drew := Below.drew (Below.refl _ _)
  have SK2 : Hid (∀ w', Below w1.heap.size w1 w' → w'.cell? ad = some (.int .i64 pd) ∧ w'.cell? ⟨ad.block, ad.off + 1, none⟩ = some (.int .i64 qd)) := Lib.hid fun w' HV => ⟨(HV.cell (cell_lt d0)).trans d0, (HV.cell (cell_lt d1)).trans d1⟩
  clear d0 d1
  have hS2_0 := SK2.out _ hd2
  refine tamed_region (S := fun w' => w'.cell? ad = some (.int .i64 pd) ∧ w'.cell? ⟨ad.block, ad.off + 1, none⟩ = some (.int .i64 qd)) (fun k => k == 17) (by kernel_rfl) ?_
  refine tame0 (k := 0) ?_ rfl (by kernel_rfl) (by kernel_rfl) (by kernel_rfl) (fun _ _ _ h => h) (by kernel_rfl) (fun v => ?_) ?_
  rotate_left
  · (go_simp; all_goals rfl)
  simp only [Act.put, List.setIfInBounds_toArray]
  refine tame0 (k := 1) ?_ rfl (by kernel_rfl) (by kernel_rfl) (by kernel_rfl) (fun _ _ _ h => h) (by kernel_rfl) (fun v => ?_) ?_
  rotate_left
  · (go_simp; all_goals rfl)
  simp only [Act.put]
  refine tame0 (k := 2) ?_ rfl (by kernel_rfl) (by kernel_rfl) (by kernel_rfl) (fun _ _ _ h => h) (by kernel_rfl) (fun v => ?_) ?_
  rotate_left
  · (go_simp; all_goals rfl)
  simp only [Act.put]
  refine tameT (k := 3) ?_ rfl (by kernel_rfl) (by kernel_rfl) (by kernel_rfl) (by kernel_rfl) (by kernel_rfl) (fun _ _ _ h => h) (by kernel_rfl) hS2_0 (fun v hv => ?_) ?_
  rotate_left
  · (obtain ⟨k1, k2⟩ := hv; go_simp; all_goals rfl)
  simp only [Act.put]
  refine tame0 (k := 4) ?_ rfl (by kernel_rfl) (by kernel_rfl) (by kernel_rfl) (fun _ _ _ h => h) (by kernel_rfl) (fun v => ?_) ?_
  rotate_left
  · (go_simp; all_goals rfl)
  simp only [Act.put]
  refine tame0 (k := 5) ?_ rfl (by kernel_rfl) (by kernel_rfl) (by kernel_rfl) (fun _ _ _ h => h) (by kernel_rfl) (fun v => ?_) ?_
  rotate_left
  · (go_simp; all_goals rfl)
  simp only [Act.put]
  refine tame0 (k := 6) ?_ rfl (by kernel_rfl) (by kernel_rfl) (by kernel_rfl) (fun _ _ _ h => h) (by kernel_rfl) (fun v => ?_) ?_
  rotate_left
  · (go_simp; all_goals rfl)
  simp only [Act.put]
  refine tame0 (k := 7) ?_ rfl (by kernel_rfl) (by kernel_rfl) (by kernel_rfl) (fun _ _ _ h => h) (by kernel_rfl) (fun v => ?_) ?_
  rotate_left
  · (go_simp; all_goals rfl)
  simp only [Act.put]
  refine tameT (k := 8) ?_ rfl (by kernel_rfl) (by kernel_rfl) (by kernel_rfl) (by kernel_rfl) (by kernel_rfl) (fun _ _ _ h => h) (by kernel_rfl) hS2_0 (fun v hv => ?_) ?_
  rotate_left
  · (obtain ⟨k1, k2⟩ := hv; go_simp; all_goals rfl)
  simp only [Act.put]
  refine tame0 (k := 9) ?_ rfl (by kernel_rfl) (by kernel_rfl) (by kernel_rfl) (fun _ _ _ h => h) (by kernel_rfl) (fun v => ?_) ?_
  rotate_left
  · (go_simp; all_goals rfl)
  simp only [Act.put]
  refine tame0 (k := 10) ?_ rfl (by kernel_rfl) (by kernel_rfl) (by kernel_rfl) (fun _ _ _ h => h) (by kernel_rfl) (fun v => ?_) ?_
  rotate_left
  · (go_simp; all_goals rfl)
  simp only [Act.put]
  refine tame0 (k := 11) ?_ rfl (by kernel_rfl) (by kernel_rfl) (by kernel_rfl) (fun _ _ _ h => h) (by kernel_rfl) (fun v => ?_) ?_
  rotate_left
  · (go_simp; all_goals rfl)
  simp only [Act.put]
  refine tame0 (k := 12) ?_ rfl (by kernel_rfl) (by kernel_rfl) (by kernel_rfl) (fun _ _ _ h => h) (by kernel_rfl) (fun v => ?_) ?_
  rotate_left
  · (go_simp; all_goals rfl)
  simp only [Act.put]
  refine tame0 (k := 13) ?_ rfl (by kernel_rfl) (by kernel_rfl) (by kernel_rfl) (fun _ _ _ h => h) (by kernel_rfl) (fun v => ?_) ?_
  rotate_left
  · (go_simp; all_goals rfl)
  simp only [Act.put]
  refine tameT (k := 14) ?_ rfl (by kernel_rfl) (by kernel_rfl) (by kernel_rfl) (by kernel_rfl) (by kernel_rfl) (fun _ _ _ h => h) (by kernel_rfl) hS2_0 (fun v hv => ?_) ?_
  rotate_left
  · (obtain ⟨k1, k2⟩ := hv; go_simp; all_goals rfl)
  simp only [Act.put]
  refine tame0 (k := 15) ?_ rfl (by kernel_rfl) (by kernel_rfl) (by kernel_rfl) (fun _ _ _ h => h) (by kernel_rfl) (fun v => ?_) ?_
  rotate_left
  · (go_simp; all_goals rfl)
  simp only [Act.put]
  have Hal : Below w1.heap.size w1 (w1.alloc (.cells #[.int .i64 0, .int .i64 0] 40)) := (Below.refl _ _).alloc (Nat.le_refl _) _
  refine tame_one (k := 16) (by kernel_rfl) rfl (by kernel_rfl) ?_
  go_simp
  refine ⟨SK2.out _ Hal, ?_⟩
  refine tame_one (k := 17) (by kernel_rfl) rfl (by kernel_rfl) ?_
  go_simp
  try (refine ⟨fun h => absurd h (by decide), ?_⟩)
  refine tame_end (by kernel_rfl) ?_
  clear hd2 SK2 Hal
  go_upto_region 53 with fail
  have H2 : Below w1.heap.size w1 (w1.alloc (.cells #[.int .i64 (pd + g * qd), .int .i64 qd] 40)).drew := Below.drew ((Below.refl _ _).alloc (Nat.le_refl _) _)
  have X2 : Hid (Bx (w1.alloc (.cells #[.int .i64 (pd + g * qd), .int .i64 qd] 40)).drew w1.heap.size (.int .i64 (pd + g * qd)) (.int .i64 qd)) := Lib.hid (Bx.new w1 (.int .i64 (pd + g * qd)) (.int .i64 qd) 40)
  obtain ⟨p2, hp2⟩ : ∃ p2, p2 = w1.heap.size := ⟨_, rfl⟩
  generalize (w1.alloc (.cells #[.int .i64 (pd + g * qd), .int .i64 qd] 40)).drew = w2 at *
  have X1' := Lib.hid (X1.out.below H2)
  have a0 := (H2.cell (cell_lt A0'.out)).trans A0'.out
  have a1 := (H2.cell (cell_lt A1''.out)).trans A1''.out
  have c0 := (H2.cell (cell_lt C0'.out)).trans C0'.out
  have c1 := (H2.cell (cell_lt C1'.out)).trans C1'.out
  have HB2 := bUp HB1 H2 HB1.size
  rw [← hp2] at X2 ⊢
  clear hp2 H2 HB1 A0' A1'' C0' C1' X1
  have x0 := X1'.out.1
  have x1 := X1'.out.2.1
  have x5 := X1'.out.2.2.2.2
  have y0 := X2.out.1
  have y1 := X2.out.2.1
  have y5 := X2.out.2.2.2.2
  generalize pb + g * qb = ph at *
  generalize pd + g * qd = pl at *
  have hd1 : Below w2.heap.size w2 w2.drew := Below.drew (Below.refl _ _)
  have SK1 : Hid (∀ w', Below w2.heap.size w2 w' → w'.cell? aa = some (.int .i64 pa) ∧ w'.cell? ⟨aa.block, aa.off + 1, none⟩ = some (.int .i64 qa) ∧ w'.cell? ac = some (.int .i64 pc) ∧ w'.cell? ⟨ac.block, ac.off + 1, none⟩ = some (.int .i64 qc) ∧ w'.cell? ⟨p1, 0, none⟩ = some (.int .i64 ph) ∧ w'.cell? ⟨p1, 1, none⟩ = some (.int .i64 qb) ∧ w'.cell? ⟨p2, 0, none⟩ = some (.int .i64 pl) ∧ w'.cell? ⟨p2, 1, none⟩ = some (.int .i64 qd)) := Lib.hid fun w' HV => ⟨(HV.cell (cell_lt a0)).trans a0, (HV.cell (cell_lt a1)).trans a1, (HV.cell (cell_lt c0)).trans c0, (HV.cell (cell_lt c1)).trans c1, (HV.cell (p := ⟨p1, 0, none⟩) x5).trans x0, (HV.cell (p := ⟨p1, 1, none⟩) x5).trans x1, (HV.cell (p := ⟨p2, 0, none⟩) y5).trans y0, (HV.cell (p := ⟨p2, 1, none⟩) y5).trans y1⟩
  clear a0 a1 c0 c1 x0 x1 y0 y1
  have hS1_0 := SK1.out _ hd1
  refine tamed_region (S := fun w' => w'.cell? aa = some (.int .i64 pa) ∧ w'.cell? ⟨aa.block, aa.off + 1, none⟩ = some (.int .i64 qa) ∧ w'.cell? ac = some (.int .i64 pc) ∧ w'.cell? ⟨ac.block, ac.off + 1, none⟩ = some (.int .i64 qc) ∧ w'.cell? ⟨p1, 0, none⟩ = some (.int .i64 ph) ∧ w'.cell? ⟨p1, 1, none⟩ = some (.int .i64 qb) ∧ w'.cell? ⟨p2, 0, none⟩ = some (.int .i64 pl) ∧ w'.cell? ⟨p2, 1, none⟩ = some (.int .i64 qd)) (fun _ => false) (by kernel_rfl) ?_
  refine tame0 (k := 0) ?_ rfl (by kernel_rfl) (by kernel_rfl) (by kernel_rfl) (fun _ _ _ h => h) (by kernel_rfl) (fun v => ?_) ?_
  rotate_left
  · (go_simp; all_goals rfl)
  simp only [Act.put, List.setIfInBounds_toArray]
  refine tame0 (k := 1) ?_ rfl (by kernel_rfl) (by kernel_rfl) (by kernel_rfl) (fun _ _ _ h => h) (by kernel_rfl) (fun v => ?_) ?_
  rotate_left
  · (go_simp; all_goals rfl)
  simp only [Act.put]
  refine tame (k := 2) ?_ rfl (by kernel_rfl) (by kernel_rfl) (by kernel_rfl) (by kernel_rfl) (fun _ _ _ h => h) (by kernel_rfl) hS1_0 (fun v hv => ?_) ?_
  rotate_left
  · (obtain ⟨k1, k2, k3, k4, k5, k6, k7, k8⟩ := hv; go_simp; all_goals rfl)
  simp only [Act.put]
  refine tame (k := 3) ?_ rfl (by kernel_rfl) (by kernel_rfl) (by kernel_rfl) (by kernel_rfl) (fun _ _ _ h => h) (by kernel_rfl) hS1_0 (fun v hv => ?_) ?_
  rotate_left
  · (obtain ⟨k1, k2, k3, k4, k5, k6, k7, k8⟩ := hv; go_simp; all_goals rfl)
  simp only [Act.put]
  refine tame_one (k := 4) (by kernel_rfl) rfl (by kernel_rfl) ?_
  go_simp
  refine (rLess_is _ _ _ _ false Q1.out (by omega) (by omega) (by omega) (by omega) _).mono ?_
  rintro e w3 ⟨rfl, b3⟩
  have hd1_1 := bUp hd1 b3 (Nat.le_refl _)
  have hS1_1 := Lib.hid (SK1.out _ hd1_1)
  refine ⟨by first | exact hS1_1 | exact Hid.out hS1_1, ?_⟩
  refine tame0 (k := 5) ?_ rfl (by kernel_rfl) (by kernel_rfl) (by kernel_rfl) (fun _ _ _ h => h) (by kernel_rfl) (fun v => ?_) ?_
  rotate_left
  · (go_simp; all_goals rfl)
  simp only [Act.put]
  refine tame0 (k := 6) ?_ rfl (by kernel_rfl) (by kernel_rfl) (by kernel_rfl) (fun _ _ _ h => h) (by kernel_rfl) (fun v => ?_) ?_
  rotate_left
  · (go_simp; all_goals rfl)
  simp only [Act.put]
  have hS1_1o := Hid.out hS1_1
  refine tame (k := 7) ?_ rfl (by kernel_rfl) (by kernel_rfl) (by kernel_rfl) (by kernel_rfl) (fun _ _ _ h => h) (by kernel_rfl) hS1_1o (fun v hv => ?_) ?_
  rotate_left
  · (obtain ⟨k1, k2, k3, k4, k5, k6, k7, k8⟩ := hv; go_simp; all_goals rfl)
  simp only [Act.put]
  refine tame0 (k := 8) ?_ rfl (by kernel_rfl) (by kernel_rfl) (by kernel_rfl) (fun _ _ _ h => h) (by kernel_rfl) (fun v => ?_) ?_
  rotate_left
  · (go_simp; all_goals rfl)
  simp only [Act.put]
  refine tame0 (k := 9) ?_ rfl (by kernel_rfl) (by kernel_rfl) (by kernel_rfl) (fun _ _ _ h => h) (by kernel_rfl) (fun v => ?_) ?_
  rotate_left
  · (go_simp; all_goals rfl)
  simp only [Act.put]
  refine tame (k := 10) ?_ rfl (by kernel_rfl) (by kernel_rfl) (by kernel_rfl) (by kernel_rfl) (fun _ _ _ h => h) (by kernel_rfl) hS1_1o (fun v hv => ?_) ?_
  rotate_left
  · (obtain ⟨k1, k2, k3, k4, k5, k6, k7, k8⟩ := hv; go_simp; all_goals rfl)
  simp only [Act.put]
  refine tame_one (k := 11) (by kernel_rfl) rfl (by kernel_rfl) ?_
  go_simp
  refine (rLess_is _ _ _ _ false Q2.out (by omega) (by omega) (by omega) (by omega) _).mono ?_
  rintro e w4 ⟨rfl, b4⟩
  have hd1_2 := bUp hd1_1 b4 hd1_1.size
  have hS1_2 := Lib.hid (SK1.out _ hd1_2)
  refine ⟨by first | exact hS1_2 | exact Hid.out hS1_2, ?_⟩
  refine tame0 (k := 12) ?_ rfl (by kernel_rfl) (by kernel_rfl) (by kernel_rfl) (fun _ _ _ h => h) (by kernel_rfl) (fun v => ?_) ?_
  rotate_left
  · (go_simp; all_goals rfl)
  simp only [Act.put]
  refine tame0 (k := 13) ?_ rfl (by kernel_rfl) (by kernel_rfl) (by kernel_rfl) (fun _ _ _ h => h) (by kernel_rfl) (fun v => ?_) ?_
  rotate_left
  · (go_simp; all_goals rfl)
  simp only [Act.put]
  refine tame_one (k := 14) (by kernel_rfl) rfl (by kernel_rfl) ?_
  go_simp
  refine ⟨by first | exact hS1_2 | exact Hid.out hS1_2, ?_⟩
  refine tame_end (by kernel_rfl) ?_
  go_wp2_with fail
  go_ret
  exact ⟨rfl, bUp HB2 hd1_2 HB2.size⟩
end Go.Proofs.Ytnhclpajfejnoaa
