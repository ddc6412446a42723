/- The law FnRows: its walk (merged of RwQ RwR). -/
import Derived.Test.YtnhclpajfejnoaaRwP
import Derived.Test.YtnhclpajfejnoaaRwMN
import Derived.Test.YtnhclpajfejnoaaRwA
import Derived.Test.YtnhclpajfejnoaaFuW
import Derived.Test.YtnhclpajfejnoaaPrE
import Derived.Test.YtnhclpajfejnoaaPrI
import Derived.Test.YtnhclpajfejnoaaVw
import Derived.Test.YtnhclpajfejnoaaByt
import Derived.Test.YtnhclpajfejnoaaRwEF
import Derived.Test.YtnhclpajfejnoaaRwD
namespace Go.Proofs.Ytnhclpajfejnoaa
open Go.RowKit

theorem nameR {α : Type} (a : α) : ∃ b, a = b := ⟨a, rfl⟩
def las : List Int := [-5, 2, 4, 1, 12]
theorem las_len {j : Nat} (h : j ≤ 5) : (las.take j).length = j := by simp [las]; omega
theorem las_nth {j i : Nat} (h : i < j) : nth (las.take j) i = nth las i := by simp [nth, h]
theorem las_bd {i : Nat} (h : i < 5) : -99 ≤ nth las i ∧ nth las i ≤ 99 := by
  have : i = 0 ∨ i = 1 ∨ i = 2 ∨ i = 3 ∨ i = 4 := by omega
  rcases this with rfl | rfl | rfl | rfl | rfl <;> decide
theorem las_rowC {n : Nat} (hn : n ≤ 3) : RowC n (las.take (n + 1)) := ⟨las_len (by omega), fun i hi => by rw [las_nth (by omega)]; exact las_bd (by omega)⟩
/-- The claims of the first i ends. -/
def clR (xs es : List Int) (i : Nat) : List Int := (List.range i).map fun j => nth xs (upT (nth es j).toNat)
theorem clR_len (xs es : List Int) (i : Nat) : (clR xs es i).length = i := by simp [clR]
theorem clR_succ (xs es : List Int) (i : Nat) : clR xs es (i + 1) = clR xs es i ++ [nth xs (upT (nth es i).toNat)] := by simp [clR, List.range_succ]
theorem clR_nth {xs es : List Int} {i j : Nat} (h : j < i) : nth (clR xs es i) j = nth xs (upT (nth es j).toNat) := by simp [clR, nth, h]
/-- The claims are the ends', the row's values are worth their upper price. -/
structure RwFacts (k : Nat) (u d : Int) (P W F C xs : List Int) (ps : List (Int × Int)) (T U : Int) : Prop where
  pb : prB true P W F C = true
  pv : prV true P W F C = ps
  len : 0 < ps.length ∧ ps.length ≤ 24
  z : nP ps 0 = (T, U)
  rb : rwB (k : Int) u d xs = true
  rt : rwT (k : Int) u d xs = T
  ru : rwU (k : Int) u d xs = U
noncomputable def rw44 : Code := ((Try.f5.body.bind (restFrom 44)).getD .skip)
set_option maxRecDepth 100000 in
set_option maxHeartbeats 4000000 in
theorem rwEnd (A1 : Option Addr) (P : List Int) (c1 : Nat) (A2 : Option Addr) (W : List Int) (c2 : Nat) (A3 : Option Addr) (F : List Int) (c3 : Nat) (gm : Nat) (k : Nat) (u d : Int) (AC : Option Addr) (C : List Int) (cC : Nat) (AX : Option Addr) (xs : List Int) (cX : Nat) (ps : List (Int × Int)) (T U : Int) (hC : C.length ≤ 24) (hX : xs.length ≤ 24) (RF : Hid (RwFacts k u d P W F C xs ps T U)) (nC nX : Nat) (hnC : nC = C.length) (hnX : nX = xs.length)
    (w0 w : World) (HB : Below w0.heap.size w0 w) (h : RdM w A1 P A2 W A3 F) (bx : Bx3 w gm (.slice A1 P.length c1) (.slice A2 W.length c2) (.slice A3 F.length c3)) (rC : Rd w AC (ints C)) (rX : Rd w AX (ints xs)) (u0 u1 u2 u3 u4 u5 u6 u7 u8 u9 u10 u11 u12 u13 u14 u15 u16 u17 u18 u19 u20 u21 u22 u23 u24 u28 u30 u31 u32 u33 u34 u35 u36 u39 u40 u41 u42 u43 u44 u45 u46 u47 u48 u49 u50 u51 u52 u53 u54 u55 u56 u57 u58 u59 u60 u61 u62 u63 u64 u65 u66 u67 u68 u69 u70 u71 u72 u73 u74 u75 u76 u77 u78 u79 u80 u81 u82 u83 u84 u85 u86 u87 u88 u89 u90 u91 u92 u93 u94 u95 u96 u97 u98 u99 u100 u101 u102 u103 u104 u105 u106 u107 u108 u109 u110 u111 u112 u113 u114 u115 u116 u117 u118 u119 u120 u121 u122 u123 u124 u125 u126 u127 u128 u129 u130 u131 u132 u133 u134 u135 u136 u137 u138 u139 u140 u141 u142 u143 u144 u145 u146 u147 u148 u149 u150 u151 u152 u153 u154 u155 u156 u157 u158 u159 u160 u161 u162 u163 u164 u165 u166 u167 u168 u169 u170 u171 u172 u173 u174 u175 u176 u177 u178 u179 u180 u181 u182 u183 u184 u185 u186 u187 u188 u189 u190 u191 u192 u193 u194 u195 u196 u197 u198 u199 u200 u201 u202 u203 u204 u205 u206 u207 u208 u209 u210 u211 u212 u213 u214 u215 u216 u217 u218 u219 u220 u221 u222 u223 u224 u225 u226 u227 u228 u229 u230 u231 u232 u233 u234 u235 u236 u237 u238 u239 u240 u241 u242 u243 u244 u245 u246 u247 u248 u249 u250 u251 u252 u253 u254 u255 u256 u257 u258 u259 u260 u261 u262 u263 u264 u265 u266 u267 u268 u269 u270 u271 u272 u273 u274 u275 u276 u277 u278 u279 u280 u281 u282 u283 u284 u285 u286 u287 u288 u289 u290 u291 u292 u293 u294 u295 u296 u297 u298 u299 u300 u301 u302 u303 u304 u305 u306 u307 u308 u309 u310 u311 u312 u313 u314 u315 u316 u317 u318 u319 u320 : Value) :
    Code.wp Try.prog rw44 (bodyPost Try.prog Try.f5 fun e w' => e = .returned (.bool true) ∧ Below w0.heap.size w0 w') ⟨#[u0, u1, u2, u3, u4, u5, u6, u7, u8, u9, u10, u11, u12, u13, u14, u15, u16, u17, u18, u19, u20, u21, u22, u23, u24, .int .i64 (k : Int), .int .i64 u, .int .i64 d, u28, .pointer (some ⟨gm, 0, none⟩), u30, u31, u32, u33, u34, u35, u36, .slice AC nC cC, .slice AX nX cX, u39, u40, u41, u42, u43, u44, u45, u46, u47, u48, u49, u50, u51, u52, u53, u54, u55, u56, u57, u58, u59, u60, u61, u62, u63, u64, u65, u66, u67, u68, u69, u70, u71, u72, u73, u74, u75, u76, u77, u78, u79, u80, u81, u82, u83, u84, u85, u86, u87, u88, u89, u90, u91, u92, u93, u94, u95, u96, u97, u98, u99, u100, u101, u102, u103, u104, u105, u106, u107, u108, u109, u110, u111, u112, u113, u114, u115, u116, u117, u118, u119, u120, u121, u122, u123, u124, u125, u126, u127, u128, u129, u130, u131, u132, u133, u134, u135, u136, u137, u138, u139, u140, u141, u142, u143, u144, u145, u146, u147, u148, u149, u150, u151, u152, u153, u154, u155, u156, u157, u158, u159, u160, u161, u162, u163, u164, u165, u166, u167, u168, u169, u170, u171, u172, u173, u174, u175, u176, u177, u178, u179, u180, u181, u182, u183, u184, u185, u186, u187, u188, u189, u190, u191, u192, u193, u194, u195, u196, u197, u198, u199, u200, u201, u202, u203, u204, u205, u206, u207, u208, u209, u210, u211, u212, u213, u214, u215, u216, u217, u218, u219, u220, u221, u222, u223, u224, u225, u226, u227, u228, u229, u230, u231, u232, u233, u234, u235, u236, u237, u238, u239, u240, u241, u242, u243, u244, u245, u246, u247, u248, u249, u250, u251, u252, u253, u254, u255, u256, u257, u258, u259, u260, u261, u262, u263, u264, u265, u266, u267, u268, u269, u270, u271, u272, u273, u274, u275, u276, u277, u278, u279, u280, u281, u282, u283, u284, u285, u286, u287, u288, u289, u290, u291, u292, u293, u294, u295, u296, u297, u298, u299, u300, u301, u302, u303, u304, u305, u306, u307, u308, u309, u310, u311, u312, u313, u314, u315, u316, u317, u318, u319, u320], []⟩ w := by
  conv => arg 2; whnf
  subst hnC hnX
  have k0 := bx.1
  have k1 := bx.2.1
  have k2 := bx.2.2.1
  go_wp2_with fail
  have CC := implUpperPrices_c A1 P c1 A2 W c2 A3 F c3 AC C cC _ h rC (by omega)
  rw [RF.out.pv, RF.out.pb] at CC
  refine (CC).mono ?_
  rintro e w1 ⟨Ag, cg, rfl, og, bq⟩
  clear CC k0 k1 k2
  replace h := h.below bq (Nat.le_refl _)
  replace bx := bx.below bq
  replace rC := rC.below bq (Nat.le_refl _)
  replace rX := rX.below bq (Nat.le_refl _)
  have HB1 := bUp HB bq HB.size
  clear HB
  clear bq
  have rg := Rd.of_own og
  clear og
  have k0 := bx.1
  have k1 := bx.2.1
  have k2 := bx.2.2.1
  go_wp2_with fail
  have CC := specUpperPrices_c A1 P c1 A2 W c2 A3 F c3 AC C cC _ h rC (by omega)
  rw [RF.out.pv, RF.out.pb] at CC
  refine (CC).mono ?_
  rintro e w2 ⟨As, cs, rfl, os, bq⟩
  clear CC k0 k1 k2
  replace h := h.below bq (Nat.le_refl _)
  replace bx := bx.below bq
  replace rC := rC.below bq (Nat.le_refl _)
  replace rX := rX.below bq (Nat.le_refl _)
  replace rg := rg.below bq (Nat.le_refl _)
  have HB2 := bUp HB1 bq HB1.size
  clear HB1
  clear bq
  have rs := Rd.of_own os
  clear os
  have hps := RF.out.len
  go_wp2_with fail
  refine (rFracs_same Ag As ps _ _ cg cs _ rfl rfl rg rs (by omega)).mono ?_
  rintro e w3 ⟨rfl, bq⟩
  replace h := h.below bq (Nat.le_refl _)
  replace bx := bx.below bq
  replace rC := rC.below bq (Nat.le_refl _)
  replace rX := rX.below bq (Nat.le_refl _)
  replace rg := rg.below bq (Nat.le_refl _)
  replace rs := rs.below bq (Nat.le_refl _)
  have HB3 := bUp HB2 bq HB2.size
  clear HB2
  clear bq
  clear rs
  go_wp2_with fail
  have CC := implRv_c (k : Int) u d AX xs cX _ rX (by omega)
  rw [RF.out.rb, RF.out.rt, RF.out.ru] at CC
  refine (CC).mono ?_
  rintro e w4 ⟨rfl, bq⟩
  clear CC
  replace h := h.below bq (Nat.le_refl _)
  replace bx := bx.below bq
  replace rC := rC.below bq (Nat.le_refl _)
  replace rX := rX.below bq (Nat.le_refl _)
  replace rg := rg.below bq (Nat.le_refl _)
  have HB4 := bUp HB3 bq HB3.size
  clear HB3
  clear bq
  have blby_ : Below w4.heap.size w4 (w4.alloc (.cells #[.int .i64 (T), .int .i64 (U)] 40)) := (Below.refl _ _).alloc (Nat.le_refl _) _
  replace h := h.below blby_ (Nat.le_refl _)
  replace bx := bx.below blby_
  replace rC := rC.below blby_ (Nat.le_refl _)
  replace rX := rX.below blby_ (Nat.le_refl _)
  replace rg := rg.below blby_ (Nat.le_refl _)
  have HB5 := bUp HB4 blby_ HB4.size
  clear HB4
  have by_ := Bx.new w4 (.int .i64 (T)) (.int .i64 (U)) 40
  clear blby_
  go_upto_region 49 with fail
  generalize (w4.alloc (.cells #[.int .i64 (T), .int .i64 (U)] 40)) = v4 at *
  obtain ⟨gb, hgb⟩ : ∃ gb, gb = w4.heap.size := ⟨_, rfl⟩
  rw [← hgb] at by_ ⊢
  clear hgb
  obtain ⟨y0, y1, _, _, yz⟩ := id by_
  obtain ⟨z0, z1⟩ := pcells_get ps 0 hps.1
  obtain ⟨ad, rfl, q1⟩ := rg _ _ z0
  obtain ⟨_, e, q2⟩ := rg _ _ z1
  injection e with e
  subst e
  rw [show pT ps 0 = T from congrArg Prod.fst RF.out.z] at q1
  rw [show pB ps 0 = U from congrArg Prod.snd RF.out.z] at q2
  have q1' : v4.cell? ad = some (.int .i64 T) := q1
  have q2' : v4.cell? ⟨ad.block, ad.off + 1, none⟩ = some (.int .i64 U) := q2
  clear q1 q2 z0 z1
  have PE := fun w => (pair_eq T U T U w).trans (by rw [BEq.rfl, BEq.rfl, Bool.and_self])
  have ip : (0 : Int) < (ps.length : Int) := by omega
  have hd1 : Below v4.heap.size v4 v4.drew := Below.drew (Below.refl _ _)
  have SK1 : Hid (∀ w', Below v4.heap.size v4 w' → w'.cell? ad = some (.int .i64 T) ∧ w'.cell? ⟨ad.block, ad.off + 1, none⟩ = some (.int .i64 U) ∧ w'.cell? ⟨gb, 0, none⟩ = some (.int .i64 T) ∧ w'.cell? ⟨gb, 1, none⟩ = some (.int .i64 U)) := Lib.hid fun w' HV => ⟨(HV.cell (cell_lt q1')).trans q1', (HV.cell (cell_lt q2')).trans q2', (HV.cell (p := ⟨gb, 0, none⟩) yz).trans y0, (HV.cell (p := ⟨gb, 1, none⟩) yz).trans y1⟩
  clear q1' q2' y0 y1
  have hS1_0 := SK1.out _ hd1
  refine tamed_region (S := fun w' => w'.cell? ad = some (.int .i64 T) ∧ w'.cell? ⟨ad.block, ad.off + 1, none⟩ = some (.int .i64 U) ∧ w'.cell? ⟨gb, 0, none⟩ = some (.int .i64 T) ∧ w'.cell? ⟨gb, 1, none⟩ = some (.int .i64 U)) (fun _ => false) (by kernel_rfl) ?_
  refine tame0 (k := 0) ?_ rfl (by kernel_rfl) (by kernel_rfl) (by kernel_rfl) (fun _ _ _ h => h) (by kernel_rfl) (fun v => ?_) ?_
  rotate_left
  · (go_simp; all_goals rfl)
  simp only [Act.put, List.setIfInBounds_toArray]
  refine tame0 (k := 1) ?_ rfl (by kernel_rfl) (by kernel_rfl) (by kernel_rfl) (fun _ _ _ h => h) (by kernel_rfl) (fun v => ?_) ?_
  rotate_left
  · (go_simp; all_goals rfl)
  simp only [Act.put]
  refine tame0 (k := 2) ?_ rfl (by kernel_rfl) (by kernel_rfl) (by kernel_rfl) (fun _ _ _ h => h) (by kernel_rfl) (fun v => ?_) ?_
  rotate_left
  · (go_simp; all_goals rfl)
  simp only [Act.put]
  refine tame0 (k := 3) ?_ rfl (by kernel_rfl) (by kernel_rfl) (by kernel_rfl) (fun _ _ _ h => h) (by kernel_rfl) (fun v => ?_) ?_
  rotate_left
  · (go_simp; all_goals rfl)
  simp only [Act.put]
  refine tame (k := 4) ?_ rfl (by kernel_rfl) (by kernel_rfl) (by kernel_rfl) (by kernel_rfl) (fun _ _ _ h => h) (by kernel_rfl) hS1_0 (fun v hv => ?_) ?_
  rotate_left
  · (obtain ⟨k1, k2, k3, k4⟩ := hv; go_simp; all_goals rfl)
  simp only [Act.put]
  refine tame (k := 5) ?_ rfl (by kernel_rfl) (by kernel_rfl) (by kernel_rfl) (by kernel_rfl) (fun _ _ _ h => h) (by kernel_rfl) hS1_0 (fun v hv => ?_) ?_
  rotate_left
  · (obtain ⟨k1, k2, k3, k4⟩ := hv; go_simp; all_goals rfl)
  simp only [Act.put]
  have hS1_0v := Lib.hid hS1_0
  clear hS1_0
  refine tame_one (k := 6) (by kernel_rfl) rfl (by kernel_rfl) ?_
  go_simp
  refine ⟨by first | exact hS1_0v | exact Hid.out hS1_0v, ?_⟩
  refine tame_one (k := 7) (by kernel_rfl) rfl (by kernel_rfl) ?_
  go_simp
  refine ⟨by first | exact hS1_0v | exact Hid.out hS1_0v, ?_⟩
  refine tame_one (k := 8) (by kernel_rfl) rfl (by kernel_rfl) ?_
  go_simp
  refine ⟨by first | exact hS1_0v | exact Hid.out hS1_0v, ?_⟩
  refine tame_end (by kernel_rfl) ?_
  go_wp2_with fail
  go_ret
  exact ⟨rfl, bUp HB5 hd1 HB5.size⟩
/-- What the law needs of the market. -/
structure RwMkt (k : Nat) (u d p : Int) (P W F : List Int) : Prop where
  ok : RmOk k u d p
  eP : P = rmP (rmK k)
  eW : W = ownW (rmP (rmK k))
  eF : F = rmF u d p (rmK k)
theorem RwMkt.full {k : Nat} {u d p : Int} {P W F : List Int} (h : RwMkt k u d p P W F) : fuV P W F = true ∧ sndB P W F = true ∧ treeB P W = true ∧ eoV P W = endL P ∧ (endL P).length ≤ 24 := by
  rw [h.eP, h.eW, h.eF]
  have ht := treeB_iff.2 h.ok.tree
  refine ⟨h.ok.full, h.ok.snd, ht, if_pos ht, Nat.le_trans (enTo_len _ _) h.ok.tree.n2⟩
/-- An end's price tells how often it went up. -/
theorem RwMkt.end_ {k : Nat} {u d p : Int} {P W F : List Int} (h : RwMkt k u d p P W F) {i : Nat} (hi : i < (endL P).length) :
    ∃ y : Nat, nth (endL P) i = (y : Int) ∧ y < F.length ∧ upT y ≤ k ∧ (0 ≤ nth F y ∧ nth F y ≤ 20) ∧ nth F y - p + (k : Int) * d = (upT y : Int) * (u + d) := by
  have e1 := h.eP
  have e2 := h.eF
  subst e1 e2
  obtain ⟨y, hy, hye, hn⟩ := endL_nth hi
  rw [rmP_len] at hy
  refine ⟨y, hn, by rw [rmF_len]; exact hy, (tree_end h.ok.n3 hy hye).2, F_nth h.ok.f20 y, ?_⟩
  rw [rmF_nth hy]
  exact end_ups h.ok.n3 hy hye
theorem RwMkt.facts {k : Nat} {u d p : Int} {P W F : List Int} (h : RwMkt k u d p P W F) : ∃ ps T U, RwFacts k u d P W F (clR (las.take (k + 1)) (endL P) (endL P).length) (las.take (k + 1)) ps T U := by
  have hx := las_rowC h.ok.n3
  have e1 := h.eP
  have e2 := h.eW
  have e3 := h.eF
  subst e1 e2 e3
  have hl := prV_len true (rmP (rmK k)) (ownW (rmP (rmK k))) (rmF u d p (rmK k)) (clR (las.take (k + 1)) (endL (rmP (rmK k))) (endL (rmP (rmK k))).length)
  obtain ⟨b1, b2, b3⟩ := h.ok.price hx (clR_len _ _ _) (fun i hi => clR_nth hi)
  have hr : rwB (k : Int) u d (las.take (k + 1)) = true := rwB_iff.2 ⟨by omega, by rw [Int.toNat_natCast]; exact h.ok.toRowOk, by rw [Int.toNat_natCast]; exact hx.len, List.all_eq_true.2 fun v hv => by
    obtain ⟨j, hj, e⟩ := List.mem_iff_getElem.1 hv
    rw [hx.len] at hj
    rw [← e, ← nth_eq (by rw [hx.len]; exact hj)]
    have := hx.bd j (by omega)
    exact inB_iff.2 (by omega)⟩
  exact ⟨_, _, _, b1, rfl, ⟨b2, hl⟩, b3, hr, (rw_yes hr).1, (rw_yes hr).2⟩
noncomputable def rw28 : Code := ((Try.f5.body.bind (restFrom 28)).getD .skip)
set_option maxRecDepth 100000 in
set_option maxHeartbeats 4000000 in
theorem rwMid (A1 : Option Addr) (P : List Int) (c1 : Nat) (A2 : Option Addr) (W : List Int) (c2 : Nat) (A3 : Option Addr) (F : List Int) (c3 : Nat) (gm : Nat) (k : Nat) (u d p : Int) (hk : k ≤ 3) (hu : 1 ≤ u ∧ u ≤ 9) (hd : 1 ≤ d ∧ d ≤ 9) (hp : 0 ≤ p ∧ p ≤ 20) (HM : Hid (RwMkt k u d p P W F))
    (w0 w : World) (HB : Below w0.heap.size w0 w) (h : RdM w A1 P A2 W A3 F) (bx : Bx3 w gm (.slice A1 P.length c1) (.slice A2 W.length c2) (.slice A3 F.length c3)) (u0 u1 u2 u3 u4 u5 u6 u7 u8 u9 u10 u11 u12 u13 u14 u15 u16 u17 u18 u19 u20 u21 u22 u23 u24 u30 u31 u32 u33 u34 u35 u36 u37 u38 u39 u40 u41 u42 u43 u44 u45 u46 u47 u48 u49 u50 u51 u52 u53 u54 u55 u56 u57 u58 u59 u60 u61 u62 u63 u64 u65 u66 u67 u68 u69 u70 u71 u72 u73 u74 u75 u76 u77 u78 u79 u80 u81 u82 u83 u84 u85 u86 u87 u88 u89 u90 u91 u92 u93 u94 u95 u96 u97 u98 u99 u100 u101 u102 u103 u104 u105 u106 u107 u108 u109 u110 u111 u112 u113 u114 u115 u116 u117 u118 u119 u120 u121 u122 u123 u124 u125 u126 u127 u128 u129 u130 u131 u132 u133 u134 u135 u136 u137 u138 u139 u140 u141 u142 u143 u144 u145 u146 u147 u148 u149 u150 u151 u152 u153 u154 u155 u156 u157 u158 u159 u160 u161 u162 u163 u164 u165 u166 u167 u168 u169 u170 u171 u172 u173 u174 u175 u176 u177 u178 u179 u180 u181 u182 u183 u184 u185 u186 u187 u188 u189 u190 u191 u192 u193 u194 u195 u196 u197 u198 u199 u200 u201 u202 u203 u204 u205 u206 u207 u208 u209 u210 u211 u212 u213 u214 u215 u216 u217 u218 u219 u220 u221 u222 u223 u224 u225 u226 u227 u228 u229 u230 u231 u232 u233 u234 u235 u236 u237 u238 u239 u240 u241 u242 u243 u244 u245 u246 u247 u248 u249 u250 u251 u252 u253 u254 u255 u256 u257 u258 u259 u260 u261 u262 u263 u264 u265 u266 u267 u268 u269 u270 u271 u272 u273 u274 u275 u276 u277 u278 u279 u280 u281 u282 u283 u284 u285 u286 u287 u288 u289 u290 u291 u292 u293 u294 u295 u296 u297 u298 u299 u300 u301 u302 u303 u304 u305 u306 u307 u308 u309 u310 u311 u312 u313 u314 u315 u316 u317 u318 u319 u320 : Value) :
    Code.wp Try.prog rw28 (bodyPost Try.prog Try.f5 fun e w' => e = .returned (.bool true) ∧ Below w0.heap.size w0 w') ⟨#[u0, u1, u2, u3, u4, u5, u6, u7, u8, u9, u10, u11, u12, u13, u14, u15, u16, u17, u18, u19, u20, u21, u22, u23, u24, .int .i64 (k : Int), .int .i64 u, .int .i64 d, .int .i64 p, .pointer (some ⟨gm, 0, none⟩), u30, u31, u32, u33, u34, u35, u36, u37, u38, u39, u40, u41, u42, u43, u44, u45, u46, u47, u48, u49, u50, u51, u52, u53, u54, u55, u56, u57, u58, u59, u60, u61, u62, u63, u64, u65, u66, u67, u68, u69, u70, u71, u72, u73, u74, u75, u76, u77, u78, u79, u80, u81, u82, u83, u84, u85, u86, u87, u88, u89, u90, u91, u92, u93, u94, u95, u96, u97, u98, u99, u100, u101, u102, u103, u104, u105, u106, u107, u108, u109, u110, u111, u112, u113, u114, u115, u116, u117, u118, u119, u120, u121, u122, u123, u124, u125, u126, u127, u128, u129, u130, u131, u132, u133, u134, u135, u136, u137, u138, u139, u140, u141, u142, u143, u144, u145, u146, u147, u148, u149, u150, u151, u152, u153, u154, u155, u156, u157, u158, u159, u160, u161, u162, u163, u164, u165, u166, u167, u168, u169, u170, u171, u172, u173, u174, u175, u176, u177, u178, u179, u180, u181, u182, u183, u184, u185, u186, u187, u188, u189, u190, u191, u192, u193, u194, u195, u196, u197, u198, u199, u200, u201, u202, u203, u204, u205, u206, u207, u208, u209, u210, u211, u212, u213, u214, u215, u216, u217, u218, u219, u220, u221, u222, u223, u224, u225, u226, u227, u228, u229, u230, u231, u232, u233, u234, u235, u236, u237, u238, u239, u240, u241, u242, u243, u244, u245, u246, u247, u248, u249, u250, u251, u252, u253, u254, u255, u256, u257, u258, u259, u260, u261, u262, u263, u264, u265, u266, u267, u268, u269, u270, u271, u272, u273, u274, u275, u276, u277, u278, u279, u280, u281, u282, u283, u284, u285, u286, u287, u288, u289, u290, u291, u292, u293, u294, u295, u296, u297, u298, u299, u300, u301, u302, u303, u304, u305, u306, u307, u308, u309, u310, u311, u312, u313, u314, u315, u316, u317, u318, u319, u320], []⟩ w := by
  conv => arg 2; whnf
  have HFU := Lib.hid HM.out.full
  have k0 := bx.1
  have k1 := bx.2.1
  have k2 := bx.2.2.1
  go_wp2_with fail
  have CC := implFull_c A1 P c1 A2 W c2 A3 F c3 _ h
  rw [HFU.out.1, HFU.out.2.1] at CC
  refine (CC).mono ?_
  rintro e w1 ⟨rfl, bq⟩
  clear CC k0 k1 k2
  replace h := h.below bq (Nat.le_refl _)
  replace bx := bx.below bq
  have HB1 := bUp HB bq HB.size
  clear HB
  clear bq
  have k0 := bx.1
  have k1 := bx.2.1
  have k2 := bx.2.2.1
  go_wp2_with fail
  have CC := implEo_c A1 P c1 A2 W c2 _ h.r1 h.r2 h.l1 h.l2
  rw [HFU.out.2.2.2.1, HFU.out.2.2.1] at CC
  refine (CC).mono ?_
  rintro e w2 ⟨Ae, ce, rfl, oe, bq⟩
  clear CC k0 k1 k2
  replace h := h.below bq (Nat.le_refl _)
  replace bx := bx.below bq
  have HB2 := bUp HB1 bq HB1.size
  clear HB1
  clear bq
  have re := oe.rd
  clear oe
  have hE24 := HFU.out.2.2.2.2
  have bA : Below w2.heap.size w2 ((w2.alloc (.cells #[] 3)).alloc (.cells #[] 3)) := ((Below.refl _ _).alloc (Nat.le_refl _) _).alloc (by simp) _
  have oC : Own ((w2.alloc (.cells #[] 3)).alloc (.cells #[] 3)) w2.heap.size (some ⟨w2.heap.size, 0, none⟩) 0 [] := (Own.lit0 w2 w2.heap.size rfl).alloc _
  have oX : Own ((w2.alloc (.cells #[] 3)).alloc (.cells #[] 3)) w2.heap.size (some ⟨w2.heap.size + 1, 0, none⟩) 0 [] := (Own.lit0 (w2.alloc (.cells #[] 3)) (w2.heap.size + 1) (by simp)).mono (Nat.le_succ _)
  have hap : ∀ b, blk (some (⟨w2.heap.size + 1, 0, none⟩ : Addr)) = some b → blk (some (⟨w2.heap.size, 0, none⟩ : Addr)) ≠ some b := fun b e e2 => by
    have e : w2.heap.size + 1 = b := Option.some.inj e
    have e2 : w2.heap.size = b := Option.some.inj e2
    omega
  go_upto_region 33 with fail
  generalize (w2.alloc (.cells #[] 3)).alloc (.cells #[] 3) = v2 at *
  obtain ⟨AC, hAC⟩ : ∃ AC : Option Addr, AC = some ⟨w2.heap.size, 0, none⟩ := ⟨_, rfl⟩
  obtain ⟨AX, hAX⟩ : ∃ AX : Option Addr, AX = some ⟨w2.heap.size + 1, 0, none⟩ := ⟨_, rfl⟩
  rw [← hAC] at oC hap ⊢
  rw [← hAX] at oX hap ⊢
  clear hAC hAX
  go_wp2_with fail
  go_loopw [38, 39] (fun s q wr => ∃ (j : Nat) (A : Option Addr) (c : Nat), j ≤ k + 1 ∧ q = .int .i64 (j : Int) ∧ s = .slice A j c ∧ Own wr w2.heap.size A c (las.take j) ∧ Own wr w2.heap.size AC 0 [] ∧ (∀ b, blk A = some b → blk AC ≠ some b) ∧ Below w2.heap.size w2 wr) (fun _ q _ => k + 1 - (intOf q).toNat)
  case atStart => exact ⟨0, AX, 0, by omega, rfl, rfl, oX, oC, hap, bA⟩
  case round =>
    clear oX oC hap bA
    obtain ⟨v, rfl⟩ : ∃ v : World, v = wr := ⟨_, rfl⟩
    obtain ⟨j, A, c, hj, rfl, rfl, oX, oC, hap, bA⟩ := hrel
    have HAP := Lib.hid hap
    clear hap
    by_cases hlt : j ≤ k
    · have hj5 : j = 0 ∨ j = 1 ∨ j = 2 ∨ j = 3 := by omega
      have HOX := Lib.hid oX
      have HOC := Lib.hid oC
      have HBA := Lib.hid bA
      clear oX oC bA
      rcases hj5 with rfl | rfl | rfl | rfl
      · have hlt' : (0 : Int) ≤ (k : Int) := by omega
        go_wp2_with (at_builtin; refine wp_append1 v (-5) _ rfl _ _ rfl w2.heap.size A 0 c (las.take 0) rfl rfl HOX.out rfl (by simp [las]) HBA.out.size ?_; intro A5 c5 v5 o5 g5 b5; have HB5 := Lib.hid (HBA.out.grown g5 HBA.out.size HOX.out.ge); have HC5 := Lib.hid (HOC.out.grown g5 (ne_row fun b e => HAP.out b e)); have HP5 : Hid (∀ b, blk A5 = some b → blk AC ≠ some b) := Lib.hid (fun b e => (by
          rcases b5 with t | ⟨r, t, hr⟩
          · exact HAP.out b (by rw [← t]; exact e)
          · rw [t] at e
            injection e with e
            subst e
            intro e2
            have := HOC.out.ltk r e2
            omega)); clear g5 b5)
        go_roundw
        case rel => exact ⟨1, A5, c5, by omega, by go_num, rfl, o5, HC5.out, HP5.out, HB5.out⟩
        case measure => simp [intOf] <;> omega
      · have hlt' : (1 : Int) ≤ (k : Int) := by omega
        go_wp2_with (at_builtin; refine wp_append1 v (2) _ rfl _ _ rfl w2.heap.size A 1 c (las.take 1) rfl rfl HOX.out rfl (by simp [las]) HBA.out.size ?_; intro A5 c5 v5 o5 g5 b5; have HB5 := Lib.hid (HBA.out.grown g5 HBA.out.size HOX.out.ge); have HC5 := Lib.hid (HOC.out.grown g5 (ne_row fun b e => HAP.out b e)); have HP5 : Hid (∀ b, blk A5 = some b → blk AC ≠ some b) := Lib.hid (fun b e => (by
          rcases b5 with t | ⟨r, t, hr⟩
          · exact HAP.out b (by rw [← t]; exact e)
          · rw [t] at e
            injection e with e
            subst e
            intro e2
            have := HOC.out.ltk r e2
            omega)); clear g5 b5)
        go_roundw
        case rel => exact ⟨2, A5, c5, by omega, by go_num, rfl, o5, HC5.out, HP5.out, HB5.out⟩
        case measure => simp [intOf] <;> omega
      · have hlt' : (2 : Int) ≤ (k : Int) := by omega
        go_wp2_with (at_builtin; refine wp_append1 v (4) _ rfl _ _ rfl w2.heap.size A 2 c (las.take 2) rfl rfl HOX.out rfl (by simp [las]) HBA.out.size ?_; intro A5 c5 v5 o5 g5 b5; have HB5 := Lib.hid (HBA.out.grown g5 HBA.out.size HOX.out.ge); have HC5 := Lib.hid (HOC.out.grown g5 (ne_row fun b e => HAP.out b e)); have HP5 : Hid (∀ b, blk A5 = some b → blk AC ≠ some b) := Lib.hid (fun b e => (by
          rcases b5 with t | ⟨r, t, hr⟩
          · exact HAP.out b (by rw [← t]; exact e)
          · rw [t] at e
            injection e with e
            subst e
            intro e2
            have := HOC.out.ltk r e2
            omega)); clear g5 b5)
        go_roundw
        case rel => exact ⟨3, A5, c5, by omega, by go_num, rfl, o5, HC5.out, HP5.out, HB5.out⟩
        case measure => simp [intOf] <;> omega
      · have hlt' : (3 : Int) ≤ (k : Int) := by omega
        go_wp2_with (at_builtin; refine wp_append1 v (1) _ rfl _ _ rfl w2.heap.size A 3 c (las.take 3) rfl rfl HOX.out rfl (by simp [las]) HBA.out.size ?_; intro A5 c5 v5 o5 g5 b5; have HB5 := Lib.hid (HBA.out.grown g5 HBA.out.size HOX.out.ge); have HC5 := Lib.hid (HOC.out.grown g5 (ne_row fun b e => HAP.out b e)); have HP5 : Hid (∀ b, blk A5 = some b → blk AC ≠ some b) := Lib.hid (fun b e => (by
          rcases b5 with t | ⟨r, t, hr⟩
          · exact HAP.out b (by rw [← t]; exact e)
          · rw [t] at e
            injection e with e
            subst e
            intro e2
            have := HOC.out.ltk r e2
            omega)); clear g5 b5)
        go_roundw
        case rel => exact ⟨4, A5, c5, by omega, by go_num, rfl, o5, HC5.out, HP5.out, HB5.out⟩
        case measure => simp [intOf] <;> omega
    · obtain rfl : j = k + 1 := by omega
      have rX := oX.rd
      have lX := las_len (j := k + 1) (by omega)
      have hAX : ∀ b, blk A = some b → b < v.heap.size := fun b e => oX.ltk b e
      obtain ⟨xs, hxs⟩ : ∃ xs, las.take (k + 1) = xs := ⟨_, rfl⟩
      rw [hxs] at rX lX
      obtain ⟨ps, T, U, hF⟩ := HM.out.facts
      rw [hxs] at hF
      have RF := Lib.hid hF
      have HAX := Lib.hid hAX
      have oC2 : Own v w2.heap.size AC 0 (clR xs (endL P) 0) := oC
      have HLX := Lib.hid lX
      have HBA := Lib.hid bA
      clear hxs hF hAX oX oC lX bA
      go_wp2_with fail
      rename_i K1 hK1
      replace hK1 := Lib.hid hK1
      go_loopw [37, 40] (fun s q wr => ∃ (i : Nat) (A' : Option Addr) (c' : Nat), i ≤ (endL P).length ∧ q = .int .i64 (i : Int) ∧ s = .slice A' i c' ∧ Own wr w2.heap.size A' c' (clR xs (endL P) i) ∧ Rd wr A (ints xs) ∧ (∀ b, blk A = some b → blk A' ≠ some b) ∧ Below w2.heap.size w2 wr ∧ v.heap.size ≤ wr.heap.size) (fun _ q _ => (endL P).length - (intOf q).toNat)
      case atStart => exact ⟨0, AC, 0, by omega, rfl, rfl, oC2, rX, HAP.out, HBA.out, Nat.le_refl _⟩
      case round =>
        clear oC2 rX
        obtain ⟨v3, rfl⟩ : ∃ v : World, v = wr := ⟨_, rfl⟩
        obtain ⟨i, A', c', hi, rfl, rfl, oC, rX, hap, bA3, hsz⟩ := hrel
        have HOC := Lib.hid oC
        have HRX := Lib.hid rX
        have HAP2 := Lib.hid hap
        have HB3 := Lib.hid bA3
        have HSZ := Lib.hid hsz
        clear oC rX hap bA3 hsz
        by_cases hlt2 : i < (endL P).length
        · obtain ⟨y, hny, hyF, hyk, hfb, hups⟩ := HM.out.end_ hlt2
          have hCS : Hid (clR xs (endL P) i ++ [nth xs (upT y)] = clR xs (endL P) (i + 1)) := Lib.hid (by rw [clR_succ, hny, Int.toNat_natCast])
          obtain ⟨ae, rfl, qe⟩ := (re.below HB3.out (Nat.le_refl _)).intN hlt2
          rw [hny] at qe
          obtain ⟨a3, rfl, qf⟩ := (h.r3.below HB3.out (Nat.le_refl _)).intN hyF
          have k2 := (bx.below HB3.out).2.2.1
          have kz := (bx.below HB3.out).2.2.2
          obtain ⟨ax, rfl, qx⟩ := HRX.out.intN (k := upT y) (by rw [HLX.out]; omega)
          have iX : (upT y : Int) < (k : Int) + 1 := by omega
          generalize upT y = up at *
          generalize nth F y = fe at *
          generalize nth xs up = z at *
          have mk := mulB (x := (k : Int)) (y := d) (A := 3) (B := 9) (C := 27) ⟨by omega, by omega⟩ ⟨by omega, by omega⟩ (by decide) (by decide)
          have hkd : ∃ q, (k : Int) * d = q := ⟨_, rfl⟩
          obtain ⟨kd, hkd⟩ := hkd
          obtain ⟨sd, hsd⟩ : ∃ sd, u + d = sd := ⟨_, rfl⟩
          obtain ⟨s1, hs1⟩ : ∃ s1, (up : Int) * sd = s1 := ⟨_, rfl⟩
          rw [hkd] at mk
          rw [hkd, hsd, hs1] at hups
          have hsd0 : ¬ sd = 0 := by omega
          have iE : (i : Int) < ((endL P).length : Int) := by omega
          have iF : (y : Int) < (F.length : Int) := by omega
          have j1 : ¬ (up : Int) < 0 := by omega
          have j2 : ¬ (k : Int) < (up : Int) := by omega
          have e6 : wrap64 (up : Int) = (up : Int) := IntWalk.wrap64_in _ ⟨by omega, by omega⟩
          have e1 : IntKind.i64.wrap (fe - p) = fe - p := IntWalk.i64_in _ (by omega)
          have e2 : IntKind.i64.wrap ((k : Int) * d) = kd := by rw [hkd]; exact IntWalk.i64_in _ (by omega)
          have e4 : IntKind.i64.wrap (u + d) = sd := by rw [hsd]; exact IntWalk.i64_in _ (by omega)
          have e3 : IntKind.i64.wrap (fe - p + kd) = s1 := by
            rw [← hups]
            exact IntWalk.i64_in _ (by omega)
          have E5 : Hid (s1.tdiv sd = (up : Int)) := Lib.hid (by rw [← hs1]; exact Int.mul_tdiv_cancel _ hsd0)
          clear hkd hsd hs1 hups mk hny hfb hyF hlt hj
          go_upto_region 40 with fail
          have hd2 : Below v3.heap.size v3 v3.drew := Below.drew (Below.refl _ _)
          have SK2 : Hid (∀ w', Below v3.heap.size v3 w' → w'.cell? ⟨gm, 2, none⟩ = some (.slice (some a3) F.length c3) ∧ w'.cell? (ae.add i) = some (.int .i64 (y : Int)) ∧ w'.cell? (a3.add y) = some (.int .i64 fe)) := Lib.hid fun w' HV => ⟨(HV.cell (p := ⟨gm, 2, none⟩) kz).trans k2, (HV.cell (cell_lt qe)).trans qe, (HV.cell (cell_lt qf)).trans qf⟩
          clear k2 qe qf
          have hS2_0 := SK2.out _ hd2
          refine tamed_region (S := fun w' => w'.cell? ⟨gm, 2, none⟩ = some (.slice (some a3) F.length c3) ∧ w'.cell? (ae.add i) = some (.int .i64 (y : Int)) ∧ w'.cell? (a3.add y) = some (.int .i64 fe)) (fun _ => false) (by kernel_rfl) ?_
          refine tame0 (k := 0) ?_ rfl (by kernel_rfl) (by kernel_rfl) (by kernel_rfl) (fun _ _ _ h => h) (by kernel_rfl) (fun v => ?_) ?_
          rotate_left
          · (go_simp; all_goals rfl)
          simp only [Act.put, List.setIfInBounds_toArray]
          refine tame (k := 1) ?_ rfl (by kernel_rfl) (by kernel_rfl) (by kernel_rfl) (by kernel_rfl) (fun _ _ _ h => h) (by kernel_rfl) hS2_0 (fun v hv => ?_) ?_
          rotate_left
          · (obtain ⟨k1, k2, k3⟩ := hv; go_simp; all_goals rfl)
          simp only [Act.put]
          refine tame0 (k := 2) ?_ rfl (by kernel_rfl) (by kernel_rfl) (by kernel_rfl) (fun _ _ _ h => h) (by kernel_rfl) (fun v => ?_) ?_
          rotate_left
          · (go_simp; all_goals rfl)
          simp only [Act.put]
          refine tame0 (k := 3) ?_ rfl (by kernel_rfl) (by kernel_rfl) (by kernel_rfl) (fun _ _ _ h => h) (by kernel_rfl) (fun v => ?_) ?_
          rotate_left
          · (go_simp; all_goals rfl)
          simp only [Act.put]
          refine tame0 (k := 4) ?_ rfl (by kernel_rfl) (by kernel_rfl) (by kernel_rfl) (fun _ _ _ h => h) (by kernel_rfl) (fun v => ?_) ?_
          rotate_left
          · (go_simp; all_goals rfl)
          simp only [Act.put]
          refine tame (k := 5) ?_ rfl (by kernel_rfl) (by kernel_rfl) (by kernel_rfl) (by kernel_rfl) (fun _ _ _ h => h) (by kernel_rfl) hS2_0 (fun v hv => ?_) ?_
          rotate_left
          · (obtain ⟨k1, k2, k3⟩ := hv; go_simp; all_goals rfl)
          simp only [Act.put]
          refine tame0 (k := 6) ?_ rfl (by kernel_rfl) (by kernel_rfl) (by kernel_rfl) (fun _ _ _ h => h) (by kernel_rfl) (fun v => ?_) ?_
          rotate_left
          · (go_simp; all_goals rfl)
          simp only [Act.put]
          refine tame (k := 7) ?_ rfl (by kernel_rfl) (by kernel_rfl) (by kernel_rfl) (by kernel_rfl) (fun _ _ _ h => h) (by kernel_rfl) hS2_0 (fun v hv => ?_) ?_
          rotate_left
          · (obtain ⟨k1, k2, k3⟩ := hv; go_simp; all_goals rfl)
          simp only [Act.put]
          refine tame0 (k := 8) ?_ rfl (by kernel_rfl) (by kernel_rfl) (by kernel_rfl) (fun _ _ _ h => h) (by kernel_rfl) (fun v => ?_) ?_
          rotate_left
          · (go_simp; all_goals rfl)
          simp only [Act.put]
          refine tame0 (k := 9) ?_ rfl (by kernel_rfl) (by kernel_rfl) (by kernel_rfl) (fun _ _ _ h => h) (by kernel_rfl) (fun v => ?_) ?_
          rotate_left
          · (go_simp; all_goals rfl)
          simp only [Act.put]
          refine tame0 (k := 10) ?_ rfl (by kernel_rfl) (by kernel_rfl) (by kernel_rfl) (fun _ _ _ h => h) (by kernel_rfl) (fun v => ?_) ?_
          rotate_left
          · (go_simp; all_goals rfl)
          simp only [Act.put]
          refine tame0 (k := 11) ?_ rfl (by kernel_rfl) (by kernel_rfl) (by kernel_rfl) (fun _ _ _ h => h) (by kernel_rfl) (fun v => ?_) ?_
          rotate_left
          · (go_simp; all_goals rfl)
          simp only [Act.put]
          refine tame0 (k := 12) ?_ rfl (by kernel_rfl) (by kernel_rfl) (by kernel_rfl) (fun _ _ _ h => h) (by kernel_rfl) (fun v => ?_) ?_
          rotate_left
          · (go_simp; all_goals rfl)
          simp only [Act.put]
          refine tame0 (k := 13) ?_ rfl (by kernel_rfl) (by kernel_rfl) (by kernel_rfl) (fun _ _ _ h => h) (by kernel_rfl) (fun v => ?_) ?_
          rotate_left
          · (go_simp; all_goals rfl)
          simp only [Act.put]
          refine tame0 (k := 14) ?_ rfl (by kernel_rfl) (by kernel_rfl) (by kernel_rfl) (fun _ _ _ h => h) (by kernel_rfl) (fun v => ?_) ?_
          rotate_left
          · (go_simp; all_goals rfl)
          simp only [Act.put]
          refine tame0 (k := 15) ?_ rfl (by kernel_rfl) (by kernel_rfl) (by kernel_rfl) (fun _ _ _ h => h) (by kernel_rfl) (fun v => ?_) ?_
          rotate_left
          · (go_simp; all_goals rfl)
          simp only [Act.put]
          refine tame0 (k := 16) ?_ rfl (by kernel_rfl) (by kernel_rfl) (by kernel_rfl) (fun _ _ _ h => h) (by kernel_rfl) (fun v => ?_) ?_
          rotate_left
          · (go_simp; all_goals rfl)
          simp only [Act.put]
          have e5 := E5.out
          have hS2_0v := Lib.hid hS2_0
          clear hS2_0
          refine tame_one (k := 17) (by kernel_rfl) rfl (by kernel_rfl) ?_
          go_simp
          refine ⟨by first | exact hS2_0v | exact Hid.out hS2_0v, ?_⟩
          refine tame_one (k := 18) (by kernel_rfl) rfl (by kernel_rfl) ?_
          go_simp
          refine ⟨by first | exact hS2_0v | exact Hid.out hS2_0v, ?_⟩
          clear e5
          refine tame_end (by kernel_rfl) ?_
          clear hS2_0v SK2 e1 e2 e3 e4 E5 hsd0 iE iF
          have HDB : Hid (Below w2.heap.size w2 v3.drew) := Lib.hid (Below.drew HB3.out)
          have lxs := HLX.out
          have iX2 : (up : Int) < (k : Int) + 1 := iX
          go_wp2_with (at_builtin; refine wp_append1 v3.drew z _ rfl _ _ rfl w2.heap.size A' i c' (clR xs (endL P) i) rfl (clR_len _ _ _).symm HOC.out.drew rfl (by rw [clR_len]; omega) HDB.out.size ?_; intro A5 c5 v5 o5 g5 b5; rw [hCS.out] at o5; have HB5 := Lib.hid (HDB.out.grown g5 HDB.out.size HOC.out.ge); have HX5 := Lib.hid (HRX.out.drew.grown g5 (fun ad e => (Ne.symm (HAP2.out _ (by rw [e]; rfl))))); have HS5 := Lib.hid (Nat.le_trans HSZ.out g5.size); have HP5 : Hid (∀ b, blk (some ax) = some b → blk A5 ≠ some b) := Lib.hid (fun b e => (by
            rcases b5 with t | ⟨r, t, hr⟩
            · rw [t]; exact HAP2.out b e
            · rw [t]
              intro e2
              injection e2 with e2
              have := HAX.out b e
              have := HSZ.out
              have hr' : v3.heap.size ≤ r := hr
              omega)); clear g5 b5)
          go_roundw
          case rel =>
            refine ⟨_, _, _, ?_, rfl, rfl, rfl⟩
            exact ⟨i + 1, by omega, by go_num, A5, c5, rfl, o5, HX5.out, HP5.out, HB5.out, HS5.out⟩
          case measure => simp [intOf] <;> omega
        · obtain rfl : i = (endL P).length := by omega
          go_wp2_with fail
          refine hK1.out _ _ ?_
          exact rwEnd A1 P c1 A2 W c2 A3 F c3 gm k u d A' (clR xs (endL P) (endL P).length) c' A xs c ps T U (by rw [clR_len]; exact hE24) (by rw [HLX.out]; omega) RF (endL P).length (k + 1) (clR_len _ _ _).symm HLX.out.symm w0 v3 (bUp HB2 HB3.out HB2.size) (h.below HB3.out (Nat.le_refl _)) (bx.below HB3.out) HOC.out.rd HRX.out _ _ _ _ _ _ _ _ _ _ _ _ _ _ _ _ _ _ _ _ _ _ _ _ _ _ _ _ _ _ _ _ _ _ _ _ _ _ _ _ _ _ _ _ _ _ _ _ _ _ _ _ _ _ _ _ _ _ _ _ _ _ _ _ _ _ _ _ _ _ _ _ _ _ _ _ _ _ _ _ _ _ _ _ _ _ _ _ _ _ _ _ _ _ _ _ _ _ _ _ _ _ _ _ _ _ _ _ _ _ _ _ _ _ _ _ _ _ _ _ _ _ _ _ _ _ _ _ _ _ _ _ _ _ _ _ _ _ _ _ _ _ _ _ _ _ _ _ _ _ _ _ _ _ _ _ _ _ _ _ _ _ _ _ _ _ _ _ _ _ _ _ _ _ _ _ _ _ _ _ _ _ _ _ _ _ _ _ _ _ _ _ _ _ _ _ _ _ _ _ _ _ _ _ _ _ _ _ _ _ _ _ _ _ _ _ _ _ _ _ _ _ _ _ _ _ _ _ _ _ _ _ _ _ _ _ _ _ _ _ _ _ _ _ _ _ _ _ _ _ _ _ _ _ _ _ _ _ _ _ _ _ _ _ _ _ _ _ _ _ _ _ _ _ _ _ _ _ _ _ _ _ _ _ _ _ _ _ _ _ _ _ _ _ _ _ _ _ _ _ _ _ _ _ _ _ _ _ _ _ _ _ _ _ _

set_option maxRecDepth 20000 in
set_option maxHeartbeats 1000000 in
theorem rBigR_c (A : Option Addr) (bs : List Int) (c : Nat) (w : World) (_hl : bs.length ≤ 9223372036854775807) :
    Calls Try.prog 7 #[.slice A bs.length c] w fun e w' => e = .returned (.bool (decide (65536 < (bs.length : Int)))) ∧ w = w' := by
  go_enter Try.func7, Try.ntmps7
  go_wp2
  go_ret
  exact ⟨rfl, rfl⟩
set_option maxRecDepth 20000 in
set_option maxHeartbeats 1000000 in
theorem rTree_same (A1 A2 B1 B2 : Option Addr) (P W : List Int) (c1 c2 d1 d2 : Nat) (w : World) (h1 : Rd w A1 (ints P)) (h2 : Rd w A2 (ints W)) (k1 : Rd w B1 (ints P)) (k2 : Rd w B2 (ints W)) (hP : P.length ≤ 60) (hW : W.length ≤ 60) :
    Calls Try.prog 112 #[trV A1 P.length c1 A2 W.length c2, trV B1 P.length d1 B2 W.length d2] w (Quietly w (.bool true)) := by
  have b1 : Below w.heap.size w ((w.alloc (.cells #[.slice A1 P.length c1, .slice A2 W.length c2] 26)).alloc (.cells #[.slice B1 P.length d1, .slice B2 W.length d2] 26)) := ((Below.refl _ _).alloc (Nat.le_refl _) _).alloc (by simp) _
  have x1 := (Bx.new w (.slice A1 P.length c1) (.slice A2 W.length c2) 26).alloc (.cells #[.slice B1 P.length d1, .slice B2 W.length d2] 26)
  have x2 := Bx.new (w.alloc (.cells #[.slice A1 P.length c1, .slice A2 W.length c2] 26)) (.slice B1 P.length d1) (.slice B2 W.length d2) 26
  rw [World.size_alloc] at x2
  obtain ⟨ya0, ya1, ya2, ya3, ya4⟩ := id x1
  obtain ⟨yb0, yb1, yb2, yb3, yb4⟩ := id x2
  go_enter Try.func112, Try.ntmps112
  go_wp2_with fail
  refine (rInts_same A1 B1 P _ _ c1 d1 _ rfl rfl (h1.below b1 (Nat.le_refl _)) (k1.below b1 (Nat.le_refl _)) (by omega)).mono ?_
  rintro e w2 ⟨rfl, b2⟩
  have b12 := bUp b1 b2 b1.size
  have x1' := x1.below b2
  have x2' := x2.below b2
  clear ya0 ya1 ya2 ya3 ya4 yb0 yb1 yb2 yb3 yb4
  obtain ⟨ya0, ya1, ya2, ya3, ya4⟩ := id x1'
  obtain ⟨yb0, yb1, yb2, yb3, yb4⟩ := id x2'
  go_wp2_with fail
  refine (rInts_same A2 B2 W _ _ c2 d2 _ rfl rfl (h2.below b12 (Nat.le_refl _)) (k2.below b12 (Nat.le_refl _)) (by omega)).mono ?_
  rintro e w3 ⟨rfl, b3⟩
  go_wp2_with fail
  go_ret
  exact ⟨rfl, bUp b12 b3 b12.size⟩
set_option maxRecDepth 20000 in
set_option maxHeartbeats 1000000 in
theorem rMarket_same (A1 A2 A3 B1 B2 B3 : Option Addr) (P W F : List Int) (c1 c2 c3 d1 d2 d3 : Nat) (w : World) (h : RdM w A1 P A2 W A3 F) (k : RdM w B1 P B2 W B3 F) (hP : P.length ≤ 60) (hW : W.length ≤ 60) (hF : F.length ≤ 60) :
    Calls Try.prog 49 #[mkV A1 P.length c1 A2 W.length c2 A3 F.length c3, mkV B1 P.length d1 B2 W.length d2 B3 F.length d3] w (Quietly w (.bool true)) := by
  have b1 : Below w.heap.size w ((w.alloc (.cells #[.slice A1 P.length c1, .slice A2 W.length c2, .slice A3 F.length c3] 28)).alloc (.cells #[.slice B1 P.length d1, .slice B2 W.length d2, .slice B3 F.length d3] 28)) := ((Below.refl _ _).alloc (Nat.le_refl _) _).alloc (by simp) _
  have x1 := (Bx3.new w (.slice A1 P.length c1) (.slice A2 W.length c2) (.slice A3 F.length c3) 28).alloc (.cells #[.slice B1 P.length d1, .slice B2 W.length d2, .slice B3 F.length d3] 28)
  have x2 := Bx3.new (w.alloc (.cells #[.slice A1 P.length c1, .slice A2 W.length c2, .slice A3 F.length c3] 28)) (.slice B1 P.length d1) (.slice B2 W.length d2) (.slice B3 F.length d3) 28
  rw [World.size_alloc] at x2
  have h' := h.below b1 (Nat.le_refl _)
  have k' := k.below b1 (Nat.le_refl _)
  obtain ⟨ya0, ya1, ya2, ya3⟩ := id x1
  obtain ⟨yb0, yb1, yb2, yb3⟩ := id x2
  go_enter Try.func49, Try.ntmps49
  go_wp2_with fail
  refine (rTree_same A1 A2 B1 B2 P W c1 c2 d1 d2 _ h'.r1 h'.r2 k'.r1 k'.r2 hP hW).mono ?_
  rintro e w2 ⟨rfl, b2⟩
  have b12 := bUp b1 b2 b1.size
  have x1' := x1.below b2
  have x2' := x2.below b2
  clear ya0 ya1 ya2 ya3 yb0 yb1 yb2 yb3
  obtain ⟨ya0, ya1, ya2, ya3⟩ := id x1'
  obtain ⟨yb0, yb1, yb2, yb3⟩ := id x2'
  go_wp2_with fail
  refine (rInts_same A3 B3 F _ _ c3 d3 _ rfl rfl (h'.r3.below b2 (Nat.le_refl _)) (k'.r3.below b2 (Nat.le_refl _)) (by omega)).mono ?_
  rintro e w3 ⟨rfl, b3⟩
  go_wp2_with fail
  go_ret
  exact ⟨rfl, bUp b12 b3 b12.size⟩
/-- What a row's market comes to. -/
structure RmIs (n u d p : Int) (P W F : List Int) (ok : Bool) : Prop where
  lP : P.length ≤ 15
  lW : W.length ≤ 15
  lF : F.length ≤ 15
  yes : ok = true → ∃ k : Nat, n = (k : Int) ∧ k ≤ 3 ∧ (1 ≤ u ∧ u ≤ 9) ∧ (1 ≤ d ∧ d ≤ 9) ∧ (0 ≤ p ∧ p ≤ 20) ∧ RwMkt k u d p P W F
theorem rmIs (n u d p : Int) : RmIs n u d p (rmVP n u d p) (rmVW n u d p) (rmVF n u d p) (rmB n u d p) := by
  cases h : rmB n u d p with
  | false =>
    obtain ⟨h1, h2, h3⟩ := rm_no h
    rw [h1, h2, h3]
    exact ⟨by simp, by simp, by simp, fun e => by cases e⟩
  | true =>
    obtain ⟨h1, h2, h3⟩ := rm_yes h
    obtain ⟨h0, ho⟩ := rmB_ok h
    have hk := rmK_15 ho.n3
    rw [h1, h2, h3]
    refine ⟨by rw [rmP_len]; omega, by rw [ownW_len, rmP_len]; omega, by rw [rmF_len]; omega, fun _ => ⟨n.toNat, by omega, ho.n3, ⟨ho.u1, ho.u9⟩, ⟨ho.d1, ho.d9⟩, ?_, ho, rfl, rfl, rfl⟩⟩
    have := F_nth ho.f20 0
    rw [rmF_nth (by omega), prX_zero] at this
    exact this
noncomputable def rw21 : Code := ((Try.f5.body.bind (restFrom 21)).getD .skip)
set_option maxRecDepth 100000 in
set_option maxHeartbeats 4000000 in
theorem rwMarket (A : Option Addr) (bs : List Int) (c : Nat) (w0 w : World) (rc : Rd w A (u8s bs)) (hb : ByOk bs) (hl : bs.length ≤ 65536) (HB : Below w0.heap.size w0 w) (u1 u2 u3 u4 u5 u6 u7 u8 u9 u10 u11 u12 u13 u14 u15 u16 u17 u18 u19 u20 u21 u22 u23 u24 u25 u26 u27 u28 u29 u30 u31 u32 u33 u34 u35 u36 u37 u38 u39 u40 u41 u42 u43 u44 u45 u46 u47 u48 u49 u50 u51 u52 u53 u54 u55 u56 u57 u58 u59 u60 u61 u62 u63 u64 u65 u66 u67 u68 u69 u70 u71 u72 u73 u74 u75 u76 u77 u78 u79 u80 u81 u82 u83 u84 u85 u86 u87 u88 u89 u90 u91 u92 u93 u94 u95 u96 u97 u98 u99 u100 u101 u102 u103 u104 u105 u106 u107 u108 u109 u110 u111 u112 u113 u114 u115 u116 u117 u118 u119 u120 u121 u122 u123 u124 u125 u126 u127 u128 u129 u130 u131 u132 u133 u134 u135 u136 u137 u138 u139 u140 u141 u142 u143 u144 u145 u146 u147 u148 u149 u150 u151 u152 u153 u154 u155 u156 u157 u158 u159 u160 u161 u162 u163 u164 u165 u166 u167 u168 u169 u170 u171 u172 u173 u174 u175 u176 u177 u178 u179 u180 u181 u182 u183 u184 u185 u186 u187 u188 u189 u190 u191 u192 u193 u194 u195 u196 u197 u198 u199 u200 u201 u202 u203 u204 u205 u206 u207 u208 u209 u210 u211 u212 u213 u214 u215 u216 u217 u218 u219 u220 u221 u222 u223 u224 u225 u226 u227 u228 u229 u230 u231 u232 u233 u234 u235 u236 u237 u238 u239 u240 u241 u242 u243 u244 u245 u246 u247 u248 u249 u250 u251 u252 u253 u254 u255 u256 u257 u258 u259 u260 u261 u262 u263 u264 u265 u266 u267 u268 u269 u270 u271 u272 u273 u274 u275 u276 u277 u278 u279 u280 u281 u282 u283 u284 u285 u286 u287 u288 u289 u290 u291 u292 u293 u294 u295 u296 u297 u298 u299 u300 u301 u302 u303 u304 u305 u306 u307 u308 u309 u310 u311 u312 u313 u314 u315 u316 u317 u318 u319 u320 : Value) :
    Code.wp Try.prog rw21 (bodyPost Try.prog Try.f5 fun e w' => e = .returned (.bool true) ∧ Below w0.heap.size w0 w') ⟨#[.slice A bs.length c, u1, u2, u3, u4, u5, u6, u7, u8, u9, u10, u11, u12, u13, u14, u15, u16, u17, u18, u19, u20, u21, u22, u23, u24, u25, u26, u27, u28, u29, u30, u31, u32, u33, u34, u35, u36, u37, u38, u39, u40, u41, u42, u43, u44, u45, u46, u47, u48, u49, u50, u51, u52, u53, u54, u55, u56, u57, u58, u59, u60, u61, u62, u63, u64, u65, u66, u67, u68, u69, u70, u71, u72, u73, u74, u75, u76, u77, u78, u79, u80, u81, u82, u83, u84, u85, u86, u87, u88, u89, u90, u91, u92, u93, u94, u95, u96, u97, u98, u99, u100, u101, u102, u103, u104, u105, u106, u107, u108, u109, u110, u111, u112, u113, u114, u115, u116, u117, u118, u119, u120, u121, u122, u123, u124, u125, u126, u127, u128, u129, u130, u131, u132, u133, u134, u135, u136, u137, u138, u139, u140, u141, u142, u143, u144, u145, u146, u147, u148, u149, u150, u151, u152, u153, u154, u155, u156, u157, u158, u159, u160, u161, u162, u163, u164, u165, u166, u167, u168, u169, u170, u171, u172, u173, u174, u175, u176, u177, u178, u179, u180, u181, u182, u183, u184, u185, u186, u187, u188, u189, u190, u191, u192, u193, u194, u195, u196, u197, u198, u199, u200, u201, u202, u203, u204, u205, u206, u207, u208, u209, u210, u211, u212, u213, u214, u215, u216, u217, u218, u219, u220, u221, u222, u223, u224, u225, u226, u227, u228, u229, u230, u231, u232, u233, u234, u235, u236, u237, u238, u239, u240, u241, u242, u243, u244, u245, u246, u247, u248, u249, u250, u251, u252, u253, u254, u255, u256, u257, u258, u259, u260, u261, u262, u263, u264, u265, u266, u267, u268, u269, u270, u271, u272, u273, u274, u275, u276, u277, u278, u279, u280, u281, u282, u283, u284, u285, u286, u287, u288, u289, u290, u291, u292, u293, u294, u295, u296, u297, u298, u299, u300, u301, u302, u303, u304, u305, u306, u307, u308, u309, u310, u311, u312, u313, u314, u315, u316, u317, u318, u319, u320], []⟩ w := by
  conv => arg 2; whnf
  go_wp2_with fail
  refine (drawRm_c A bs c _ rc hb (by omega)).mono ?_
  rintro e w1 ⟨n, u, d, p, rfl, b1, nb, ub, db, pb⟩
  have HB1 := bUp HB b1 HB.size
  have RI := rmIs n u d p
  have CI := fun w => implRm_c n u d p w
  have CS := fun w => specRm_c n u d p w
  generalize rmVP n u d p = P at *
  generalize rmVW n u d p = W at *
  generalize rmVF n u d p = F at *
  generalize rmB n u d p = ok at *
  have HRI := Lib.hid RI
  have HCI := Lib.hid CI
  have HCS := Lib.hid CS
  have lP := RI.lP
  have lW := RI.lW
  have lF := RI.lF
  clear RI CI CS rc hb hl b1 HB
  go_wp2_with fail
  refine (HCI.out _).mono ?_
  rintro e w2 ⟨G1, g1, G2, g2, G3, g3, rfl, o1, o2, o3, b2⟩
  have g : RdM w2 G1 P G2 W G3 F := ⟨o1.rd, o2.rd, o3.rd, by omega, by omega, by omega⟩
  have HB2 := bUp HB1 b2 HB1.size
  clear o1 o2 o3 b2 HB1
  have bl : Below w2.heap.size w2 (w2.alloc (.cells #[.slice G1 P.length g1, .slice G2 W.length g2, .slice G3 F.length g3] 28)) := (Below.refl _ _).alloc (Nat.le_refl _) _
  have bx := Bx3.new w2 (.slice G1 P.length g1) (.slice G2 W.length g2) (.slice G3 F.length g3) 28
  replace g := g.below bl (Nat.le_refl _)
  have HB3 := bUp HB2 bl HB2.size
  clear bl HB2
  go_wp2_with fail
  generalize w2.alloc (.cells #[.slice G1 P.length g1, .slice G2 W.length g2, .slice G3 F.length g3] 28) = v2 at *
  obtain ⟨gm, hgm⟩ : ∃ gm, gm = w2.heap.size := ⟨_, rfl⟩
  rw [← hgm] at bx ⊢
  clear hgm
  refine (HCS.out _).mono ?_
  rintro e w3 ⟨S1, s1, S2, s2, S3, s3, rfl, o1, o2, o3, b3⟩
  have s : RdM w3 S1 P S2 W S3 F := ⟨o1.rd, o2.rd, o3.rd, by omega, by omega, by omega⟩
  replace g := g.below b3 (Nat.le_refl _)
  replace bx := bx.below b3
  have HB4 := bUp HB3 b3 HB3.size
  clear o1 o2 o3 b3 HB3 HCI HCS
  have bl : Below w3.heap.size w3 (w3.alloc (.cells #[.slice S1 P.length s1, .slice S2 W.length s2, .slice S3 F.length s3] 28)) := (Below.refl _ _).alloc (Nat.le_refl _) _
  have by_ := Bx3.new w3 (.slice S1 P.length s1) (.slice S2 W.length s2) (.slice S3 F.length s3) 28
  replace g := g.below bl (Nat.le_refl _)
  replace s := s.below bl (Nat.le_refl _)
  replace bx := bx.below bl
  have HB5 := bUp HB4 bl HB4.size
  clear bl HB4
  go_upto_region 24 with fail
  generalize w3.alloc (.cells #[.slice S1 P.length s1, .slice S2 W.length s2, .slice S3 F.length s3] 28) = v3 at *
  obtain ⟨gn, hgn⟩ : ∃ gn, gn = w3.heap.size := ⟨_, rfl⟩
  rw [← hgn] at by_ ⊢
  clear hgn
  have e6 : (ok != ok) = false := by cases ok <;> rfl
  obtain ⟨k0, k1, k2, k3⟩ := id bx
  obtain ⟨y0, y1, y2, y3⟩ := id by_
  go_wp2_with fail
  refine (rMarket_same G1 G2 G3 S1 S2 S3 P W F g1 g2 g3 s1 s2 s3 _ g s (by omega) (by omega) (by omega)).mono ?_
  rintro e w4 ⟨rfl, b4⟩
  clear k0 k1 k2 k3 y0 y1 y2 y3 e6 s by_
  replace g := g.below b4 (Nat.le_refl _)
  replace bx := bx.below b4
  have HB6 := bUp HB5 b4 HB5.size
  clear HB5 b4
  go_upto_region 26 with fail
  rename_i K1 hK1 K0 hK0
  replace hK1 := Lib.hid hK1
  cases ok
  · go_wp2_with fail
    go_ret
    exact ⟨rfl, HB6⟩
  · obtain ⟨k, rfl, hk, hu, hd, hp, HM⟩ := HRI.out.yes rfl
    have HM2 := Lib.hid HM
    clear HM HRI
    go_wp2_with fail
    refine hK1.out _ _ ?_
    exact rwMid G1 P g1 G2 W g2 G3 F g3 gm k u d p hk hu hd hp HM2 w0 _ HB6 g bx _ _ _ _ _ _ _ _ _ _ _ _ _ _ _ _ _ _ _ _ _ _ _ _ _ _ _ _ _ _ _ _ _ _ _ _ _ _ _ _ _ _ _ _ _ _ _ _ _ _ _ _ _ _ _ _ _ _ _ _ _ _ _ _ _ _ _ _ _ _ _ _ _ _ _ _ _ _ _ _ _ _ _ _ _ _ _ _ _ _ _ _ _ _ _ _ _ _ _ _ _ _ _ _ _ _ _ _ _ _ _ _ _ _ _ _ _ _ _ _ _ _ _ _ _ _ _ _ _ _ _ _ _ _ _ _ _ _ _ _ _ _ _ _ _ _ _ _ _ _ _ _ _ _ _ _ _ _ _ _ _ _ _ _ _ _ _ _ _ _ _ _ _ _ _ _ _ _ _ _ _ _ _ _ _ _ _ _ _ _ _ _ _ _ _ _ _ _ _ _ _ _ _ _ _ _ _ _ _ _ _ _ _ _ _ _ _ _ _ _ _ _ _ _ _ _ _ _ _ _ _ _ _ _ _ _ _ _ _ _ _ _ _ _ _ _ _ _ _ _ _ _ _ _ _ _ _ _ _ _ _ _ _ _ _ _ _ _ _ _ _ _ _ _ _ _ _ _ _ _ _ _ _ _ _ _ _ _ _ _ _ _ _ _ _ _ _ _ _ _ _ _ _ _ _ _ _ _ _ _ _ _ _ _ _ _
theorem cut_bds {a b : Int} (ha : -1000000000 ≤ a ∧ a ≤ 1000000000) (hb : 1 ≤ b ∧ b ≤ 1000000) : (-2000000000 ≤ cutT a b ∧ cutT a b ≤ 2000000000) ∧ (0 ≤ cutB a b ∧ cutB a b ≤ 1000000) := by
  have h1 := cutT_bd (a := a) (b := b) (M := 1000000000) (by omega) ha.1 ha.2
  have h2 := cutB_le (a := a) (b := b) (by omega)
  have h3 := cutB_pos (a := a) (b := b) (by omega)
  omega
/-- What a row that may be ended early comes to. -/
structure ReIs (n u d : Int) (T : List (List Int)) (t1 t2 v1 v2 x : Int) : Prop where
  k : ∃ k : Nat, n = (k : Int) ∧ k < T.length
  b1 : -2000000000 ≤ t1 ∧ t1 ≤ 2000000000
  b2 : 0 ≤ t2 ∧ t2 ≤ 1000000
  b3 : -2000000000 ≤ v1 ∧ v1 ≤ 2000000000
  b4 : 0 ≤ v2 ∧ v2 ≤ 1000000
  bx : -999 ≤ x ∧ x ≤ 999
  len0 : (rowAt T 0).length = 1
  rb : rwB n u d (rowAt T n.toNat) = true
  l1 : decide (t1 * v2 < v1 * t2) = false
  l2 : decide (t1 * 1 < x * t2) = false
theorem reIs {n u d : Int} {T : List (List Int)} (h : reB n u d T = true) : ReIs n u d T (reT n u d T) (reU n u d T) (rwT n u d (rowAt T n.toNat)) (rwU n u d (rowAt T n.toNat)) (nth (rowAt T 0) 0) := by
  obtain ⟨h0, H⟩ := reB_iff.1 h
  obtain ⟨hw, l1, l2⟩ := early_law h
  have hp := H.toRowOk.pb H.n4
  have be := H.ea (k := n.toNat) (i := 0) (by omega)
  obtain ⟨_, W1, W2, W3⟩ := rwB_iff.1 hw
  have bw := (rwB_ok W1 W2 W3).rv (k := n.toNat) (i := 0) (by omega)
  have c1 := cut_bds (a := eaA u d T n.toNat n.toNat 0) (b := pw (u + d) n.toNat) (by omega) (by omega)
  have c2 := cut_bds (a := rvA u d (rowAt T n.toNat) n.toNat 0) (b := pw (u + d) n.toNat) (by omega) (by omega)
  have e1 : reT n u d T = cutT (eaA u d T n.toNat n.toNat 0) (pw (u + d) n.toNat) := by rw [reT, if_pos h]; rfl
  have e2 : reU n u d T = cutB (eaA u d T n.toNat n.toNat 0) (pw (u + d) n.toNat) := by rw [reU, if_pos h]; rfl
  have e3 : rwT n u d (rowAt T n.toNat) = cutT (rvA u d (rowAt T n.toNat) n.toNat 0) (pw (u + d) n.toNat) := by rw [rwT, if_pos hw]; rfl
  have e4 : rwU n u d (rowAt T n.toNat) = cutB (rvA u d (rowAt T n.toNat) n.toNat 0) (pw (u + d) n.toNat) := by rw [rwU, if_pos hw]; rfl
  refine ⟨⟨n.toNat, by omega, by rw [H.len]; omega⟩, by rw [e1]; exact c1.1, by rw [e2]; exact c1.2, by rw [e3]; exact c2.1, by rw [e4]; exact c2.2, H.bd 0 0 (by omega) (by omega), H.rl 0 (by omega), hw, l1, l2⟩
noncomputable def rw12 : Code := ((Try.f5.body.bind (restFrom 12)).getD .skip)
set_option maxRecDepth 100000 in
set_option maxHeartbeats 4000000 in
theorem rwEarly (A : Option Addr) (bs : List Int) (c : Nat) (w0 w : World) (rc : Rd w A (u8s bs)) (hb : ByOk bs) (hl : bs.length ≤ 65536) (HB : Below w0.heap.size w0 w) (u1 u2 u3 u4 u5 u6 u7 u8 u9 u10 u11 u12 u13 u14 u15 u16 u17 u18 u19 u20 u21 u22 u23 u24 u25 u26 u27 u28 u29 u30 u31 u32 u33 u34 u35 u36 u37 u38 u39 u40 u41 u42 u43 u44 u45 u46 u47 u48 u49 u50 u51 u52 u53 u54 u55 u56 u57 u58 u59 u60 u61 u62 u63 u64 u65 u66 u67 u68 u69 u70 u71 u72 u73 u74 u75 u76 u77 u78 u79 u80 u81 u82 u83 u84 u85 u86 u87 u88 u89 u90 u91 u92 u93 u94 u95 u96 u97 u98 u99 u100 u101 u102 u103 u104 u105 u106 u107 u108 u109 u110 u111 u112 u113 u114 u115 u116 u117 u118 u119 u120 u121 u122 u123 u124 u125 u126 u127 u128 u129 u130 u131 u132 u133 u134 u135 u136 u137 u138 u139 u140 u141 u142 u143 u144 u145 u146 u147 u148 u149 u150 u151 u152 u153 u154 u155 u156 u157 u158 u159 u160 u161 u162 u163 u164 u165 u166 u167 u168 u169 u170 u171 u172 u173 u174 u175 u176 u177 u178 u179 u180 u181 u182 u183 u184 u185 u186 u187 u188 u189 u190 u191 u192 u193 u194 u195 u196 u197 u198 u199 u200 u201 u202 u203 u204 u205 u206 u207 u208 u209 u210 u211 u212 u213 u214 u215 u216 u217 u218 u219 u220 u221 u222 u223 u224 u225 u226 u227 u228 u229 u230 u231 u232 u233 u234 u235 u236 u237 u238 u239 u240 u241 u242 u243 u244 u245 u246 u247 u248 u249 u250 u251 u252 u253 u254 u255 u256 u257 u258 u259 u260 u261 u262 u263 u264 u265 u266 u267 u268 u269 u270 u271 u272 u273 u274 u275 u276 u277 u278 u279 u280 u281 u282 u283 u284 u285 u286 u287 u288 u289 u290 u291 u292 u293 u294 u295 u296 u297 u298 u299 u300 u301 u302 u303 u304 u305 u306 u307 u308 u309 u310 u311 u312 u313 u314 u315 u316 u317 u318 u319 u320 : Value) :
    Code.wp Try.prog rw12 (bodyPost Try.prog Try.f5 fun e w' => e = .returned (.bool true) ∧ Below w0.heap.size w0 w') ⟨#[.slice A bs.length c, u1, u2, u3, u4, u5, u6, u7, u8, u9, u10, u11, u12, u13, u14, u15, u16, u17, u18, u19, u20, u21, u22, u23, u24, u25, u26, u27, u28, u29, u30, u31, u32, u33, u34, u35, u36, u37, u38, u39, u40, u41, u42, u43, u44, u45, u46, u47, u48, u49, u50, u51, u52, u53, u54, u55, u56, u57, u58, u59, u60, u61, u62, u63, u64, u65, u66, u67, u68, u69, u70, u71, u72, u73, u74, u75, u76, u77, u78, u79, u80, u81, u82, u83, u84, u85, u86, u87, u88, u89, u90, u91, u92, u93, u94, u95, u96, u97, u98, u99, u100, u101, u102, u103, u104, u105, u106, u107, u108, u109, u110, u111, u112, u113, u114, u115, u116, u117, u118, u119, u120, u121, u122, u123, u124, u125, u126, u127, u128, u129, u130, u131, u132, u133, u134, u135, u136, u137, u138, u139, u140, u141, u142, u143, u144, u145, u146, u147, u148, u149, u150, u151, u152, u153, u154, u155, u156, u157, u158, u159, u160, u161, u162, u163, u164, u165, u166, u167, u168, u169, u170, u171, u172, u173, u174, u175, u176, u177, u178, u179, u180, u181, u182, u183, u184, u185, u186, u187, u188, u189, u190, u191, u192, u193, u194, u195, u196, u197, u198, u199, u200, u201, u202, u203, u204, u205, u206, u207, u208, u209, u210, u211, u212, u213, u214, u215, u216, u217, u218, u219, u220, u221, u222, u223, u224, u225, u226, u227, u228, u229, u230, u231, u232, u233, u234, u235, u236, u237, u238, u239, u240, u241, u242, u243, u244, u245, u246, u247, u248, u249, u250, u251, u252, u253, u254, u255, u256, u257, u258, u259, u260, u261, u262, u263, u264, u265, u266, u267, u268, u269, u270, u271, u272, u273, u274, u275, u276, u277, u278, u279, u280, u281, u282, u283, u284, u285, u286, u287, u288, u289, u290, u291, u292, u293, u294, u295, u296, u297, u298, u299, u300, u301, u302, u303, u304, u305, u306, u307, u308, u309, u310, u311, u312, u313, u314, u315, u316, u317, u318, u319, u320], []⟩ w := by
  conv => arg 2; whnf
  go_wp2_with fail
  refine (drawRe_c A bs c _ rc hb (by omega)).mono ?_
  rintro e w1 ⟨n, u, d, AT, cT, T, rfl, sT, rT, b1⟩
  replace rc := rc.below b1 (Nat.le_refl _)
  have HB1 := bUp HB b1 HB.size
  have CI := fun w h => implRe_c n u d AT T cT w h sT
  have CS := fun w h => specRe_c n u d AT T cT w h sT
  have HI : Hid (reB n u d T = true → ReIs n u d T (reT n u d T) (reU n u d T) (rwT n u d (rowAt T n.toNat)) (rwU n u d (rowAt T n.toNat)) (nth (rowAt T 0) 0)) := Lib.hid reIs
  generalize reT n u d T = t1 at *
  generalize reU n u d T = t2 at *
  generalize reB n u d T = two at *
  have HCI := Lib.hid CI
  have HCS := Lib.hid CS
  have HST := Lib.hid sT
  clear CI CS b1 HB sT
  go_wp2_with fail
  refine (HCI.out _ rT).mono ?_
  rintro e w2 ⟨rfl, bq⟩
  replace rc := rc.below bq (Nat.le_refl _)
  replace rT := rT.below bq (Nat.le_refl _)
  have HB2 := bUp HB1 bq HB1.size
  clear HB1
  clear bq
  have bl : Below w2.heap.size w2 (w2.alloc (.cells #[.int .i64 t1, .int .i64 t2] 40)) := (Below.refl _ _).alloc (Nat.le_refl _) _
  replace rc := rc.below bl (Nat.le_refl _)
  replace rT := rT.below bl (Nat.le_refl _)
  have HB3 := bUp HB2 bl HB2.size
  clear HB2
  have bx := Bx.new w2 (.int .i64 t1) (.int .i64 t2) 40
  clear bl
  go_wp2_with fail
  generalize w2.alloc (.cells #[.int .i64 t1, .int .i64 t2] 40) = v2 at *
  obtain ⟨gx, hgx⟩ : ∃ gx, gx = w2.heap.size := ⟨_, rfl⟩
  rw [← hgx] at bx ⊢
  clear hgx
  refine (HCS.out _ rT).mono ?_
  rintro e w3 ⟨rfl, bq⟩
  clear HCI HCS
  replace rc := rc.below bq (Nat.le_refl _)
  replace rT := rT.below bq (Nat.le_refl _)
  replace bx := bx.below bq
  have HB4 := bUp HB3 bq HB3.size
  clear HB3
  clear bq
  have bl : Below w3.heap.size w3 (w3.alloc (.cells #[.int .i64 t1, .int .i64 t2] 40)) := (Below.refl _ _).alloc (Nat.le_refl _) _
  replace rc := rc.below bl (Nat.le_refl _)
  replace rT := rT.below bl (Nat.le_refl _)
  replace bx := bx.below bl
  have HB5 := bUp HB4 bl HB4.size
  clear HB4
  have by_ := Bx.new w3 (.int .i64 t1) (.int .i64 t2) 40
  clear bl
  go_upto_region 15 with fail
  generalize w3.alloc (.cells #[.int .i64 t1, .int .i64 t2] 40) = v3 at *
  obtain ⟨gy, hgy⟩ : ∃ gy, gy = w3.heap.size := ⟨_, rfl⟩
  rw [← hgy] at by_ ⊢
  clear hgy
  have e6 : (two != two) = false := by cases two <;> rfl
  have PE := fun w => (pair_eq t1 t2 t1 t2 w).trans (by rw [BEq.rfl, BEq.rfl, Bool.and_self])
  obtain ⟨x0, x1, _, _, xz⟩ := id bx
  obtain ⟨y0, y1, _, _, yz⟩ := id by_
  go_upto_region 17 with fail
  clear PE x0 x1 xz y0 y1 yz by_ e6
  rename_i K1 hK1 K0 hK0
  replace hK1 := Lib.hid hK1
  cases two
  · go_wp2_with fail
    refine hK1.out _ _ ?_
    exact rwMarket A bs c w0 _ rc hb hl HB5 _ _ _ _ _ _ _ _ _ _ _ _ _ _ _ _ _ _ _ _ _ _ _ _ _ _ _ _ _ _ _ _ _ _ _ _ _ _ _ _ _ _ _ _ _ _ _ _ _ _ _ _ _ _ _ _ _ _ _ _ _ _ _ _ _ _ _ _ _ _ _ _ _ _ _ _ _ _ _ _ _ _ _ _ _ _ _ _ _ _ _ _ _ _ _ _ _ _ _ _ _ _ _ _ _ _ _ _ _ _ _ _ _ _ _ _ _ _ _ _ _ _ _ _ _ _ _ _ _ _ _ _ _ _ _ _ _ _ _ _ _ _ _ _ _ _ _ _ _ _ _ _ _ _ _ _ _ _ _ _ _ _ _ _ _ _ _ _ _ _ _ _ _ _ _ _ _ _ _ _ _ _ _ _ _ _ _ _ _ _ _ _ _ _ _ _ _ _ _ _ _ _ _ _ _ _ _ _ _ _ _ _ _ _ _ _ _ _ _ _ _ _ _ _ _ _ _ _ _ _ _ _ _ _ _ _ _ _ _ _ _ _ _ _ _ _ _ _ _ _ _ _ _ _ _ _ _ _ _ _ _ _ _ _ _ _ _ _ _ _ _ _ _ _ _ _ _ _ _ _ _ _ _ _ _ _ _ _ _ _ _ _ _ _ _ _ _ _ _ _ _ _ _ _ _ _ _ _ _ _ _ _ _ _ _ _ _ _ _ _
  · have I := HI.out rfl
    obtain ⟨k, rfl, hkT⟩ := I.k
    have I2 := Lib.hid I
    clear I HI
    obtain ⟨at_, Ak, ck, hat, qk, rk⟩ := rT k hkT
    subst hat
    obtain ⟨at2, A0, c0, hat2, q0, r0⟩ := rT 0 (by omega)
    have hat2 := Option.some.inj hat2
    subst hat2
    have hs0 := HST.out.2 k hkT
    have CR := implRv_c (k : Int) u d Ak (rowAt T k) ck v3 rk (by omega)
    have irb := I2.out.rb
    rw [Int.toNat_natCast] at irb
    rw [irb] at CR
    rw [I2.out.len0] at q0
    obtain ⟨a0, rfl, qx⟩ := r0.intN (k := 0) (by rw [I2.out.len0]; omega)
    have IL : Hid (ReIs (k : Int) u d T t1 t2 (rwT (k : Int) u d (rowAt T k)) (rwU (k : Int) u d (rowAt T k)) (nth (rowAt T 0) 0)) := Lib.hid (by have := I2.out; rwa [Int.toNat_natCast] at this)
    generalize rwT (k : Int) u d (rowAt T k) = v1 at *
    generalize rwU (k : Int) u d (rowAt T k) = vv2 at *
    generalize nth (rowAt T 0) 0 = x at *
    have q0' : v3.cell? at_ = some (.slice (some a0) 1 c0) := q0
    have qx' : v3.cell? a0 = some (.int .i64 x) := qx
    have ik : (k : Int) < (T.length : Int) := by omega
    clear q0 qx irb I2 hs0 r0
    go_wp2_with fail
    refine CR.mono ?_
    rintro e w4 ⟨rfl, bq⟩
    clear CR qk rk ik
    have q0'' := (bq.cell (cell_lt q0')).trans q0'
    have qx'' := (bq.cell (cell_lt qx')).trans qx'
    clear q0' qx' 
    replace rc := rc.below bq (Nat.le_refl _)
    replace rT := rT.below bq (Nat.le_refl _)
    replace bx := bx.below bq
    have HB6 := bUp HB5 bq HB5.size
    clear HB5
    clear bq
    have bl : Below w4.heap.size w4 (w4.alloc (.cells #[.int .i64 v1, .int .i64 vv2] 40)) := (Below.refl _ _).alloc (Nat.le_refl _) _
    have q0' := (bl.cell (cell_lt q0'')).trans q0''
    have qx' := (bl.cell (cell_lt qx'')).trans qx'' 
    replace rc := rc.below bl (Nat.le_refl _)
    replace rT := rT.below bl (Nat.le_refl _)
    replace bx := bx.below bl
    have HB7 := bUp HB6 bl HB6.size
    clear HB6
    have bz := Bx.new w4 (.int .i64 v1) (.int .i64 vv2) 40
    clear bl q0'' qx''
    go_upto_region 19 with fail
    generalize w4.alloc (.cells #[.int .i64 v1, .int .i64 vv2] 40) = v4 at *
    obtain ⟨gz, hgz⟩ : ∃ gz, gz = w4.heap.size := ⟨_, rfl⟩
    rw [← hgz] at bz ⊢
    clear hgz
    obtain ⟨x0, x1, _, _, xz⟩ := id bx
    obtain ⟨z0, z1, _, _, zz⟩ := id bz
    have iT : 0 < T.length := by omega
    have iT2 : (0 : Int) < (T.length : Int) := by omega
    have CL1 := Lib.hid fun w => rLess_is t1 t2 v1 vv2 false IL.out.l1 IL.out.b1 IL.out.b2 IL.out.b3 IL.out.b4 w
    have CL2 := Lib.hid fun w => rLess_is t1 t2 x 1 false IL.out.l2 IL.out.b1 IL.out.b2 (by have := IL.out.bx; omega) (by decide) w
    clear IL
    have hd1 : Below v4.heap.size v4 v4.drew := Below.drew (Below.refl _ _)
    have SK1 : Hid (∀ w', Below v4.heap.size v4 w' → w'.cell? ⟨gx, 0, none⟩ = some (.int .i64 t1) ∧ w'.cell? ⟨gx, 1, none⟩ = some (.int .i64 t2) ∧ w'.cell? ⟨gz, 0, none⟩ = some (.int .i64 v1) ∧ w'.cell? ⟨gz, 1, none⟩ = some (.int .i64 vv2) ∧ w'.cell? at_ = some (.slice (some a0) 1 c0) ∧ w'.cell? a0 = some (.int .i64 x)) := Lib.hid fun w' HV => ⟨(HV.cell (p := ⟨gx, 0, none⟩) xz).trans x0, (HV.cell (p := ⟨gx, 1, none⟩) xz).trans x1, (HV.cell (p := ⟨gz, 0, none⟩) zz).trans z0, (HV.cell (p := ⟨gz, 1, none⟩) zz).trans z1, (HV.cell (cell_lt q0')).trans q0', (HV.cell (cell_lt qx')).trans qx'⟩
    clear x0 x1 z0 z1 q0' qx'
    have hS1_0 := SK1.out _ hd1
    refine tamed_region (S := fun w' => w'.cell? ⟨gx, 0, none⟩ = some (.int .i64 t1) ∧ w'.cell? ⟨gx, 1, none⟩ = some (.int .i64 t2) ∧ w'.cell? ⟨gz, 0, none⟩ = some (.int .i64 v1) ∧ w'.cell? ⟨gz, 1, none⟩ = some (.int .i64 vv2) ∧ w'.cell? at_ = some (.slice (some a0) 1 c0) ∧ w'.cell? a0 = some (.int .i64 x)) (fun _ => false) (by kernel_rfl) ?_
    refine tame0 (k := 0) ?_ rfl (by kernel_rfl) (by kernel_rfl) (by kernel_rfl) (fun _ _ _ h => h) (by kernel_rfl) (fun v => ?_) ?_
    rotate_left
    · (go_simp; all_goals rfl)
    simp only [Act.put, List.setIfInBounds_toArray]
    refine tame0 (k := 1) ?_ rfl (by kernel_rfl) (by kernel_rfl) (by kernel_rfl) (fun _ _ _ h => h) (by kernel_rfl) (fun v => ?_) ?_
    rotate_left
    · (go_simp; all_goals rfl)
    simp only [Act.put]
    refine tame0 (k := 2) ?_ rfl (by kernel_rfl) (by kernel_rfl) (by kernel_rfl) (fun _ _ _ h => h) (by kernel_rfl) (fun v => ?_) ?_
    rotate_left
    · (go_simp; all_goals rfl)
    simp only [Act.put]
    refine tame (k := 3) ?_ rfl (by kernel_rfl) (by kernel_rfl) (by kernel_rfl) (by kernel_rfl) (fun _ _ _ h => h) (by kernel_rfl) hS1_0 (fun v hv => ?_) ?_
    rotate_left
    · (obtain ⟨k1, k2, k3, k4, k5, k6⟩ := hv; go_simp; all_goals rfl)
    simp only [Act.put]
    refine tame (k := 4) ?_ rfl (by kernel_rfl) (by kernel_rfl) (by kernel_rfl) (by kernel_rfl) (fun _ _ _ h => h) (by kernel_rfl) hS1_0 (fun v hv => ?_) ?_
    rotate_left
    · (obtain ⟨k1, k2, k3, k4, k5, k6⟩ := hv; go_simp; all_goals rfl)
    simp only [Act.put]
    refine tame_one (k := 5) (by kernel_rfl) rfl (by kernel_rfl) ?_
    go_simp
    refine (CL1.out _).mono ?_
    rintro e w5 ⟨rfl, b5⟩
    have hd1_1 := bUp hd1 b5 (Nat.le_refl _)
    have hS1_1 := Lib.hid (SK1.out _ hd1_1)
    refine ⟨by first | exact hS1_1 | exact Hid.out hS1_1, ?_⟩
    refine tame_one (k := 6) (by kernel_rfl) rfl (by kernel_rfl) ?_
    go_simp
    refine ⟨by first | exact hS1_1 | exact Hid.out hS1_1, ?_⟩
    refine tame_one (k := 7) (by kernel_rfl) rfl (by kernel_rfl) ?_
    go_simp
    refine ⟨by first | exact hS1_1 | exact Hid.out hS1_1, ?_⟩
    have hS1_1o := Hid.out hS1_1
    refine tame (k := 8) ?_ rfl (by kernel_rfl) (by kernel_rfl) (by kernel_rfl) (by kernel_rfl) (fun _ _ _ h => h) (by kernel_rfl) hS1_1o (fun v hv => ?_) ?_
    rotate_left
    · (obtain ⟨k1, k2, k3, k4, k5, k6⟩ := hv; go_simp; all_goals rfl)
    simp only [Act.put]
    refine tame0 (k := 9) ?_ rfl (by kernel_rfl) (by kernel_rfl) (by kernel_rfl) (fun _ _ _ h => h) (by kernel_rfl) (fun v => ?_) ?_
    rotate_left
    · (go_simp; all_goals rfl)
    simp only [Act.put]
    refine tame0 (k := 10) ?_ rfl (by kernel_rfl) (by kernel_rfl) (by kernel_rfl) (fun _ _ _ h => h) (by kernel_rfl) (fun v => ?_) ?_
    rotate_left
    · (go_simp; all_goals rfl)
    simp only [Act.put]
    refine tame (k := 11) ?_ rfl (by kernel_rfl) (by kernel_rfl) (by kernel_rfl) (by kernel_rfl) (fun _ _ _ h => h) (by kernel_rfl) hS1_1o (fun v hv => ?_) ?_
    rotate_left
    · (obtain ⟨k1, k2, k3, k4, k5, k6⟩ := hv; go_simp; all_goals rfl)
    simp only [Act.put]
    refine tame0 (k := 12) ?_ rfl (by kernel_rfl) (by kernel_rfl) (by kernel_rfl) (fun _ _ _ h => h) (by kernel_rfl) (fun v => ?_) ?_
    rotate_left
    · (go_simp; all_goals rfl)
    simp only [Act.put]
    refine tame (k := 13) ?_ rfl (by kernel_rfl) (by kernel_rfl) (by kernel_rfl) (by kernel_rfl) (fun _ _ _ h => h) (by kernel_rfl) hS1_1o (fun v hv => ?_) ?_
    rotate_left
    · (obtain ⟨k1, k2, k3, k4, k5, k6⟩ := hv; go_simp; all_goals rfl)
    simp only [Act.put]
    refine tame0 (k := 14) ?_ rfl (by kernel_rfl) (by kernel_rfl) (by kernel_rfl) (fun _ _ _ h => h) (by kernel_rfl) (fun v => ?_) ?_
    rotate_left
    · (go_simp; all_goals rfl)
    simp only [Act.put]
    refine tame_one (k := 15) (by kernel_rfl) rfl (by kernel_rfl) ?_
    go_simp
    refine (CL2.out _).mono ?_
    rintro e w6 ⟨rfl, b6⟩
    have hd1_2 := bUp hd1_1 b6 hd1_1.size
    have hS1_2 := Lib.hid (SK1.out _ hd1_2)
    refine ⟨by first | exact hS1_2 | exact Hid.out hS1_2, ?_⟩
    refine tame_one (k := 16) (by kernel_rfl) rfl (by kernel_rfl) ?_
    go_simp
    refine ⟨by first | exact hS1_2 | exact Hid.out hS1_2, ?_⟩
    refine tame_end (by kernel_rfl) ?_
    go_wp2_with fail
    refine hK1.out _ _ ?_
    exact rwMarket A bs c w0 _ (rc.below hd1_2 (Nat.le_refl _)) hb hl (bUp HB7 hd1_2 HB7.size) _ _ _ _ _ _ _ _ _ _ _ _ _ _ _ _ _ _ _ _ _ _ _ _ _ _ _ _ _ _ _ _ _ _ _ _ _ _ _ _ _ _ _ _ _ _ _ _ _ _ _ _ _ _ _ _ _ _ _ _ _ _ _ _ _ _ _ _ _ _ _ _ _ _ _ _ _ _ _ _ _ _ _ _ _ _ _ _ _ _ _ _ _ _ _ _ _ _ _ _ _ _ _ _ _ _ _ _ _ _ _ _ _ _ _ _ _ _ _ _ _ _ _ _ _ _ _ _ _ _ _ _ _ _ _ _ _ _ _ _ _ _ _ _ _ _ _ _ _ _ _ _ _ _ _ _ _ _ _ _ _ _ _ _ _ _ _ _ _ _ _ _ _ _ _ _ _ _ _ _ _ _ _ _ _ _ _ _ _ _ _ _ _ _ _ _ _ _ _ _ _ _ _ _ _ _ _ _ _ _ _ _ _ _ _ _ _ _ _ _ _ _ _ _ _ _ _ _ _ _ _ _ _ _ _ _ _ _ _ _ _ _ _ _ _ _ _ _ _ _ _ _ _ _ _ _ _ _ _ _ _ _ _ _ _ _ _ _ _ _ _ _ _ _ _ _ _ _ _ _ _ _ _ _ _ _ _ _ _ _ _ _ _ _ _ _ _ _ _ _ _ _ _ _ _ _ _ _ _ _ _ _ _ _ _ _ _ _ _ _
set_option maxRecDepth 100000 in
set_option maxHeartbeats 4000000 in
theorem lawRw (A : Option Addr) (bs : List Int) (c : Nat) (w : World) (rc : Rd w A (u8s bs)) (hb : ByOk bs) (hlen : bs.length ≤ 9223372036854775807) (_hc : bs.length ≤ c) :
    Calls Try.prog 5 #[.slice A bs.length c] w fun e w' => e = .returned (.bool true) ∧ Below w.heap.size w w' := by
  by_cases hbig : 65536 < (bs.length : Int)
  · have C := rBigR_c A bs c w hlen
    rw [decide_eq_true hbig] at C
    go_enter Try.func5, Try.ntmps5
    go_wp2_with fail
    refine C.mono ?_
    rintro e w' ⟨rfl, rfl⟩
    go_wp2
    go_ret
    exact ⟨rfl, Below.refl _ _⟩
  have hl : bs.length ≤ 65536 := by omega
  have C := rBigR_c A bs c w hlen
  rw [decide_eq_false hbig] at C
  clear hbig
  go_enter Try.func5, Try.ntmps5
  go_wp2_with fail
  refine C.mono ?_
  rintro e w' ⟨rfl, rfl⟩
  clear C
  go_wp2_with fail
  refine (drawRv_c A bs c w rc hb (by omega)).mono ?_
  rintro e w1 ⟨n, u, d, AX, cX, xs, rfl, hx30, hxc, rX, b1⟩
  replace rc := rc.below b1 (Nat.le_refl _)
  have HB1 := b1
  have C1 := fun w h => implRv_c n u d AX xs cX w h (by omega)
  have C2 := fun w h => specRv_c n u d AX xs cX w h (by omega) hxc
  have C3 := fun w h => implRh_c n u d AX xs cX w h (by omega) hxc
  have C4 := fun w h => specRh_c n u d AX xs cX w h (by omega) hxc
  have HI : Hid (rwB n u d xs = false → rhB n u d xs = false) := Lib.hid rhB_1
  generalize rwT n u d xs = t1 at *
  generalize rwU n u d xs = t2 at *
  generalize rwB n u d xs = ok at *
  generalize rhT n u d xs = h1 at *
  generalize rhU n u d xs = h2 at *
  generalize rhB n u d xs = one at *
  have H1 := Lib.hid C1
  have H2 := Lib.hid C2
  have H3 := Lib.hid C3
  have H4 := Lib.hid C4
  clear C1 C2 C3 C4 b1 hxc
  go_wp2_with fail
  refine (H1.out _ rX).mono ?_
  rintro e w2 ⟨rfl, bq⟩
  replace rc := rc.below bq (Nat.le_refl _)
  replace rX := rX.below bq (Nat.le_refl _)
  have HB2 := bUp HB1 bq HB1.size
  clear HB1
  clear bq
  have bl : Below w2.heap.size w2 (w2.alloc (.cells #[.int .i64 t1, .int .i64 t2] 40)) := (Below.refl _ _).alloc (Nat.le_refl _) _
  replace rc := rc.below bl (Nat.le_refl _)
  replace rX := rX.below bl (Nat.le_refl _)
  have HB3 := bUp HB2 bl HB2.size
  clear HB2
  have bx := Bx.new w2 (.int .i64 t1) (.int .i64 t2) 40
  clear bl
  go_wp2_with fail
  generalize w2.alloc (.cells #[.int .i64 t1, .int .i64 t2] 40) = v2 at *
  obtain ⟨gx, hgx⟩ : ∃ gx, gx = w2.heap.size := ⟨_, rfl⟩
  rw [← hgx] at bx ⊢
  clear hgx
  refine (H2.out _ rX).mono ?_
  rintro e w3 ⟨rfl, bq⟩
  replace rc := rc.below bq (Nat.le_refl _)
  replace rX := rX.below bq (Nat.le_refl _)
  replace bx := bx.below bq
  have HB4 := bUp HB3 bq HB3.size
  clear HB3
  clear bq
  have bl : Below w3.heap.size w3 (w3.alloc (.cells #[.int .i64 t1, .int .i64 t2] 40)) := (Below.refl _ _).alloc (Nat.le_refl _) _
  replace rc := rc.below bl (Nat.le_refl _)
  replace rX := rX.below bl (Nat.le_refl _)
  replace bx := bx.below bl
  have HB5 := bUp HB4 bl HB4.size
  clear HB4
  have by_ := Bx.new w3 (.int .i64 t1) (.int .i64 t2) 40
  clear bl
  go_upto_region 6 with fail
  generalize w3.alloc (.cells #[.int .i64 t1, .int .i64 t2] 40) = v3 at *
  obtain ⟨gy, hgy⟩ : ∃ gy, gy = w3.heap.size := ⟨_, rfl⟩
  rw [← hgy] at by_ ⊢
  clear hgy
  have e6 : (ok != ok) = false := by cases ok <;> rfl
  have PE := fun w => (pair_eq t1 t2 t1 t2 w).trans (by rw [BEq.rfl, BEq.rfl, Bool.and_self])
  obtain ⟨x0, x1, _, _, xz⟩ := id bx
  obtain ⟨y0, y1, _, _, yz⟩ := id by_
  go_wp2_with fail
  clear PE x0 x1 xz y0 y1 yz bx by_ e6
  refine (H3.out _ rX).mono ?_
  rintro e w4 ⟨rfl, bq⟩
  replace rc := rc.below bq (Nat.le_refl _)
  replace rX := rX.below bq (Nat.le_refl _)
  have HB6 := bUp HB5 bq HB5.size
  clear HB5
  clear bq
  have bl : Below w4.heap.size w4 (w4.alloc (.cells #[.int .i64 h1, .int .i64 h2] 40)) := (Below.refl _ _).alloc (Nat.le_refl _) _
  replace rc := rc.below bl (Nat.le_refl _)
  replace rX := rX.below bl (Nat.le_refl _)
  have HB7 := bUp HB6 bl HB6.size
  clear HB6
  have bx := Bx.new w4 (.int .i64 h1) (.int .i64 h2) 40
  clear bl
  go_wp2_with fail
  generalize w4.alloc (.cells #[.int .i64 h1, .int .i64 h2] 40) = v4 at *
  obtain ⟨gp, hgp⟩ : ∃ gp, gp = w4.heap.size := ⟨_, rfl⟩
  rw [← hgp] at bx ⊢
  clear hgp
  refine (H4.out _ rX).mono ?_
  rintro e w5 ⟨rfl, bq⟩
  replace rc := rc.below bq (Nat.le_refl _)
  replace rX := rX.below bq (Nat.le_refl _)
  replace bx := bx.below bq
  have HB8 := bUp HB7 bq HB7.size
  clear HB7
  clear bq
  have bl : Below w5.heap.size w5 (w5.alloc (.cells #[.int .i64 h1, .int .i64 h2] 40)) := (Below.refl _ _).alloc (Nat.le_refl _) _
  replace rc := rc.below bl (Nat.le_refl _)
  replace rX := rX.below bl (Nat.le_refl _)
  replace bx := bx.below bl
  have HB9 := bUp HB8 bl HB8.size
  clear HB8
  have by_ := Bx.new w5 (.int .i64 h1) (.int .i64 h2) 40
  clear bl
  go_upto_region 10 with fail
  generalize w5.alloc (.cells #[.int .i64 h1, .int .i64 h2] 40) = v5 at *
  obtain ⟨gq, hgq⟩ : ∃ gq, gq = w5.heap.size := ⟨_, rfl⟩
  rw [← hgq] at by_ ⊢
  clear hgq
  rename_i K1 hK1 K0 hK0
  replace hK1 := Lib.hid hK1
  have PE := fun w => (pair_eq h1 h2 h1 h2 w).trans (by rw [BEq.rfl, BEq.rfl, Bool.and_self])
  obtain ⟨x0, x1, _, _, xz⟩ := id bx
  obtain ⟨y0, y1, _, _, yz⟩ := id by_
  cases ok
  · obtain rfl : one = false := HI.out rfl
    go_wp2_with fail
    refine hK1.out _ _ ?_
    exact rwEarly A bs c w _ rc hb hl HB9 _ _ _ _ _ _ _ _ _ _ _ _ _ _ _ _ _ _ _ _ _ _ _ _ _ _ _ _ _ _ _ _ _ _ _ _ _ _ _ _ _ _ _ _ _ _ _ _ _ _ _ _ _ _ _ _ _ _ _ _ _ _ _ _ _ _ _ _ _ _ _ _ _ _ _ _ _ _ _ _ _ _ _ _ _ _ _ _ _ _ _ _ _ _ _ _ _ _ _ _ _ _ _ _ _ _ _ _ _ _ _ _ _ _ _ _ _ _ _ _ _ _ _ _ _ _ _ _ _ _ _ _ _ _ _ _ _ _ _ _ _ _ _ _ _ _ _ _ _ _ _ _ _ _ _ _ _ _ _ _ _ _ _ _ _ _ _ _ _ _ _ _ _ _ _ _ _ _ _ _ _ _ _ _ _ _ _ _ _ _ _ _ _ _ _ _ _ _ _ _ _ _ _ _ _ _ _ _ _ _ _ _ _ _ _ _ _ _ _ _ _ _ _ _ _ _ _ _ _ _ _ _ _ _ _ _ _ _ _ _ _ _ _ _ _ _ _ _ _ _ _ _ _ _ _ _ _ _ _ _ _ _ _ _ _ _ _ _ _ _ _ _ _ _ _ _ _ _ _ _ _ _ _ _ _ _ _ _ _ _ _ _ _ _ _ _ _ _ _ _ _ _ _ _ _ _ _ _ _ _ _ _ _ _ _ _ _ _ _ _
  · cases one
    · go_wp2_with fail
      refine hK1.out _ _ ?_
      exact rwEarly A bs c w _ rc hb hl HB9 _ _ _ _ _ _ _ _ _ _ _ _ _ _ _ _ _ _ _ _ _ _ _ _ _ _ _ _ _ _ _ _ _ _ _ _ _ _ _ _ _ _ _ _ _ _ _ _ _ _ _ _ _ _ _ _ _ _ _ _ _ _ _ _ _ _ _ _ _ _ _ _ _ _ _ _ _ _ _ _ _ _ _ _ _ _ _ _ _ _ _ _ _ _ _ _ _ _ _ _ _ _ _ _ _ _ _ _ _ _ _ _ _ _ _ _ _ _ _ _ _ _ _ _ _ _ _ _ _ _ _ _ _ _ _ _ _ _ _ _ _ _ _ _ _ _ _ _ _ _ _ _ _ _ _ _ _ _ _ _ _ _ _ _ _ _ _ _ _ _ _ _ _ _ _ _ _ _ _ _ _ _ _ _ _ _ _ _ _ _ _ _ _ _ _ _ _ _ _ _ _ _ _ _ _ _ _ _ _ _ _ _ _ _ _ _ _ _ _ _ _ _ _ _ _ _ _ _ _ _ _ _ _ _ _ _ _ _ _ _ _ _ _ _ _ _ _ _ _ _ _ _ _ _ _ _ _ _ _ _ _ _ _ _ _ _ _ _ _ _ _ _ _ _ _ _ _ _ _ _ _ _ _ _ _ _ _ _ _ _ _ _ _ _ _ _ _ _ _ _ _ _ _ _ _ _ _ _ _ _ _ _ _ _ _ _ _ _ _ _
    · go_wp2_with fail
      refine hK1.out _ _ ?_
      exact rwEarly A bs c w _ rc hb hl HB9 _ _ _ _ _ _ _ _ _ _ _ _ _ _ _ _ _ _ _ _ _ _ _ _ _ _ _ _ _ _ _ _ _ _ _ _ _ _ _ _ _ _ _ _ _ _ _ _ _ _ _ _ _ _ _ _ _ _ _ _ _ _ _ _ _ _ _ _ _ _ _ _ _ _ _ _ _ _ _ _ _ _ _ _ _ _ _ _ _ _ _ _ _ _ _ _ _ _ _ _ _ _ _ _ _ _ _ _ _ _ _ _ _ _ _ _ _ _ _ _ _ _ _ _ _ _ _ _ _ _ _ _ _ _ _ _ _ _ _ _ _ _ _ _ _ _ _ _ _ _ _ _ _ _ _ _ _ _ _ _ _ _ _ _ _ _ _ _ _ _ _ _ _ _ _ _ _ _ _ _ _ _ _ _ _ _ _ _ _ _ _ _ _ _ _ _ _ _ _ _ _ _ _ _ _ _ _ _ _ _ _ _ _ _ _ _ _ _ _ _ _ _ _ _ _ _ _ _ _ _ _ _ _ _ _ _ _ _ _ _ _ _ _ _ _ _ _ _ _ _ _ _ _ _ _ _ _ _ _ _ _ _ _ _ _ _ _ _ _ _ _ _ _ _ _ _ _ _ _ _ _ _ _ _ _ _ _ _ _ _ _ _ _ _ _ _ _ _ _ _ _ _ _ _ _ _ _ _ _ _ _ _ _ _ _ _ _ _ _ _

end Go.Proofs.Ytnhclpajfejnoaa
