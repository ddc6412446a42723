/- The law FnCalls from the shares' prices on. (Written by gen_cab.py.) -/
import Derived.Test.YtnhclpajfejnoaaCaT
import Derived.Test.YtnhclpajfejnoaaPrH
import Derived.Test.YtnhclpajfejnoaaVw
namespace Go.Proofs.Ytnhclpajfejnoaa
open Go.RowKit

noncomputable def ca23 : Code := ((Try.f3.body.bind (restFrom 23)).getD .skip)

set_option maxRecDepth 100000 in
set_option maxHeartbeats 8000000 in
theorem caMid (A1 : Option Addr) (P : List Int) (c1 : Nat) (A2 : Option Addr) (W : List Int) (c2 : Nat) (A3 : Option Addr) (F : List Int) (c3 : Nat) (k : Int) (hF : 0 < F.length) (hFb : 0 ≤ nth F 0 ∧ nth F 0 ≤ 20) (hk : 0 ≤ k ∧ k ≤ 20) (gm : Nat)
    (AC : Option Addr) (C : List Int) (cC : Nat) (AQ : Option Addr) (Q : List Int) (cQ : Nat) (AS : Option Addr) (S : List Int) (cS : Nat) (hC : C.length ≤ 24) (hQ : Q.length ≤ 24) (hS : S.length ≤ 24) (o a b c d : List (Int × Int)) (tO ta tb tc td : Bool)
    (ho : Hid (prV true P W F S = o ∧ prB true P W F S = tO)) (ha : Hid (prV true P W F C = a ∧ prB true P W F C = ta)) (hb : Hid (prV false P W F Q = b ∧ prB false P W F Q = tb)) (hc : Hid (prV false P W F C = c ∧ prB false P W F C = tc)) (hd : Hid (prV true P W F Q = d ∧ prB true P W F Q = td))
    (lo : o.length ≤ 24) (la : a.length ≤ 24) (lb : b.length ≤ 24) (lc : c.length ≤ 24) (ld : d.length ≤ 24) (HSH : Hid (∀ x, x < o.length → x < F.length ∧ nP o x = (nth F x, 1)))
    (HL : ta = true → tb = true → tc = true → td = true → CaLaw a b c d (nth F 0 - k)) (w0 w : World) (HB : Below w0.heap.size w0 w) (h : RdM w A1 P A2 W A3 F) (bx : Bx3 w gm (.slice A1 P.length c1) (.slice A2 W.length c2) (.slice A3 F.length c3))
    (rC : Rd w AC (ints C)) (rQ : Rd w AQ (ints Q)) (rS : Rd w AS (ints S)) (u0 u1 u2 u6 u7 u8 u10 u11 u12 u14 u15 u16 u17 u18 u19 u20 u21 u22 u23 u24 u25 u26 u27 u28 u29 u30 u31 u32 u33 u34 u35 u36 u37 u38 u39 u40 u41 u42 u43 u44 u45 u46 u47 u48 u49 u50 u51 u52 u53 u54 u55 u56 u57 u58 u59 u60 u61 u62 u63 u64 u65 u66 u67 u68 u69 u70 u71 u72 u73 u74 u75 u76 u77 u78 u79 u80 u81 u82 u83 u84 u85 u86 u87 u88 u89 u90 u91 u92 u93 u94 u95 u96 u97 u98 u99 u100 u101 u102 u103 u104 u105 u106 u107 u108 u109 u110 u111 u112 u113 u114 u115 u116 u117 u118 u119 u120 u121 u122 u123 u124 u125 u126 u127 u128 u129 u130 u131 u132 u133 u134 u135 u136 u137 u138 u139 u140 u141 u142 u143 u144 u145 u146 u147 u148 u149 u150 u151 u152 u153 u154 u155 u156 u157 u158 u159 u160 u161 u162 u163 u164 u165 u166 u167 u168 u169 u170 u171 u172 u173 u174 u175 u176 u177 u178 u179 u180 u181 u182 u183 u184 u185 u186 u187 u188 u189 u190 u191 u192 u193 u194 u195 u196 u197 u198 u199 u200 u201 u202 u203 u204 u205 u206 u207 u208 u209 u210 u211 u212 u213 u214 u215 u216 u217 u218 u219 u220 u221 u222 u223 u224 u225 u226 u227 u228 u229 u230 u231 u232 u233 u234 u235 u236 u237 u238 u239 u240 u241 u242 u243 u244 u245 u246 u247 u248 u249 u250 u251 u252 u253 u254 u255 u256 u257 u258 u259 u260 u261 u262 u263 u264 u265 u266 u267 u268 u269 u270 u271 u272 u273 u274 u275 u276 u277 u278 u279 u280 u281 u282 u283 u284 u285 u286 u287 u288 u289 u290 u291 u292 u293 u294 u295 u296 u297 u298 u299 u300 u301 u302 u303 u304 u305 u306 u307 u308 u309 u310 u311 u312 u313 u314 u315 u316 u317 u318 u319 u320 u321 u322 u323 u324 u325 u326 u327 u328 u329 u330 u331 u332 : Value) :
    Code.wp Try.prog ca23 (bodyPost Try.prog Try.f3 fun e w' => e = .returned (.bool true) ∧ Below w0.heap.size w0 w') ⟨#[u0, u1, u2, .pointer (some ⟨gm, 0, none⟩), .int .i64 k, .slice AC C.length cC, u6, u7, u8, .slice AQ Q.length cQ, u10, u11, u12, .slice AS S.length cS, u14, u15, u16, u17, u18, u19, u20, u21, u22, u23, u24, u25, u26, u27, u28, u29, u30, u31, u32, u33, u34, u35, u36, u37, u38, u39, u40, u41, u42, u43, u44, u45, u46, u47, u48, u49, u50, u51, u52, u53, u54, u55, u56, u57, u58, u59, u60, u61, u62, u63, u64, u65, u66, u67, u68, u69, u70, u71, u72, u73, u74, u75, u76, u77, u78, u79, u80, u81, u82, u83, u84, u85, u86, u87, u88, u89, u90, u91, u92, u93, u94, u95, u96, u97, u98, u99, u100, u101, u102, u103, u104, u105, u106, u107, u108, u109, u110, u111, u112, u113, u114, u115, u116, u117, u118, u119, u120, u121, u122, u123, u124, u125, u126, u127, u128, u129, u130, u131, u132, u133, u134, u135, u136, u137, u138, u139, u140, u141, u142, u143, u144, u145, u146, u147, u148, u149, u150, u151, u152, u153, u154, u155, u156, u157, u158, u159, u160, u161, u162, u163, u164, u165, u166, u167, u168, u169, u170, u171, u172, u173, u174, u175, u176, u177, u178, u179, u180, u181, u182, u183, u184, u185, u186, u187, u188, u189, u190, u191, u192, u193, u194, u195, u196, u197, u198, u199, u200, u201, u202, u203, u204, u205, u206, u207, u208, u209, u210, u211, u212, u213, u214, u215, u216, u217, u218, u219, u220, u221, u222, u223, u224, u225, u226, u227, u228, u229, u230, u231, u232, u233, u234, u235, u236, u237, u238, u239, u240, u241, u242, u243, u244, u245, u246, u247, u248, u249, u250, u251, u252, u253, u254, u255, u256, u257, u258, u259, u260, u261, u262, u263, u264, u265, u266, u267, u268, u269, u270, u271, u272, u273, u274, u275, u276, u277, u278, u279, u280, u281, u282, u283, u284, u285, u286, u287, u288, u289, u290, u291, u292, u293, u294, u295, u296, u297, u298, u299, u300, u301, u302, u303, u304, u305, u306, u307, u308, u309, u310, u311, u312, u313, u314, u315, u316, u317, u318, u319, u320, u321, u322, u323, u324, u325, u326, u327, u328, u329, u330, u331, u332], []⟩ w := by
  conv => arg 2; whnf
  have k0 := bx.1
  have k1 := bx.2.1
  have k2 := bx.2.2.1
  go_wp2_with fail
  have CC := implUpperPrices_c A1 P c1 A2 W c2 A3 F c3 AS S cS _ h rS (by omega)
  rw [ho.out.1, ho.out.2] at CC
  refine (CC).mono ?_
  rintro e w1 ⟨Ao1, co1, rfl, oo1, bq⟩
  clear k0 k1 k2
  replace h := h.below bq (Nat.le_refl _)
  replace rC := rC.below bq (Nat.le_refl _)
  replace rQ := rQ.below bq (Nat.le_refl _)
  replace rS := rS.below bq (Nat.le_refl _)
  replace bx := bx.below bq
  have HB1 := bUp HB bq HB.size
  clear HB
  clear bq
  clear CC
  have ro1 := Rd.of_own oo1
  clear oo1
  have k0 := bx.1
  have k1 := bx.2.1
  have k2 := bx.2.2.1
  go_wp2_with fail
  have CC := specUpperPrices_c A1 P c1 A2 W c2 A3 F c3 AS S cS _ h rS (by omega)
  rw [ho.out.1, ho.out.2] at CC
  refine (CC).mono ?_
  rintro e w2 ⟨Ao2, co2, rfl, oo2, bq⟩
  clear k0 k1 k2
  replace h := h.below bq (Nat.le_refl _)
  replace rC := rC.below bq (Nat.le_refl _)
  replace rQ := rQ.below bq (Nat.le_refl _)
  replace rS := rS.below bq (Nat.le_refl _)
  replace bx := bx.below bq
  replace ro1 := ro1.below bq (Nat.le_refl _)
  have HB2 := bUp HB1 bq HB1.size
  clear HB1
  clear bq
  clear CC
  have ro2 := Rd.of_own oo2
  clear oo2
  go_wp2_with fail
  refine (rFracs_same Ao1 Ao2 o _ _ co1 co2 _ rfl rfl ro1 ro2 (by omega)).mono ?_
  rintro e w3 ⟨rfl, bq⟩
  replace h := h.below bq (Nat.le_refl _)
  replace rC := rC.below bq (Nat.le_refl _)
  replace rQ := rQ.below bq (Nat.le_refl _)
  replace rS := rS.below bq (Nat.le_refl _)
  replace bx := bx.below bq
  replace ro1 := ro1.below bq (Nat.le_refl _)
  replace ro2 := ro2.below bq (Nat.le_refl _)
  have HB3 := bUp HB2 bq HB2.size
  clear HB2
  clear bq
  clear ro2
  go_wp2_with fail
  go_loopw [22] (fun i wr => ∃ n : Nat, n ≤ o.length ∧ i = .int .i64 (n : Int) ∧ Below w3.heap.size w3 wr) (fun i _ => o.length - (intOf i).toNat)
  case atStart => exact ⟨0, by omega, rfl, Below.refl _ _⟩
  case round =>
    obtain ⟨v, rfl⟩ : ∃ v : World, v = wr := ⟨_, rfl⟩
    obtain ⟨n, hn, rfl, HV⟩ := hrel
    have HO := Lib.hid hn
    by_cases hlt : n < o.length
    · obtain ⟨hnF, hnP⟩ := HSH.out n hlt
      obtain ⟨y0, y1⟩ := pcells_get o n hlt
      have rV := ro1.below HV (Nat.le_refl _)
      obtain ⟨ad, rfl, q1⟩ := rV _ _ y0
      obtain ⟨_, e, q2⟩ := rV _ _ y1
      injection e with e
      subst e
      have q2' := pairOff 1 (by omega) q2
      clear q2 y0 y1 rV
      rw [show pT o n = nth F n from congrArg Prod.fst hnP] at q1
      rw [show pB o n = 1 from congrArg Prod.snd hnP] at q2'
      obtain ⟨af, rfl, q3⟩ := (h.r3.below HV (Nat.le_refl _)).intN hnF
      obtain ⟨k0, k1, k2, k3⟩ := bx.below HV
      have PE := fun w => (pair_eq (nth F n) 1 (nth F n) 1 w).trans (by rw [BEq.rfl, BEq.rfl, Bool.and_self])
      have hnF' : (n : Int) < (F.length : Int) := by omega
      clear hnP
      go_upto_region 30 with fail
      have hd1 : Below v.heap.size v v.drew := Below.drew (Below.refl _ _)
      have SK1 : Hid (∀ w', Below v.heap.size v w' → w'.cell? (ad.add (n * 2)) = some (.int .i64 (nth F n)) ∧ w'.cell? ⟨(ad.add (n * 2)).block, (ad.add (n * 2)).off + 1, none⟩ = some (.int .i64 1) ∧ w'.cell? ⟨gm, 2, none⟩ = some (.slice (some af) F.length c3) ∧ w'.cell? (af.add n) = some (.int .i64 (nth F n))) := Lib.hid fun w' HV => ⟨(HV.cell (cell_lt q1)).trans q1, (HV.cell (cell_lt q2')).trans q2', (HV.cell (p := ⟨gm, 2, none⟩) k3).trans k2, (HV.cell (cell_lt q3)).trans q3⟩
      clear q1 q2' k0 k1 k2 q3
      have hS1_0 := SK1.out _ hd1
      refine tamed_region (S := fun w' => w'.cell? (ad.add (n * 2)) = some (.int .i64 (nth F n)) ∧ w'.cell? ⟨(ad.add (n * 2)).block, (ad.add (n * 2)).off + 1, none⟩ = some (.int .i64 1) ∧ w'.cell? ⟨gm, 2, none⟩ = some (.slice (some af) F.length c3) ∧ w'.cell? (af.add n) = some (.int .i64 (nth F n))) (fun _ => false) (by kernel_rfl) ?_
      refine tame0 (k := 0) ?_ rfl (by kernel_rfl) (by kernel_rfl) (by kernel_rfl) (fun _ _ _ h => h) (by kernel_rfl) (fun v => ?_) ?_
      rotate_left
      · (go_simp; all_goals rfl)
      simp only [Act.put, List.setIfInBounds_toArray]
      refine tame0 (k := 1) ?_ rfl (by kernel_rfl) (by kernel_rfl) (by kernel_rfl) (fun _ _ _ h => h) (by kernel_rfl) (fun v => ?_) ?_
      rotate_left
      · (go_simp; all_goals rfl)
      simp only [Act.put]
      refine tame0 (k := 2) ?_ rfl (by kernel_rfl) (by kernel_rfl) (by kernel_rfl) (fun _ _ _ h => h) (by kernel_rfl) (fun v => ?_) ?_
      rotate_left
      · (go_simp; all_goals rfl)
      simp only [Act.put]
      refine tame (k := 3) ?_ rfl (by kernel_rfl) (by kernel_rfl) (by kernel_rfl) (by kernel_rfl) (fun _ _ _ h => h) (by kernel_rfl) hS1_0 (fun v hv => ?_) ?_
      rotate_left
      · (obtain ⟨k1, k2, k3, k4⟩ := hv; go_simp; all_goals rfl)
      simp only [Act.put]
      refine tame0 (k := 4) ?_ rfl (by kernel_rfl) (by kernel_rfl) (by kernel_rfl) (fun _ _ _ h => h) (by kernel_rfl) (fun v => ?_) ?_
      rotate_left
      · (go_simp; all_goals rfl)
      simp only [Act.put]
      refine tame (k := 5) ?_ rfl (by kernel_rfl) (by kernel_rfl) (by kernel_rfl) (by kernel_rfl) (fun _ _ _ h => h) (by kernel_rfl) hS1_0 (fun v hv => ?_) ?_
      rotate_left
      · (obtain ⟨k1, k2, k3, k4⟩ := hv; go_simp; all_goals rfl)
      simp only [Act.put]
      refine tame0 (k := 6) ?_ rfl (by kernel_rfl) (by kernel_rfl) (by kernel_rfl) (fun _ _ _ h => h) (by kernel_rfl) (fun v => ?_) ?_
      rotate_left
      · (go_simp; all_goals rfl)
      simp only [Act.put]
      refine tame0 (k := 7) ?_ rfl (by kernel_rfl) (by kernel_rfl) (by kernel_rfl) (fun _ _ _ h => h) (by kernel_rfl) (fun v => ?_) ?_
      rotate_left
      · (go_simp; all_goals rfl)
      simp only [Act.put]
      refine tame (k := 8) ?_ rfl (by kernel_rfl) (by kernel_rfl) (by kernel_rfl) (by kernel_rfl) (fun _ _ _ h => h) (by kernel_rfl) hS1_0 (fun v hv => ?_) ?_
      rotate_left
      · (obtain ⟨k1, k2, k3, k4⟩ := hv; go_simp; all_goals rfl)
      simp only [Act.put]
      refine tame0 (k := 9) ?_ rfl (by kernel_rfl) (by kernel_rfl) (by kernel_rfl) (fun _ _ _ h => h) (by kernel_rfl) (fun v => ?_) ?_
      rotate_left
      · (go_simp; all_goals rfl)
      simp only [Act.put]
      have hS1_0v := Lib.hid hS1_0
      clear hS1_0
      refine tame_one (k := 10) (by kernel_rfl) rfl (by kernel_rfl) ?_
      go_simp
      refine ⟨by first | exact hS1_0v | exact Hid.out hS1_0v, ?_⟩
      refine tame_end (by kernel_rfl) ?_
      go_wp2_with fail
      go_roundw
      case rel => exact ⟨n + 1, by omega, by go_num, bUp HV hd1 HV.size⟩
      case measure => simp [intOf] <;> omega
    · obtain rfl : n = o.length := by omega
      replace h := h.below HV (Nat.le_refl _)
      replace rC := rC.below HV (Nat.le_refl _)
      replace rQ := rQ.below HV (Nat.le_refl _)
      replace rS := rS.below HV (Nat.le_refl _)
      replace bx := bx.below HV
      replace ro1 := ro1.below HV (Nat.le_refl _)
      have HB4 := bUp HB3 HV HB3.size
      clear HB3
      clear ro1
      have k0 := bx.1
      have k1 := bx.2.1
      have k2 := bx.2.2.1
      go_wp2_with fail
      have CC := implUpperPrices_c A1 P c1 A2 W c2 A3 F c3 AC C cC _ h rC (by omega)
      rw [ha.out.1, ha.out.2] at CC
      refine (CC).mono ?_
      rintro e w5 ⟨Aa1, ca1, rfl, oa1, bq⟩
      clear k0 k1 k2
      replace h := h.below bq (Nat.le_refl _)
      replace rC := rC.below bq (Nat.le_refl _)
      replace rQ := rQ.below bq (Nat.le_refl _)
      replace rS := rS.below bq (Nat.le_refl _)
      replace bx := bx.below bq
      have HB5 := bUp HB4 bq HB4.size
      clear HB4
      clear bq
      clear CC
      have ra1 := Rd.of_own oa1
      clear oa1
      have k0 := bx.1
      have k1 := bx.2.1
      have k2 := bx.2.2.1
      go_wp2_with fail
      have CC := implLowerPrices_c A1 P c1 A2 W c2 A3 F c3 AQ Q cQ _ h rQ (by omega)
      rw [hb.out.1, hb.out.2] at CC
      refine (CC).mono ?_
      rintro e w6 ⟨Ab1, cb1, rfl, ob1, bq⟩
      clear k0 k1 k2
      replace h := h.below bq (Nat.le_refl _)
      replace rC := rC.below bq (Nat.le_refl _)
      replace rQ := rQ.below bq (Nat.le_refl _)
      replace rS := rS.below bq (Nat.le_refl _)
      replace bx := bx.below bq
      replace ra1 := ra1.below bq (Nat.le_refl _)
      have HB6 := bUp HB5 bq HB5.size
      clear HB5
      clear bq
      clear CC
      have rb1 := Rd.of_own ob1
      clear ob1
      have k0 := bx.1
      have k1 := bx.2.1
      have k2 := bx.2.2.1
      go_wp2_with fail
      have CC := implLowerPrices_c A1 P c1 A2 W c2 A3 F c3 AC C cC _ h rC (by omega)
      rw [hc.out.1, hc.out.2] at CC
      refine (CC).mono ?_
      rintro e w7 ⟨Ad1, cd1, rfl, od1, bq⟩
      clear k0 k1 k2
      replace h := h.below bq (Nat.le_refl _)
      replace rC := rC.below bq (Nat.le_refl _)
      replace rQ := rQ.below bq (Nat.le_refl _)
      replace rS := rS.below bq (Nat.le_refl _)
      replace bx := bx.below bq
      replace ra1 := ra1.below bq (Nat.le_refl _)
      replace rb1 := rb1.below bq (Nat.le_refl _)
      have HB7 := bUp HB6 bq HB6.size
      clear HB6
      clear bq
      clear CC
      have rd1 := Rd.of_own od1
      clear od1
      have k0 := bx.1
      have k1 := bx.2.1
      have k2 := bx.2.2.1
      go_wp2_with fail
      have CC := implUpperPrices_c A1 P c1 A2 W c2 A3 F c3 AQ Q cQ _ h rQ (by omega)
      rw [hd.out.1, hd.out.2] at CC
      refine (CC).mono ?_
      rintro e w8 ⟨Ae1, ce1, rfl, oe1, bq⟩
      clear k0 k1 k2
      replace h := h.below bq (Nat.le_refl _)
      replace rC := rC.below bq (Nat.le_refl _)
      replace rQ := rQ.below bq (Nat.le_refl _)
      replace rS := rS.below bq (Nat.le_refl _)
      replace bx := bx.below bq
      replace ra1 := ra1.below bq (Nat.le_refl _)
      replace rb1 := rb1.below bq (Nat.le_refl _)
      replace rd1 := rd1.below bq (Nat.le_refl _)
      have HB8 := bUp HB7 bq HB7.size
      clear HB7
      clear bq
      clear CC
      have re1 := Rd.of_own oe1
      clear oe1
      have k0 := bx.1
      have k1 := bx.2.1
      have k2 := bx.2.2.1
      go_wp2_with fail
      have CC := specUpperPrices_c A1 P c1 A2 W c2 A3 F c3 AC C cC _ h rC (by omega)
      rw [ha.out.1, ha.out.2] at CC
      refine (CC).mono ?_
      rintro e w9 ⟨Aa2, ca2, rfl, oa2, bq⟩
      clear k0 k1 k2
      replace h := h.below bq (Nat.le_refl _)
      replace rC := rC.below bq (Nat.le_refl _)
      replace rQ := rQ.below bq (Nat.le_refl _)
      replace rS := rS.below bq (Nat.le_refl _)
      replace bx := bx.below bq
      replace ra1 := ra1.below bq (Nat.le_refl _)
      replace rb1 := rb1.below bq (Nat.le_refl _)
      replace rd1 := rd1.below bq (Nat.le_refl _)
      replace re1 := re1.below bq (Nat.le_refl _)
      have HB9 := bUp HB8 bq HB8.size
      clear HB8
      clear bq
      clear CC
      have ra2 := Rd.of_own oa2
      clear oa2
      go_wp2_with fail
      refine (rFracs_same Aa1 Aa2 a _ _ ca1 ca2 _ rfl rfl ra1 ra2 (by omega)).mono ?_
      rintro e w10 ⟨rfl, bq⟩
      replace h := h.below bq (Nat.le_refl _)
      replace rC := rC.below bq (Nat.le_refl _)
      replace rQ := rQ.below bq (Nat.le_refl _)
      replace rS := rS.below bq (Nat.le_refl _)
      replace bx := bx.below bq
      replace ra1 := ra1.below bq (Nat.le_refl _)
      replace rb1 := rb1.below bq (Nat.le_refl _)
      replace rd1 := rd1.below bq (Nat.le_refl _)
      replace re1 := re1.below bq (Nat.le_refl _)
      replace ra2 := ra2.below bq (Nat.le_refl _)
      have HB10 := bUp HB9 bq HB9.size
      clear HB9
      clear bq
      clear ra2
      have k0 := bx.1
      have k1 := bx.2.1
      have k2 := bx.2.2.1
      go_wp2_with fail
      have CC := specLowerPrices_c A1 P c1 A2 W c2 A3 F c3 AQ Q cQ _ h rQ (by omega)
      rw [hb.out.1, hb.out.2] at CC
      refine (CC).mono ?_
      rintro e w11 ⟨Ab2, cb2, rfl, ob2, bq⟩
      clear k0 k1 k2
      replace h := h.below bq (Nat.le_refl _)
      replace rC := rC.below bq (Nat.le_refl _)
      replace rQ := rQ.below bq (Nat.le_refl _)
      replace rS := rS.below bq (Nat.le_refl _)
      replace bx := bx.below bq
      replace ra1 := ra1.below bq (Nat.le_refl _)
      replace rb1 := rb1.below bq (Nat.le_refl _)
      replace rd1 := rd1.below bq (Nat.le_refl _)
      replace re1 := re1.below bq (Nat.le_refl _)
      have HB11 := bUp HB10 bq HB10.size
      clear HB10
      clear bq
      clear CC
      have rb2 := Rd.of_own ob2
      clear ob2
      go_wp2_with fail
      refine (rFracs_same Ab1 Ab2 b _ _ cb1 cb2 _ rfl rfl rb1 rb2 (by omega)).mono ?_
      rintro e w12 ⟨rfl, bq⟩
      replace h := h.below bq (Nat.le_refl _)
      replace rC := rC.below bq (Nat.le_refl _)
      replace rQ := rQ.below bq (Nat.le_refl _)
      replace rS := rS.below bq (Nat.le_refl _)
      replace bx := bx.below bq
      replace ra1 := ra1.below bq (Nat.le_refl _)
      replace rb1 := rb1.below bq (Nat.le_refl _)
      replace rd1 := rd1.below bq (Nat.le_refl _)
      replace re1 := re1.below bq (Nat.le_refl _)
      replace rb2 := rb2.below bq (Nat.le_refl _)
      have HB12 := bUp HB11 bq HB11.size
      clear HB11
      clear bq
      clear rb2
      have k0 := bx.1
      have k1 := bx.2.1
      have k2 := bx.2.2.1
      go_wp2_with fail
      have CC := specLowerPrices_c A1 P c1 A2 W c2 A3 F c3 AC C cC _ h rC (by omega)
      rw [hc.out.1, hc.out.2] at CC
      refine (CC).mono ?_
      rintro e w13 ⟨Ad2, cd2, rfl, od2, bq⟩
      clear k0 k1 k2
      replace h := h.below bq (Nat.le_refl _)
      replace rC := rC.below bq (Nat.le_refl _)
      replace rQ := rQ.below bq (Nat.le_refl _)
      replace rS := rS.below bq (Nat.le_refl _)
      replace bx := bx.below bq
      replace ra1 := ra1.below bq (Nat.le_refl _)
      replace rb1 := rb1.below bq (Nat.le_refl _)
      replace rd1 := rd1.below bq (Nat.le_refl _)
      replace re1 := re1.below bq (Nat.le_refl _)
      have HB13 := bUp HB12 bq HB12.size
      clear HB12
      clear bq
      clear CC
      have rd2 := Rd.of_own od2
      clear od2
      go_wp2_with fail
      refine (rFracs_same Ad1 Ad2 c _ _ cd1 cd2 _ rfl rfl rd1 rd2 (by omega)).mono ?_
      rintro e w14 ⟨rfl, bq⟩
      replace h := h.below bq (Nat.le_refl _)
      replace rC := rC.below bq (Nat.le_refl _)
      replace rQ := rQ.below bq (Nat.le_refl _)
      replace rS := rS.below bq (Nat.le_refl _)
      replace bx := bx.below bq
      replace ra1 := ra1.below bq (Nat.le_refl _)
      replace rb1 := rb1.below bq (Nat.le_refl _)
      replace rd1 := rd1.below bq (Nat.le_refl _)
      replace re1 := re1.below bq (Nat.le_refl _)
      replace rd2 := rd2.below bq (Nat.le_refl _)
      have HB14 := bUp HB13 bq HB13.size
      clear HB13
      clear bq
      clear rd2
      have k0 := bx.1
      have k1 := bx.2.1
      have k2 := bx.2.2.1
      go_wp2_with fail
      have CC := specUpperPrices_c A1 P c1 A2 W c2 A3 F c3 AQ Q cQ _ h rQ (by omega)
      rw [hd.out.1, hd.out.2] at CC
      refine (CC).mono ?_
      rintro e w15 ⟨Ae2, ce2, rfl, oe2, bq⟩
      clear k0 k1 k2
      replace h := h.below bq (Nat.le_refl _)
      replace rC := rC.below bq (Nat.le_refl _)
      replace rQ := rQ.below bq (Nat.le_refl _)
      replace rS := rS.below bq (Nat.le_refl _)
      replace bx := bx.below bq
      replace ra1 := ra1.below bq (Nat.le_refl _)
      replace rb1 := rb1.below bq (Nat.le_refl _)
      replace rd1 := rd1.below bq (Nat.le_refl _)
      replace re1 := re1.below bq (Nat.le_refl _)
      have HB15 := bUp HB14 bq HB14.size
      clear HB14
      clear bq
      clear CC
      have re2 := Rd.of_own oe2
      clear oe2
      go_upto_region 46 with fail
      rename_i K1 hK1 K0 hK0
      replace hK1 := Lib.hid hK1
      go_wp2_with fail
      refine (rFracs_same Ae1 Ae2 d _ _ ce1 ce2 _ rfl rfl re1 re2 (by omega)).mono ?_
      rintro e w16 ⟨rfl, bq⟩
      replace h := h.below bq (Nat.le_refl _)
      replace rC := rC.below bq (Nat.le_refl _)
      replace rQ := rQ.below bq (Nat.le_refl _)
      replace rS := rS.below bq (Nat.le_refl _)
      replace bx := bx.below bq
      replace ra1 := ra1.below bq (Nat.le_refl _)
      replace rb1 := rb1.below bq (Nat.le_refl _)
      replace rd1 := rd1.below bq (Nat.le_refl _)
      replace re1 := re1.below bq (Nat.le_refl _)
      replace re2 := re2.below bq (Nat.le_refl _)
      have HB16 := bUp HB15 bq HB15.size
      clear HB15
      clear bq
      clear re2
      go_wp2_with fail
      refine hK1.out _ _ ?_
      exact caTail F k hF hFb hk gm _ _ A3 c3 Aa1 Ab1 Ad1 Ae1 ca1 cb1 cd1 ce1 a b c d ta tb tc td w0 _ HB16 bx h.r3 ra1 rb1 rd1 re1 HL _ _ _ _ _ _ _ _ _ _ _ _ _ _ _ _ _ _ _ _ _ _ _ _ _ _ _ _ _ _ _ _ _ _ _ _ _ _ _ _ _ _ _ _ _ _ _ _ _ _ _ _ _ _ _ _ _ _ _ _ _ _ _ _ _ _ _ _ _ _ _ _ _ _ _ _ _ _ _ _ _ _ _ _ _ _ _ _ _ _ _ _ _ _ _ _ _ _ _ _ _ _ _ _ _ _ _ _ _ _ _ _ _ _ _ _ _ _ _ _ _ _ _ _ _ _ _ _ _ _ _ _ _ _ _ _ _ _ _ _ _ _ _ _ _ _ _ _ _ _ _ _ _ _ _ _ _ _ _ _ _ _ _ _ _ _ _ _ _ _ _ _ _ _ _ _ _ _ _ _ _ _ _ _ _ _ _ _ _ _ _ _ _ _ _ _ _ _ _ _ _ _ _ _ _ _ _ _ _ _ _ _ _ _ _ _ _ _ _ _ _ _ _ _ _ _ _ _ _ _ _ _ _ _ _ _ _ _ _ _ _ _ _ _ _ _ _ _ _ _ _ _ _ _ _ _ _ _ _ _ _ _ _ _ _ _ _ _ _ _ _ _ _ _ _ _ _ _ _ _ _ _ _ _ _ _ _ _ _ _ _ _ _ _ _ _ _ _ _ _ _ _ _ _ _ _ _ _ _ _ _ _ _ _ _ _ _ _ _ _ _ _ _
end Go.Proofs.Ytnhclpajfejnoaa
