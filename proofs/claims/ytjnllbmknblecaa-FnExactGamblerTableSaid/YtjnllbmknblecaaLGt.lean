/- The law FnExactGamblerTable: walked call by call. (Written by gen_law.py.) -/
import Derived.Test.YtjnllbmknblecaaGaT
namespace Go.Proofs.Ytjnllbmknblecaa
open Go.RowKit
set_option maxHeartbeats 1000000 in
theorem lawGt (A0 : Option Addr) (xs0 : List (List Int)) (c0 : Nat) (w : World) (ha0 : RdSS w A0 xs0) (hn0 : xs0.length ≤ 9223372036854775807) (hr0 : ∀ k, k < xs0.length → (rowAt xs0 k).length ≤ 9223372036854775807) :
    Calls Try.prog 8 #[.slice A0 xs0.length c0] w fun e w' => e = .returned (.bool true) ∧ Below w.heap.size w w' := by
  have hL := gtV_length xs0
  go_enter Try.func8, Try.ntmps8
  have HB0 : Below w.heap.size w w := Below.refl _ _
  go_wp2_with fail
  refine (szIntSS_c _ _ _ _ ha0 hn0 hr0).mono ?_
  rintro e w' ⟨r, rfl, hr | ⟨hr, sz0⟩, rfl⟩
  · go_wp2
    go_ret
    exact ⟨rfl, HB0⟩
  have hl0 := sz0.1
  go_wp2_with fail
  refine (toIntSS_c _ _ _ _ (ha0.below HB0 (Nat.le_refl _)) sz0).mono ?_
  rintro e w1 ⟨Gs0, rfl, os0, b1⟩
  have gl_s0 := Nat.le_succ_of_le HB0.size
  have hg_s0 := fun k hk => ((os0.row k hk).lt _ rfl).2
  have HB2 := bUp HB0 b1 HB0.size
  have hi_s0 := Nat.le_refl w1.heap.size
  go_wp2_with fail
  refine (specGt_c _ _ _ _ os0.rd sz0).mono ?_
  rintro e w3 ⟨AW, cW, rfl, oW, b3⟩
  have hi_W_s0 := hi_s0
  have ge_W := fun k hk => Nat.le_trans HB2.size (oW.ge k hk)
  have HB4 := bUp HB2 b3 HB2.size
  have os0_4 := os0.below b3
  clear os0
  have hi_s0 := Nat.le_trans hi_s0 b3.size
  clear os0_4
  go_wp2_with fail
  refine (toIntSS_c _ _ _ _ (ha0.below HB4 (Nat.le_refl _)) sz0).mono ?_
  rintro e w5 ⟨Gx0, rfl, ox0, b5⟩
  have lw_W_x0 := fun k hk => Nat.lt_succ_of_lt (oW.ltk k hk)
  have gl_x0 := Nat.le_succ_of_le HB4.size
  have hg_x0 := fun k hk => ((ox0.row k hk).lt _ rfl).2
  have HB6 := bUp HB4 b5 HB4.size
  have oW_6 := oW.below b5
  clear oW
  have hi_x0 := Nat.le_refl w5.heap.size
  go_wp2_with fail
  refine (implGt_c _ _ _ _ ox0.rd sz0).mono ?_
  rintro e w7 ⟨AG, cG, rfl, oG, b7⟩
  have ap_W_G := oW_6.apart oG (Nat.le_refl _)
  have ap_G_W := oW_6.apartR oG (Nat.le_refl _)
  have hi_G_x0 := hi_x0
  have ge_G := fun k hk => Nat.le_trans HB6.size (oG.ge k hk)
  have HB8 := bUp HB6 b7 HB6.size
  have oW_8 := oW_6.below b7
  clear oW_6
  have ox0_8 := ox0.below b7
  clear ox0
  have hi_x0 := Nat.le_trans hi_x0 b7.size
  go_wp2_with fail
  refine (eqIntA2S_same _ _ _ _ _ _ _ _ oG oW_8 (by omega)).mono ?_
  rintro e w9 ⟨rfl, b9⟩
  have HB10 := bUp HB8 b9 HB8.size
  have oW_10 := oW_8.below b9
  clear oW_8
  have ox0_10 := ox0_8.below b9
  clear ox0_8
  have hi_x0 := Nat.le_trans hi_x0 b9.size
  have oG_10 := oG.below b9
  clear oG
  go_wp2_with fail
  refine (toIntSS_c _ _ _ _ (ha0.below HB10 (Nat.le_refl _)) sz0).mono ?_
  rintro e w11 ⟨Gy0, rfl, oy0, b11⟩
  have lw_W_y0 := fun k hk => Nat.lt_succ_of_lt (oW_10.ltk k hk)
  have lw_G_y0 := fun k hk => Nat.lt_succ_of_lt (oG_10.ltk k hk)
  have gl_y0 := Nat.le_succ_of_le HB10.size
  have hg_y0 := fun k hk => ((oy0.row k hk).lt _ rfl).2
  have HB12 := bUp HB10 b11 HB10.size
  have oW_12 := oW_10.below b11
  clear oW_10
  have ox0_12 := ox0_10.below b11
  clear ox0_10
  have hi_x0 := Nat.le_trans hi_x0 b11.size
  have oG_12 := oG_10.below b11
  clear oG_10
  have hi_y0 := Nat.le_refl w11.heap.size
  go_wp2_with fail
  refine (eqIntSS_same _ _ _ _ _ _ ox0_12.rd oy0.rd sz0).mono ?_
  rintro e w13 ⟨rfl, n13, rfl⟩
  have HB14 := bDrewN HB12 n13
  have oW_14 := oW_12.drewN n13
  clear oW_12
  have ox0_14 := ox0_12.drewN n13
  clear ox0_12
  have oG_14 := oG_12.drewN n13
  clear oG_12
  have oy0_14 := oy0.drewN n13
  clear oy0
  clear oy0_14
  go_wp2_with fail
  refine (markIntSS_c _ _ _ _ _ _ ox0_14 sz0 hg_x0).mono ?_
  rintro e w15 ⟨r15, rfl, hr15, hh15⟩
  have HB15 := hh15.below HB14 gl_x0 HB14.size
  have oW_15 := oW_14.holedLow hh15 lw_W_x0
  clear oW_14
  have oG_15 := oG_14.holed hh15 hi_G_x0
  clear oG_14
  clear ox0_14
  go_wp2_with fail
  refine (eqIntA2S_same _ _ _ _ _ _ _ _ oG_15 oW_15 (by omega)).mono ?_
  rintro e w16 ⟨rfl, b16⟩
  have HB17 := bUp HB15 b16 HB15.size
  have oW_17 := oW_15.below b16
  clear oW_15
  have oG_17 := oG_15.below b16
  clear oG_15
  go_wp2_with fail
  refine (markIntA2S_c _ _ _ _ _ _ oG_17 (by omega) (by omega) (by omega)).mono ?_
  rintro e w18 ⟨rfl, oGm18, g18⟩
  have HB18 := HB17.grown g18 HB17.size ge_G
  have oW_18 := oW_17.grown g18 ap_W_G
  clear oW_17
  clear oG_17
  go_wp2_with fail
  refine (heldIntA2S_c _ _ _ _ _ _ oGm18 (by omega) (by omega) (by omega)).mono ?_
  rintro e w19 ⟨rfl, n19, rfl⟩
  have HB20 := bDrewN HB18 n19
  have oW_20 := oW_18.drewN n19
  clear oW_18
  have oG_20 := oGm18.drewN n19
  clear oGm18
  go_wp2_with fail
  refine (toIntSS_c _ _ _ _ (ha0.below HB20 (Nat.le_refl _)) sz0).mono ?_
  rintro e w21 ⟨Gz0, rfl, oz0, b21⟩
  have lw_W_z0 := fun k hk => Nat.lt_succ_of_lt (oW_20.ltk k hk)
  have lw_G_z0 := fun k hk => Nat.lt_succ_of_lt (oG_20.ltk k hk)
  have gl_z0 := Nat.le_succ_of_le HB20.size
  have hg_z0 := fun k hk => ((oz0.row k hk).lt _ rfl).2
  have HB22 := bUp HB20 b21 HB20.size
  have oW_22 := oW_20.below b21
  clear oW_20
  have oG_22 := oG_20.below b21
  clear oG_20
  have hi_z0 := Nat.le_refl w21.heap.size
  go_wp2_with fail
  refine (implGt_c _ _ _ _ oz0.rd sz0).mono ?_
  rintro e w23 ⟨AH, cH, rfl, oH, b23⟩
  have ap_W_H := oW_22.apart oH (Nat.le_refl _)
  have ap_H_W := oW_22.apartR oH (Nat.le_refl _)
  have ap_G_H := oG_22.apart oH (Nat.le_refl _)
  have ap_H_G := oG_22.apartR oH (Nat.le_refl _)
  have hi_H_z0 := hi_z0
  have ge_H := fun k hk => Nat.le_trans HB22.size (oH.ge k hk)
  have HB24 := bUp HB22 b23 HB22.size
  have oW_24 := oW_22.below b23
  clear oW_22
  have oG_24 := oG_22.below b23
  clear oG_22
  have oz0_24 := oz0.below b23
  clear oz0
  have hi_z0 := Nat.le_trans hi_z0 b23.size
  clear oz0_24
  go_wp2_with fail
  refine (eqIntA2S_same _ _ _ _ _ _ _ _ oH oW_24 (by omega)).mono ?_
  rintro e w25 ⟨rfl, b25⟩
  have HB26 := bUp HB24 b25 HB24.size
  have oW_26 := oW_24.below b25
  clear oW_24
  have oG_26 := oG_24.below b25
  clear oG_24
  have oH_26 := oH.below b25
  clear oH
  go_wp2_with fail
  refine (heldIntA2S_c _ _ _ _ _ _ oG_26 (by omega) (by omega) (by omega)).mono ?_
  rintro e w27 ⟨rfl, n27, rfl⟩
  have HB28 := bDrewN HB26 n27
  have oW_28 := oW_26.drewN n27
  clear oW_26
  have oG_28 := oG_26.drewN n27
  clear oG_26
  have oH_28 := oH_26.drewN n27
  clear oH_26
  go_wp2
  go_ret
  exact ⟨rfl, by first | exact HB28 | (simpa using HB28)⟩
end Go.Proofs.Ytjnllbmknblecaa
