/- The law FnExactFirstFound: walked call by call. (Written by gen_law.py.) -/
import Derived.Test.YtchkflpdnmhboaaFfX
namespace Go.Proofs.Ytchkflpdnmhboaa
open Go.RowKit
set_option maxHeartbeats 1000000 in
theorem lawFf (a0 : Int) (A1 : Option Addr) (xs1 : List Int) (c1 : Nat) (a2 : Int) (w : World) (ha1 : Rd w A1 (ints xs1)) :
    Calls Try.prog 10 #[.int .i64 a0, .slice A1 xs1.length c1, .int .i64 a2] w fun e w' => e = .returned (.bool true) ∧ Below w.heap.size w w' := by
  by_cases hl1 : 1048576 < xs1.length
  · go_enter Try.func10, Try.ntmps10
    go_wp2
    go_ret
    exact ⟨rfl, Below.refl _ _⟩
  have hL := ffV_length a0 xs1 a2
  go_enter Try.func10, Try.ntmps10
  have HB0 : Below w.heap.size w w := Below.refl _ _
  go_wp2_with fail
  refine (toIntS_c _ _ _ _ (ha1.below HB0 (Nat.le_refl _)) (by omega)).mono ?_
  rintro e w1 ⟨rfl, os1, b1⟩
  have ge_s1 := fun k hk => Nat.le_trans HB0.size (os1.ge k hk)
  have HB2 := bUp HB0 b1 HB0.size
  go_wp2_with fail
  refine (specFf_c _ _ _ _ _ _ os1.rd (by omega) (Nat.le_refl _)).mono ?_
  rintro e w3 ⟨AW, cW, rfl, oW, b3⟩
  have ap_s1_W := os1.apart oW (Nat.le_refl _)
  have ap_W_s1 := os1.apartR oW (Nat.le_refl _)
  have ge_W := fun k hk => Nat.le_trans HB2.size (oW.ge k hk)
  have HB4 := bUp HB2 b3 HB2.size
  have os1_4 := os1.below b3
  clear os1
  clear os1_4
  go_wp2_with fail
  refine (toIntS_c _ _ _ _ (ha1.below HB4 (Nat.le_refl _)) (by omega)).mono ?_
  rintro e w5 ⟨rfl, ox1, b5⟩
  have ap_W_x1 := oW.apart ox1 (Nat.le_refl _)
  have ap_x1_W := oW.apartR ox1 (Nat.le_refl _)
  have ge_x1 := fun k hk => Nat.le_trans HB4.size (ox1.ge k hk)
  have HB6 := bUp HB4 b5 HB4.size
  have oW_6 := oW.below b5
  clear oW
  go_wp2_with fail
  refine (implFf_c _ _ _ _ _ _ ox1.rd (by omega) (Nat.le_refl _)).mono ?_
  rintro e w7 ⟨AG, cG, rfl, oG, b7⟩
  have ap_W_G := oW_6.apart oG (Nat.le_refl _)
  have ap_G_W := oW_6.apartR oG (Nat.le_refl _)
  have ap_x1_G := ox1.apart oG (Nat.le_refl _)
  have ap_G_x1 := ox1.apartR oG (Nat.le_refl _)
  have ge_G := fun k hk => Nat.le_trans HB6.size (oG.ge k hk)
  have HB8 := bUp HB6 b7 HB6.size
  have oW_8 := oW_6.below b7
  clear oW_6
  have ox1_8 := ox1.below b7
  clear ox1
  go_wp2_with fail
  refine (eqIntS_c _ _ _ _ _ _ _ oG.rd oW_8.rd (by omega) (by omega)).mono ?_
  rintro e w9 ⟨rfl, n9, rfl⟩
  have HB10 := bDrewN HB8 n9
  have oW_10 := oW_8.drewN n9
  clear oW_8
  have ox1_10 := ox1_8.drewN n9
  clear ox1_8
  have oG_10 := oG.drewN n9
  clear oG
  go_wp2_with fail
  refine (toIntS_c _ _ _ _ (ha1.below HB10 (Nat.le_refl _)) (by omega)).mono ?_
  rintro e w11 ⟨rfl, oy1, b11⟩
  have ap_W_y1 := oW_10.apart oy1 (Nat.le_refl _)
  have ap_y1_W := oW_10.apartR oy1 (Nat.le_refl _)
  have ap_x1_y1 := ox1_10.apart oy1 (Nat.le_refl _)
  have ap_y1_x1 := ox1_10.apartR oy1 (Nat.le_refl _)
  have ap_G_y1 := oG_10.apart oy1 (Nat.le_refl _)
  have ap_y1_G := oG_10.apartR oy1 (Nat.le_refl _)
  have ge_y1 := fun k hk => Nat.le_trans HB10.size (oy1.ge k hk)
  have HB12 := bUp HB10 b11 HB10.size
  have oW_12 := oW_10.below b11
  clear oW_10
  have ox1_12 := ox1_10.below b11
  clear ox1_10
  have oG_12 := oG_10.below b11
  clear oG_10
  go_wp2_with fail
  refine (eqIntS_c _ _ _ _ _ _ _ ox1_12.rd oy1.rd (by omega) (by omega)).mono ?_
  rintro e w13 ⟨rfl, n13, rfl⟩
  have HB14 := bDrewN HB12 n13
  have oW_14 := oW_12.drewN n13
  clear oW_12
  have ox1_14 := ox1_12.drewN n13
  clear ox1_12
  have oG_14 := oG_12.drewN n13
  clear oG_12
  have oy1_14 := oy1.drewN n13
  clear oy1
  clear oy1_14
  go_wp2_with fail
  refine (markIntS_c _ _ _ _ _ _ ox1_14 (by omega) (by omega) (by omega)).mono ?_
  rintro e w15 ⟨rfl, ox1m15, g15⟩
  have HB15 := HB14.grown g15 HB14.size ge_x1
  have oW_15 := oW_14.grown g15 ap_W_x1
  clear oW_14
  have oG_15 := oG_14.grown g15 ap_G_x1
  clear oG_14
  clear ox1_14
  go_wp2_with fail
  refine (eqIntS_c _ _ _ _ _ _ _ oG_15.rd oW_15.rd (by omega) (by omega)).mono ?_
  rintro e w16 ⟨rfl, n16, rfl⟩
  have HB17 := bDrewN HB15 n16
  have oW_17 := oW_15.drewN n16
  clear oW_15
  have ox1_17 := ox1m15.drewN n16
  clear ox1m15
  have oG_17 := oG_15.drewN n16
  clear oG_15
  clear ox1_17
  go_wp2_with fail
  refine (markIntS_c _ _ _ _ _ _ oG_17 (by omega) (by omega) (by omega)).mono ?_
  rintro e w18 ⟨rfl, oGm18, g18⟩
  have HB18 := HB17.grown g18 HB17.size ge_G
  have oW_18 := oW_17.grown g18 ap_W_G
  clear oW_17
  clear oG_17
  go_wp2_with fail
  refine (heldIntS_c _ _ _ _ _ oGm18.rd (by omega) (by omega) (by omega)).mono ?_
  rintro e w19 ⟨rfl, n19, rfl⟩
  have HB20 := bDrewN HB18 n19
  have oW_20 := oW_18.drewN n19
  clear oW_18
  have oG_20 := oGm18.drewN n19
  clear oGm18
  go_wp2_with fail
  refine (toIntS_c _ _ _ _ (ha1.below HB20 (Nat.le_refl _)) (by omega)).mono ?_
  rintro e w21 ⟨rfl, oz1, b21⟩
  have ap_W_z1 := oW_20.apart oz1 (Nat.le_refl _)
  have ap_z1_W := oW_20.apartR oz1 (Nat.le_refl _)
  have ap_G_z1 := oG_20.apart oz1 (Nat.le_refl _)
  have ap_z1_G := oG_20.apartR oz1 (Nat.le_refl _)
  have ge_z1 := fun k hk => Nat.le_trans HB20.size (oz1.ge k hk)
  have HB22 := bUp HB20 b21 HB20.size
  have oW_22 := oW_20.below b21
  clear oW_20
  have oG_22 := oG_20.below b21
  clear oG_20
  go_wp2_with fail
  refine (implFf_c _ _ _ _ _ _ oz1.rd (by omega) (Nat.le_refl _)).mono ?_
  rintro e w23 ⟨AH, cH, rfl, oH, b23⟩
  have ap_W_H := oW_22.apart oH (Nat.le_refl _)
  have ap_H_W := oW_22.apartR oH (Nat.le_refl _)
  have ap_G_H := oG_22.apart oH (Nat.le_refl _)
  have ap_H_G := oG_22.apartR oH (Nat.le_refl _)
  have ap_z1_H := oz1.apart oH (Nat.le_refl _)
  have ap_H_z1 := oz1.apartR oH (Nat.le_refl _)
  have ge_H := fun k hk => Nat.le_trans HB22.size (oH.ge k hk)
  have HB24 := bUp HB22 b23 HB22.size
  have oW_24 := oW_22.below b23
  clear oW_22
  have oG_24 := oG_22.below b23
  clear oG_22
  have oz1_24 := oz1.below b23
  clear oz1
  clear oz1_24
  go_wp2_with fail
  refine (eqIntS_c _ _ _ _ _ _ _ oH.rd oW_24.rd (by omega) (by omega)).mono ?_
  rintro e w25 ⟨rfl, n25, rfl⟩
  have HB26 := bDrewN HB24 n25
  have oW_26 := oW_24.drewN n25
  clear oW_24
  have oG_26 := oG_24.drewN n25
  clear oG_24
  have oH_26 := oH.drewN n25
  clear oH
  go_wp2_with fail
  refine (heldIntS_c _ _ _ _ _ oG_26.rd (by omega) (by omega) (by omega)).mono ?_
  rintro e w27 ⟨rfl, n27, rfl⟩
  have HB28 := bDrewN HB26 n27
  have oW_28 := oW_26.drewN n27
  clear oW_26
  have oG_28 := oG_26.drewN n27
  clear oG_26
  have oH_28 := oH_26.drewN n27
  clear oH_26
  go_wp2
  go_ret
  exact ⟨rfl, by first | exact HB28 | (simpa using HB28)⟩
end Go.Proofs.Ytchkflpdnmhboaa
