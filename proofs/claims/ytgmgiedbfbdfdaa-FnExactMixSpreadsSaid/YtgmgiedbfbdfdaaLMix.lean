/- The law FnExactMixSpreads: walked call by call. (Written by gen_law.py.) -/
import Derived.Test.YtgmgiedbfbdfdaaC4
namespace Go.Proofs.Ytgmgiedbfbdfdaa
open Go.RowKit
theorem lawMix (A0 : Option Addr) (xs0 : List Int) (c0 : Nat) (A1 : Option Addr) (xs1 : List Int) (c1 : Nat) (w : World) (ha0 : Rd w A0 (ints xs0)) (ha1 : Rd w A1 (ints xs1)) :
    Calls Try.prog 9 #[.slice A0 xs0.length c0, .slice A1 xs1.length c1] w fun e w' => e = .returned (.bool true) ∧ Below w.heap.size w w' := by
  by_cases hl0 : 1048576 < xs0.length
  · go_enter Try.func9, Try.ntmps9
    go_wp2
    go_ret
    exact ⟨rfl, Below.refl _ _⟩
  by_cases hl1 : 1048576 < xs1.length
  · go_enter Try.func9, Try.ntmps9
    go_wp2
    go_ret
    exact ⟨rfl, Below.refl _ _⟩
  have hL := mixV_length xs0 xs1
  go_enter Try.func9, Try.ntmps9
  have HB0 : Below w.heap.size w w := Below.refl _ _
  go_wp2_with fail
  refine (toIntS_c _ _ _ _ (ha0.below HB0 (Nat.le_refl _)) (by omega)).mono ?_
  rintro e w1 ⟨rfl, os0, b1⟩
  have ge_s0 := fun k hk => Nat.le_trans HB0.size (os0.ge k hk)
  have HB2 := bUp HB0 b1 HB0.size
  go_wp2_with fail
  refine (toIntS_c _ _ _ _ (ha1.below HB2 (Nat.le_refl _)) (by omega)).mono ?_
  rintro e w3 ⟨rfl, os1, b3⟩
  have ap_s0_s1 := os0.apart os1 (Nat.le_refl _)
  have ap_s1_s0 := os0.apartR os1 (Nat.le_refl _)
  have ge_s1 := fun k hk => Nat.le_trans HB2.size (os1.ge k hk)
  have HB4 := bUp HB2 b3 HB2.size
  have os0_4 := os0.below b3
  clear os0
  go_wp2_with fail
  refine (specMix_c _ _ _ _ _ _ _ os0_4.rd os1.rd (by omega) (by omega)).mono ?_
  rintro e w5 ⟨AW, cW, rfl, oW, b5⟩
  have ap_s0_W := os0_4.apart oW (Nat.le_refl _)
  have ap_W_s0 := os0_4.apartR oW (Nat.le_refl _)
  have ap_s1_W := os1.apart oW (Nat.le_refl _)
  have ap_W_s1 := os1.apartR oW (Nat.le_refl _)
  have ge_W := fun k hk => Nat.le_trans HB4.size (oW.ge k hk)
  have HB6 := bUp HB4 b5 HB4.size
  have os0_6 := os0_4.below b5
  clear os0_4
  have os1_6 := os1.below b5
  clear os1
  clear os0_6
  clear os1_6
  go_wp2_with fail
  refine (toIntS_c _ _ _ _ (ha0.below HB6 (Nat.le_refl _)) (by omega)).mono ?_
  rintro e w7 ⟨rfl, ox0, b7⟩
  have ap_W_x0 := oW.apart ox0 (Nat.le_refl _)
  have ap_x0_W := oW.apartR ox0 (Nat.le_refl _)
  have ge_x0 := fun k hk => Nat.le_trans HB6.size (ox0.ge k hk)
  have HB8 := bUp HB6 b7 HB6.size
  have oW_8 := oW.below b7
  clear oW
  go_wp2_with fail
  refine (toIntS_c _ _ _ _ (ha1.below HB8 (Nat.le_refl _)) (by omega)).mono ?_
  rintro e w9 ⟨rfl, ox1, b9⟩
  have ap_W_x1 := oW_8.apart ox1 (Nat.le_refl _)
  have ap_x1_W := oW_8.apartR ox1 (Nat.le_refl _)
  have ap_x0_x1 := ox0.apart ox1 (Nat.le_refl _)
  have ap_x1_x0 := ox0.apartR ox1 (Nat.le_refl _)
  have ge_x1 := fun k hk => Nat.le_trans HB8.size (ox1.ge k hk)
  have HB10 := bUp HB8 b9 HB8.size
  have oW_10 := oW_8.below b9
  clear oW_8
  have ox0_10 := ox0.below b9
  clear ox0
  go_wp2_with fail
  refine (implMix_c _ _ _ _ _ _ _ ox0_10.rd ox1.rd (by omega) (by omega)).mono ?_
  rintro e w11 ⟨AG, cG, rfl, oG, b11⟩
  have ap_W_G := oW_10.apart oG (Nat.le_refl _)
  have ap_G_W := oW_10.apartR oG (Nat.le_refl _)
  have ap_x0_G := ox0_10.apart oG (Nat.le_refl _)
  have ap_G_x0 := ox0_10.apartR oG (Nat.le_refl _)
  have ap_x1_G := ox1.apart oG (Nat.le_refl _)
  have ap_G_x1 := ox1.apartR oG (Nat.le_refl _)
  have ge_G := fun k hk => Nat.le_trans HB10.size (oG.ge k hk)
  have HB12 := bUp HB10 b11 HB10.size
  have oW_12 := oW_10.below b11
  clear oW_10
  have ox0_12 := ox0_10.below b11
  clear ox0_10
  have ox1_12 := ox1.below b11
  clear ox1
  go_wp2_with fail
  refine (eqIntS_c _ _ _ _ _ _ _ oG.rd oW_12.rd (by omega) (by omega)).mono ?_
  rintro e w13 ⟨rfl, n13, rfl⟩
  have HB14 := bDrewN HB12 n13
  have oW_14 := oW_12.drewN n13
  clear oW_12
  have ox0_14 := ox0_12.drewN n13
  clear ox0_12
  have ox1_14 := ox1_12.drewN n13
  clear ox1_12
  have oG_14 := oG.drewN n13
  clear oG
  go_wp2_with fail
  refine (toIntS_c _ _ _ _ (ha0.below HB14 (Nat.le_refl _)) (by omega)).mono ?_
  rintro e w15 ⟨rfl, oy0, b15⟩
  have ap_W_y0 := oW_14.apart oy0 (Nat.le_refl _)
  have ap_y0_W := oW_14.apartR oy0 (Nat.le_refl _)
  have ap_x0_y0 := ox0_14.apart oy0 (Nat.le_refl _)
  have ap_y0_x0 := ox0_14.apartR oy0 (Nat.le_refl _)
  have ap_x1_y0 := ox1_14.apart oy0 (Nat.le_refl _)
  have ap_y0_x1 := ox1_14.apartR oy0 (Nat.le_refl _)
  have ap_G_y0 := oG_14.apart oy0 (Nat.le_refl _)
  have ap_y0_G := oG_14.apartR oy0 (Nat.le_refl _)
  have ge_y0 := fun k hk => Nat.le_trans HB14.size (oy0.ge k hk)
  have HB16 := bUp HB14 b15 HB14.size
  have oW_16 := oW_14.below b15
  clear oW_14
  have ox0_16 := ox0_14.below b15
  clear ox0_14
  have ox1_16 := ox1_14.below b15
  clear ox1_14
  have oG_16 := oG_14.below b15
  clear oG_14
  go_wp2_with fail
  refine (eqIntS_c _ _ _ _ _ _ _ ox0_16.rd oy0.rd (by omega) (by omega)).mono ?_
  rintro e w17 ⟨rfl, n17, rfl⟩
  have HB18 := bDrewN HB16 n17
  have oW_18 := oW_16.drewN n17
  clear oW_16
  have ox0_18 := ox0_16.drewN n17
  clear ox0_16
  have ox1_18 := ox1_16.drewN n17
  clear ox1_16
  have oG_18 := oG_16.drewN n17
  clear oG_16
  have oy0_18 := oy0.drewN n17
  clear oy0
  clear oy0_18
  go_wp2_with fail
  refine (toIntS_c _ _ _ _ (ha1.below HB18 (Nat.le_refl _)) (by omega)).mono ?_
  rintro e w19 ⟨rfl, oy1, b19⟩
  have ap_W_y1 := oW_18.apart oy1 (Nat.le_refl _)
  have ap_y1_W := oW_18.apartR oy1 (Nat.le_refl _)
  have ap_x0_y1 := ox0_18.apart oy1 (Nat.le_refl _)
  have ap_y1_x0 := ox0_18.apartR oy1 (Nat.le_refl _)
  have ap_x1_y1 := ox1_18.apart oy1 (Nat.le_refl _)
  have ap_y1_x1 := ox1_18.apartR oy1 (Nat.le_refl _)
  have ap_G_y1 := oG_18.apart oy1 (Nat.le_refl _)
  have ap_y1_G := oG_18.apartR oy1 (Nat.le_refl _)
  have ge_y1 := fun k hk => Nat.le_trans HB18.size (oy1.ge k hk)
  have HB20 := bUp HB18 b19 HB18.size
  have oW_20 := oW_18.below b19
  clear oW_18
  have ox0_20 := ox0_18.below b19
  clear ox0_18
  have ox1_20 := ox1_18.below b19
  clear ox1_18
  have oG_20 := oG_18.below b19
  clear oG_18
  go_wp2_with fail
  refine (eqIntS_c _ _ _ _ _ _ _ ox1_20.rd oy1.rd (by omega) (by omega)).mono ?_
  rintro e w21 ⟨rfl, n21, rfl⟩
  have HB22 := bDrewN HB20 n21
  have oW_22 := oW_20.drewN n21
  clear oW_20
  have ox0_22 := ox0_20.drewN n21
  clear ox0_20
  have ox1_22 := ox1_20.drewN n21
  clear ox1_20
  have oG_22 := oG_20.drewN n21
  clear oG_20
  have oy1_22 := oy1.drewN n21
  clear oy1
  clear oy1_22
  go_wp2_with fail
  refine (markIntS_c _ _ _ _ _ _ ox0_22 (by omega) (by omega) (by omega)).mono ?_
  rintro e w23 ⟨rfl, ox0m23, g23⟩
  have HB23 := HB22.grown g23 HB22.size ge_x0
  have oW_23 := oW_22.grown g23 ap_W_x0
  clear oW_22
  have ox1_23 := ox1_22.grown g23 ap_x1_x0
  clear ox1_22
  have oG_23 := oG_22.grown g23 ap_G_x0
  clear oG_22
  clear ox0_22
  go_wp2_with fail
  refine (markIntS_c _ _ _ _ _ _ ox1_23 (by omega) (by omega) (by omega)).mono ?_
  rintro e w24 ⟨rfl, ox1m24, g24⟩
  have HB24 := HB23.grown g24 HB23.size ge_x1
  have oW_24 := oW_23.grown g24 ap_W_x1
  clear oW_23
  have ox0_24 := ox0m23.grown g24 ap_x0_x1
  clear ox0m23
  have oG_24 := oG_23.grown g24 ap_G_x1
  clear oG_23
  clear ox1_23
  go_wp2_with fail
  refine (eqIntS_c _ _ _ _ _ _ _ oG_24.rd oW_24.rd (by omega) (by omega)).mono ?_
  rintro e w25 ⟨rfl, n25, rfl⟩
  have HB26 := bDrewN HB24 n25
  have oW_26 := oW_24.drewN n25
  clear oW_24
  have ox0_26 := ox0_24.drewN n25
  clear ox0_24
  have ox1_26 := ox1m24.drewN n25
  clear ox1m24
  have oG_26 := oG_24.drewN n25
  clear oG_24
  clear ox0_26
  clear ox1_26
  go_wp2_with fail
  refine (markIntS_c _ _ _ _ _ _ oG_26 (by omega) (by omega) (by omega)).mono ?_
  rintro e w27 ⟨rfl, oGm27, g27⟩
  have HB27 := HB26.grown g27 HB26.size ge_G
  have oW_27 := oW_26.grown g27 ap_W_G
  clear oW_26
  clear oG_26
  go_wp2_with fail
  refine (heldIntS_c _ _ _ _ _ oGm27.rd (by omega) (by omega) (by omega)).mono ?_
  rintro e w28 ⟨rfl, n28, rfl⟩
  have HB29 := bDrewN HB27 n28
  have oW_29 := oW_27.drewN n28
  clear oW_27
  have oG_29 := oGm27.drewN n28
  clear oGm27
  go_wp2_with fail
  refine (toIntS_c _ _ _ _ (ha0.below HB29 (Nat.le_refl _)) (by omega)).mono ?_
  rintro e w30 ⟨rfl, oz0, b30⟩
  have ap_W_z0 := oW_29.apart oz0 (Nat.le_refl _)
  have ap_z0_W := oW_29.apartR oz0 (Nat.le_refl _)
  have ap_G_z0 := oG_29.apart oz0 (Nat.le_refl _)
  have ap_z0_G := oG_29.apartR oz0 (Nat.le_refl _)
  have ge_z0 := fun k hk => Nat.le_trans HB29.size (oz0.ge k hk)
  have HB31 := bUp HB29 b30 HB29.size
  have oW_31 := oW_29.below b30
  clear oW_29
  have oG_31 := oG_29.below b30
  clear oG_29
  go_wp2_with fail
  refine (toIntS_c _ _ _ _ (ha1.below HB31 (Nat.le_refl _)) (by omega)).mono ?_
  rintro e w32 ⟨rfl, oz1, b32⟩
  have ap_W_z1 := oW_31.apart oz1 (Nat.le_refl _)
  have ap_z1_W := oW_31.apartR oz1 (Nat.le_refl _)
  have ap_G_z1 := oG_31.apart oz1 (Nat.le_refl _)
  have ap_z1_G := oG_31.apartR oz1 (Nat.le_refl _)
  have ap_z0_z1 := oz0.apart oz1 (Nat.le_refl _)
  have ap_z1_z0 := oz0.apartR oz1 (Nat.le_refl _)
  have ge_z1 := fun k hk => Nat.le_trans HB31.size (oz1.ge k hk)
  have HB33 := bUp HB31 b32 HB31.size
  have oW_33 := oW_31.below b32
  clear oW_31
  have oG_33 := oG_31.below b32
  clear oG_31
  have oz0_33 := oz0.below b32
  clear oz0
  go_wp2_with fail
  refine (implMix_c _ _ _ _ _ _ _ oz0_33.rd oz1.rd (by omega) (by omega)).mono ?_
  rintro e w34 ⟨AH, cH, rfl, oH, b34⟩
  have ap_W_H := oW_33.apart oH (Nat.le_refl _)
  have ap_H_W := oW_33.apartR oH (Nat.le_refl _)
  have ap_G_H := oG_33.apart oH (Nat.le_refl _)
  have ap_H_G := oG_33.apartR oH (Nat.le_refl _)
  have ap_z0_H := oz0_33.apart oH (Nat.le_refl _)
  have ap_H_z0 := oz0_33.apartR oH (Nat.le_refl _)
  have ap_z1_H := oz1.apart oH (Nat.le_refl _)
  have ap_H_z1 := oz1.apartR oH (Nat.le_refl _)
  have ge_H := fun k hk => Nat.le_trans HB33.size (oH.ge k hk)
  have HB35 := bUp HB33 b34 HB33.size
  have oW_35 := oW_33.below b34
  clear oW_33
  have oG_35 := oG_33.below b34
  clear oG_33
  have oz0_35 := oz0_33.below b34
  clear oz0_33
  have oz1_35 := oz1.below b34
  clear oz1
  clear oz0_35
  clear oz1_35
  go_wp2_with fail
  refine (eqIntS_c _ _ _ _ _ _ _ oH.rd oW_35.rd (by omega) (by omega)).mono ?_
  rintro e w36 ⟨rfl, n36, rfl⟩
  have HB37 := bDrewN HB35 n36
  have oW_37 := oW_35.drewN n36
  clear oW_35
  have oG_37 := oG_35.drewN n36
  clear oG_35
  have oH_37 := oH.drewN n36
  clear oH
  go_wp2_with fail
  refine (heldIntS_c _ _ _ _ _ oG_37.rd (by omega) (by omega) (by omega)).mono ?_
  rintro e w38 ⟨rfl, n38, rfl⟩
  have HB39 := bDrewN HB37 n38
  have oW_39 := oW_37.drewN n38
  clear oW_37
  have oG_39 := oG_37.drewN n38
  clear oG_37
  have oH_39 := oH_37.drewN n38
  clear oH_37
  go_wp2
  go_ret
  exact ⟨rfl, by first | exact HB39 | (simpa using HB39)⟩
end Go.Proofs.Ytgmgiedbfbdfdaa
