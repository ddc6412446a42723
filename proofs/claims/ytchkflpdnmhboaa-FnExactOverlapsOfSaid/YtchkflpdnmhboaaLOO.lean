/- The law FnExactOverlapsOf: walked call by call. (Written by gen_law.py.) -/
import Derived.Test.YtchkflpdnmhboaaOv2
namespace Go.Proofs.Ytchkflpdnmhboaa
open Go.RowKit
theorem lawOO (a0 : Int) (A1 : Option Addr) (xs1 : List Int) (c1 : Nat) (A2 : Option Addr) (xs2 : List Int) (c2 : Nat) (w : World) (ha1 : Rd w A1 (ints xs1)) (ha2 : Rd w A2 (ints xs2)) :
    Calls Try.prog 8 #[.int .i64 a0, .slice A1 xs1.length c1, .slice A2 xs2.length c2] w fun e w' => e = .returned (.bool true) ∧ Below w.heap.size w w' := by
  by_cases hl1 : 1048576 < xs1.length
  · go_enter Try.func8, Try.ntmps8
    go_wp2
    go_ret
    exact ⟨rfl, Below.refl _ _⟩
  by_cases hl2 : 1048576 < xs2.length
  · go_enter Try.func8, Try.ntmps8
    go_wp2
    go_ret
    exact ⟨rfl, Below.refl _ _⟩
  have hL := ooV_length a0 xs1 xs2
  go_enter Try.func8, Try.ntmps8
  have HB0 : Below w.heap.size w w := Below.refl _ _
  go_wp2_with fail
  refine (toIntS_c _ _ _ _ (ha1.below HB0 (Nat.le_refl _)) (by omega)).mono ?_
  rintro e w1 ⟨rfl, os1, b1⟩
  have ge_s1 := fun k hk => Nat.le_trans HB0.size (os1.ge k hk)
  have HB2 := bUp HB0 b1 HB0.size
  go_wp2_with fail
  refine (toIntS_c _ _ _ _ (ha2.below HB2 (Nat.le_refl _)) (by omega)).mono ?_
  rintro e w3 ⟨rfl, os2, b3⟩
  have ap_s1_s2 := os1.apart os2 (Nat.le_refl _)
  have ap_s2_s1 := os1.apartR os2 (Nat.le_refl _)
  have ge_s2 := fun k hk => Nat.le_trans HB2.size (os2.ge k hk)
  have HB4 := bUp HB2 b3 HB2.size
  have os1_4 := os1.below b3
  clear os1
  go_wp2_with fail
  refine (specOO_c _ _ _ _ _ _ _ _ os1_4.rd os2.rd (by omega) (by omega) (Nat.le_refl _) (Nat.le_refl _)).mono ?_
  rintro e w5 ⟨AW, cW, rfl, oW, b5⟩
  have ap_s1_W := os1_4.apart oW (Nat.le_refl _)
  have ap_W_s1 := os1_4.apartR oW (Nat.le_refl _)
  have ap_s2_W := os2.apart oW (Nat.le_refl _)
  have ap_W_s2 := os2.apartR oW (Nat.le_refl _)
  have ge_W := fun k hk => Nat.le_trans HB4.size (oW.ge k hk)
  have HB6 := bUp HB4 b5 HB4.size
  have os1_6 := os1_4.below b5
  clear os1_4
  have os2_6 := os2.below b5
  clear os2
  clear os1_6
  clear os2_6
  go_wp2_with fail
  refine (toIntS_c _ _ _ _ (ha1.below HB6 (Nat.le_refl _)) (by omega)).mono ?_
  rintro e w7 ⟨rfl, ox1, b7⟩
  have ap_W_x1 := oW.apart ox1 (Nat.le_refl _)
  have ap_x1_W := oW.apartR ox1 (Nat.le_refl _)
  have ge_x1 := fun k hk => Nat.le_trans HB6.size (ox1.ge k hk)
  have HB8 := bUp HB6 b7 HB6.size
  have oW_8 := oW.below b7
  clear oW
  go_wp2_with fail
  refine (toIntS_c _ _ _ _ (ha2.below HB8 (Nat.le_refl _)) (by omega)).mono ?_
  rintro e w9 ⟨rfl, ox2, b9⟩
  have ap_W_x2 := oW_8.apart ox2 (Nat.le_refl _)
  have ap_x2_W := oW_8.apartR ox2 (Nat.le_refl _)
  have ap_x1_x2 := ox1.apart ox2 (Nat.le_refl _)
  have ap_x2_x1 := ox1.apartR ox2 (Nat.le_refl _)
  have ge_x2 := fun k hk => Nat.le_trans HB8.size (ox2.ge k hk)
  have HB10 := bUp HB8 b9 HB8.size
  have oW_10 := oW_8.below b9
  clear oW_8
  have ox1_10 := ox1.below b9
  clear ox1
  go_wp2_with fail
  refine (implOO_c _ _ _ _ _ _ _ _ ox1_10.rd ox2.rd (by omega) (by omega) (Nat.le_refl _) (Nat.le_refl _)).mono ?_
  rintro e w11 ⟨AG, cG, rfl, oG, b11⟩
  have ap_W_G := oW_10.apart oG (Nat.le_refl _)
  have ap_G_W := oW_10.apartR oG (Nat.le_refl _)
  have ap_x1_G := ox1_10.apart oG (Nat.le_refl _)
  have ap_G_x1 := ox1_10.apartR oG (Nat.le_refl _)
  have ap_x2_G := ox2.apart oG (Nat.le_refl _)
  have ap_G_x2 := ox2.apartR oG (Nat.le_refl _)
  have ge_G := fun k hk => Nat.le_trans HB10.size (oG.ge k hk)
  have HB12 := bUp HB10 b11 HB10.size
  have oW_12 := oW_10.below b11
  clear oW_10
  have ox1_12 := ox1_10.below b11
  clear ox1_10
  have ox2_12 := ox2.below b11
  clear ox2
  go_wp2_with fail
  refine (eqIntS_c _ _ _ _ _ _ _ oG.rd oW_12.rd (by omega) (by omega)).mono ?_
  rintro e w13 ⟨rfl, n13, rfl⟩
  have HB14 := bDrewN HB12 n13
  have oW_14 := oW_12.drewN n13
  clear oW_12
  have ox1_14 := ox1_12.drewN n13
  clear ox1_12
  have ox2_14 := ox2_12.drewN n13
  clear ox2_12
  have oG_14 := oG.drewN n13
  clear oG
  go_wp2_with fail
  refine (toIntS_c _ _ _ _ (ha1.below HB14 (Nat.le_refl _)) (by omega)).mono ?_
  rintro e w15 ⟨rfl, oy1, b15⟩
  have ap_W_y1 := oW_14.apart oy1 (Nat.le_refl _)
  have ap_y1_W := oW_14.apartR oy1 (Nat.le_refl _)
  have ap_x1_y1 := ox1_14.apart oy1 (Nat.le_refl _)
  have ap_y1_x1 := ox1_14.apartR oy1 (Nat.le_refl _)
  have ap_x2_y1 := ox2_14.apart oy1 (Nat.le_refl _)
  have ap_y1_x2 := ox2_14.apartR oy1 (Nat.le_refl _)
  have ap_G_y1 := oG_14.apart oy1 (Nat.le_refl _)
  have ap_y1_G := oG_14.apartR oy1 (Nat.le_refl _)
  have ge_y1 := fun k hk => Nat.le_trans HB14.size (oy1.ge k hk)
  have HB16 := bUp HB14 b15 HB14.size
  have oW_16 := oW_14.below b15
  clear oW_14
  have ox1_16 := ox1_14.below b15
  clear ox1_14
  have ox2_16 := ox2_14.below b15
  clear ox2_14
  have oG_16 := oG_14.below b15
  clear oG_14
  go_wp2_with fail
  refine (eqIntS_c _ _ _ _ _ _ _ ox1_16.rd oy1.rd (by omega) (by omega)).mono ?_
  rintro e w17 ⟨rfl, n17, rfl⟩
  have HB18 := bDrewN HB16 n17
  have oW_18 := oW_16.drewN n17
  clear oW_16
  have ox1_18 := ox1_16.drewN n17
  clear ox1_16
  have ox2_18 := ox2_16.drewN n17
  clear ox2_16
  have oG_18 := oG_16.drewN n17
  clear oG_16
  have oy1_18 := oy1.drewN n17
  clear oy1
  clear oy1_18
  go_wp2_with fail
  refine (toIntS_c _ _ _ _ (ha2.below HB18 (Nat.le_refl _)) (by omega)).mono ?_
  rintro e w19 ⟨rfl, oy2, b19⟩
  have ap_W_y2 := oW_18.apart oy2 (Nat.le_refl _)
  have ap_y2_W := oW_18.apartR oy2 (Nat.le_refl _)
  have ap_x1_y2 := ox1_18.apart oy2 (Nat.le_refl _)
  have ap_y2_x1 := ox1_18.apartR oy2 (Nat.le_refl _)
  have ap_x2_y2 := ox2_18.apart oy2 (Nat.le_refl _)
  have ap_y2_x2 := ox2_18.apartR oy2 (Nat.le_refl _)
  have ap_G_y2 := oG_18.apart oy2 (Nat.le_refl _)
  have ap_y2_G := oG_18.apartR oy2 (Nat.le_refl _)
  have ge_y2 := fun k hk => Nat.le_trans HB18.size (oy2.ge k hk)
  have HB20 := bUp HB18 b19 HB18.size
  have oW_20 := oW_18.below b19
  clear oW_18
  have ox1_20 := ox1_18.below b19
  clear ox1_18
  have ox2_20 := ox2_18.below b19
  clear ox2_18
  have oG_20 := oG_18.below b19
  clear oG_18
  go_wp2_with fail
  refine (eqIntS_c _ _ _ _ _ _ _ ox2_20.rd oy2.rd (by omega) (by omega)).mono ?_
  rintro e w21 ⟨rfl, n21, rfl⟩
  have HB22 := bDrewN HB20 n21
  have oW_22 := oW_20.drewN n21
  clear oW_20
  have ox1_22 := ox1_20.drewN n21
  clear ox1_20
  have ox2_22 := ox2_20.drewN n21
  clear ox2_20
  have oG_22 := oG_20.drewN n21
  clear oG_20
  have oy2_22 := oy2.drewN n21
  clear oy2
  clear oy2_22
  go_wp2_with fail
  refine (markIntS_c _ _ _ _ _ _ ox1_22 (by omega) (by omega) (by omega)).mono ?_
  rintro e w23 ⟨rfl, ox1m23, g23⟩
  have HB23 := HB22.grown g23 HB22.size ge_x1
  have oW_23 := oW_22.grown g23 ap_W_x1
  clear oW_22
  have ox2_23 := ox2_22.grown g23 ap_x2_x1
  clear ox2_22
  have oG_23 := oG_22.grown g23 ap_G_x1
  clear oG_22
  clear ox1_22
  go_wp2_with fail
  refine (markIntS_c _ _ _ _ _ _ ox2_23 (by omega) (by omega) (by omega)).mono ?_
  rintro e w24 ⟨rfl, ox2m24, g24⟩
  have HB24 := HB23.grown g24 HB23.size ge_x2
  have oW_24 := oW_23.grown g24 ap_W_x2
  clear oW_23
  have ox1_24 := ox1m23.grown g24 ap_x1_x2
  clear ox1m23
  have oG_24 := oG_23.grown g24 ap_G_x2
  clear oG_23
  clear ox2_23
  go_wp2_with fail
  refine (eqIntS_c _ _ _ _ _ _ _ oG_24.rd oW_24.rd (by omega) (by omega)).mono ?_
  rintro e w25 ⟨rfl, n25, rfl⟩
  have HB26 := bDrewN HB24 n25
  have oW_26 := oW_24.drewN n25
  clear oW_24
  have ox1_26 := ox1_24.drewN n25
  clear ox1_24
  have ox2_26 := ox2m24.drewN n25
  clear ox2m24
  have oG_26 := oG_24.drewN n25
  clear oG_24
  clear ox1_26
  clear ox2_26
  go_wp2_with fail
  refine (markIntS_c _ _ _ _ _ _ oG_26 (by omega) (by omega) (by omega)).mono ?_
  rintro e w27 ⟨rfl, oGm27, g27⟩
  have HB27 := HB26.grown g27 HB26.size ge_G
  have oW_27 := oW_26.grown g27 ap_W_G
  clear oW_26
  clear oG_26
  go_wp2_with fail
  refine (heldIntS_c _ _ _ _ _ oGm27.rd (by omega) (by omega) (by omega)).mono ?_
  rintro e w28 ⟨rfl, n28, rfl⟩
  have HB29 := bDrewN HB27 n28
  have oW_29 := oW_27.drewN n28
  clear oW_27
  have oG_29 := oGm27.drewN n28
  clear oGm27
  go_wp2_with fail
  refine (toIntS_c _ _ _ _ (ha1.below HB29 (Nat.le_refl _)) (by omega)).mono ?_
  rintro e w30 ⟨rfl, oz1, b30⟩
  have ap_W_z1 := oW_29.apart oz1 (Nat.le_refl _)
  have ap_z1_W := oW_29.apartR oz1 (Nat.le_refl _)
  have ap_G_z1 := oG_29.apart oz1 (Nat.le_refl _)
  have ap_z1_G := oG_29.apartR oz1 (Nat.le_refl _)
  have ge_z1 := fun k hk => Nat.le_trans HB29.size (oz1.ge k hk)
  have HB31 := bUp HB29 b30 HB29.size
  have oW_31 := oW_29.below b30
  clear oW_29
  have oG_31 := oG_29.below b30
  clear oG_29
  go_wp2_with fail
  refine (toIntS_c _ _ _ _ (ha2.below HB31 (Nat.le_refl _)) (by omega)).mono ?_
  rintro e w32 ⟨rfl, oz2, b32⟩
  have ap_W_z2 := oW_31.apart oz2 (Nat.le_refl _)
  have ap_z2_W := oW_31.apartR oz2 (Nat.le_refl _)
  have ap_G_z2 := oG_31.apart oz2 (Nat.le_refl _)
  have ap_z2_G := oG_31.apartR oz2 (Nat.le_refl _)
  have ap_z1_z2 := oz1.apart oz2 (Nat.le_refl _)
  have ap_z2_z1 := oz1.apartR oz2 (Nat.le_refl _)
  have ge_z2 := fun k hk => Nat.le_trans HB31.size (oz2.ge k hk)
  have HB33 := bUp HB31 b32 HB31.size
  have oW_33 := oW_31.below b32
  clear oW_31
  have oG_33 := oG_31.below b32
  clear oG_31
  have oz1_33 := oz1.below b32
  clear oz1
  go_wp2_with fail
  refine (implOO_c _ _ _ _ _ _ _ _ oz1_33.rd oz2.rd (by omega) (by omega) (Nat.le_refl _) (Nat.le_refl _)).mono ?_
  rintro e w34 ⟨AH, cH, rfl, oH, b34⟩
  have ap_W_H := oW_33.apart oH (Nat.le_refl _)
  have ap_H_W := oW_33.apartR oH (Nat.le_refl _)
  have ap_G_H := oG_33.apart oH (Nat.le_refl _)
  have ap_H_G := oG_33.apartR oH (Nat.le_refl _)
  have ap_z1_H := oz1_33.apart oH (Nat.le_refl _)
  have ap_H_z1 := oz1_33.apartR oH (Nat.le_refl _)
  have ap_z2_H := oz2.apart oH (Nat.le_refl _)
  have ap_H_z2 := oz2.apartR oH (Nat.le_refl _)
  have ge_H := fun k hk => Nat.le_trans HB33.size (oH.ge k hk)
  have HB35 := bUp HB33 b34 HB33.size
  have oW_35 := oW_33.below b34
  clear oW_33
  have oG_35 := oG_33.below b34
  clear oG_33
  have oz1_35 := oz1_33.below b34
  clear oz1_33
  have oz2_35 := oz2.below b34
  clear oz2
  clear oz1_35
  clear oz2_35
  go_wp2_with fail
  refine (eqIntS_c _ _ _ _ _ _ _ oH.rd oW_35.rd (by omega) (by omega)).mono ?_
  rintro e w36 ⟨rfl, n36, rfl⟩
  have HB37 := bDrewN HB35 n36
  have oW_37 := oW_35.drewN n36
  clear oW_35
  have oG_37 := oG_35.drewN n36
  clear oG_35
  have oH_37 := oH.drewN n36
  clear oH
  go_wp2_with fail
  refine (heldIntS_c _ _ _ _ _ oG_37.rd (by omega) (by omega) (by omega)).mono ?_
  rintro e w38 ⟨rfl, n38, rfl⟩
  have HB39 := bDrewN HB37 n38
  have oW_39 := oW_37.drewN n38
  clear oW_37
  have oG_39 := oG_37.drewN n38
  clear oG_37
  have oH_39 := oH_37.drewN n38
  clear oH_37
  go_wp2
  go_ret
  exact ⟨rfl, by first | exact HB39 | (simpa using HB39)⟩
end Go.Proofs.Ytchkflpdnmhboaa
