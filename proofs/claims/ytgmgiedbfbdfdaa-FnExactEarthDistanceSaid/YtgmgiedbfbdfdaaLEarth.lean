/- The law FnExactEarthDistance: walked call by call. (Written by gen_law.py.) -/
import Derived.Test.YtgmgiedbfbdfdaaC3
namespace Go.Proofs.Ytgmgiedbfbdfdaa
open Go.RowKit
theorem lawEarth (A0 : Option Addr) (xs0 : List Int) (c0 : Nat) (A1 : Option Addr) (xs1 : List Int) (c1 : Nat) (w : World) (ha0 : Rd w A0 (ints xs0)) (ha1 : Rd w A1 (ints xs1)) :
    Calls Try.prog 8 #[.slice A0 xs0.length c0, .slice A1 xs1.length c1] w fun e w' => e = .returned (.bool true) ∧ Below w.heap.size w w' := by
  by_cases hl0 : 1048576 < xs0.length
  · go_enter Try.func8, Try.ntmps8
    go_wp2
    go_ret
    exact ⟨rfl, Below.refl _ _⟩
  by_cases hl1 : 1048576 < xs1.length
  · go_enter Try.func8, Try.ntmps8
    go_wp2
    go_ret
    exact ⟨rfl, Below.refl _ _⟩
  go_enter Try.func8, Try.ntmps8
  have HB0 : Below w.heap.size w w := Below.refl _ _
  go_wp2_with fail
  refine (toIntS_c _ _ _ _ (ha0.below HB0 (Nat.le_refl _)) (by omega)).mono ?_
  rintro e w1 ⟨rfl, os0, b1⟩
  have ge_s0 := fun k hk => Nat.le_trans HB0.size (os0.ge k hk)
  have HB2 := bUp HB0 b1 HB0.size
  go_wp2_with fail
  refine (toIntS_c _ _ _ _ (ha1.below HB2 (Nat.le_refl _)) (by omega)).mono ?_
  rintro e w3 ⟨rfl, os1, b3⟩
  have ap_s0_s1 := os0.apart os1 (Nat.le_refl _)
  have ap_s1_s0 := os0.apartR os1 (Nat.le_refl _)
  have ge_s1 := fun k hk => Nat.le_trans HB2.size (os1.ge k hk)
  have HB4 := bUp HB2 b3 HB2.size
  have os0_4 := os0.below b3
  clear os0
  go_wp2_with fail
  refine (specEarth_c _ _ _ _ _ _ _ os0_4.rd os1.rd (by omega) (by omega)).mono ?_
  rintro e w5 ⟨rfl, b5⟩
  have HB6 := bUp HB4 b5 HB4.size
  have os0_6 := os0_4.below b5
  clear os0_4
  have os1_6 := os1.below b5
  clear os1
  clear os0_6
  clear os1_6
  go_wp2_with fail
  refine (toIntS_c _ _ _ _ (ha0.below HB6 (Nat.le_refl _)) (by omega)).mono ?_
  rintro e w7 ⟨rfl, ox0, b7⟩
  have ge_x0 := fun k hk => Nat.le_trans HB6.size (ox0.ge k hk)
  have HB8 := bUp HB6 b7 HB6.size
  go_wp2_with fail
  refine (toIntS_c _ _ _ _ (ha1.below HB8 (Nat.le_refl _)) (by omega)).mono ?_
  rintro e w9 ⟨rfl, ox1, b9⟩
  have ap_x0_x1 := ox0.apart ox1 (Nat.le_refl _)
  have ap_x1_x0 := ox0.apartR ox1 (Nat.le_refl _)
  have ge_x1 := fun k hk => Nat.le_trans HB8.size (ox1.ge k hk)
  have HB10 := bUp HB8 b9 HB8.size
  have ox0_10 := ox0.below b9
  clear ox0
  go_wp2_with fail
  refine (implEarth_c _ _ _ _ _ _ _ ox0_10.rd ox1.rd (by omega) (by omega)).mono ?_
  rintro e w11 ⟨rfl, b11⟩
  have HB12 := bUp HB10 b11 HB10.size
  have ox0_12 := ox0_10.below b11
  clear ox0_10
  have ox1_12 := ox1.below b11
  clear ox1
  go_wp2_with fail
  refine (toIntS_c _ _ _ _ (ha0.below HB12 (Nat.le_refl _)) (by omega)).mono ?_
  rintro e w13 ⟨rfl, oy0, b13⟩
  have ap_x0_y0 := ox0_12.apart oy0 (Nat.le_refl _)
  have ap_y0_x0 := ox0_12.apartR oy0 (Nat.le_refl _)
  have ap_x1_y0 := ox1_12.apart oy0 (Nat.le_refl _)
  have ap_y0_x1 := ox1_12.apartR oy0 (Nat.le_refl _)
  have ge_y0 := fun k hk => Nat.le_trans HB12.size (oy0.ge k hk)
  have HB14 := bUp HB12 b13 HB12.size
  have ox0_14 := ox0_12.below b13
  clear ox0_12
  have ox1_14 := ox1_12.below b13
  clear ox1_12
  go_wp2_with fail
  refine (eqIntS_c _ _ _ _ _ _ _ ox0_14.rd oy0.rd (by omega) (by omega)).mono ?_
  rintro e w15 ⟨rfl, n15, rfl⟩
  have HB16 := bDrewN HB14 n15
  have ox0_16 := ox0_14.drewN n15
  clear ox0_14
  have ox1_16 := ox1_14.drewN n15
  clear ox1_14
  have oy0_16 := oy0.drewN n15
  clear oy0
  clear oy0_16
  go_wp2_with fail
  refine (toIntS_c _ _ _ _ (ha1.below HB16 (Nat.le_refl _)) (by omega)).mono ?_
  rintro e w17 ⟨rfl, oy1, b17⟩
  have ap_x0_y1 := ox0_16.apart oy1 (Nat.le_refl _)
  have ap_y1_x0 := ox0_16.apartR oy1 (Nat.le_refl _)
  have ap_x1_y1 := ox1_16.apart oy1 (Nat.le_refl _)
  have ap_y1_x1 := ox1_16.apartR oy1 (Nat.le_refl _)
  have ge_y1 := fun k hk => Nat.le_trans HB16.size (oy1.ge k hk)
  have HB18 := bUp HB16 b17 HB16.size
  have ox0_18 := ox0_16.below b17
  clear ox0_16
  have ox1_18 := ox1_16.below b17
  clear ox1_16
  go_wp2_with fail
  refine (eqIntS_c _ _ _ _ _ _ _ ox1_18.rd oy1.rd (by omega) (by omega)).mono ?_
  rintro e w19 ⟨rfl, n19, rfl⟩
  have HB20 := bDrewN HB18 n19
  have ox0_20 := ox0_18.drewN n19
  clear ox0_18
  have ox1_20 := ox1_18.drewN n19
  clear ox1_18
  have oy1_20 := oy1.drewN n19
  clear oy1
  clear oy1_20
  go_wp2
  go_ret
  exact ⟨rfl, by first | exact HB20 | (simpa using HB20)⟩
end Go.Proofs.Ytgmgiedbfbdfdaa
