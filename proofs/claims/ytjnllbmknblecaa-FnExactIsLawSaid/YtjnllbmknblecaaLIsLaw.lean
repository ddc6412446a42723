/- The law FnExactIsLaw: walked call by call. (Written by gen_law.py.) -/
import Derived.Test.YtjnllbmknblecaaLaw
namespace Go.Proofs.Ytjnllbmknblecaa
open Go.RowKit
theorem lawIsLaw (A0 : Option Addr) (xs0 : List Int) (c0 : Nat) (w : World) (ha0 : Rd w A0 (ints xs0)) :
    Calls Try.prog 3 #[.slice A0 xs0.length c0] w fun e w' => e = .returned (.bool true) ∧ Below w.heap.size w w' := by
  by_cases hl0 : 1048576 < xs0.length
  · go_enter Try.func3, Try.ntmps3
    go_wp2
    go_ret
    exact ⟨rfl, Below.refl _ _⟩
  go_enter Try.func3, Try.ntmps3
  have HB0 : Below w.heap.size w w := Below.refl _ _
  go_wp2_with fail
  refine (toIntS_c _ _ _ _ (ha0.below HB0 (Nat.le_refl _)) (by omega)).mono ?_
  rintro e w1 ⟨rfl, os0, b1⟩
  have ge_s0 := fun k hk => Nat.le_trans HB0.size (os0.ge k hk)
  have HB2 := bUp HB0 b1 HB0.size
  go_wp2_with fail
  refine (specIsLaw_c _ _ _ _ os0.rd (by omega)).mono ?_
  rintro e w3 ⟨rfl, b3⟩
  have HB4 := bUp HB2 b3 HB2.size
  have os0_4 := os0.below b3
  clear os0
  clear os0_4
  go_wp2_with fail
  refine (toIntS_c _ _ _ _ (ha0.below HB4 (Nat.le_refl _)) (by omega)).mono ?_
  rintro e w5 ⟨rfl, ox0, b5⟩
  have ge_x0 := fun k hk => Nat.le_trans HB4.size (ox0.ge k hk)
  have HB6 := bUp HB4 b5 HB4.size
  go_wp2_with fail
  refine (implIsLaw_c _ _ _ _ ox0.rd (by omega)).mono ?_
  rintro e w7 ⟨rfl, b7⟩
  have HB8 := bUp HB6 b7 HB6.size
  have ox0_8 := ox0.below b7
  clear ox0
  go_wp2_with fail
  refine (toIntS_c _ _ _ _ (ha0.below HB8 (Nat.le_refl _)) (by omega)).mono ?_
  rintro e w9 ⟨rfl, oy0, b9⟩
  have ap_x0_y0 := ox0_8.apart oy0 (Nat.le_refl _)
  have ap_y0_x0 := ox0_8.apartR oy0 (Nat.le_refl _)
  have ge_y0 := fun k hk => Nat.le_trans HB8.size (oy0.ge k hk)
  have HB10 := bUp HB8 b9 HB8.size
  have ox0_10 := ox0_8.below b9
  clear ox0_8
  go_wp2_with fail
  refine (eqIntS_c _ _ _ _ _ _ _ ox0_10.rd oy0.rd (by omega) (by omega)).mono ?_
  rintro e w11 ⟨rfl, n11, rfl⟩
  have HB12 := bDrewN HB10 n11
  have ox0_12 := ox0_10.drewN n11
  clear ox0_10
  have oy0_12 := oy0.drewN n11
  clear oy0
  clear oy0_12
  go_wp2
  go_ret
  exact ⟨rfl, by first | exact HB12 | (simpa using HB12)⟩
end Go.Proofs.Ytjnllbmknblecaa
