/- The law FnExactWordWait: walked call by call. (Written by gen_law.py.) -/
import Derived.Test.YtchkflpdnmhboaaOv2
namespace Go.Proofs.Ytchkflpdnmhboaa
open Go.RowKit
theorem lawWW (a0 : Int) (A1 : Option Addr) (xs1 : List Int) (c1 : Nat) (w : World) (ha1 : Rd w A1 (ints xs1)) :
    Calls Try.prog 9 #[.int .i64 a0, .slice A1 xs1.length c1] w fun e w' => e = .returned (.bool true) ∧ Below w.heap.size w w' := by
  by_cases hl1 : 1048576 < xs1.length
  · go_enter Try.func9, Try.ntmps9
    go_wp2
    go_ret
    exact ⟨rfl, Below.refl _ _⟩
  go_enter Try.func9, Try.ntmps9
  have HB0 : Below w.heap.size w w := Below.refl _ _
  go_wp2_with fail
  refine (toIntS_c _ _ _ _ (ha1.below HB0 (Nat.le_refl _)) (by omega)).mono ?_
  rintro e w1 ⟨rfl, os1, b1⟩
  have ge_s1 := fun k hk => Nat.le_trans HB0.size (os1.ge k hk)
  have HB2 := bUp HB0 b1 HB0.size
  go_wp2_with fail
  refine (specWW_c _ _ _ _ _ os1.rd (by omega) (Nat.le_refl _)).mono ?_
  rintro e w3 ⟨rfl, b3⟩
  have HB4 := bUp HB2 b3 HB2.size
  have os1_4 := os1.below b3
  clear os1
  clear os1_4
  go_wp2_with fail
  refine (toIntS_c _ _ _ _ (ha1.below HB4 (Nat.le_refl _)) (by omega)).mono ?_
  rintro e w5 ⟨rfl, ox1, b5⟩
  have ge_x1 := fun k hk => Nat.le_trans HB4.size (ox1.ge k hk)
  have HB6 := bUp HB4 b5 HB4.size
  go_wp2_with fail
  refine (implWW_c _ _ _ _ _ ox1.rd (by omega) (Nat.le_refl _)).mono ?_
  rintro e w7 ⟨rfl, b7⟩
  have HB8 := bUp HB6 b7 HB6.size
  have ox1_8 := ox1.below b7
  clear ox1
  go_wp2_with fail
  refine (toIntS_c _ _ _ _ (ha1.below HB8 (Nat.le_refl _)) (by omega)).mono ?_
  rintro e w9 ⟨rfl, oy1, b9⟩
  have ap_x1_y1 := ox1_8.apart oy1 (Nat.le_refl _)
  have ap_y1_x1 := ox1_8.apartR oy1 (Nat.le_refl _)
  have ge_y1 := fun k hk => Nat.le_trans HB8.size (oy1.ge k hk)
  have HB10 := bUp HB8 b9 HB8.size
  have ox1_10 := ox1_8.below b9
  clear ox1_8
  go_wp2_with fail
  refine (eqIntS_c _ _ _ _ _ _ _ ox1_10.rd oy1.rd (by omega) (by omega)).mono ?_
  rintro e w11 ⟨rfl, n11, rfl⟩
  have HB12 := bDrewN HB10 n11
  have ox1_12 := ox1_10.drewN n11
  clear ox1_10
  have oy1_12 := oy1.drewN n11
  clear oy1
  clear oy1_12
  go_wp2
  go_ret
  exact ⟨rfl, by first | exact HB12 | (simpa using HB12)⟩
end Go.Proofs.Ytchkflpdnmhboaa
