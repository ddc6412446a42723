/- The law FnExactTeamWins: walked call by call. (Written by gen_law.py.) -/
import Derived.Test.YtchkflpdnmhboaaTw
namespace Go.Proofs.Ytchkflpdnmhboaa
open Go.RowKit
theorem lawTw (a0 : Int) (A1 : Option Addr) (xs1 : List Int) (c1 : Nat) (A2 : Option Addr) (xs2 : List Int) (c2 : Nat) (w : World) (ha1 : Rd w A1 (ints xs1)) (ha2 : Rd w A2 (ints xs2)) :
    Calls Try.prog 11 #[.int .i64 a0, .slice A1 xs1.length c1, .slice A2 xs2.length c2] w fun e w' => e = .returned (.bool true) ∧ Below w.heap.size w w' := by
  by_cases hl1 : 1048576 < xs1.length
  · go_enter Try.func11, Try.ntmps11
    go_wp2
    go_ret
    exact ⟨rfl, Below.refl _ _⟩
  by_cases hl2 : 1048576 < xs2.length
  · go_enter Try.func11, Try.ntmps11
    go_wp2
    go_ret
    exact ⟨rfl, Below.refl _ _⟩
  go_enter Try.func11, Try.ntmps11
  have HB0 : Below w.heap.size w w := Below.refl _ _
  go_wp2_with fail
  refine (toIntS_c _ _ _ _ (ha1.below HB0 (Nat.le_refl _)) (by omega)).mono ?_
  rintro e w1 ⟨rfl, os1, b1⟩
  have ge_s1 := fun k hk => Nat.le_trans HB0.size (os1.ge k hk)
  have HB2 := bUp HB0 b1 HB0.size
  go_wp2_with fail
  refine (toIntS_c _ _ _ _ (ha2.below HB2 (Nat.le_refl _)) (by omega)).mono ?_
  rintro e w3 ⟨rfl, os2, b3⟩
  have ap_s1_s2 := os1.apart os2 (Nat.le_refl _)
  have ap_s2_s1 := os1.apartR os2 (Nat.le_refl _)
  have ge_s2 := fun k hk => Nat.le_trans HB2.size (os2.ge k hk)
  have HB4 := bUp HB2 b3 HB2.size
  have os1_4 := os1.below b3
  clear os1
  go_wp2_with fail
  refine (specTw_c _ _ _ _ _ _ _ _ os1_4.rd os2.rd (by omega) (by omega) (Nat.le_refl _) (Nat.le_refl _)).mono ?_
  rintro e w5 ⟨rfl, b5⟩
  have HB6 := bUp HB4 b5 HB4.size
  have os1_6 := os1_4.below b5
  clear os1_4
  have os2_6 := os2.below b5
  clear os2
  clear os1_6
  clear os2_6
  go_wp2_with fail
  refine (toIntS_c _ _ _ _ (ha1.below HB6 (Nat.le_refl _)) (by omega)).mono ?_
  rintro e w7 ⟨rfl, ox1, b7⟩
  have ge_x1 := fun k hk => Nat.le_trans HB6.size (ox1.ge k hk)
  have HB8 := bUp HB6 b7 HB6.size
  go_wp2_with fail
  refine (toIntS_c _ _ _ _ (ha2.below HB8 (Nat.le_refl _)) (by omega)).mono ?_
  rintro e w9 ⟨rfl, ox2, b9⟩
  have ap_x1_x2 := ox1.apart ox2 (Nat.le_refl _)
  have ap_x2_x1 := ox1.apartR ox2 (Nat.le_refl _)
  have ge_x2 := fun k hk => Nat.le_trans HB8.size (ox2.ge k hk)
  have HB10 := bUp HB8 b9 HB8.size
  have ox1_10 := ox1.below b9
  clear ox1
  go_wp2_with fail
  refine (implTw_c _ _ _ _ _ _ _ _ ox1_10.rd ox2.rd (by omega) (by omega) (Nat.le_refl _) (Nat.le_refl _)).mono ?_
  rintro e w11 ⟨rfl, b11⟩
  have HB12 := bUp HB10 b11 HB10.size
  have ox1_12 := ox1_10.below b11
  clear ox1_10
  have ox2_12 := ox2.below b11
  clear ox2
  go_wp2_with fail
  refine (toIntS_c _ _ _ _ (ha1.below HB12 (Nat.le_refl _)) (by omega)).mono ?_
  rintro e w13 ⟨rfl, oy1, b13⟩
  have ap_x1_y1 := ox1_12.apart oy1 (Nat.le_refl _)
  have ap_y1_x1 := ox1_12.apartR oy1 (Nat.le_refl _)
  have ap_x2_y1 := ox2_12.apart oy1 (Nat.le_refl _)
  have ap_y1_x2 := ox2_12.apartR oy1 (Nat.le_refl _)
  have ge_y1 := fun k hk => Nat.le_trans HB12.size (oy1.ge k hk)
  have HB14 := bUp HB12 b13 HB12.size
  have ox1_14 := ox1_12.below b13
  clear ox1_12
  have ox2_14 := ox2_12.below b13
  clear ox2_12
  go_wp2_with fail
  refine (eqIntS_c _ _ _ _ _ _ _ ox1_14.rd oy1.rd (by omega) (by omega)).mono ?_
  rintro e w15 ⟨rfl, n15, rfl⟩
  have HB16 := bDrewN HB14 n15
  have ox1_16 := ox1_14.drewN n15
  clear ox1_14
  have ox2_16 := ox2_14.drewN n15
  clear ox2_14
  have oy1_16 := oy1.drewN n15
  clear oy1
  clear oy1_16
  go_wp2_with fail
  refine (toIntS_c _ _ _ _ (ha2.below HB16 (Nat.le_refl _)) (by omega)).mono ?_
  rintro e w17 ⟨rfl, oy2, b17⟩
  have ap_x1_y2 := ox1_16.apart oy2 (Nat.le_refl _)
  have ap_y2_x1 := ox1_16.apartR oy2 (Nat.le_refl _)
  have ap_x2_y2 := ox2_16.apart oy2 (Nat.le_refl _)
  have ap_y2_x2 := ox2_16.apartR oy2 (Nat.le_refl _)
  have ge_y2 := fun k hk => Nat.le_trans HB16.size (oy2.ge k hk)
  have HB18 := bUp HB16 b17 HB16.size
  have ox1_18 := ox1_16.below b17
  clear ox1_16
  have ox2_18 := ox2_16.below b17
  clear ox2_16
  go_wp2_with fail
  refine (eqIntS_c _ _ _ _ _ _ _ ox2_18.rd oy2.rd (by omega) (by omega)).mono ?_
  rintro e w19 ⟨rfl, n19, rfl⟩
  have HB20 := bDrewN HB18 n19
  have ox1_20 := ox1_18.drewN n19
  clear ox1_18
  have ox2_20 := ox2_18.drewN n19
  clear ox2_18
  have oy2_20 := oy2.drewN n19
  clear oy2
  clear oy2_20
  go_wp2
  go_ret
  exact ⟨rfl, by first | exact HB20 | (simpa using HB20)⟩
end Go.Proofs.Ytchkflpdnmhboaa
