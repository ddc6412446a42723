/- The law FnExactWordOdds: walked call by call. (Written by gen_law.py.) -/
import Derived.Test.YtchkflpdnmhboaaWo
namespace Go.Proofs.Ytchkflpdnmhboaa
open Go.RowKit
set_option maxHeartbeats 1000000 in
theorem lawWo (a0 : Int) (A1 : Option Addr) (xs1 : List Int) (c1 : Nat) (A2 : Option Addr) (xs2 : List Int) (c2 : Nat) (w : World) (ha1 : Rd w A1 (ints xs1)) (ha2 : Rd w A2 (ints xs2)) :
    Calls Try.prog 12 #[.int .i64 a0, .slice A1 xs1.length c1, .slice A2 xs2.length c2] w fun e w' => e = .returned (.bool true) ∧ Below w.heap.size w w' := by
  by_cases hl1 : 1048576 < xs1.length
  · go_enter Try.func12, Try.ntmps12
    go_wp2
    go_ret
    exact ⟨rfl, Below.refl _ _⟩
  by_cases hl2 : 1048576 < xs2.length
  · go_enter Try.func12, Try.ntmps12
    go_wp2
    go_ret
    exact ⟨rfl, Below.refl _ _⟩
  go_enter Try.func12, Try.ntmps12
  have HB0 : Below w.heap.size w w := Below.refl _ _
  go_wp2_with fail
  refine (toIntS_c _ _ _ _ (ha1.below HB0 (Nat.le_refl _)) (by omega)).mono ?_
  rintro e w1 ⟨rfl, os1, b1⟩
  have ge_s1 := fun k hk => Nat.le_trans HB0.size (os1.ge k hk)
  have HB2 := bUp HB0 b1 HB0.size
  go_wp2_with fail
  refine (toIntS_c _ _ _ _ (ha2.below HB2 (Nat.le_refl _)) (by omega)).mono ?_
  rintro e w3 ⟨rfl, os2, b3⟩
  have ap_s1_s2 := os1.apart os2 (Nat.le_refl _)
  have ap_s2_s1 := os1.apartR os2 (Nat.le_refl _)
  have ge_s2 := fun k hk => Nat.le_trans HB2.size (os2.ge k hk)
  have HB4 := bUp HB2 b3 HB2.size
  have os1_4 := os1.below b3
  clear os1
  go_wp2_with fail
  refine (specWo_c _ _ _ _ _ _ _ _ os1_4.rd os2.rd (by omega) (by omega) (Nat.le_refl _) (Nat.le_refl _)).mono ?_
  rintro e w5 ⟨rfl, b5⟩
  have HB6 := bUp HB4 b5 HB4.size
  have os1_6 := os1_4.below b5
  clear os1_4
  have os2_6 := os2.below b5
  clear os2
  have HB7 : Below w.heap.size w (w5.alloc (.cells #[.int .i64 (woT a0 xs1 xs2), .int .i64 (woB a0 xs1 xs2)] 32)) := HB6.alloc HB6.size _
  have os1_7 := os1_6.alloc (.cells #[.int .i64 (woT a0 xs1 xs2), .int .i64 (woB a0 xs1 xs2)] 32)
  clear os1_6
  have os2_7 := os2_6.alloc (.cells #[.int .i64 (woT a0 xs1 xs2), .int .i64 (woB a0 xs1 xs2)] 32)
  clear os2_6
  have bx_7 := Bx.new w5 (.int .i64 (woT a0 xs1 xs2)) (.int .i64 (woB a0 xs1 xs2)) 32
  go_wp2_with fail
  generalize w5.alloc (.cells #[.int .i64 (woT a0 xs1 xs2), .int .i64 (woB a0 xs1 xs2)] 32) = v7 at *
  clear os1_7
  clear os2_7
  go_wp2_with fail
  refine (toIntS_c _ _ _ _ (ha1.below HB7 (Nat.le_refl _)) (by omega)).mono ?_
  rintro e w8 ⟨rfl, ox1, b8⟩
  have ge_x1 := fun k hk => Nat.le_trans HB7.size (ox1.ge k hk)
  have HB9 := bUp HB7 b8 HB7.size
  have bx_9 := bx_7.below b8
  clear bx_7
  go_wp2_with fail
  refine (toIntS_c _ _ _ _ (ha2.below HB9 (Nat.le_refl _)) (by omega)).mono ?_
  rintro e w10 ⟨rfl, ox2, b10⟩
  have ap_x1_x2 := ox1.apart ox2 (Nat.le_refl _)
  have ap_x2_x1 := ox1.apartR ox2 (Nat.le_refl _)
  have ge_x2 := fun k hk => Nat.le_trans HB9.size (ox2.ge k hk)
  have HB11 := bUp HB9 b10 HB9.size
  have ox1_11 := ox1.below b10
  clear ox1
  have bx_11 := bx_9.below b10
  clear bx_9
  go_wp2_with fail
  refine (implWo_c _ _ _ _ _ _ _ _ ox1_11.rd ox2.rd (by omega) (by omega) (Nat.le_refl _) (Nat.le_refl _)).mono ?_
  rintro e w12 ⟨rfl, b12⟩
  have HB13 := bUp HB11 b12 HB11.size
  have ox1_13 := ox1_11.below b12
  clear ox1_11
  have ox2_13 := ox2.below b12
  clear ox2
  have bx_13 := bx_11.below b12
  clear bx_11
  have HB14 : Below w.heap.size w (w12.alloc (.cells #[.int .i64 (woT a0 xs1 xs2), .int .i64 (woB a0 xs1 xs2)] 32)) := HB13.alloc HB13.size _
  have ox1_14 := ox1_13.alloc (.cells #[.int .i64 (woT a0 xs1 xs2), .int .i64 (woB a0 xs1 xs2)] 32)
  clear ox1_13
  have ox2_14 := ox2_13.alloc (.cells #[.int .i64 (woT a0 xs1 xs2), .int .i64 (woB a0 xs1 xs2)] 32)
  clear ox2_13
  obtain ⟨f0, f1, z0, z1, hz⟩ := bx_13
  go_wp2_with fail
  generalize w12.alloc (.cells #[.int .i64 (woT a0 xs1 xs2), .int .i64 (woB a0 xs1 xs2)] 32) = v14 at *
  go_wp2_with fail
  refine (eqIntA2_same _ _ _).mono ?_
  rintro e w15 ⟨rfl, b15⟩
  clear f0 f1 z0 z1 hz
  have HB16 := bUp HB14 b15 HB14.size
  have ox1_16 := ox1_14.below b15
  clear ox1_14
  have ox2_16 := ox2_14.below b15
  clear ox2_14
  go_wp2_with fail
  refine (toIntS_c _ _ _ _ (ha1.below HB16 (Nat.le_refl _)) (by omega)).mono ?_
  rintro e w17 ⟨rfl, oy1, b17⟩
  have ap_x1_y1 := ox1_16.apart oy1 (Nat.le_refl _)
  have ap_y1_x1 := ox1_16.apartR oy1 (Nat.le_refl _)
  have ap_x2_y1 := ox2_16.apart oy1 (Nat.le_refl _)
  have ap_y1_x2 := ox2_16.apartR oy1 (Nat.le_refl _)
  have ge_y1 := fun k hk => Nat.le_trans HB16.size (oy1.ge k hk)
  have HB18 := bUp HB16 b17 HB16.size
  have ox1_18 := ox1_16.below b17
  clear ox1_16
  have ox2_18 := ox2_16.below b17
  clear ox2_16
  go_wp2_with fail
  refine (eqIntS_c _ _ _ _ _ _ _ ox1_18.rd oy1.rd (by omega) (by omega)).mono ?_
  rintro e w19 ⟨rfl, n19, rfl⟩
  have HB20 := bDrewN HB18 n19
  have ox1_20 := ox1_18.drewN n19
  clear ox1_18
  have ox2_20 := ox2_18.drewN n19
  clear ox2_18
  have oy1_20 := oy1.drewN n19
  clear oy1
  clear oy1_20
  go_wp2_with fail
  refine (toIntS_c _ _ _ _ (ha2.below HB20 (Nat.le_refl _)) (by omega)).mono ?_
  rintro e w21 ⟨rfl, oy2, b21⟩
  have ap_x1_y2 := ox1_20.apart oy2 (Nat.le_refl _)
  have ap_y2_x1 := ox1_20.apartR oy2 (Nat.le_refl _)
  have ap_x2_y2 := ox2_20.apart oy2 (Nat.le_refl _)
  have ap_y2_x2 := ox2_20.apartR oy2 (Nat.le_refl _)
  have ge_y2 := fun k hk => Nat.le_trans HB20.size (oy2.ge k hk)
  have HB22 := bUp HB20 b21 HB20.size
  have ox1_22 := ox1_20.below b21
  clear ox1_20
  have ox2_22 := ox2_20.below b21
  clear ox2_20
  go_wp2_with fail
  refine (eqIntS_c _ _ _ _ _ _ _ ox2_22.rd oy2.rd (by omega) (by omega)).mono ?_
  rintro e w23 ⟨rfl, n23, rfl⟩
  have HB24 := bDrewN HB22 n23
  have ox1_24 := ox1_22.drewN n23
  clear ox1_22
  have ox2_24 := ox2_22.drewN n23
  clear ox2_22
  have oy2_24 := oy2.drewN n23
  clear oy2
  clear oy2_24
  go_wp2
  go_ret
  exact ⟨rfl, by first | exact HB24 | (simpa using HB24)⟩
end Go.Proofs.Ytchkflpdnmhboaa
