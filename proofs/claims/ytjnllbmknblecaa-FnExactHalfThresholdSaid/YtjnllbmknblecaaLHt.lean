/- The law FnExactHalfThreshold: walked call by call. (Written by gen_law.py.) -/
import Derived.Test.YtjnllbmknblecaaHtW
namespace Go.Proofs.Ytjnllbmknblecaa
open Go.RowKit
set_option maxHeartbeats 1000000 in
theorem lawHt (A0 : Option Addr) (xs0 : List (List Int)) (c0 : Nat) (w : World) (ha0 : RdSS w A0 xs0) (hn0 : xs0.length ≤ 9223372036854775807) (hr0 : ∀ k, k < xs0.length → (rowAt xs0 k).length ≤ 9223372036854775807) :
    Calls Try.prog 10 #[.slice A0 xs0.length c0] w fun e w' => e = .returned (.bool true) ∧ Below w.heap.size w w' := by
  go_enter Try.func10, Try.ntmps10
  have HB0 : Below w.heap.size w w := Below.refl _ _
  go_wp2_with fail
  refine (szIntSS_c _ _ _ _ ha0 hn0 hr0).mono ?_
  rintro e w' ⟨r, rfl, hr | ⟨hr, sz0⟩, rfl⟩
  · go_wp2
    go_ret
    exact ⟨rfl, HB0⟩
  have hl0 := sz0.1
  go_wp2_with fail
  refine (toIntSS_c _ _ _ _ (ha0.below HB0 (Nat.le_refl _)) sz0).mono ?_
  rintro e w1 ⟨Gs0, rfl, os0, b1⟩
  have gl_s0 := Nat.le_succ_of_le HB0.size
  have hg_s0 := fun k hk => ((os0.row k hk).lt _ rfl).2
  have HB2 := bUp HB0 b1 HB0.size
  have hi_s0 := Nat.le_refl w1.heap.size
  go_wp2_with fail
  refine (specHt_c _ _ _ _ os0.rd sz0).mono ?_
  rintro e w3 ⟨rfl, b3⟩
  have HB4 := bUp HB2 b3 HB2.size
  have os0_4 := os0.below b3
  clear os0
  clear os0_4
  go_wp2_with fail
  refine (toIntSS_c _ _ _ _ (ha0.below HB4 (Nat.le_refl _)) sz0).mono ?_
  rintro e w5 ⟨Gx0, rfl, ox0, b5⟩
  have gl_x0 := Nat.le_succ_of_le HB4.size
  have hg_x0 := fun k hk => ((ox0.row k hk).lt _ rfl).2
  have HB6 := bUp HB4 b5 HB4.size
  have hi_x0 := Nat.le_refl w5.heap.size
  go_wp2_with fail
  refine (implHt_c _ _ _ _ ox0.rd sz0).mono ?_
  rintro e w7 ⟨rfl, b7⟩
  have HB8 := bUp HB6 b7 HB6.size
  have ox0_8 := ox0.below b7
  clear ox0
  go_wp2_with fail
  refine (toIntSS_c _ _ _ _ (ha0.below HB8 (Nat.le_refl _)) sz0).mono ?_
  rintro e w9 ⟨Gy0, rfl, oy0, b9⟩
  have gl_y0 := Nat.le_succ_of_le HB8.size
  have hg_y0 := fun k hk => ((oy0.row k hk).lt _ rfl).2
  have HB10 := bUp HB8 b9 HB8.size
  have ox0_10 := ox0_8.below b9
  clear ox0_8
  have hi_y0 := Nat.le_refl w9.heap.size
  go_wp2_with fail
  refine (eqIntSS_same _ _ _ _ _ _ ox0_10.rd oy0.rd sz0).mono ?_
  rintro e w11 ⟨rfl, n11, rfl⟩
  have HB12 := bDrewN HB10 n11
  have ox0_12 := ox0_10.drewN n11
  clear ox0_10
  have oy0_12 := oy0.drewN n11
  clear oy0
  clear oy0_12
  go_wp2
  go_ret
  exact ⟨rfl, by first | exact HB12 | (simpa using HB12)⟩
end Go.Proofs.Ytjnllbmknblecaa
