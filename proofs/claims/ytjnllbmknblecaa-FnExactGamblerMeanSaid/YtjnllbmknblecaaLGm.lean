/- The law FnExactGamblerMean: walked call by call. (Written by gen_law.py.) -/
import Derived.Test.YtjnllbmknblecaaGaT
namespace Go.Proofs.Ytjnllbmknblecaa
open Go.RowKit
set_option maxHeartbeats 1000000 in
theorem lawGm (A0 : Option Addr) (xs0 : List (List Int)) (c0 : Nat) (w : World) (ha0 : RdSS w A0 xs0) (hn0 : xs0.length ≤ 9223372036854775807) (hr0 : ∀ k, k < xs0.length → (rowAt xs0 k).length ≤ 9223372036854775807) :
    Calls Try.prog 9 #[.slice A0 xs0.length c0] w fun e w' => e = .returned (.bool true) ∧ Below w.heap.size w w' := by
  go_enter Try.func9, Try.ntmps9
  have HB0 : Below w.heap.size w w := Below.refl _ _
  go_wp2_with fail
  refine (szIntSS_c _ _ _ _ ha0 hn0 hr0).mono ?_
  rintro e w' ⟨r, rfl, hr | ⟨hr, sz0⟩, rfl⟩
  · go_wp2
    go_ret
    exact ⟨rfl, HB0⟩
  have hl0 := sz0.1
  go_wp2_with fail
  refine (toIntSS_c _ _ _ _ (ha0.below HB0 (Nat.le_refl _)) sz0).mono ?_
  rintro e w1 ⟨Gs0, rfl, os0, b1⟩
  have gl_s0 := Nat.le_succ_of_le HB0.size
  have hg_s0 := fun k hk => ((os0.row k hk).lt _ rfl).2
  have HB2 := bUp HB0 b1 HB0.size
  have hi_s0 := Nat.le_refl w1.heap.size
  go_wp2_with fail
  refine (specGm_c _ _ _ _ os0.rd sz0).mono ?_
  rintro e w3 ⟨rfl, b3⟩
  have HB4 := bUp HB2 b3 HB2.size
  have os0_4 := os0.below b3
  clear os0
  have HB5 : Below w.heap.size w (w3.alloc (.cells #[.int .i64 (gmT xs0), .int .i64 (gmB xs0)] 26)) := HB4.alloc HB4.size _
  have os0_5 := os0_4.alloc (.cells #[.int .i64 (gmT xs0), .int .i64 (gmB xs0)] 26)
  clear os0_4
  have bx_5 := Bx.new w3 (.int .i64 (gmT xs0)) (.int .i64 (gmB xs0)) 26
  go_wp2_with fail
  generalize w3.alloc (.cells #[.int .i64 (gmT xs0), .int .i64 (gmB xs0)] 26) = v5 at *
  clear os0_5
  go_wp2_with fail
  refine (toIntSS_c _ _ _ _ (ha0.below HB5 (Nat.le_refl _)) sz0).mono ?_
  rintro e w6 ⟨Gx0, rfl, ox0, b6⟩
  have gl_x0 := Nat.le_succ_of_le HB5.size
  have hg_x0 := fun k hk => ((ox0.row k hk).lt _ rfl).2
  have HB7 := bUp HB5 b6 HB5.size
  have bx_7 := bx_5.below b6
  clear bx_5
  have hi_x0 := Nat.le_refl w6.heap.size
  go_wp2_with fail
  refine (implGm_c _ _ _ _ ox0.rd sz0).mono ?_
  rintro e w8 ⟨rfl, b8⟩
  have HB9 := bUp HB7 b8 HB7.size
  have ox0_9 := ox0.below b8
  clear ox0
  have bx_9 := bx_7.below b8
  clear bx_7
  have HB10 : Below w.heap.size w (w8.alloc (.cells #[.int .i64 (gmT xs0), .int .i64 (gmB xs0)] 26)) := HB9.alloc HB9.size _
  have ox0_10 := ox0_9.alloc (.cells #[.int .i64 (gmT xs0), .int .i64 (gmB xs0)] 26)
  clear ox0_9
  obtain ⟨f0, f1, z0, z1, hz⟩ := bx_9
  go_wp2_with fail
  generalize w8.alloc (.cells #[.int .i64 (gmT xs0), .int .i64 (gmB xs0)] 26) = v10 at *
  go_wp2_with fail
  refine (eqIntA2_same _ _ _).mono ?_
  rintro e w11 ⟨rfl, b11⟩
  clear f0 f1 z0 z1 hz
  have HB12 := bUp HB10 b11 HB10.size
  have ox0_12 := ox0_10.below b11
  clear ox0_10
  go_wp2_with fail
  refine (toIntSS_c _ _ _ _ (ha0.below HB12 (Nat.le_refl _)) sz0).mono ?_
  rintro e w13 ⟨Gy0, rfl, oy0, b13⟩
  have gl_y0 := Nat.le_succ_of_le HB12.size
  have hg_y0 := fun k hk => ((oy0.row k hk).lt _ rfl).2
  have HB14 := bUp HB12 b13 HB12.size
  have ox0_14 := ox0_12.below b13
  clear ox0_12
  have hi_y0 := Nat.le_refl w13.heap.size
  go_wp2_with fail
  refine (eqIntSS_same _ _ _ _ _ _ ox0_14.rd oy0.rd sz0).mono ?_
  rintro e w15 ⟨rfl, n15, rfl⟩
  have HB16 := bDrewN HB14 n15
  have ox0_16 := ox0_14.drewN n15
  clear ox0_14
  have oy0_16 := oy0.drewN n15
  clear oy0
  clear oy0_16
  go_wp2
  go_ret
  exact ⟨rfl, by first | exact HB16 | (simpa using HB16)⟩
end Go.Proofs.Ytjnllbmknblecaa
