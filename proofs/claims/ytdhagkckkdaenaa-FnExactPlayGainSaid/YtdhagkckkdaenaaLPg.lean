/- The law FnExactPlayGain: walked call by call. (Written by gen_lawm.py.) -/
import Derived.Test.YtdhagkckkdaenaaPgS
import Derived.Test.YtdhagkckkdaenaaMk2
import Derived.Test.YtdhagkckkdaenaaBut
namespace Go.Proofs.Ytdhagkckkdaenaa
open Go.RowKit
set_option maxRecDepth 20000 in
set_option maxHeartbeats 2000000 in
theorem lawPg (A1 : Option Addr) (P : List Int) (c1 : Nat) (A2 : Option Addr) (W : List Int) (c2 : Nat) (A3 : Option Addr) (F : List Int) (c3 : Nat) (a1 : Int) (a2 : Int) (A3x : Option Addr) (xs3 : List Int) (c3x : Nat) (w : World) (r1 : Rd w A1 (ints P)) (r2 : Rd w A2 (ints W)) (r3 : Rd w A3 (ints F)) (hn1 : P.length ≤ 9223372036854775807) (hn2 : W.length ≤ 9223372036854775807) (hn3 : F.length ≤ 9223372036854775807) (ha3 : Rd w A3x (ints xs3)) :
    Calls Try.prog 3 #[mkV A1 P.length c1 A2 W.length c2 A3 F.length c3, .int .i64 a1, .int .i64 a2, .slice A3x xs3.length c3x] w fun e w' => e = .returned (.bool true) ∧ Below w.heap.size w w' := by
  have HB0 : Below w.heap.size w (w.alloc (.cells #[.slice A1 P.length c1, .slice A2 W.length c2, .slice A3 F.length c3] 26)) := (Below.refl _ _).alloc (Nat.le_refl _) _
  have bxa := Bx3.new w (.slice A1 P.length c1) (.slice A2 W.length c2) (.slice A3 F.length c3) 26
  by_cases hl3 : 1048576 < xs3.length
  · go_enter Try.func3, Try.ntmps3
    go_wp2
    go_ret
    exact ⟨rfl, HB0⟩
  go_enter Try.func3, Try.ntmps3
  go_wp2_with fail
  generalize w.alloc (.cells #[.slice A1 P.length c1, .slice A2 W.length c2, .slice A3 F.length c3] 26) = w0 at *
  refine (szArm_c A1 P.length c1 A2 W.length c2 A3 F.length c3 1048576 w0 (by decide) (by decide) hn1 hn2 hn3).mono ?_
  rintro e w1 ⟨⟨r, rfl, hr⟩, b1⟩
  have HB2 := bUp HB0 b1 HB0.size
  have bxa_2 := bxa.below b1
  clear bxa
  rcases hr with hr | ⟨hr, he⟩
  · go_wp2
    go_ret
    exact ⟨rfl, HB2⟩
  have L1 : P.length ≤ 1048576 := by omega
  have L2 : W.length ≤ 1048576 := by omega
  have L3 : F.length ≤ 1048576 := by omega
  clear he
  obtain ⟨a0, a1, a2, az⟩ := id bxa_2
  go_wp2_with fail
  refine (toArm_c A1 P c1 A2 W c2 A3 F c3 _ (r1.below HB2 (Nat.le_refl _)) (r2.below HB2 (Nat.le_refl _)) (r3.below HB2 (Nat.le_refl _)) (by omega) (by omega) (by omega)).mono ?_
  rintro e w3 ⟨gs01, gs02, gs03, rfl, os0, b3⟩
  clear a0 a1 a2 az
  have gl_s0 := HB2.size
  have lo_s0 := os0.lo
  have hg_s0 := os0.hi
  have la_s0 := bxa_2.2.2.2
  have HB4 := bUp HB2 b3 HB2.size
  have bxa_4 := bxa_2.below b3
  clear bxa_2
  have hi_s0 := Nat.le_refl w3.heap.size
  obtain ⟨a0, a1, a2, az⟩ := id bxa_4
  go_wp2_with fail
  refine (toIntS_c _ _ _ _ (ha3.below HB4 (Nat.le_refl _)) (by omega)).mono ?_
  rintro e w5 ⟨rfl, os3, b5⟩
  clear a0 a1 a2 az
  have hi_s3_s0 := hi_s0
  have ge_s3 := fun k hk => Nat.le_trans HB4.size (os3.ge k hk)
  have ne_s3 := row_ne os3 bxa_4.2.2.2
  have HB6 := bUp HB4 b5 HB4.size
  have os0_6 := os0.below b5
  clear os0
  have hi_s0 := Nat.le_trans hi_s0 b5.size
  have bxa_6 := bxa_4.below b5
  clear bxa_4
  obtain ⟨a0, a1, a2, az⟩ := id bxa_6
  go_wp2_with fail
  refine (specPg_c _ _ _ _ _ _ _ _ _ _ _ _ _ _ _ ⟨os0_6.o1.rd, os0_6.o2.rd, os0_6.o3.rd, (by omega), (by omega), (by omega)⟩ os3.rd (by omega)).mono ?_
  rintro e w7 ⟨rfl, b7⟩
  clear a0 a1 a2 az
  have HB8 := bUp HB6 b7 HB6.size
  have os0_8 := os0_6.below b7
  clear os0_6
  have hi_s0 := Nat.le_trans hi_s0 b7.size
  have os3_8 := os3.below b7
  clear os3
  have bxa_8 := bxa_6.below b7
  clear bxa_6
  have pbW0_9 := Bx.new w7 (.int .i64 (pgF P W F a1 a2 xs3).1) (.int .i64 (pgF P W F a1 a2 xs3).2) 28
  have HB10 := HB8.alloc HB8.size (.cells #[.int .i64 (pgF P W F a1 a2 xs3).1, .int .i64 (pgF P W F a1 a2 xs3).2] 28)
  have os0_10 := os0_8.alloc (.cells #[.int .i64 (pgF P W F a1 a2 xs3).1, .int .i64 (pgF P W F a1 a2 xs3).2] 28)
  clear os0_8
  replace hi_s0 : _ ≤ (w7.alloc (.cells #[.int .i64 (pgF P W F a1 a2 xs3).1, .int .i64 (pgF P W F a1 a2 xs3).2] 28)).heap.size := Nat.le_trans hi_s0 (by simp)
  have os3_10 := os3_8.alloc (.cells #[.int .i64 (pgF P W F a1 a2 xs3).1, .int .i64 (pgF P W F a1 a2 xs3).2] 28)
  clear os3_8
  have bxa_10 := bxa_8.alloc (.cells #[.int .i64 (pgF P W F a1 a2 xs3).1, .int .i64 (pgF P W F a1 a2 xs3).2] 28)
  clear bxa_8
  have pbW0_11 := pbW0_9.alloc (.cells #[.int .i64 (pgG P W F a1 a2 xs3).1, .int .i64 (pgG P W F a1 a2 xs3).2] 28)
  clear pbW0_9
  have pbW1_12 := Bx.new (w7.alloc (.cells #[.int .i64 (pgF P W F a1 a2 xs3).1, .int .i64 (pgF P W F a1 a2 xs3).2] 28)) (.int .i64 (pgG P W F a1 a2 xs3).1) (.int .i64 (pgG P W F a1 a2 xs3).2) 28
  simp only [World.size_alloc] at pbW1_12
  have HB13 := HB10.alloc HB10.size (.cells #[.int .i64 (pgG P W F a1 a2 xs3).1, .int .i64 (pgG P W F a1 a2 xs3).2] 28)
  have os0_13 := os0_10.alloc (.cells #[.int .i64 (pgG P W F a1 a2 xs3).1, .int .i64 (pgG P W F a1 a2 xs3).2] 28)
  clear os0_10
  replace hi_s0 : _ ≤ ((w7.alloc (.cells #[.int .i64 (pgF P W F a1 a2 xs3).1, .int .i64 (pgF P W F a1 a2 xs3).2] 28)).alloc (.cells #[.int .i64 (pgG P W F a1 a2 xs3).1, .int .i64 (pgG P W F a1 a2 xs3).2] 28)).heap.size := Nat.le_trans hi_s0 (by simp)
  have os3_13 := os3_10.alloc (.cells #[.int .i64 (pgG P W F a1 a2 xs3).1, .int .i64 (pgG P W F a1 a2 xs3).2] 28)
  clear os3_10
  have bxa_13 := bxa_10.alloc (.cells #[.int .i64 (pgG P W F a1 a2 xs3).1, .int .i64 (pgG P W F a1 a2 xs3).2] 28)
  clear bxa_10
  clear os0_13
  clear os3_13
  obtain ⟨a0, a1, a2, az⟩ := id bxa_13
  go_wp2_with fail
  clear a0 a1 a2 az
  generalize ((w7.alloc (.cells #[.int .i64 (pgF P W F a1 a2 xs3).1, .int .i64 (pgF P W F a1 a2 xs3).2] 28)).alloc (.cells #[.int .i64 (pgG P W F a1 a2 xs3).1, .int .i64 (pgG P W F a1 a2 xs3).2] 28)) = vpW at *
  generalize w7.heap.size = gpW at *
  refine (toArm_c A1 P c1 A2 W c2 A3 F c3 _ (r1.below HB13 (Nat.le_refl _)) (r2.below HB13 (Nat.le_refl _)) (r3.below HB13 (Nat.le_refl _)) (by omega) (by omega) (by omega)).mono ?_
  rintro e w14 ⟨gx01, gx02, gx03, rfl, ox0, b14⟩
  have gl_x0 := HB13.size
  have lo_x0 := ox0.lo
  have hg_x0 := ox0.hi
  have la_x0 := bxa_13.2.2.2
  have HB15 := bUp HB13 b14 HB13.size
  have bxa_15 := bxa_13.below b14
  clear bxa_13
  have pbW0_16 := pbW0_11.below b14
  clear pbW0_11
  have pbW1_17 := pbW1_12.below b14
  clear pbW1_12
  have hi_x0 := Nat.le_refl w14.heap.size
  obtain ⟨a0, a1, a2, az⟩ := id bxa_15
  go_wp2_with fail
  clear a0 a1 a2 az
  have HB18 : Below w.heap.size w (w14.alloc (.cells #[.slice (some ⟨gx01, 0, none⟩) P.length P.length, .slice (some ⟨gx02, 0, none⟩) W.length W.length, .slice (some ⟨gx03, 0, none⟩) F.length F.length] 33)) := HB15.alloc HB15.size _
  have pbW0_19 := pbW0_16.alloc (.cells #[.slice (some ⟨gx01, 0, none⟩) P.length P.length, .slice (some ⟨gx02, 0, none⟩) W.length W.length, .slice (some ⟨gx03, 0, none⟩) F.length F.length] 33)
  clear pbW0_16
  have pbW1_20 := pbW1_17.alloc (.cells #[.slice (some ⟨gx01, 0, none⟩) P.length P.length, .slice (some ⟨gx02, 0, none⟩) W.length W.length, .slice (some ⟨gx03, 0, none⟩) F.length F.length] 33)
  clear pbW1_17
  have ox0_18 := ox0.alloc (.cells #[.slice (some ⟨gx01, 0, none⟩) P.length P.length, .slice (some ⟨gx02, 0, none⟩) W.length W.length, .slice (some ⟨gx03, 0, none⟩) F.length F.length] 33)
  clear ox0
  have hi_x0 : _ ≤ (w14.alloc (.cells #[.slice (some ⟨gx01, 0, none⟩) P.length P.length, .slice (some ⟨gx02, 0, none⟩) W.length W.length, .slice (some ⟨gx03, 0, none⟩) F.length F.length] 33)).heap.size := Nat.le_trans hi_x0 (by simp)
  have bxa_18 := bxa_15.alloc (.cells #[.slice (some ⟨gx01, 0, none⟩) P.length P.length, .slice (some ⟨gx02, 0, none⟩) W.length W.length, .slice (some ⟨gx03, 0, none⟩) F.length F.length] 33)
  clear bxa_15
  have bxx := Bx3.new w14 (.slice (some ⟨gx01, 0, none⟩) P.length P.length) (.slice (some ⟨gx02, 0, none⟩) W.length W.length) (.slice (some ⟨gx03, 0, none⟩) F.length F.length) 33
  generalize w14.alloc (.cells #[.slice (some ⟨gx01, 0, none⟩) P.length P.length, .slice (some ⟨gx02, 0, none⟩) W.length W.length, .slice (some ⟨gx03, 0, none⟩) F.length F.length] 33) = v18 at *
  generalize w14.heap.size = gx at *
  obtain ⟨a0, a1, a2, az⟩ := id bxa_18
  obtain ⟨x0, x1, x2, xz⟩ := id bxx
  go_wp2_with fail
  refine (toIntS_c _ _ _ _ (ha3.below HB18 (Nat.le_refl _)) (by omega)).mono ?_
  rintro e w21 ⟨rfl, ox3, b21⟩
  clear a0 a1 a2 az
  clear x0 x1 x2 xz
  have hi_x3_x0 := hi_x0
  have ge_x3 := fun k hk => Nat.le_trans HB18.size (ox3.ge k hk)
  have ne_x3 := row_ne ox3 bxa_18.2.2.2
  have HB22 := bUp HB18 b21 HB18.size
  have ox0_22 := ox0_18.below b21
  clear ox0_18
  have hi_x0 := Nat.le_trans hi_x0 b21.size
  have bxa_22 := bxa_18.below b21
  clear bxa_18
  have bxx_22 := bxx.below b21
  clear bxx
  have pbW0_23 := pbW0_19.below b21
  clear pbW0_19
  have pbW1_24 := pbW1_20.below b21
  clear pbW1_20
  obtain ⟨a0, a1, a2, az⟩ := id bxa_22
  obtain ⟨x0, x1, x2, xz⟩ := id bxx_22
  go_wp2_with fail
  refine (implPg_c _ _ _ _ _ _ _ _ _ _ _ _ _ _ _ ⟨ox0_22.o1.rd, ox0_22.o2.rd, ox0_22.o3.rd, (by omega), (by omega), (by omega)⟩ ox3.rd (by omega)).mono ?_
  rintro e w25 ⟨rfl, b25⟩
  clear a0 a1 a2 az
  clear x0 x1 x2 xz
  have HB26 := bUp HB22 b25 HB22.size
  have ox0_26 := ox0_22.below b25
  clear ox0_22
  have hi_x0 := Nat.le_trans hi_x0 b25.size
  have ox3_26 := ox3.below b25
  clear ox3
  have bxa_26 := bxa_22.below b25
  clear bxa_22
  have bxx_26 := bxx_22.below b25
  clear bxx_22
  have pbW0_27 := pbW0_23.below b25
  clear pbW0_23
  have pbW1_28 := pbW1_24.below b25
  clear pbW1_24
  have pbW0_29 := pbW0_27.alloc (.cells #[.int .i64 (pgF P W F a1 a2 xs3).1, .int .i64 (pgF P W F a1 a2 xs3).2] 28)
  clear pbW0_27
  have pbW1_30 := pbW1_28.alloc (.cells #[.int .i64 (pgF P W F a1 a2 xs3).1, .int .i64 (pgF P W F a1 a2 xs3).2] 28)
  clear pbW1_28
  have pbG0_31 := Bx.new w25 (.int .i64 (pgF P W F a1 a2 xs3).1) (.int .i64 (pgF P W F a1 a2 xs3).2) 28
  have HB32 := HB26.alloc HB26.size (.cells #[.int .i64 (pgF P W F a1 a2 xs3).1, .int .i64 (pgF P W F a1 a2 xs3).2] 28)
  have ox0_32 := ox0_26.alloc (.cells #[.int .i64 (pgF P W F a1 a2 xs3).1, .int .i64 (pgF P W F a1 a2 xs3).2] 28)
  clear ox0_26
  replace hi_x0 : _ ≤ (w25.alloc (.cells #[.int .i64 (pgF P W F a1 a2 xs3).1, .int .i64 (pgF P W F a1 a2 xs3).2] 28)).heap.size := Nat.le_trans hi_x0 (by simp)
  have ox3_32 := ox3_26.alloc (.cells #[.int .i64 (pgF P W F a1 a2 xs3).1, .int .i64 (pgF P W F a1 a2 xs3).2] 28)
  clear ox3_26
  have bxa_32 := bxa_26.alloc (.cells #[.int .i64 (pgF P W F a1 a2 xs3).1, .int .i64 (pgF P W F a1 a2 xs3).2] 28)
  clear bxa_26
  have bxx_32 := bxx_26.alloc (.cells #[.int .i64 (pgF P W F a1 a2 xs3).1, .int .i64 (pgF P W F a1 a2 xs3).2] 28)
  clear bxx_26
  have pbW0_33 := pbW0_29.alloc (.cells #[.int .i64 (pgG P W F a1 a2 xs3).1, .int .i64 (pgG P W F a1 a2 xs3).2] 28)
  clear pbW0_29
  have pbW1_34 := pbW1_30.alloc (.cells #[.int .i64 (pgG P W F a1 a2 xs3).1, .int .i64 (pgG P W F a1 a2 xs3).2] 28)
  clear pbW1_30
  have pbG0_35 := pbG0_31.alloc (.cells #[.int .i64 (pgG P W F a1 a2 xs3).1, .int .i64 (pgG P W F a1 a2 xs3).2] 28)
  clear pbG0_31
  have pbG1_36 := Bx.new (w25.alloc (.cells #[.int .i64 (pgF P W F a1 a2 xs3).1, .int .i64 (pgF P W F a1 a2 xs3).2] 28)) (.int .i64 (pgG P W F a1 a2 xs3).1) (.int .i64 (pgG P W F a1 a2 xs3).2) 28
  simp only [World.size_alloc] at pbG1_36
  have HB37 := HB32.alloc HB32.size (.cells #[.int .i64 (pgG P W F a1 a2 xs3).1, .int .i64 (pgG P W F a1 a2 xs3).2] 28)
  have ox0_37 := ox0_32.alloc (.cells #[.int .i64 (pgG P W F a1 a2 xs3).1, .int .i64 (pgG P W F a1 a2 xs3).2] 28)
  clear ox0_32
  replace hi_x0 : _ ≤ ((w25.alloc (.cells #[.int .i64 (pgF P W F a1 a2 xs3).1, .int .i64 (pgF P W F a1 a2 xs3).2] 28)).alloc (.cells #[.int .i64 (pgG P W F a1 a2 xs3).1, .int .i64 (pgG P W F a1 a2 xs3).2] 28)).heap.size := Nat.le_trans hi_x0 (by simp)
  have ox3_37 := ox3_32.alloc (.cells #[.int .i64 (pgG P W F a1 a2 xs3).1, .int .i64 (pgG P W F a1 a2 xs3).2] 28)
  clear ox3_32
  have bxa_37 := bxa_32.alloc (.cells #[.int .i64 (pgG P W F a1 a2 xs3).1, .int .i64 (pgG P W F a1 a2 xs3).2] 28)
  clear bxa_32
  have bxx_37 := bxx_32.alloc (.cells #[.int .i64 (pgG P W F a1 a2 xs3).1, .int .i64 (pgG P W F a1 a2 xs3).2] 28)
  clear bxx_32
  obtain ⟨a0, a1, a2, az⟩ := id bxa_37
  obtain ⟨x0, x1, x2, xz⟩ := id bxx_37
  obtain ⟨wp0, wp1, _, _, _⟩ := id pbW0_33
  obtain ⟨gp0, gp1, _, _, _⟩ := id pbG0_35
  go_wp2_with fail
  clear a0 a1 a2 az
  clear x0 x1 x2 xz
  clear wp0 wp1 gp0 gp1
  generalize ((w25.alloc (.cells #[.int .i64 (pgF P W F a1 a2 xs3).1, .int .i64 (pgF P W F a1 a2 xs3).2] 28)).alloc (.cells #[.int .i64 (pgG P W F a1 a2 xs3).1, .int .i64 (pgG P W F a1 a2 xs3).2] 28)) = vpG at *
  generalize w25.heap.size = gpG at *
  refine (eqIntA2_same _ _ _).mono ?_
  rintro e w38 ⟨rfl, b38⟩
  have HB39 := bUp HB37 b38 HB37.size
  have ox0_39 := ox0_37.below b38
  clear ox0_37
  have hi_x0 := Nat.le_trans hi_x0 b38.size
  have ox3_39 := ox3_37.below b38
  clear ox3_37
  have bxa_39 := bxa_37.below b38
  clear bxa_37
  have bxx_39 := bxx_37.below b38
  clear bxx_37
  have pbW0_40 := pbW0_33.below b38
  clear pbW0_33
  have pbW1_41 := pbW1_34.below b38
  clear pbW1_34
  have pbG0_42 := pbG0_35.below b38
  clear pbG0_35
  have pbG1_43 := pbG1_36.below b38
  clear pbG1_36
  obtain ⟨a0, a1, a2, az⟩ := id bxa_39
  obtain ⟨x0, x1, x2, xz⟩ := id bxx_39
  obtain ⟨wp0, wp1, _, _, _⟩ := id pbW1_41
  obtain ⟨gp0, gp1, _, _, _⟩ := id pbG1_43
  go_wp2_with fail
  clear a0 a1 a2 az
  clear x0 x1 x2 xz
  clear wp0 wp1 gp0 gp1
  refine (eqIntA2_same _ _ _).mono ?_
  rintro e w44 ⟨rfl, b44⟩
  have HB45 := bUp HB39 b44 HB39.size
  have ox0_45 := ox0_39.below b44
  clear ox0_39
  have hi_x0 := Nat.le_trans hi_x0 b44.size
  have ox3_45 := ox3_39.below b44
  clear ox3_39
  have bxa_45 := bxa_39.below b44
  clear bxa_39
  have bxx_45 := bxx_39.below b44
  clear bxx_39
  have pbW0_46 := pbW0_40.below b44
  clear pbW0_40
  have pbW1_47 := pbW1_41.below b44
  clear pbW1_41
  have pbG0_48 := pbG0_42.below b44
  clear pbG0_42
  have pbG1_49 := pbG1_43.below b44
  clear pbG1_43
  clear pbW0_46
  clear pbW1_47
  clear pbG0_48
  clear pbG1_49
  obtain ⟨a0, a1, a2, az⟩ := id bxa_45
  obtain ⟨x0, x1, x2, xz⟩ := id bxx_45
  have SK : Hid (∀ w', Below w44.heap.size w44 w' → w'.cell? ⟨gx, 0, none⟩ = some (.slice (some ⟨gx01, 0, none⟩) P.length P.length) ∧ w'.cell? ⟨gx, 1, none⟩ = some (.slice (some ⟨gx02, 0, none⟩) W.length W.length) ∧ w'.cell? ⟨gx, 2, none⟩ = some (.slice (some ⟨gx03, 0, none⟩) F.length F.length) ∧ w'.cell? ⟨w.heap.size, 0, none⟩ = some (.slice A1 P.length c1) ∧ w'.cell? ⟨w.heap.size, 1, none⟩ = some (.slice A2 W.length c2) ∧ w'.cell? ⟨w.heap.size, 2, none⟩ = some (.slice A3 F.length c3)) :=
    Lib.hid fun w' HV => ⟨(HV.cell (p := ⟨gx, 0, none⟩) xz).trans x0, (HV.cell (p := ⟨gx, 1, none⟩) xz).trans x1, (HV.cell (p := ⟨gx, 2, none⟩) xz).trans x2, (HV.cell (p := ⟨w.heap.size, 0, none⟩) az).trans a0, (HV.cell (p := ⟨w.heap.size, 1, none⟩) az).trans a1, (HV.cell (p := ⟨w.heap.size, 2, none⟩) az).trans a2⟩
  go_upto_region 13 with fail
  clear a0 a1 a2 az
  clear x0 x1 x2 xz
  refine tamed_region (S := fun w' => w'.cell? ⟨gx, 0, none⟩ = some (.slice (some ⟨gx01, 0, none⟩) P.length P.length) ∧ w'.cell? ⟨gx, 1, none⟩ = some (.slice (some ⟨gx02, 0, none⟩) W.length W.length) ∧ w'.cell? ⟨gx, 2, none⟩ = some (.slice (some ⟨gx03, 0, none⟩) F.length F.length) ∧ w'.cell? ⟨w.heap.size, 0, none⟩ = some (.slice A1 P.length c1) ∧ w'.cell? ⟨w.heap.size, 1, none⟩ = some (.slice A2 W.length c2) ∧ w'.cell? ⟨w.heap.size, 2, none⟩ = some (.slice A3 F.length c3)) (fun _ => false) (by kernel_rfl) ?_
  have hS0 := SK.out w44.drew (Below.drew (Below.refl _ _))
  refine tame (k := 0) ?_ rfl (by kernel_rfl) (by kernel_rfl) (by kernel_rfl) (by kernel_rfl) (fun _ _ _ h => h) (by rfl) hS0 (fun v hv => ?_) ?_
  rotate_left
  · (obtain ⟨g0, g1, g2, g3, g4, g5⟩ := hv; go_simp; all_goals rfl)
  simp only [Act.put, List.setIfInBounds_toArray]
  refine tame (k := 1) ?_ rfl (by kernel_rfl) (by kernel_rfl) (by kernel_rfl) (by kernel_rfl) (fun _ _ _ h => h) (by rfl) hS0 (fun v hv => ?_) ?_
  rotate_left
  · (obtain ⟨g0, g1, g2, g3, g4, g5⟩ := hv; go_simp; all_goals rfl)
  simp only [Act.put]
  clear hS0
  refine tame_one (k := 2) (by kernel_rfl) rfl (by rfl) ?_
  go_simp
  refine (toArm_c A1 P c1 A2 W c2 A3 F c3 _ (r1.below HB45 (Nat.le_refl _)).drew (r2.below HB45 (Nat.le_refl _)).drew (r3.below HB45 (Nat.le_refl _)).drew (by omega) (by omega) (by omega)).mono ?_
  rintro e w50 ⟨h1, h2, h3, rfl, oy, b50⟩
  have hv50 := bUp (Below.drew (Below.refl w44.heap.size w44)) b50 (Nat.le_refl _)
  have oxy := ox0_45.below hv50
  refine ⟨SK.out _ hv50, ?_⟩
  refine tame_one (k := 3) (by kernel_rfl) rfl (by rfl) ?_
  go_simp
  refine (eqArm_same (some ⟨gx01, 0, none⟩) P _ (some ⟨gx02, 0, none⟩) W _ (some ⟨gx03, 0, none⟩) F _ (some ⟨h1, 0, none⟩) _ (some ⟨h2, 0, none⟩) _ (some ⟨h3, 0, none⟩) _ _ oxy.o1.rd oxy.o2.rd oxy.o3.rd oy.o1.rd oy.o2.rd oy.o3.rd (by omega) (by omega) (by omega)).mono ?_
  rintro e w51 ⟨rfl, b51⟩
  have hv51 := bUp hv50 b51 hv50.size
  clear oxy oy b50 b51 hv50
  refine ⟨SK.out _ hv51, ?_⟩
  refine tame_one (k := 4) (by kernel_rfl) rfl (by rfl) ?_
  go_simp
  refine ⟨SK.out _ hv51, ?_⟩
  refine tame_end (by kernel_rfl) ?_
  clear SK
  have HB52 := bUp HB45 hv51 HB45.size
  have ox0_52 := ox0_45.below hv51
  clear ox0_45
  have hi_x0 := Nat.le_trans hi_x0 hv51.size
  have ox3_52 := ox3_45.below hv51
  clear ox3_45
  have bxa_52 := bxa_45.below hv51
  clear bxa_45
  have bxx_52 := bxx_45.below hv51
  clear bxx_45
  obtain ⟨a0, a1, a2, az⟩ := id bxa_52
  obtain ⟨x0, x1, x2, xz⟩ := id bxx_52
  go_wp2_with fail
  refine (toIntS_c _ _ _ _ (ha3.below HB52 (Nat.le_refl _)) (by omega)).mono ?_
  rintro e w53 ⟨rfl, oy3, b53⟩
  clear a0 a1 a2 az
  clear x0 x1 x2 xz
  have hi_y3_x0 := hi_x0
  have ap_x3_y3 := ox3_52.apart oy3 (Nat.le_refl _)
  have ap_y3_x3 := ox3_52.apartR oy3 (Nat.le_refl _)
  have ge_y3 := fun k hk => Nat.le_trans HB52.size (oy3.ge k hk)
  have ne_y3 := row_ne oy3 bxa_52.2.2.2
  have HB54 := bUp HB52 b53 HB52.size
  have ox0_54 := ox0_52.below b53
  clear ox0_52
  have hi_x0 := Nat.le_trans hi_x0 b53.size
  have ox3_54 := ox3_52.below b53
  clear ox3_52
  have bxa_54 := bxa_52.below b53
  clear bxa_52
  have bxx_54 := bxx_52.below b53
  clear bxx_52
  obtain ⟨a0, a1, a2, az⟩ := id bxa_54
  obtain ⟨x0, x1, x2, xz⟩ := id bxx_54
  go_wp2_with fail
  refine (eqIntS_c _ _ _ _ _ _ _ ox3_54.rd oy3.rd (by omega) (by omega)).mono ?_
  rintro e w55 ⟨rfl, n55, rfl⟩
  clear a0 a1 a2 az
  clear x0 x1 x2 xz
  have HB56 := bDrewN HB54 n55
  have ox0_56 := ox0_54.drewN n55
  clear ox0_54
  have ox3_56 := ox3_54.drewN n55
  clear ox3_54
  have oy3_56 := oy3.drewN n55
  clear oy3
  have bxa_56 := bxa_54.drewN n55
  clear bxa_54
  have bxx_56 := bxx_54.drewN n55
  clear bxx_54
  clear oy3_56
  obtain ⟨a0, a1, a2, az⟩ := id bxa_56
  obtain ⟨x0, x1, x2, xz⟩ := id bxx_56
  go_wp2
  go_ret
  exact ⟨rfl, by first | exact HB56 | (simpa using HB56)⟩
end Go.Proofs.Ytdhagkckkdaenaa
