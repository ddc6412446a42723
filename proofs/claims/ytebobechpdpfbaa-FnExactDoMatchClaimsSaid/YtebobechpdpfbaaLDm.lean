/- The law FnExactDoMatchClaims: walked call by call. (Written by gen_lawm.py.) -/
import Derived.Test.YtebobechpdpfbaaClI
import Derived.Test.YtebobechpdpfbaaMk2
namespace Go.Proofs.Ytebobechpdpfbaa
open Go.RowKit
set_option maxRecDepth 20000 in
set_option maxHeartbeats 2000000 in
theorem lawDm (A1 : Option Addr) (P : List Int) (c1 : Nat) (A2 : Option Addr) (W : List Int) (c2 : Nat) (A3 : Option Addr) (F : List Int) (c3 : Nat) (a1 : Int) (A2x : Option Addr) (xs2 : List Int) (c2x : Nat) (A3x : Option Addr) (xs3 : List Int) (c3x : Nat) (w : World) (r1 : Rd w A1 (ints P)) (r2 : Rd w A2 (ints W)) (r3 : Rd w A3 (ints F)) (hn1 : P.length ≤ 9223372036854775807) (hn2 : W.length ≤ 9223372036854775807) (hn3 : F.length ≤ 9223372036854775807) (ha2 : Rd w A2x (ints xs2)) (ha3 : Rd w A3x (ints xs3)) :
    Calls Try.prog 6 #[mkV A1 P.length c1 A2 W.length c2 A3 F.length c3, .int .i64 a1, .slice A2x xs2.length c2x, .slice A3x xs3.length c3x] w fun e w' => e = .returned (.bool true) ∧ Below w.heap.size w w' := by
  have HB0 : Below w.heap.size w (w.alloc (.cells #[.slice A1 P.length c1, .slice A2 W.length c2, .slice A3 F.length c3] 26)) := (Below.refl _ _).alloc (Nat.le_refl _) _
  have bxa := Bx3.new w (.slice A1 P.length c1) (.slice A2 W.length c2) (.slice A3 F.length c3) 26
  by_cases hl2 : 1048576 < xs2.length
  · go_enter Try.func6, Try.ntmps6
    go_wp2
    go_ret
    exact ⟨rfl, HB0⟩
  by_cases hl3 : 1048576 < xs3.length
  · go_enter Try.func6, Try.ntmps6
    go_wp2
    go_ret
    exact ⟨rfl, HB0⟩
  go_enter Try.func6, Try.ntmps6
  go_wp2_with fail
  generalize w.alloc (.cells #[.slice A1 P.length c1, .slice A2 W.length c2, .slice A3 F.length c3] 26) = w0 at *
  refine (szMarket_c A1 P.length c1 A2 W.length c2 A3 F.length c3 1048576 w0 (by decide) (by decide) hn1 hn2 hn3).mono ?_
  rintro e w1 ⟨⟨r, rfl, hr⟩, b1⟩
  have HB2 := bUp HB0 b1 HB0.size
  have bxa_2 := bxa.below b1
  clear bxa
  rcases hr with hr | ⟨hr, he⟩
  · go_wp2
    go_ret
    exact ⟨rfl, HB2⟩
  have L1 : P.length ≤ 1048576 := by omega
  have L2 : W.length ≤ 1048576 := by omega
  have L3 : F.length ≤ 1048576 := by omega
  clear he
  obtain ⟨a0, a1, a2, az⟩ := id bxa_2
  go_wp2_with fail
  refine (toMarket_c A1 P c1 A2 W c2 A3 F c3 _ (r1.below HB2 (Nat.le_refl _)) (r2.below HB2 (Nat.le_refl _)) (r3.below HB2 (Nat.le_refl _)) (by omega) (by omega) (by omega)).mono ?_
  rintro e w3 ⟨gs01, gs02, gs03, rfl, os0, b3⟩
  clear a0 a1 a2 az
  have gl_s0 := HB2.size
  have lo_s0 := os0.lo
  have hg_s0 := os0.hi
  have la_s0 := bxa_2.2.2.2
  have HB4 := bUp HB2 b3 HB2.size
  have bxa_4 := bxa_2.below b3
  clear bxa_2
  have hi_s0 := Nat.le_refl w3.heap.size
  obtain ⟨a0, a1, a2, az⟩ := id bxa_4
  go_wp2_with fail
  refine (toIntS_c _ _ _ _ (ha2.below HB4 (Nat.le_refl _)) (by omega)).mono ?_
  rintro e w5 ⟨rfl, os2, b5⟩
  clear a0 a1 a2 az
  have hi_s2_s0 := hi_s0
  have ge_s2 := fun k hk => Nat.le_trans HB4.size (os2.ge k hk)
  have ne_s2 := row_ne os2 bxa_4.2.2.2
  have HB6 := bUp HB4 b5 HB4.size
  have os0_6 := os0.below b5
  clear os0
  have hi_s0 := Nat.le_trans hi_s0 b5.size
  have bxa_6 := bxa_4.below b5
  clear bxa_4
  obtain ⟨a0, a1, a2, az⟩ := id bxa_6
  go_wp2_with fail
  refine (toIntS_c _ _ _ _ (ha3.below HB6 (Nat.le_refl _)) (by omega)).mono ?_
  rintro e w7 ⟨rfl, os3, b7⟩
  clear a0 a1 a2 az
  have hi_s3_s0 := hi_s0
  have ap_s2_s3 := os2.apart os3 (Nat.le_refl _)
  have ap_s3_s2 := os2.apartR os3 (Nat.le_refl _)
  have ge_s3 := fun k hk => Nat.le_trans HB6.size (os3.ge k hk)
  have ne_s3 := row_ne os3 bxa_6.2.2.2
  have HB8 := bUp HB6 b7 HB6.size
  have os0_8 := os0_6.below b7
  clear os0_6
  have hi_s0 := Nat.le_trans hi_s0 b7.size
  have os2_8 := os2.below b7
  clear os2
  have bxa_8 := bxa_6.below b7
  clear bxa_6
  obtain ⟨a0, a1, a2, az⟩ := id bxa_8
  go_wp2_with fail
  refine (specDoMatchClaims_c _ _ _ _ _ _ _ _ _ _ _ _ _ _ _ _ _ ⟨os0_8.o1.rd, os0_8.o2.rd, os0_8.o3.rd, (by omega), (by omega), (by omega)⟩ os2_8.rd os3.rd (by omega) (by omega)).mono ?_
  rintro e w9 ⟨rfl, b9⟩
  clear a0 a1 a2 az
  have HB10 := bUp HB8 b9 HB8.size
  have os0_10 := os0_8.below b9
  clear os0_8
  have hi_s0 := Nat.le_trans hi_s0 b9.size
  have os2_10 := os2_8.below b9
  clear os2_8
  have os3_10 := os3.below b9
  clear os3
  have bxa_10 := bxa_8.below b9
  clear bxa_8
  clear os0_10
  clear os2_10
  clear os3_10
  obtain ⟨a0, a1, a2, az⟩ := id bxa_10
  go_wp2_with fail
  refine (toMarket_c A1 P c1 A2 W c2 A3 F c3 _ (r1.below HB10 (Nat.le_refl _)) (r2.below HB10 (Nat.le_refl _)) (r3.below HB10 (Nat.le_refl _)) (by omega) (by omega) (by omega)).mono ?_
  rintro e w11 ⟨gx01, gx02, gx03, rfl, ox0, b11⟩
  clear a0 a1 a2 az
  have gl_x0 := HB10.size
  have lo_x0 := ox0.lo
  have hg_x0 := ox0.hi
  have la_x0 := bxa_10.2.2.2
  have HB12 := bUp HB10 b11 HB10.size
  have bxa_12 := bxa_10.below b11
  clear bxa_10
  have hi_x0 := Nat.le_refl w11.heap.size
  obtain ⟨a0, a1, a2, az⟩ := id bxa_12
  go_wp2_with fail
  clear a0 a1 a2 az
  have HB13 : Below w.heap.size w (w11.alloc (.cells #[.slice (some ⟨gx01, 0, none⟩) P.length P.length, .slice (some ⟨gx02, 0, none⟩) W.length W.length, .slice (some ⟨gx03, 0, none⟩) F.length F.length] 32)) := HB12.alloc HB12.size _
  have ox0_13 := ox0.alloc (.cells #[.slice (some ⟨gx01, 0, none⟩) P.length P.length, .slice (some ⟨gx02, 0, none⟩) W.length W.length, .slice (some ⟨gx03, 0, none⟩) F.length F.length] 32)
  clear ox0
  have hi_x0 : _ ≤ (w11.alloc (.cells #[.slice (some ⟨gx01, 0, none⟩) P.length P.length, .slice (some ⟨gx02, 0, none⟩) W.length W.length, .slice (some ⟨gx03, 0, none⟩) F.length F.length] 32)).heap.size := Nat.le_trans hi_x0 (by simp)
  have bxa_13 := bxa_12.alloc (.cells #[.slice (some ⟨gx01, 0, none⟩) P.length P.length, .slice (some ⟨gx02, 0, none⟩) W.length W.length, .slice (some ⟨gx03, 0, none⟩) F.length F.length] 32)
  clear bxa_12
  have bxx := Bx3.new w11 (.slice (some ⟨gx01, 0, none⟩) P.length P.length) (.slice (some ⟨gx02, 0, none⟩) W.length W.length) (.slice (some ⟨gx03, 0, none⟩) F.length F.length) 32
  generalize w11.alloc (.cells #[.slice (some ⟨gx01, 0, none⟩) P.length P.length, .slice (some ⟨gx02, 0, none⟩) W.length W.length, .slice (some ⟨gx03, 0, none⟩) F.length F.length] 32) = v13 at *
  generalize w11.heap.size = gx at *
  obtain ⟨a0, a1, a2, az⟩ := id bxa_13
  obtain ⟨x0, x1, x2, xz⟩ := id bxx
  go_wp2_with fail
  refine (toIntS_c _ _ _ _ (ha2.below HB13 (Nat.le_refl _)) (by omega)).mono ?_
  rintro e w14 ⟨rfl, ox2, b14⟩
  clear a0 a1 a2 az
  clear x0 x1 x2 xz
  have hi_x2_x0 := hi_x0
  have ge_x2 := fun k hk => Nat.le_trans HB13.size (ox2.ge k hk)
  have ne_x2 := row_ne ox2 bxa_13.2.2.2
  have HB15 := bUp HB13 b14 HB13.size
  have ox0_15 := ox0_13.below b14
  clear ox0_13
  have hi_x0 := Nat.le_trans hi_x0 b14.size
  have bxa_15 := bxa_13.below b14
  clear bxa_13
  have bxx_15 := bxx.below b14
  clear bxx
  obtain ⟨a0, a1, a2, az⟩ := id bxa_15
  obtain ⟨x0, x1, x2, xz⟩ := id bxx_15
  go_wp2_with fail
  refine (toIntS_c _ _ _ _ (ha3.below HB15 (Nat.le_refl _)) (by omega)).mono ?_
  rintro e w16 ⟨rfl, ox3, b16⟩
  clear a0 a1 a2 az
  clear x0 x1 x2 xz
  have hi_x3_x0 := hi_x0
  have ap_x2_x3 := ox2.apart ox3 (Nat.le_refl _)
  have ap_x3_x2 := ox2.apartR ox3 (Nat.le_refl _)
  have ge_x3 := fun k hk => Nat.le_trans HB15.size (ox3.ge k hk)
  have ne_x3 := row_ne ox3 bxa_15.2.2.2
  have HB17 := bUp HB15 b16 HB15.size
  have ox0_17 := ox0_15.below b16
  clear ox0_15
  have hi_x0 := Nat.le_trans hi_x0 b16.size
  have ox2_17 := ox2.below b16
  clear ox2
  have bxa_17 := bxa_15.below b16
  clear bxa_15
  have bxx_17 := bxx_15.below b16
  clear bxx_15
  obtain ⟨a0, a1, a2, az⟩ := id bxa_17
  obtain ⟨x0, x1, x2, xz⟩ := id bxx_17
  go_wp2_with fail
  refine (implDoMatchClaims_c _ _ _ _ _ _ _ _ _ _ _ _ _ _ _ _ _ ⟨ox0_17.o1.rd, ox0_17.o2.rd, ox0_17.o3.rd, (by omega), (by omega), (by omega)⟩ ox2_17.rd ox3.rd (by omega) (by omega)).mono ?_
  rintro e w18 ⟨rfl, b18⟩
  clear a0 a1 a2 az
  clear x0 x1 x2 xz
  have HB19 := bUp HB17 b18 HB17.size
  have ox0_19 := ox0_17.below b18
  clear ox0_17
  have hi_x0 := Nat.le_trans hi_x0 b18.size
  have ox2_19 := ox2_17.below b18
  clear ox2_17
  have ox3_19 := ox3.below b18
  clear ox3
  have bxa_19 := bxa_17.below b18
  clear bxa_17
  have bxx_19 := bxx_17.below b18
  clear bxx_17
  obtain ⟨a0, a1, a2, az⟩ := id bxa_19
  obtain ⟨x0, x1, x2, xz⟩ := id bxx_19
  have SK : Hid (∀ w', Below w18.heap.size w18 w' → w'.cell? ⟨gx, 0, none⟩ = some (.slice (some ⟨gx01, 0, none⟩) P.length P.length) ∧ w'.cell? ⟨gx, 1, none⟩ = some (.slice (some ⟨gx02, 0, none⟩) W.length W.length) ∧ w'.cell? ⟨gx, 2, none⟩ = some (.slice (some ⟨gx03, 0, none⟩) F.length F.length) ∧ w'.cell? ⟨w.heap.size, 0, none⟩ = some (.slice A1 P.length c1) ∧ w'.cell? ⟨w.heap.size, 1, none⟩ = some (.slice A2 W.length c2) ∧ w'.cell? ⟨w.heap.size, 2, none⟩ = some (.slice A3 F.length c3)) :=
    Lib.hid fun w' HV => ⟨(HV.cell (p := ⟨gx, 0, none⟩) xz).trans x0, (HV.cell (p := ⟨gx, 1, none⟩) xz).trans x1, (HV.cell (p := ⟨gx, 2, none⟩) xz).trans x2, (HV.cell (p := ⟨w.heap.size, 0, none⟩) az).trans a0, (HV.cell (p := ⟨w.heap.size, 1, none⟩) az).trans a1, (HV.cell (p := ⟨w.heap.size, 2, none⟩) az).trans a2⟩
  go_upto_region 16 with fail
  clear a0 a1 a2 az
  clear x0 x1 x2 xz
  refine tamed_region (S := fun w' => w'.cell? ⟨gx, 0, none⟩ = some (.slice (some ⟨gx01, 0, none⟩) P.length P.length) ∧ w'.cell? ⟨gx, 1, none⟩ = some (.slice (some ⟨gx02, 0, none⟩) W.length W.length) ∧ w'.cell? ⟨gx, 2, none⟩ = some (.slice (some ⟨gx03, 0, none⟩) F.length F.length) ∧ w'.cell? ⟨w.heap.size, 0, none⟩ = some (.slice A1 P.length c1) ∧ w'.cell? ⟨w.heap.size, 1, none⟩ = some (.slice A2 W.length c2) ∧ w'.cell? ⟨w.heap.size, 2, none⟩ = some (.slice A3 F.length c3)) (fun _ => false) (by kernel_rfl) ?_
  have hS0 := SK.out w18.drew (Below.drew (Below.refl _ _))
  refine tame (k := 0) ?_ rfl (by kernel_rfl) (by kernel_rfl) (by kernel_rfl) (by kernel_rfl) (fun _ _ _ h => h) (by rfl) hS0 (fun v hv => ?_) ?_
  rotate_left
  · (obtain ⟨g0, g1, g2, g3, g4, g5⟩ := hv; go_simp; all_goals rfl)
  simp only [Act.put, List.setIfInBounds_toArray]
  refine tame (k := 1) ?_ rfl (by kernel_rfl) (by kernel_rfl) (by kernel_rfl) (by kernel_rfl) (fun _ _ _ h => h) (by rfl) hS0 (fun v hv => ?_) ?_
  rotate_left
  · (obtain ⟨g0, g1, g2, g3, g4, g5⟩ := hv; go_simp; all_goals rfl)
  simp only [Act.put]
  clear hS0
  refine tame_one (k := 2) (by kernel_rfl) rfl (by rfl) ?_
  go_simp
  refine (toMarket_c A1 P c1 A2 W c2 A3 F c3 _ (r1.below HB19 (Nat.le_refl _)).drew (r2.below HB19 (Nat.le_refl _)).drew (r3.below HB19 (Nat.le_refl _)).drew (by omega) (by omega) (by omega)).mono ?_
  rintro e w20 ⟨h1, h2, h3, rfl, oy, b20⟩
  have hv20 := bUp (Below.drew (Below.refl w18.heap.size w18)) b20 (Nat.le_refl _)
  have oxy := ox0_19.below hv20
  refine ⟨SK.out _ hv20, ?_⟩
  refine tame_one (k := 3) (by kernel_rfl) rfl (by rfl) ?_
  go_simp
  refine (eqMarket_same (some ⟨gx01, 0, none⟩) P _ (some ⟨gx02, 0, none⟩) W _ (some ⟨gx03, 0, none⟩) F _ (some ⟨h1, 0, none⟩) _ (some ⟨h2, 0, none⟩) _ (some ⟨h3, 0, none⟩) _ _ oxy.o1.rd oxy.o2.rd oxy.o3.rd oy.o1.rd oy.o2.rd oy.o3.rd (by omega) (by omega) (by omega)).mono ?_
  rintro e w21 ⟨rfl, b21⟩
  have hv21 := bUp hv20 b21 hv20.size
  clear oxy oy b20 b21 hv20
  refine ⟨SK.out _ hv21, ?_⟩
  refine tame_one (k := 4) (by kernel_rfl) rfl (by rfl) ?_
  go_simp
  refine ⟨SK.out _ hv21, ?_⟩
  refine tame_end (by kernel_rfl) ?_
  clear SK
  have HB22 := bUp HB19 hv21 HB19.size
  have ox0_22 := ox0_19.below hv21
  clear ox0_19
  have hi_x0 := Nat.le_trans hi_x0 hv21.size
  have ox2_22 := ox2_19.below hv21
  clear ox2_19
  have ox3_22 := ox3_19.below hv21
  clear ox3_19
  have bxa_22 := bxa_19.below hv21
  clear bxa_19
  have bxx_22 := bxx_19.below hv21
  clear bxx_19
  obtain ⟨a0, a1, a2, az⟩ := id bxa_22
  obtain ⟨x0, x1, x2, xz⟩ := id bxx_22
  go_wp2_with fail
  refine (toIntS_c _ _ _ _ (ha2.below HB22 (Nat.le_refl _)) (by omega)).mono ?_
  rintro e w23 ⟨rfl, oy2, b23⟩
  clear a0 a1 a2 az
  clear x0 x1 x2 xz
  have hi_y2_x0 := hi_x0
  have ap_x2_y2 := ox2_22.apart oy2 (Nat.le_refl _)
  have ap_y2_x2 := ox2_22.apartR oy2 (Nat.le_refl _)
  have ap_x3_y2 := ox3_22.apart oy2 (Nat.le_refl _)
  have ap_y2_x3 := ox3_22.apartR oy2 (Nat.le_refl _)
  have ge_y2 := fun k hk => Nat.le_trans HB22.size (oy2.ge k hk)
  have ne_y2 := row_ne oy2 bxa_22.2.2.2
  have HB24 := bUp HB22 b23 HB22.size
  have ox0_24 := ox0_22.below b23
  clear ox0_22
  have hi_x0 := Nat.le_trans hi_x0 b23.size
  have ox2_24 := ox2_22.below b23
  clear ox2_22
  have ox3_24 := ox3_22.below b23
  clear ox3_22
  have bxa_24 := bxa_22.below b23
  clear bxa_22
  have bxx_24 := bxx_22.below b23
  clear bxx_22
  obtain ⟨a0, a1, a2, az⟩ := id bxa_24
  obtain ⟨x0, x1, x2, xz⟩ := id bxx_24
  go_wp2_with fail
  refine (eqIntS_c _ _ _ _ _ _ _ ox2_24.rd oy2.rd (by omega) (by omega)).mono ?_
  rintro e w25 ⟨rfl, n25, rfl⟩
  clear a0 a1 a2 az
  clear x0 x1 x2 xz
  have HB26 := bDrewN HB24 n25
  have ox0_26 := ox0_24.drewN n25
  clear ox0_24
  have ox2_26 := ox2_24.drewN n25
  clear ox2_24
  have ox3_26 := ox3_24.drewN n25
  clear ox3_24
  have oy2_26 := oy2.drewN n25
  clear oy2
  have bxa_26 := bxa_24.drewN n25
  clear bxa_24
  have bxx_26 := bxx_24.drewN n25
  clear bxx_24
  clear oy2_26
  obtain ⟨a0, a1, a2, az⟩ := id bxa_26
  obtain ⟨x0, x1, x2, xz⟩ := id bxx_26
  go_wp2_with fail
  refine (toIntS_c _ _ _ _ (ha3.below HB26 (Nat.le_refl _)) (by omega)).mono ?_
  rintro e w27 ⟨rfl, oy3, b27⟩
  clear a0 a1 a2 az
  clear x0 x1 x2 xz
  have hi_y3_x0 := hi_x0
  have ap_x2_y3 := ox2_26.apart oy3 (Nat.le_refl _)
  have ap_y3_x2 := ox2_26.apartR oy3 (Nat.le_refl _)
  have ap_x3_y3 := ox3_26.apart oy3 (Nat.le_refl _)
  have ap_y3_x3 := ox3_26.apartR oy3 (Nat.le_refl _)
  have ge_y3 := fun k hk => Nat.le_trans HB26.size (oy3.ge k hk)
  have ne_y3 := row_ne oy3 bxa_26.2.2.2
  have HB28 := bUp HB26 b27 HB26.size
  have ox0_28 := ox0_26.below b27
  clear ox0_26
  have hi_x0 := Nat.le_trans hi_x0 b27.size
  have ox2_28 := ox2_26.below b27
  clear ox2_26
  have ox3_28 := ox3_26.below b27
  clear ox3_26
  have bxa_28 := bxa_26.below b27
  clear bxa_26
  have bxx_28 := bxx_26.below b27
  clear bxx_26
  obtain ⟨a0, a1, a2, az⟩ := id bxa_28
  obtain ⟨x0, x1, x2, xz⟩ := id bxx_28
  go_wp2_with fail
  refine (eqIntS_c _ _ _ _ _ _ _ ox3_28.rd oy3.rd (by omega) (by omega)).mono ?_
  rintro e w29 ⟨rfl, n29, rfl⟩
  clear a0 a1 a2 az
  clear x0 x1 x2 xz
  have HB30 := bDrewN HB28 n29
  have ox0_30 := ox0_28.drewN n29
  clear ox0_28
  have ox2_30 := ox2_28.drewN n29
  clear ox2_28
  have ox3_30 := ox3_28.drewN n29
  clear ox3_28
  have oy3_30 := oy3.drewN n29
  clear oy3
  have bxa_30 := bxa_28.drewN n29
  clear bxa_28
  have bxx_30 := bxx_28.drewN n29
  clear bxx_28
  clear oy3_30
  obtain ⟨a0, a1, a2, az⟩ := id bxa_30
  obtain ⟨x0, x1, x2, xz⟩ := id bxx_30
  go_wp2
  go_ret
  exact ⟨rfl, by first | exact HB30 | (simpa using HB30)⟩
end Go.Proofs.Ytebobechpdpfbaa
