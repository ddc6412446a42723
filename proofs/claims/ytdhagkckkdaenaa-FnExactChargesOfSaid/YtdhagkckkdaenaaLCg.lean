/- The law FnExactChargesOf: walked call by call. (Written by gen_lawm.py.) -/
import Derived.Test.YtdhagkckkdaenaaChV
import Derived.Test.YtdhagkckkdaenaaPairsW
import Derived.Test.YtdhagkckkdaenaaMk2
namespace Go.Proofs.Ytdhagkckkdaenaa
open Go.RowKit
set_option maxRecDepth 20000 in
set_option maxHeartbeats 2000000 in
theorem lawCg (A1 : Option Addr) (P : List Int) (c1 : Nat) (A2 : Option Addr) (W : List Int) (c2 : Nat) (A3 : Option Addr) (F : List Int) (c3 : Nat) (a1 : Int) (a2 : Int) (w : World) (r1 : Rd w A1 (ints P)) (r2 : Rd w A2 (ints W)) (r3 : Rd w A3 (ints F)) (hn1 : P.length ≤ 9223372036854775807) (hn2 : W.length ≤ 9223372036854775807) (hn3 : F.length ≤ 9223372036854775807) :
    Calls Try.prog 6 #[mkV A1 P.length c1 A2 W.length c2 A3 F.length c3, .int .i64 a1, .int .i64 a2] w fun e w' => e = .returned (.bool true) ∧ Below w.heap.size w w' := by
  have HB0 : Below w.heap.size w (w.alloc (.cells #[.slice A1 P.length c1, .slice A2 W.length c2, .slice A3 F.length c3] 26)) := (Below.refl _ _).alloc (Nat.le_refl _) _
  have bxa := Bx3.new w (.slice A1 P.length c1) (.slice A2 W.length c2) (.slice A3 F.length c3) 26
  have hL := cgV_len (P := P) (W := W) (F := F) (a := a1) (b := a2)
  go_enter Try.func6, Try.ntmps6
  go_wp2_with fail
  generalize w.alloc (.cells #[.slice A1 P.length c1, .slice A2 W.length c2, .slice A3 F.length c3] 26) = w0 at *
  refine (szArm_c A1 P.length c1 A2 W.length c2 A3 F.length c3 1048576 w0 (by decide) (by decide) hn1 hn2 hn3).mono ?_
  rintro e w1 ⟨⟨r, rfl, hr⟩, b1⟩
  have HB2 := bUp HB0 b1 HB0.size
  have bxa_2 := bxa.below b1
  clear bxa
  rcases hr with hr | ⟨hr, he⟩
  · go_wp2
    go_ret
    exact ⟨rfl, HB2⟩
  have L1 : P.length ≤ 1048576 := by omega
  have L2 : W.length ≤ 1048576 := by omega
  have L3 : F.length ≤ 1048576 := by omega
  clear he
  obtain ⟨a0, a1, a2, az⟩ := id bxa_2
  go_wp2_with fail
  refine (toArm_c A1 P c1 A2 W c2 A3 F c3 _ (r1.below HB2 (Nat.le_refl _)) (r2.below HB2 (Nat.le_refl _)) (r3.below HB2 (Nat.le_refl _)) (by omega) (by omega) (by omega)).mono ?_
  rintro e w3 ⟨gs01, gs02, gs03, rfl, os0, b3⟩
  clear a0 a1 a2 az
  have gl_s0 := HB2.size
  have lo_s0 := os0.lo
  have hg_s0 := os0.hi
  have la_s0 := bxa_2.2.2.2
  have HB4 := bUp HB2 b3 HB2.size
  have bxa_4 := bxa_2.below b3
  clear bxa_2
  have hi_s0 := Nat.le_refl w3.heap.size
  obtain ⟨a0, a1, a2, az⟩ := id bxa_4
  go_wp2_with fail
  refine (specCg_c _ _ _ _ _ _ _ _ _ _ _ _ ⟨os0.o1.rd, os0.o2.rd, os0.o3.rd, (by omega), (by omega), (by omega)⟩  ).mono ?_
  rintro e w5 ⟨AW, cW, rfl, oW, b5⟩
  clear a0 a1 a2 az
  have hi_W_s0 := hi_s0
  have ge_W := fun k hk => Nat.le_trans HB4.size (oW.ge k hk)
  have ne_W := row_neP oW bxa_4.2.2.2
  have HB6 := bUp HB4 b5 HB4.size
  have os0_6 := os0.below b5
  clear os0
  have hi_s0 := Nat.le_trans hi_s0 b5.size
  have bxa_6 := bxa_4.below b5
  clear bxa_4
  clear os0_6
  obtain ⟨a0, a1, a2, az⟩ := id bxa_6
  go_wp2_with fail
  refine (toArm_c A1 P c1 A2 W c2 A3 F c3 _ (r1.below HB6 (Nat.le_refl _)) (r2.below HB6 (Nat.le_refl _)) (r3.below HB6 (Nat.le_refl _)) (by omega) (by omega) (by omega)).mono ?_
  rintro e w7 ⟨gx01, gx02, gx03, rfl, ox0, b7⟩
  clear a0 a1 a2 az
  have lw_W_x0 := fun k hk => oW.ltk k hk
  have gl_x0 := HB6.size
  have lo_x0 := ox0.lo
  have hg_x0 := ox0.hi
  have la_x0 := bxa_6.2.2.2
  have HB8 := bUp HB6 b7 HB6.size
  have oW_8 := oW.below b7
  clear oW
  have bxa_8 := bxa_6.below b7
  clear bxa_6
  have hi_x0 := Nat.le_refl w7.heap.size
  obtain ⟨a0, a1, a2, az⟩ := id bxa_8
  go_wp2_with fail
  clear a0 a1 a2 az
  have HB9 : Below w.heap.size w (w7.alloc (.cells #[.slice (some ⟨gx01, 0, none⟩) P.length P.length, .slice (some ⟨gx02, 0, none⟩) W.length W.length, .slice (some ⟨gx03, 0, none⟩) F.length F.length] 33)) := HB8.alloc HB8.size _
  have oW_9 := oW_8.alloc (.cells #[.slice (some ⟨gx01, 0, none⟩) P.length P.length, .slice (some ⟨gx02, 0, none⟩) W.length W.length, .slice (some ⟨gx03, 0, none⟩) F.length F.length] 33)
  clear oW_8
  have ox0_9 := ox0.alloc (.cells #[.slice (some ⟨gx01, 0, none⟩) P.length P.length, .slice (some ⟨gx02, 0, none⟩) W.length W.length, .slice (some ⟨gx03, 0, none⟩) F.length F.length] 33)
  clear ox0
  have hi_x0 : _ ≤ (w7.alloc (.cells #[.slice (some ⟨gx01, 0, none⟩) P.length P.length, .slice (some ⟨gx02, 0, none⟩) W.length W.length, .slice (some ⟨gx03, 0, none⟩) F.length F.length] 33)).heap.size := Nat.le_trans hi_x0 (by simp)
  have bxa_9 := bxa_8.alloc (.cells #[.slice (some ⟨gx01, 0, none⟩) P.length P.length, .slice (some ⟨gx02, 0, none⟩) W.length W.length, .slice (some ⟨gx03, 0, none⟩) F.length F.length] 33)
  clear bxa_8
  have bxx := Bx3.new w7 (.slice (some ⟨gx01, 0, none⟩) P.length P.length) (.slice (some ⟨gx02, 0, none⟩) W.length W.length) (.slice (some ⟨gx03, 0, none⟩) F.length F.length) 33
  generalize w7.alloc (.cells #[.slice (some ⟨gx01, 0, none⟩) P.length P.length, .slice (some ⟨gx02, 0, none⟩) W.length W.length, .slice (some ⟨gx03, 0, none⟩) F.length F.length] 33) = v9 at *
  generalize w7.heap.size = gx at *
  obtain ⟨a0, a1, a2, az⟩ := id bxa_9
  obtain ⟨x0, x1, x2, xz⟩ := id bxx
  go_wp2_with fail
  refine (implCg_c _ _ _ _ _ _ _ _ _ _ _ _ ⟨ox0_9.o1.rd, ox0_9.o2.rd, ox0_9.o3.rd, (by omega), (by omega), (by omega)⟩  ).mono ?_
  rintro e w10 ⟨AG, cG, rfl, oG, b10⟩
  clear a0 a1 a2 az
  clear x0 x1 x2 xz
  have ap_W_G := oW_9.apart oG (Nat.le_refl _)
  have ap_G_W := oW_9.apartR oG (Nat.le_refl _)
  have hi_G_x0 := hi_x0
  have ge_G := fun k hk => Nat.le_trans HB9.size (oG.ge k hk)
  have ne_G := row_neP oG bxa_9.2.2.2
  have HB11 := bUp HB9 b10 HB9.size
  have oW_11 := oW_9.below b10
  clear oW_9
  have ox0_11 := ox0_9.below b10
  clear ox0_9
  have hi_x0 := Nat.le_trans hi_x0 b10.size
  have bxa_11 := bxa_9.below b10
  clear bxa_9
  have bxx_11 := bxx.below b10
  clear bxx
  obtain ⟨a0, a1, a2, az⟩ := id bxa_11
  obtain ⟨x0, x1, x2, xz⟩ := id bxx_11
  go_wp2_with fail
  refine (eqIntA2S_same _ _ _ _ _ _ _ _ oG oW_11 (by omega)).mono ?_
  rintro e w12 ⟨rfl, b12⟩
  clear a0 a1 a2 az
  clear x0 x1 x2 xz
  have HB13 := bUp HB11 b12 HB11.size
  have oW_13 := oW_11.below b12
  clear oW_11
  have ox0_13 := ox0_11.below b12
  clear ox0_11
  have hi_x0 := Nat.le_trans hi_x0 b12.size
  have oG_13 := oG.below b12
  clear oG
  have bxa_13 := bxa_11.below b12
  clear bxa_11
  have bxx_13 := bxx_11.below b12
  clear bxx_11
  obtain ⟨a0, a1, a2, az⟩ := id bxa_13
  obtain ⟨x0, x1, x2, xz⟩ := id bxx_13
  have SK : Hid (∀ w', Below w12.heap.size w12 w' → w'.cell? ⟨gx, 0, none⟩ = some (.slice (some ⟨gx01, 0, none⟩) P.length P.length) ∧ w'.cell? ⟨gx, 1, none⟩ = some (.slice (some ⟨gx02, 0, none⟩) W.length W.length) ∧ w'.cell? ⟨gx, 2, none⟩ = some (.slice (some ⟨gx03, 0, none⟩) F.length F.length) ∧ w'.cell? ⟨w.heap.size, 0, none⟩ = some (.slice A1 P.length c1) ∧ w'.cell? ⟨w.heap.size, 1, none⟩ = some (.slice A2 W.length c2) ∧ w'.cell? ⟨w.heap.size, 2, none⟩ = some (.slice A3 F.length c3)) :=
    Lib.hid fun w' HV => ⟨(HV.cell (p := ⟨gx, 0, none⟩) xz).trans x0, (HV.cell (p := ⟨gx, 1, none⟩) xz).trans x1, (HV.cell (p := ⟨gx, 2, none⟩) xz).trans x2, (HV.cell (p := ⟨w.heap.size, 0, none⟩) az).trans a0, (HV.cell (p := ⟨w.heap.size, 1, none⟩) az).trans a1, (HV.cell (p := ⟨w.heap.size, 2, none⟩) az).trans a2⟩
  go_upto_region 10 with fail
  clear a0 a1 a2 az
  clear x0 x1 x2 xz
  refine tamed_region (S := fun w' => w'.cell? ⟨gx, 0, none⟩ = some (.slice (some ⟨gx01, 0, none⟩) P.length P.length) ∧ w'.cell? ⟨gx, 1, none⟩ = some (.slice (some ⟨gx02, 0, none⟩) W.length W.length) ∧ w'.cell? ⟨gx, 2, none⟩ = some (.slice (some ⟨gx03, 0, none⟩) F.length F.length) ∧ w'.cell? ⟨w.heap.size, 0, none⟩ = some (.slice A1 P.length c1) ∧ w'.cell? ⟨w.heap.size, 1, none⟩ = some (.slice A2 W.length c2) ∧ w'.cell? ⟨w.heap.size, 2, none⟩ = some (.slice A3 F.length c3)) (fun _ => false) (by kernel_rfl) ?_
  have hS0 := SK.out w12.drew (Below.drew (Below.refl _ _))
  refine tame (k := 0) ?_ rfl (by kernel_rfl) (by kernel_rfl) (by kernel_rfl) (by kernel_rfl) (fun _ _ _ h => h) (by rfl) hS0 (fun v hv => ?_) ?_
  rotate_left
  · (obtain ⟨g0, g1, g2, g3, g4, g5⟩ := hv; go_simp; all_goals rfl)
  simp only [Act.put, List.setIfInBounds_toArray]
  refine tame (k := 1) ?_ rfl (by kernel_rfl) (by kernel_rfl) (by kernel_rfl) (by kernel_rfl) (fun _ _ _ h => h) (by rfl) hS0 (fun v hv => ?_) ?_
  rotate_left
  · (obtain ⟨g0, g1, g2, g3, g4, g5⟩ := hv; go_simp; all_goals rfl)
  simp only [Act.put]
  clear hS0
  refine tame_one (k := 2) (by kernel_rfl) rfl (by rfl) ?_
  go_simp
  refine (toArm_c A1 P c1 A2 W c2 A3 F c3 _ (r1.below HB13 (Nat.le_refl _)).drew (r2.below HB13 (Nat.le_refl _)).drew (r3.below HB13 (Nat.le_refl _)).drew (by omega) (by omega) (by omega)).mono ?_
  rintro e w14 ⟨h1, h2, h3, rfl, oy, b14⟩
  have hv14 := bUp (Below.drew (Below.refl w12.heap.size w12)) b14 (Nat.le_refl _)
  have oxy := ox0_13.below hv14
  refine ⟨SK.out _ hv14, ?_⟩
  refine tame_one (k := 3) (by kernel_rfl) rfl (by rfl) ?_
  go_simp
  refine (eqArm_same (some ⟨gx01, 0, none⟩) P _ (some ⟨gx02, 0, none⟩) W _ (some ⟨gx03, 0, none⟩) F _ (some ⟨h1, 0, none⟩) _ (some ⟨h2, 0, none⟩) _ (some ⟨h3, 0, none⟩) _ _ oxy.o1.rd oxy.o2.rd oxy.o3.rd oy.o1.rd oy.o2.rd oy.o3.rd (by omega) (by omega) (by omega)).mono ?_
  rintro e w15 ⟨rfl, b15⟩
  have hv15 := bUp hv14 b15 hv14.size
  clear oxy oy b14 b15 hv14
  refine ⟨SK.out _ hv15, ?_⟩
  refine tame_one (k := 4) (by kernel_rfl) rfl (by rfl) ?_
  go_simp
  refine ⟨SK.out _ hv15, ?_⟩
  refine tame_end (by kernel_rfl) ?_
  clear SK
  have HB16 := bUp HB13 hv15 HB13.size
  have oW_16 := oW_13.below hv15
  clear oW_13
  have ox0_16 := ox0_13.below hv15
  clear ox0_13
  have hi_x0 := Nat.le_trans hi_x0 hv15.size
  have oG_16 := oG_13.below hv15
  clear oG_13
  have bxa_16 := bxa_13.below hv15
  clear bxa_13
  have bxx_16 := bxx_13.below hv15
  clear bxx_13
  obtain ⟨a0, a1, a2, az⟩ := id bxa_16
  obtain ⟨x0, x1, x2, xz⟩ := id bxx_16
  go_wp2_with fail
  refine (markArm_c _ _ _ _ _ _ P W F _ _ ox0_16 (by omega) (by omega) (by omega) (by omega) (by omega) lo_x0 hg_x0 hi_x0).mono ?_
  rintro e w17 ⟨rfl, _, _, _, hh17⟩
  clear a0 a1 a2 az
  clear x0 x1 x2 xz
  have HB17 := hh17.below HB16 gl_x0 HB16.size
  clear ox0_16
  have oW_17 := oW_16.holedLow hh17 lw_W_x0
  clear oW_16
  have oG_17 := oG_16.holed hh17 hi_G_x0
  clear oG_16
  clear bxx_16
  have bxa_17 := bxa_16.holedLow hh17 la_x0
  clear bxa_16
  obtain ⟨a0, a1, a2, az⟩ := id bxa_17
  go_wp2_with fail
  refine (eqIntA2S_same _ _ _ _ _ _ _ _ oG_17 oW_17 (by omega)).mono ?_
  rintro e w18 ⟨rfl, b18⟩
  clear a0 a1 a2 az
  have HB19 := bUp HB17 b18 HB17.size
  have oW_19 := oW_17.below b18
  clear oW_17
  have oG_19 := oG_17.below b18
  clear oG_17
  have bxa_19 := bxa_17.below b18
  clear bxa_17
  obtain ⟨a0, a1, a2, az⟩ := id bxa_19
  go_wp2_with fail
  refine (markIntA2S_c _ _ _ _ _ _ oG_19 (by omega) (by omega) (by omega)).mono ?_
  rintro e w20 ⟨rfl, oGm20, g20⟩
  clear a0 a1 a2 az
  have HB20 := HB19.grown g20 HB19.size ge_G
  have oW_20 := oW_19.grown g20 ap_W_G
  clear oW_19
  have bxa_20 := bxa_19.grownR g20 ne_G
  clear bxa_19
  clear oG_19
  obtain ⟨a0, a1, a2, az⟩ := id bxa_20
  go_wp2_with fail
  refine (heldIntA2S_c _ _ _ _ _ _ oGm20 (by omega) (by omega) (by omega)).mono ?_
  rintro e w21 ⟨rfl, n21, rfl⟩
  clear a0 a1 a2 az
  have HB22 := bDrewN HB20 n21
  have oW_22 := oW_20.drewN n21
  clear oW_20
  have oG_22 := oGm20.drewN n21
  clear oGm20
  have bxa_22 := bxa_20.drewN n21
  clear bxa_20
  obtain ⟨a0, a1, a2, az⟩ := id bxa_22
  go_wp2_with fail
  refine (toArm_c A1 P c1 A2 W c2 A3 F c3 _ (r1.below HB22 (Nat.le_refl _)) (r2.below HB22 (Nat.le_refl _)) (r3.below HB22 (Nat.le_refl _)) (by omega) (by omega) (by omega)).mono ?_
  rintro e w23 ⟨gz01, gz02, gz03, rfl, oz0, b23⟩
  clear a0 a1 a2 az
  have lw_W_z0 := fun k hk => oW_22.ltk k hk
  have lw_G_z0 := fun k hk => oG_22.ltk k hk
  have gl_z0 := HB22.size
  have lo_z0 := oz0.lo
  have hg_z0 := oz0.hi
  have la_z0 := bxa_22.2.2.2
  have HB24 := bUp HB22 b23 HB22.size
  have oW_24 := oW_22.below b23
  clear oW_22
  have oG_24 := oG_22.below b23
  clear oG_22
  have bxa_24 := bxa_22.below b23
  clear bxa_22
  have hi_z0 := Nat.le_refl w23.heap.size
  obtain ⟨a0, a1, a2, az⟩ := id bxa_24
  go_wp2_with fail
  refine (implCg_c _ _ _ _ _ _ _ _ _ _ _ _ ⟨oz0.o1.rd, oz0.o2.rd, oz0.o3.rd, (by omega), (by omega), (by omega)⟩  ).mono ?_
  rintro e w25 ⟨AH, cH, rfl, oH, b25⟩
  clear a0 a1 a2 az
  have ap_W_H := oW_24.apart oH (Nat.le_refl _)
  have ap_H_W := oW_24.apartR oH (Nat.le_refl _)
  have ap_G_H := oG_24.apart oH (Nat.le_refl _)
  have ap_H_G := oG_24.apartR oH (Nat.le_refl _)
  have hi_H_z0 := hi_z0
  have ge_H := fun k hk => Nat.le_trans HB24.size (oH.ge k hk)
  have ne_H := row_neP oH bxa_24.2.2.2
  have HB26 := bUp HB24 b25 HB24.size
  have oW_26 := oW_24.below b25
  clear oW_24
  have oG_26 := oG_24.below b25
  clear oG_24
  have oz0_26 := oz0.below b25
  clear oz0
  have hi_z0 := Nat.le_trans hi_z0 b25.size
  have bxa_26 := bxa_24.below b25
  clear bxa_24
  clear oz0_26
  obtain ⟨a0, a1, a2, az⟩ := id bxa_26
  go_wp2_with fail
  refine (eqIntA2S_same _ _ _ _ _ _ _ _ oH oW_26 (by omega)).mono ?_
  rintro e w27 ⟨rfl, b27⟩
  clear a0 a1 a2 az
  have HB28 := bUp HB26 b27 HB26.size
  have oW_28 := oW_26.below b27
  clear oW_26
  have oG_28 := oG_26.below b27
  clear oG_26
  have oH_28 := oH.below b27
  clear oH
  have bxa_28 := bxa_26.below b27
  clear bxa_26
  obtain ⟨a0, a1, a2, az⟩ := id bxa_28
  go_wp2_with fail
  refine (heldIntA2S_c _ _ _ _ _ _ oG_28 (by omega) (by omega) (by omega)).mono ?_
  rintro e w29 ⟨rfl, n29, rfl⟩
  clear a0 a1 a2 az
  have HB30 := bDrewN HB28 n29
  have oW_30 := oW_28.drewN n29
  clear oW_28
  have oG_30 := oG_28.drewN n29
  clear oG_28
  have oH_30 := oH_28.drewN n29
  clear oH_28
  have bxa_30 := bxa_28.drewN n29
  clear bxa_28
  obtain ⟨a0, a1, a2, az⟩ := id bxa_30
  go_wp2
  go_ret
  exact ⟨rfl, by first | exact HB30 | (simpa using HB30)⟩
end Go.Proofs.Ytdhagkckkdaenaa
