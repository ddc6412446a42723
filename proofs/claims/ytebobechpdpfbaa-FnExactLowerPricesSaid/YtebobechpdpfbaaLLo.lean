/- The law FnExactLowerPrices: walked call by call. (Written by gen_lawm.py.) -/
import Derived.Test.YtebobechpdpfbaaPrH
import Derived.Test.YtebobechpdpfbaaPairsW
import Derived.Test.YtebobechpdpfbaaMk2
namespace Go.Proofs.Ytebobechpdpfbaa
open Go.RowKit
set_option maxRecDepth 20000 in
set_option maxHeartbeats 2000000 in
theorem lawLo (A1 : Option Addr) (P : List Int) (c1 : Nat) (A2 : Option Addr) (W : List Int) (c2 : Nat) (A3 : Option Addr) (F : List Int) (c3 : Nat) (A1x : Option Addr) (xs1 : List Int) (c1x : Nat) (w : World) (r1 : Rd w A1 (ints P)) (r2 : Rd w A2 (ints W)) (r3 : Rd w A3 (ints F)) (hn1 : P.length ≤ 9223372036854775807) (hn2 : W.length ≤ 9223372036854775807) (hn3 : F.length ≤ 9223372036854775807) (ha1 : Rd w A1x (ints xs1)) :
    Calls Try.prog 8 #[mkV A1 P.length c1 A2 W.length c2 A3 F.length c3, .slice A1x xs1.length c1x] w fun e w' => e = .returned (.bool true) ∧ Below w.heap.size w w' := by
  have HB0 : Below w.heap.size w (w.alloc (.cells #[.slice A1 P.length c1, .slice A2 W.length c2, .slice A3 F.length c3] 26)) := (Below.refl _ _).alloc (Nat.le_refl _) _
  have bxa := Bx3.new w (.slice A1 P.length c1) (.slice A2 W.length c2) (.slice A3 F.length c3) 26
  by_cases hl1 : 1048576 < xs1.length
  · go_enter Try.func8, Try.ntmps8
    go_wp2
    go_ret
    exact ⟨rfl, HB0⟩
  have hL := prV_len false P W F xs1
  go_enter Try.func8, Try.ntmps8
  go_wp2_with fail
  generalize w.alloc (.cells #[.slice A1 P.length c1, .slice A2 W.length c2, .slice A3 F.length c3] 26) = w0 at *
  refine (szMarket_c A1 P.length c1 A2 W.length c2 A3 F.length c3 1048576 w0 (by decide) (by decide) hn1 hn2 hn3).mono ?_
  rintro e w1 ⟨⟨r, rfl, hr⟩, b1⟩
  have HB2 := bUp HB0 b1 HB0.size
  have bxa_2 := bxa.below b1
  clear bxa
  rcases hr with hr | ⟨hr, he⟩
  · go_wp2
    go_ret
    exact ⟨rfl, HB2⟩
  have L1 : P.length ≤ 1048576 := by omega
  have L2 : W.length ≤ 1048576 := by omega
  have L3 : F.length ≤ 1048576 := by omega
  clear he
  obtain ⟨a0, a1, a2, az⟩ := id bxa_2
  go_wp2_with fail
  refine (toMarket_c A1 P c1 A2 W c2 A3 F c3 _ (r1.below HB2 (Nat.le_refl _)) (r2.below HB2 (Nat.le_refl _)) (r3.below HB2 (Nat.le_refl _)) (by omega) (by omega) (by omega)).mono ?_
  rintro e w3 ⟨gs01, gs02, gs03, rfl, os0, b3⟩
  clear a0 a1 a2 az
  have gl_s0 := HB2.size
  have lo_s0 := os0.lo
  have hg_s0 := os0.hi
  have la_s0 := bxa_2.2.2.2
  have HB4 := bUp HB2 b3 HB2.size
  have bxa_4 := bxa_2.below b3
  clear bxa_2
  have hi_s0 := Nat.le_refl w3.heap.size
  obtain ⟨a0, a1, a2, az⟩ := id bxa_4
  go_wp2_with fail
  refine (toIntS_c _ _ _ _ (ha1.below HB4 (Nat.le_refl _)) (by omega)).mono ?_
  rintro e w5 ⟨rfl, os1, b5⟩
  clear a0 a1 a2 az
  have hi_s1_s0 := hi_s0
  have ge_s1 := fun k hk => Nat.le_trans HB4.size (os1.ge k hk)
  have ne_s1 := row_ne os1 bxa_4.2.2.2
  have HB6 := bUp HB4 b5 HB4.size
  have os0_6 := os0.below b5
  clear os0
  have hi_s0 := Nat.le_trans hi_s0 b5.size
  have bxa_6 := bxa_4.below b5
  clear bxa_4
  obtain ⟨a0, a1, a2, az⟩ := id bxa_6
  go_wp2_with fail
  refine (specLowerPrices_c _ _ _ _ _ _ _ _ _ _ _ _ _ ⟨os0_6.o1.rd, os0_6.o2.rd, os0_6.o3.rd, (by omega), (by omega), (by omega)⟩ os1.rd (by omega)).mono ?_
  rintro e w7 ⟨AW, cW, rfl, oW, b7⟩
  clear a0 a1 a2 az
  have hi_W_s0 := hi_s0
  have ap_s1_W := rowsApart os1 oW (Nat.le_refl _)
  have ap_W_s1 := rowsApartR os1 oW (Nat.le_refl _)
  have ge_W := fun k hk => Nat.le_trans HB6.size (oW.ge k hk)
  have ne_W := row_neP oW bxa_6.2.2.2
  have HB8 := bUp HB6 b7 HB6.size
  have os0_8 := os0_6.below b7
  clear os0_6
  have hi_s0 := Nat.le_trans hi_s0 b7.size
  have os1_8 := os1.below b7
  clear os1
  have bxa_8 := bxa_6.below b7
  clear bxa_6
  clear os0_8
  clear os1_8
  obtain ⟨a0, a1, a2, az⟩ := id bxa_8
  go_wp2_with fail
  refine (toMarket_c A1 P c1 A2 W c2 A3 F c3 _ (r1.below HB8 (Nat.le_refl _)) (r2.below HB8 (Nat.le_refl _)) (r3.below HB8 (Nat.le_refl _)) (by omega) (by omega) (by omega)).mono ?_
  rintro e w9 ⟨gx01, gx02, gx03, rfl, ox0, b9⟩
  clear a0 a1 a2 az
  have lw_W_x0 := fun k hk => oW.ltk k hk
  have gl_x0 := HB8.size
  have lo_x0 := ox0.lo
  have hg_x0 := ox0.hi
  have la_x0 := bxa_8.2.2.2
  have HB10 := bUp HB8 b9 HB8.size
  have oW_10 := oW.below b9
  clear oW
  have bxa_10 := bxa_8.below b9
  clear bxa_8
  have hi_x0 := Nat.le_refl w9.heap.size
  obtain ⟨a0, a1, a2, az⟩ := id bxa_10
  go_wp2_with fail
  clear a0 a1 a2 az
  have HB11 : Below w.heap.size w (w9.alloc (.cells #[.slice (some ⟨gx01, 0, none⟩) P.length P.length, .slice (some ⟨gx02, 0, none⟩) W.length W.length, .slice (some ⟨gx03, 0, none⟩) F.length F.length] 32)) := HB10.alloc HB10.size _
  have oW_11 := oW_10.alloc (.cells #[.slice (some ⟨gx01, 0, none⟩) P.length P.length, .slice (some ⟨gx02, 0, none⟩) W.length W.length, .slice (some ⟨gx03, 0, none⟩) F.length F.length] 32)
  clear oW_10
  have ox0_11 := ox0.alloc (.cells #[.slice (some ⟨gx01, 0, none⟩) P.length P.length, .slice (some ⟨gx02, 0, none⟩) W.length W.length, .slice (some ⟨gx03, 0, none⟩) F.length F.length] 32)
  clear ox0
  have hi_x0 : _ ≤ (w9.alloc (.cells #[.slice (some ⟨gx01, 0, none⟩) P.length P.length, .slice (some ⟨gx02, 0, none⟩) W.length W.length, .slice (some ⟨gx03, 0, none⟩) F.length F.length] 32)).heap.size := Nat.le_trans hi_x0 (by simp)
  have bxa_11 := bxa_10.alloc (.cells #[.slice (some ⟨gx01, 0, none⟩) P.length P.length, .slice (some ⟨gx02, 0, none⟩) W.length W.length, .slice (some ⟨gx03, 0, none⟩) F.length F.length] 32)
  clear bxa_10
  have bxx := Bx3.new w9 (.slice (some ⟨gx01, 0, none⟩) P.length P.length) (.slice (some ⟨gx02, 0, none⟩) W.length W.length) (.slice (some ⟨gx03, 0, none⟩) F.length F.length) 32
  generalize w9.alloc (.cells #[.slice (some ⟨gx01, 0, none⟩) P.length P.length, .slice (some ⟨gx02, 0, none⟩) W.length W.length, .slice (some ⟨gx03, 0, none⟩) F.length F.length] 32) = v11 at *
  generalize w9.heap.size = gx at *
  obtain ⟨a0, a1, a2, az⟩ := id bxa_11
  obtain ⟨x0, x1, x2, xz⟩ := id bxx
  go_wp2_with fail
  refine (toIntS_c _ _ _ _ (ha1.below HB11 (Nat.le_refl _)) (by omega)).mono ?_
  rintro e w12 ⟨rfl, ox1, b12⟩
  clear a0 a1 a2 az
  clear x0 x1 x2 xz
  have ap_W_x1 := rowsApart oW_11 ox1 (Nat.le_refl _)
  have ap_x1_W := rowsApartR oW_11 ox1 (Nat.le_refl _)
  have hi_x1_x0 := hi_x0
  have ge_x1 := fun k hk => Nat.le_trans HB11.size (ox1.ge k hk)
  have ne_x1 := row_ne ox1 bxa_11.2.2.2
  have HB13 := bUp HB11 b12 HB11.size
  have oW_13 := oW_11.below b12
  clear oW_11
  have ox0_13 := ox0_11.below b12
  clear ox0_11
  have hi_x0 := Nat.le_trans hi_x0 b12.size
  have bxa_13 := bxa_11.below b12
  clear bxa_11
  have bxx_13 := bxx.below b12
  clear bxx
  obtain ⟨a0, a1, a2, az⟩ := id bxa_13
  obtain ⟨x0, x1, x2, xz⟩ := id bxx_13
  go_wp2_with fail
  refine (implLowerPrices_c _ _ _ _ _ _ _ _ _ _ _ _ _ ⟨ox0_13.o1.rd, ox0_13.o2.rd, ox0_13.o3.rd, (by omega), (by omega), (by omega)⟩ ox1.rd (by omega)).mono ?_
  rintro e w14 ⟨AG, cG, rfl, oG, b14⟩
  clear a0 a1 a2 az
  clear x0 x1 x2 xz
  have ap_W_G := oW_13.apart oG (Nat.le_refl _)
  have ap_G_W := oW_13.apartR oG (Nat.le_refl _)
  have hi_G_x0 := hi_x0
  have ap_x1_G := rowsApart ox1 oG (Nat.le_refl _)
  have ap_G_x1 := rowsApartR ox1 oG (Nat.le_refl _)
  have ge_G := fun k hk => Nat.le_trans HB13.size (oG.ge k hk)
  have ne_G := row_neP oG bxa_13.2.2.2
  have HB15 := bUp HB13 b14 HB13.size
  have oW_15 := oW_13.below b14
  clear oW_13
  have ox0_15 := ox0_13.below b14
  clear ox0_13
  have hi_x0 := Nat.le_trans hi_x0 b14.size
  have ox1_15 := ox1.below b14
  clear ox1
  have bxa_15 := bxa_13.below b14
  clear bxa_13
  have bxx_15 := bxx_13.below b14
  clear bxx_13
  obtain ⟨a0, a1, a2, az⟩ := id bxa_15
  obtain ⟨x0, x1, x2, xz⟩ := id bxx_15
  go_wp2_with fail
  refine (eqIntA2S_same _ _ _ _ _ _ _ _ oG oW_15 (by omega)).mono ?_
  rintro e w16 ⟨rfl, b16⟩
  clear a0 a1 a2 az
  clear x0 x1 x2 xz
  have HB17 := bUp HB15 b16 HB15.size
  have oW_17 := oW_15.below b16
  clear oW_15
  have ox0_17 := ox0_15.below b16
  clear ox0_15
  have hi_x0 := Nat.le_trans hi_x0 b16.size
  have ox1_17 := ox1_15.below b16
  clear ox1_15
  have oG_17 := oG.below b16
  clear oG
  have bxa_17 := bxa_15.below b16
  clear bxa_15
  have bxx_17 := bxx_15.below b16
  clear bxx_15
  obtain ⟨a0, a1, a2, az⟩ := id bxa_17
  obtain ⟨x0, x1, x2, xz⟩ := id bxx_17
  have SK : Hid (∀ w', Below w16.heap.size w16 w' → w'.cell? ⟨gx, 0, none⟩ = some (.slice (some ⟨gx01, 0, none⟩) P.length P.length) ∧ w'.cell? ⟨gx, 1, none⟩ = some (.slice (some ⟨gx02, 0, none⟩) W.length W.length) ∧ w'.cell? ⟨gx, 2, none⟩ = some (.slice (some ⟨gx03, 0, none⟩) F.length F.length) ∧ w'.cell? ⟨w.heap.size, 0, none⟩ = some (.slice A1 P.length c1) ∧ w'.cell? ⟨w.heap.size, 1, none⟩ = some (.slice A2 W.length c2) ∧ w'.cell? ⟨w.heap.size, 2, none⟩ = some (.slice A3 F.length c3)) :=
    Lib.hid fun w' HV => ⟨(HV.cell (p := ⟨gx, 0, none⟩) xz).trans x0, (HV.cell (p := ⟨gx, 1, none⟩) xz).trans x1, (HV.cell (p := ⟨gx, 2, none⟩) xz).trans x2, (HV.cell (p := ⟨w.heap.size, 0, none⟩) az).trans a0, (HV.cell (p := ⟨w.heap.size, 1, none⟩) az).trans a1, (HV.cell (p := ⟨w.heap.size, 2, none⟩) az).trans a2⟩
  go_upto_region 13 with fail
  clear a0 a1 a2 az
  clear x0 x1 x2 xz
  refine tamed_region (S := fun w' => w'.cell? ⟨gx, 0, none⟩ = some (.slice (some ⟨gx01, 0, none⟩) P.length P.length) ∧ w'.cell? ⟨gx, 1, none⟩ = some (.slice (some ⟨gx02, 0, none⟩) W.length W.length) ∧ w'.cell? ⟨gx, 2, none⟩ = some (.slice (some ⟨gx03, 0, none⟩) F.length F.length) ∧ w'.cell? ⟨w.heap.size, 0, none⟩ = some (.slice A1 P.length c1) ∧ w'.cell? ⟨w.heap.size, 1, none⟩ = some (.slice A2 W.length c2) ∧ w'.cell? ⟨w.heap.size, 2, none⟩ = some (.slice A3 F.length c3)) (fun _ => false) (by kernel_rfl) ?_
  have hS0 := SK.out w16.drew (Below.drew (Below.refl _ _))
  refine tame (k := 0) ?_ rfl (by kernel_rfl) (by kernel_rfl) (by kernel_rfl) (by kernel_rfl) (fun _ _ _ h => h) (by rfl) hS0 (fun v hv => ?_) ?_
  rotate_left
  · (obtain ⟨g0, g1, g2, g3, g4, g5⟩ := hv; go_simp; all_goals rfl)
  simp only [Act.put, List.setIfInBounds_toArray]
  refine tame (k := 1) ?_ rfl (by kernel_rfl) (by kernel_rfl) (by kernel_rfl) (by kernel_rfl) (fun _ _ _ h => h) (by rfl) hS0 (fun v hv => ?_) ?_
  rotate_left
  · (obtain ⟨g0, g1, g2, g3, g4, g5⟩ := hv; go_simp; all_goals rfl)
  simp only [Act.put]
  clear hS0
  refine tame_one (k := 2) (by kernel_rfl) rfl (by rfl) ?_
  go_simp
  refine (toMarket_c A1 P c1 A2 W c2 A3 F c3 _ (r1.below HB17 (Nat.le_refl _)).drew (r2.below HB17 (Nat.le_refl _)).drew (r3.below HB17 (Nat.le_refl _)).drew (by omega) (by omega) (by omega)).mono ?_
  rintro e w18 ⟨h1, h2, h3, rfl, oy, b18⟩
  have hv18 := bUp (Below.drew (Below.refl w16.heap.size w16)) b18 (Nat.le_refl _)
  have oxy := ox0_17.below hv18
  refine ⟨SK.out _ hv18, ?_⟩
  refine tame_one (k := 3) (by kernel_rfl) rfl (by rfl) ?_
  go_simp
  refine (eqMarket_same (some ⟨gx01, 0, none⟩) P _ (some ⟨gx02, 0, none⟩) W _ (some ⟨gx03, 0, none⟩) F _ (some ⟨h1, 0, none⟩) _ (some ⟨h2, 0, none⟩) _ (some ⟨h3, 0, none⟩) _ _ oxy.o1.rd oxy.o2.rd oxy.o3.rd oy.o1.rd oy.o2.rd oy.o3.rd (by omega) (by omega) (by omega)).mono ?_
  rintro e w19 ⟨rfl, b19⟩
  have hv19 := bUp hv18 b19 hv18.size
  clear oxy oy b18 b19 hv18
  refine ⟨SK.out _ hv19, ?_⟩
  refine tame_one (k := 4) (by kernel_rfl) rfl (by rfl) ?_
  go_simp
  refine ⟨SK.out _ hv19, ?_⟩
  refine tame_end (by kernel_rfl) ?_
  clear SK
  have HB20 := bUp HB17 hv19 HB17.size
  have oW_20 := oW_17.below hv19
  clear oW_17
  have ox0_20 := ox0_17.below hv19
  clear ox0_17
  have hi_x0 := Nat.le_trans hi_x0 hv19.size
  have ox1_20 := ox1_17.below hv19
  clear ox1_17
  have oG_20 := oG_17.below hv19
  clear oG_17
  have bxa_20 := bxa_17.below hv19
  clear bxa_17
  have bxx_20 := bxx_17.below hv19
  clear bxx_17
  obtain ⟨a0, a1, a2, az⟩ := id bxa_20
  obtain ⟨x0, x1, x2, xz⟩ := id bxx_20
  go_wp2_with fail
  refine (toIntS_c _ _ _ _ (ha1.below HB20 (Nat.le_refl _)) (by omega)).mono ?_
  rintro e w21 ⟨rfl, oy1, b21⟩
  clear a0 a1 a2 az
  clear x0 x1 x2 xz
  have ap_W_y1 := rowsApart oW_20 oy1 (Nat.le_refl _)
  have ap_y1_W := rowsApartR oW_20 oy1 (Nat.le_refl _)
  have hi_y1_x0 := hi_x0
  have ap_x1_y1 := ox1_20.apart oy1 (Nat.le_refl _)
  have ap_y1_x1 := ox1_20.apartR oy1 (Nat.le_refl _)
  have ap_G_y1 := rowsApart oG_20 oy1 (Nat.le_refl _)
  have ap_y1_G := rowsApartR oG_20 oy1 (Nat.le_refl _)
  have ge_y1 := fun k hk => Nat.le_trans HB20.size (oy1.ge k hk)
  have ne_y1 := row_ne oy1 bxa_20.2.2.2
  have HB22 := bUp HB20 b21 HB20.size
  have oW_22 := oW_20.below b21
  clear oW_20
  have ox0_22 := ox0_20.below b21
  clear ox0_20
  have hi_x0 := Nat.le_trans hi_x0 b21.size
  have ox1_22 := ox1_20.below b21
  clear ox1_20
  have oG_22 := oG_20.below b21
  clear oG_20
  have bxa_22 := bxa_20.below b21
  clear bxa_20
  have bxx_22 := bxx_20.below b21
  clear bxx_20
  obtain ⟨a0, a1, a2, az⟩ := id bxa_22
  obtain ⟨x0, x1, x2, xz⟩ := id bxx_22
  go_wp2_with fail
  refine (eqIntS_c _ _ _ _ _ _ _ ox1_22.rd oy1.rd (by omega) (by omega)).mono ?_
  rintro e w23 ⟨rfl, n23, rfl⟩
  clear a0 a1 a2 az
  clear x0 x1 x2 xz
  have HB24 := bDrewN HB22 n23
  have oW_24 := oW_22.drewN n23
  clear oW_22
  have ox0_24 := ox0_22.drewN n23
  clear ox0_22
  have ox1_24 := ox1_22.drewN n23
  clear ox1_22
  have oG_24 := oG_22.drewN n23
  clear oG_22
  have oy1_24 := oy1.drewN n23
  clear oy1
  have bxa_24 := bxa_22.drewN n23
  clear bxa_22
  have bxx_24 := bxx_22.drewN n23
  clear bxx_22
  clear oy1_24
  obtain ⟨a0, a1, a2, az⟩ := id bxa_24
  obtain ⟨x0, x1, x2, xz⟩ := id bxx_24
  go_wp2_with fail
  refine (markMarket_c _ _ _ _ _ _ P W F _ _ ox0_24 (by omega) (by omega) (by omega) (by omega) (by omega) lo_x0 hg_x0 hi_x0).mono ?_
  rintro e w25 ⟨rfl, _, _, _, hh25⟩
  clear a0 a1 a2 az
  clear x0 x1 x2 xz
  have HB25 := hh25.below HB24 gl_x0 HB24.size
  clear ox0_24
  have oW_25 := oW_24.holedLow hh25 lw_W_x0
  clear oW_24
  have ox1_25 := ox1_24.holed hh25 hi_x1_x0
  clear ox1_24
  have oG_25 := oG_24.holed hh25 hi_G_x0
  clear oG_24
  clear bxx_24
  have bxa_25 := bxa_24.holedLow hh25 la_x0
  clear bxa_24
  obtain ⟨a0, a1, a2, az⟩ := id bxa_25
  go_wp2_with fail
  refine (markIntS_c _ _ _ _ _ _ ox1_25 (by omega) (by omega) (by omega)).mono ?_
  rintro e w26 ⟨rfl, ox1m26, g26⟩
  clear a0 a1 a2 az
  have HB26 := HB25.grown g26 HB25.size ge_x1
  have oW_26 := oW_25.grown g26 ap_W_x1
  clear oW_25
  have oG_26 := oG_25.grown g26 ap_G_x1
  clear oG_25
  have bxa_26 := bxa_25.grownR g26 ne_x1
  clear bxa_25
  clear ox1_25
  obtain ⟨a0, a1, a2, az⟩ := id bxa_26
  go_wp2_with fail
  refine (eqIntA2S_same _ _ _ _ _ _ _ _ oG_26 oW_26 (by omega)).mono ?_
  rintro e w27 ⟨rfl, b27⟩
  clear a0 a1 a2 az
  have HB28 := bUp HB26 b27 HB26.size
  have oW_28 := oW_26.below b27
  clear oW_26
  have ox1_28 := ox1m26.below b27
  clear ox1m26
  have oG_28 := oG_26.below b27
  clear oG_26
  have bxa_28 := bxa_26.below b27
  clear bxa_26
  clear ox1_28
  obtain ⟨a0, a1, a2, az⟩ := id bxa_28
  go_wp2_with fail
  refine (markIntA2S_c _ _ _ _ _ _ oG_28 (by omega) (by omega) (by omega)).mono ?_
  rintro e w29 ⟨rfl, oGm29, g29⟩
  clear a0 a1 a2 az
  have HB29 := HB28.grown g29 HB28.size ge_G
  have oW_29 := oW_28.grown g29 ap_W_G
  clear oW_28
  have bxa_29 := bxa_28.grownR g29 ne_G
  clear bxa_28
  clear oG_28
  obtain ⟨a0, a1, a2, az⟩ := id bxa_29
  go_wp2_with fail
  refine (heldIntA2S_c _ _ _ _ _ _ oGm29 (by omega) (by omega) (by omega)).mono ?_
  rintro e w30 ⟨rfl, n30, rfl⟩
  clear a0 a1 a2 az
  have HB31 := bDrewN HB29 n30
  have oW_31 := oW_29.drewN n30
  clear oW_29
  have oG_31 := oGm29.drewN n30
  clear oGm29
  have bxa_31 := bxa_29.drewN n30
  clear bxa_29
  obtain ⟨a0, a1, a2, az⟩ := id bxa_31
  go_wp2_with fail
  refine (toMarket_c A1 P c1 A2 W c2 A3 F c3 _ (r1.below HB31 (Nat.le_refl _)) (r2.below HB31 (Nat.le_refl _)) (r3.below HB31 (Nat.le_refl _)) (by omega) (by omega) (by omega)).mono ?_
  rintro e w32 ⟨gz01, gz02, gz03, rfl, oz0, b32⟩
  clear a0 a1 a2 az
  have lw_W_z0 := fun k hk => oW_31.ltk k hk
  have lw_G_z0 := fun k hk => oG_31.ltk k hk
  have gl_z0 := HB31.size
  have lo_z0 := oz0.lo
  have hg_z0 := oz0.hi
  have la_z0 := bxa_31.2.2.2
  have HB33 := bUp HB31 b32 HB31.size
  have oW_33 := oW_31.below b32
  clear oW_31
  have oG_33 := oG_31.below b32
  clear oG_31
  have bxa_33 := bxa_31.below b32
  clear bxa_31
  have hi_z0 := Nat.le_refl w32.heap.size
  obtain ⟨a0, a1, a2, az⟩ := id bxa_33
  go_wp2_with fail
  refine (toIntS_c _ _ _ _ (ha1.below HB33 (Nat.le_refl _)) (by omega)).mono ?_
  rintro e w34 ⟨rfl, oz1, b34⟩
  clear a0 a1 a2 az
  have ap_W_z1 := rowsApart oW_33 oz1 (Nat.le_refl _)
  have ap_z1_W := rowsApartR oW_33 oz1 (Nat.le_refl _)
  have ap_G_z1 := rowsApart oG_33 oz1 (Nat.le_refl _)
  have ap_z1_G := rowsApartR oG_33 oz1 (Nat.le_refl _)
  have hi_z1_z0 := hi_z0
  have ge_z1 := fun k hk => Nat.le_trans HB33.size (oz1.ge k hk)
  have ne_z1 := row_ne oz1 bxa_33.2.2.2
  have HB35 := bUp HB33 b34 HB33.size
  have oW_35 := oW_33.below b34
  clear oW_33
  have oG_35 := oG_33.below b34
  clear oG_33
  have oz0_35 := oz0.below b34
  clear oz0
  have hi_z0 := Nat.le_trans hi_z0 b34.size
  have bxa_35 := bxa_33.below b34
  clear bxa_33
  obtain ⟨a0, a1, a2, az⟩ := id bxa_35
  go_wp2_with fail
  refine (implLowerPrices_c _ _ _ _ _ _ _ _ _ _ _ _ _ ⟨oz0_35.o1.rd, oz0_35.o2.rd, oz0_35.o3.rd, (by omega), (by omega), (by omega)⟩ oz1.rd (by omega)).mono ?_
  rintro e w36 ⟨AH, cH, rfl, oH, b36⟩
  clear a0 a1 a2 az
  have ap_W_H := oW_35.apart oH (Nat.le_refl _)
  have ap_H_W := oW_35.apartR oH (Nat.le_refl _)
  have ap_G_H := oG_35.apart oH (Nat.le_refl _)
  have ap_H_G := oG_35.apartR oH (Nat.le_refl _)
  have hi_H_z0 := hi_z0
  have ap_z1_H := rowsApart oz1 oH (Nat.le_refl _)
  have ap_H_z1 := rowsApartR oz1 oH (Nat.le_refl _)
  have ge_H := fun k hk => Nat.le_trans HB35.size (oH.ge k hk)
  have ne_H := row_neP oH bxa_35.2.2.2
  have HB37 := bUp HB35 b36 HB35.size
  have oW_37 := oW_35.below b36
  clear oW_35
  have oG_37 := oG_35.below b36
  clear oG_35
  have oz0_37 := oz0_35.below b36
  clear oz0_35
  have hi_z0 := Nat.le_trans hi_z0 b36.size
  have oz1_37 := oz1.below b36
  clear oz1
  have bxa_37 := bxa_35.below b36
  clear bxa_35
  clear oz0_37
  clear oz1_37
  obtain ⟨a0, a1, a2, az⟩ := id bxa_37
  go_wp2_with fail
  refine (eqIntA2S_same _ _ _ _ _ _ _ _ oH oW_37 (by omega)).mono ?_
  rintro e w38 ⟨rfl, b38⟩
  clear a0 a1 a2 az
  have HB39 := bUp HB37 b38 HB37.size
  have oW_39 := oW_37.below b38
  clear oW_37
  have oG_39 := oG_37.below b38
  clear oG_37
  have oH_39 := oH.below b38
  clear oH
  have bxa_39 := bxa_37.below b38
  clear bxa_37
  obtain ⟨a0, a1, a2, az⟩ := id bxa_39
  go_wp2_with fail
  refine (heldIntA2S_c _ _ _ _ _ _ oG_39 (by omega) (by omega) (by omega)).mono ?_
  rintro e w40 ⟨rfl, n40, rfl⟩
  clear a0 a1 a2 az
  have HB41 := bDrewN HB39 n40
  have oW_41 := oW_39.drewN n40
  clear oW_39
  have oG_41 := oG_39.drewN n40
  clear oG_39
  have oH_41 := oH_39.drewN n40
  clear oH_39
  have bxa_41 := bxa_39.drewN n40
  clear bxa_39
  obtain ⟨a0, a1, a2, az⟩ := id bxa_41
  go_wp2
  go_ret
  exact ⟨rfl, by first | exact HB41 | (simpa using HB41)⟩
end Go.Proofs.Ytebobechpdpfbaa
