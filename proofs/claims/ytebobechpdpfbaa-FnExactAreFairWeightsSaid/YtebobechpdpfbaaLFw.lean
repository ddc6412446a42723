/- The law FnExactAreFairWeights: walked call by call. (Written by gen_lawm.py.) -/
import Derived.Test.YtebobechpdpfbaaAfT
import Derived.Test.YtebobechpdpfbaaMk2
namespace Go.Proofs.Ytebobechpdpfbaa
open Go.RowKit
set_option maxRecDepth 20000 in
set_option maxHeartbeats 2000000 in
theorem lawFw (A1 : Option Addr) (P : List Int) (c1 : Nat) (A2 : Option Addr) (W : List Int) (c2 : Nat) (A3 : Option Addr) (F : List Int) (c3 : Nat) (A1x : Option Addr) (xs1 : List Int) (c1x : Nat) (w : World) (r1 : Rd w A1 (ints P)) (r2 : Rd w A2 (ints W)) (r3 : Rd w A3 (ints F)) (hn1 : P.length ≤ 9223372036854775807) (hn2 : W.length ≤ 9223372036854775807) (hn3 : F.length ≤ 9223372036854775807) (ha1 : Rd w A1x (ints xs1)) :
    Calls Try.prog 4 #[mkV A1 P.length c1 A2 W.length c2 A3 F.length c3, .slice A1x xs1.length c1x] w fun e w' => e = .returned (.bool true) ∧ Below w.heap.size w w' := by
  have HB0 : Below w.heap.size w (w.alloc (.cells #[.slice A1 P.length c1, .slice A2 W.length c2, .slice A3 F.length c3] 26)) := (Below.refl _ _).alloc (Nat.le_refl _) _
  have bxa := Bx3.new w (.slice A1 P.length c1) (.slice A2 W.length c2) (.slice A3 F.length c3) 26
  by_cases hl1 : 1048576 < xs1.length
  · go_enter Try.func4, Try.ntmps4
    go_wp2
    go_ret
    exact ⟨rfl, HB0⟩
  go_enter Try.func4, Try.ntmps4
  go_wp2_with fail
  generalize w.alloc (.cells #[.slice A1 P.length c1, .slice A2 W.length c2, .slice A3 F.length c3] 26) = w0 at *
  refine (szMarket_c A1 P.length c1 A2 W.length c2 A3 F.length c3 1048576 w0 (by decide) (by decide) hn1 hn2 hn3).mono ?_
  rintro e w1 ⟨⟨r, rfl, hr⟩, b1⟩
  have HB2 := bUp HB0 b1 HB0.size
  have bxa_2 := bxa.below b1
  clear bxa
  rcases hr with hr | ⟨hr, he⟩
  · go_wp2
    go_ret
    exact ⟨rfl, HB2⟩
  have L1 : P.length ≤ 1048576 := by omega
  have L2 : W.length ≤ 1048576 := by omega
  have L3 : F.length ≤ 1048576 := by omega
  clear he
  obtain ⟨a0, a1, a2, az⟩ := id bxa_2
  go_wp2_with fail
  refine (toMarket_c A1 P c1 A2 W c2 A3 F c3 _ (r1.below HB2 (Nat.le_refl _)) (r2.below HB2 (Nat.le_refl _)) (r3.below HB2 (Nat.le_refl _)) (by omega) (by omega) (by omega)).mono ?_
  rintro e w3 ⟨gs01, gs02, gs03, rfl, os0, b3⟩
  clear a0 a1 a2 az
  have gl_s0 := HB2.size
  have lo_s0 := os0.lo
  have hg_s0 := os0.hi
  have la_s0 := bxa_2.2.2.2
  have HB4 := bUp HB2 b3 HB2.size
  have bxa_4 := bxa_2.below b3
  clear bxa_2
  have hi_s0 := Nat.le_refl w3.heap.size
  obtain ⟨a0, a1, a2, az⟩ := id bxa_4
  go_wp2_with fail
  refine (toIntS_c _ _ _ _ (ha1.below HB4 (Nat.le_refl _)) (by omega)).mono ?_
  rintro e w5 ⟨rfl, os1, b5⟩
  clear a0 a1 a2 az
  have hi_s1_s0 := hi_s0
  have ge_s1 := fun k hk => Nat.le_trans HB4.size (os1.ge k hk)
  have ne_s1 := row_ne os1 bxa_4.2.2.2
  have HB6 := bUp HB4 b5 HB4.size
  have os0_6 := os0.below b5
  clear os0
  have hi_s0 := Nat.le_trans hi_s0 b5.size
  have bxa_6 := bxa_4.below b5
  clear bxa_4
  obtain ⟨a0, a1, a2, az⟩ := id bxa_6
  go_wp2_with fail
  refine (specFw_c _ _ _ _ _ _ _ _ _ _ _ _ _ ⟨os0_6.o1.rd, os0_6.o2.rd, os0_6.o3.rd, (by omega), (by omega), (by omega)⟩ os1.rd (by omega)).mono ?_
  rintro e w7 ⟨rfl, b7⟩
  clear a0 a1 a2 az
  have HB8 := bUp HB6 b7 HB6.size
  have os0_8 := os0_6.below b7
  clear os0_6
  have hi_s0 := Nat.le_trans hi_s0 b7.size
  have os1_8 := os1.below b7
  clear os1
  have bxa_8 := bxa_6.below b7
  clear bxa_6
  clear os0_8
  clear os1_8
  obtain ⟨a0, a1, a2, az⟩ := id bxa_8
  go_wp2_with fail
  refine (toMarket_c A1 P c1 A2 W c2 A3 F c3 _ (r1.below HB8 (Nat.le_refl _)) (r2.below HB8 (Nat.le_refl _)) (r3.below HB8 (Nat.le_refl _)) (by omega) (by omega) (by omega)).mono ?_
  rintro e w9 ⟨gx01, gx02, gx03, rfl, ox0, b9⟩
  clear a0 a1 a2 az
  have gl_x0 := HB8.size
  have lo_x0 := ox0.lo
  have hg_x0 := ox0.hi
  have la_x0 := bxa_8.2.2.2
  have HB10 := bUp HB8 b9 HB8.size
  have bxa_10 := bxa_8.below b9
  clear bxa_8
  have hi_x0 := Nat.le_refl w9.heap.size
  obtain ⟨a0, a1, a2, az⟩ := id bxa_10
  go_wp2_with fail
  clear a0 a1 a2 az
  have HB11 : Below w.heap.size w (w9.alloc (.cells #[.slice (some ⟨gx01, 0, none⟩) P.length P.length, .slice (some ⟨gx02, 0, none⟩) W.length W.length, .slice (some ⟨gx03, 0, none⟩) F.length F.length] 32)) := HB10.alloc HB10.size _
  have ox0_11 := ox0.alloc (.cells #[.slice (some ⟨gx01, 0, none⟩) P.length P.length, .slice (some ⟨gx02, 0, none⟩) W.length W.length, .slice (some ⟨gx03, 0, none⟩) F.length F.length] 32)
  clear ox0
  have hi_x0 : _ ≤ (w9.alloc (.cells #[.slice (some ⟨gx01, 0, none⟩) P.length P.length, .slice (some ⟨gx02, 0, none⟩) W.length W.length, .slice (some ⟨gx03, 0, none⟩) F.length F.length] 32)).heap.size := Nat.le_trans hi_x0 (by simp)
  have bxa_11 := bxa_10.alloc (.cells #[.slice (some ⟨gx01, 0, none⟩) P.length P.length, .slice (some ⟨gx02, 0, none⟩) W.length W.length, .slice (some ⟨gx03, 0, none⟩) F.length F.length] 32)
  clear bxa_10
  have bxx := Bx3.new w9 (.slice (some ⟨gx01, 0, none⟩) P.length P.length) (.slice (some ⟨gx02, 0, none⟩) W.length W.length) (.slice (some ⟨gx03, 0, none⟩) F.length F.length) 32
  generalize w9.alloc (.cells #[.slice (some ⟨gx01, 0, none⟩) P.length P.length, .slice (some ⟨gx02, 0, none⟩) W.length W.length, .slice (some ⟨gx03, 0, none⟩) F.length F.length] 32) = v11 at *
  generalize w9.heap.size = gx at *
  obtain ⟨a0, a1, a2, az⟩ := id bxa_11
  obtain ⟨x0, x1, x2, xz⟩ := id bxx
  go_wp2_with fail
  refine (toIntS_c _ _ _ _ (ha1.below HB11 (Nat.le_refl _)) (by omega)).mono ?_
  rintro e w12 ⟨rfl, ox1, b12⟩
  clear a0 a1 a2 az
  clear x0 x1 x2 xz
  have hi_x1_x0 := hi_x0
  have ge_x1 := fun k hk => Nat.le_trans HB11.size (ox1.ge k hk)
  have ne_x1 := row_ne ox1 bxa_11.2.2.2
  have HB13 := bUp HB11 b12 HB11.size
  have ox0_13 := ox0_11.below b12
  clear ox0_11
  have hi_x0 := Nat.le_trans hi_x0 b12.size
  have bxa_13 := bxa_11.below b12
  clear bxa_11
  have bxx_13 := bxx.below b12
  clear bxx
  obtain ⟨a0, a1, a2, az⟩ := id bxa_13
  obtain ⟨x0, x1, x2, xz⟩ := id bxx_13
  go_wp2_with fail
  refine (implFw_c _ _ _ _ _ _ _ _ _ _ _ _ _ ⟨ox0_13.o1.rd, ox0_13.o2.rd, ox0_13.o3.rd, (by omega), (by omega), (by omega)⟩ ox1.rd (by omega)).mono ?_
  rintro e w14 ⟨rfl, b14⟩
  clear a0 a1 a2 az
  clear x0 x1 x2 xz
  have HB15 := bUp HB13 b14 HB13.size
  have ox0_15 := ox0_13.below b14
  clear ox0_13
  have hi_x0 := Nat.le_trans hi_x0 b14.size
  have ox1_15 := ox1.below b14
  clear ox1
  have bxa_15 := bxa_13.below b14
  clear bxa_13
  have bxx_15 := bxx_13.below b14
  clear bxx_13
  obtain ⟨a0, a1, a2, az⟩ := id bxa_15
  obtain ⟨x0, x1, x2, xz⟩ := id bxx_15
  have SK : Hid (∀ w', Below w14.heap.size w14 w' → w'.cell? ⟨gx, 0, none⟩ = some (.slice (some ⟨gx01, 0, none⟩) P.length P.length) ∧ w'.cell? ⟨gx, 1, none⟩ = some (.slice (some ⟨gx02, 0, none⟩) W.length W.length) ∧ w'.cell? ⟨gx, 2, none⟩ = some (.slice (some ⟨gx03, 0, none⟩) F.length F.length) ∧ w'.cell? ⟨w.heap.size, 0, none⟩ = some (.slice A1 P.length c1) ∧ w'.cell? ⟨w.heap.size, 1, none⟩ = some (.slice A2 W.length c2) ∧ w'.cell? ⟨w.heap.size, 2, none⟩ = some (.slice A3 F.length c3)) :=
    Lib.hid fun w' HV => ⟨(HV.cell (p := ⟨gx, 0, none⟩) xz).trans x0, (HV.cell (p := ⟨gx, 1, none⟩) xz).trans x1, (HV.cell (p := ⟨gx, 2, none⟩) xz).trans x2, (HV.cell (p := ⟨w.heap.size, 0, none⟩) az).trans a0, (HV.cell (p := ⟨w.heap.size, 1, none⟩) az).trans a1, (HV.cell (p := ⟨w.heap.size, 2, none⟩) az).trans a2⟩
  go_upto_region 13 with fail
  clear a0 a1 a2 az
  clear x0 x1 x2 xz
  refine tamed_region (S := fun w' => w'.cell? ⟨gx, 0, none⟩ = some (.slice (some ⟨gx01, 0, none⟩) P.length P.length) ∧ w'.cell? ⟨gx, 1, none⟩ = some (.slice (some ⟨gx02, 0, none⟩) W.length W.length) ∧ w'.cell? ⟨gx, 2, none⟩ = some (.slice (some ⟨gx03, 0, none⟩) F.length F.length) ∧ w'.cell? ⟨w.heap.size, 0, none⟩ = some (.slice A1 P.length c1) ∧ w'.cell? ⟨w.heap.size, 1, none⟩ = some (.slice A2 W.length c2) ∧ w'.cell? ⟨w.heap.size, 2, none⟩ = some (.slice A3 F.length c3)) (fun _ => false) (by kernel_rfl) ?_
  have hS0 := SK.out w14.drew (Below.drew (Below.refl _ _))
  refine tame (k := 0) ?_ rfl (by kernel_rfl) (by kernel_rfl) (by kernel_rfl) (by kernel_rfl) (fun _ _ _ h => h) (by rfl) hS0 (fun v hv => ?_) ?_
  rotate_left
  · (obtain ⟨g0, g1, g2, g3, g4, g5⟩ := hv; go_simp; all_goals rfl)
  simp only [Act.put, List.setIfInBounds_toArray]
  refine tame (k := 1) ?_ rfl (by kernel_rfl) (by kernel_rfl) (by kernel_rfl) (by kernel_rfl) (fun _ _ _ h => h) (by rfl) hS0 (fun v hv => ?_) ?_
  rotate_left
  · (obtain ⟨g0, g1, g2, g3, g4, g5⟩ := hv; go_simp; all_goals rfl)
  simp only [Act.put]
  clear hS0
  refine tame_one (k := 2) (by kernel_rfl) rfl (by rfl) ?_
  go_simp
  refine (toMarket_c A1 P c1 A2 W c2 A3 F c3 _ (r1.below HB15 (Nat.le_refl _)).drew (r2.below HB15 (Nat.le_refl _)).drew (r3.below HB15 (Nat.le_refl _)).drew (by omega) (by omega) (by omega)).mono ?_
  rintro e w16 ⟨h1, h2, h3, rfl, oy, b16⟩
  have hv16 := bUp (Below.drew (Below.refl w14.heap.size w14)) b16 (Nat.le_refl _)
  have oxy := ox0_15.below hv16
  refine ⟨SK.out _ hv16, ?_⟩
  refine tame_one (k := 3) (by kernel_rfl) rfl (by rfl) ?_
  go_simp
  refine (eqMarket_same (some ⟨gx01, 0, none⟩) P _ (some ⟨gx02, 0, none⟩) W _ (some ⟨gx03, 0, none⟩) F _ (some ⟨h1, 0, none⟩) _ (some ⟨h2, 0, none⟩) _ (some ⟨h3, 0, none⟩) _ _ oxy.o1.rd oxy.o2.rd oxy.o3.rd oy.o1.rd oy.o2.rd oy.o3.rd (by omega) (by omega) (by omega)).mono ?_
  rintro e w17 ⟨rfl, b17⟩
  have hv17 := bUp hv16 b17 hv16.size
  clear oxy oy b16 b17 hv16
  refine ⟨SK.out _ hv17, ?_⟩
  refine tame_one (k := 4) (by kernel_rfl) rfl (by rfl) ?_
  go_simp
  refine ⟨SK.out _ hv17, ?_⟩
  refine tame_end (by kernel_rfl) ?_
  clear SK
  have HB18 := bUp HB15 hv17 HB15.size
  have ox0_18 := ox0_15.below hv17
  clear ox0_15
  have hi_x0 := Nat.le_trans hi_x0 hv17.size
  have ox1_18 := ox1_15.below hv17
  clear ox1_15
  have bxa_18 := bxa_15.below hv17
  clear bxa_15
  have bxx_18 := bxx_15.below hv17
  clear bxx_15
  obtain ⟨a0, a1, a2, az⟩ := id bxa_18
  obtain ⟨x0, x1, x2, xz⟩ := id bxx_18
  go_wp2_with fail
  refine (toIntS_c _ _ _ _ (ha1.below HB18 (Nat.le_refl _)) (by omega)).mono ?_
  rintro e w19 ⟨rfl, oy1, b19⟩
  clear a0 a1 a2 az
  clear x0 x1 x2 xz
  have hi_y1_x0 := hi_x0
  have ap_x1_y1 := ox1_18.apart oy1 (Nat.le_refl _)
  have ap_y1_x1 := ox1_18.apartR oy1 (Nat.le_refl _)
  have ge_y1 := fun k hk => Nat.le_trans HB18.size (oy1.ge k hk)
  have ne_y1 := row_ne oy1 bxa_18.2.2.2
  have HB20 := bUp HB18 b19 HB18.size
  have ox0_20 := ox0_18.below b19
  clear ox0_18
  have hi_x0 := Nat.le_trans hi_x0 b19.size
  have ox1_20 := ox1_18.below b19
  clear ox1_18
  have bxa_20 := bxa_18.below b19
  clear bxa_18
  have bxx_20 := bxx_18.below b19
  clear bxx_18
  obtain ⟨a0, a1, a2, az⟩ := id bxa_20
  obtain ⟨x0, x1, x2, xz⟩ := id bxx_20
  go_wp2_with fail
  refine (eqIntS_c _ _ _ _ _ _ _ ox1_20.rd oy1.rd (by omega) (by omega)).mono ?_
  rintro e w21 ⟨rfl, n21, rfl⟩
  clear a0 a1 a2 az
  clear x0 x1 x2 xz
  have HB22 := bDrewN HB20 n21
  have ox0_22 := ox0_20.drewN n21
  clear ox0_20
  have ox1_22 := ox1_20.drewN n21
  clear ox1_20
  have oy1_22 := oy1.drewN n21
  clear oy1
  have bxa_22 := bxa_20.drewN n21
  clear bxa_20
  have bxx_22 := bxx_20.drewN n21
  clear bxx_20
  clear oy1_22
  obtain ⟨a0, a1, a2, az⟩ := id bxa_22
  obtain ⟨x0, x1, x2, xz⟩ := id bxx_22
  go_wp2
  go_ret
  exact ⟨rfl, by first | exact HB22 | (simpa using HB22)⟩
end Go.Proofs.Ytebobechpdpfbaa
