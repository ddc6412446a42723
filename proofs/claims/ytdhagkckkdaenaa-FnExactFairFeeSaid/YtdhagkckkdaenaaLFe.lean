/- The law FnExactFairFee: walked call by call. (Written by gen_lawm.py.) -/
import Derived.Test.YtdhagkckkdaenaaFeW
import Derived.Test.YtdhagkckkdaenaaMk2
import Derived.Test.YtdhagkckkdaenaaBut
namespace Go.Proofs.Ytdhagkckkdaenaa
open Go.RowKit
set_option maxRecDepth 20000 in
set_option maxHeartbeats 2000000 in
theorem lawFe (A1 : Option Addr) (P : List Int) (c1 : Nat) (A2 : Option Addr) (W : List Int) (c2 : Nat) (A3 : Option Addr) (F : List Int) (c3 : Nat) (a1 : Int) (a2 : Int) (a3 : Int) (w : World) (r1 : Rd w A1 (ints P)) (r2 : Rd w A2 (ints W)) (r3 : Rd w A3 (ints F)) (hn1 : P.length ≤ 9223372036854775807) (hn2 : W.length ≤ 9223372036854775807) (hn3 : F.length ≤ 9223372036854775807) :
    Calls Try.prog 4 #[mkV A1 P.length c1 A2 W.length c2 A3 F.length c3, .int .i64 a1, .int .i64 a2, .int .i64 a3] w fun e w' => e = .returned (.bool true) ∧ Below w.heap.size w w' := by
  have HB0 : Below w.heap.size w (w.alloc (.cells #[.slice A1 P.length c1, .slice A2 W.length c2, .slice A3 F.length c3] 26)) := (Below.refl _ _).alloc (Nat.le_refl _) _
  have bxa := Bx3.new w (.slice A1 P.length c1) (.slice A2 W.length c2) (.slice A3 F.length c3) 26
  go_enter Try.func4, Try.ntmps4
  go_wp2_with fail
  generalize w.alloc (.cells #[.slice A1 P.length c1, .slice A2 W.length c2, .slice A3 F.length c3] 26) = w0 at *
  refine (szArm_c A1 P.length c1 A2 W.length c2 A3 F.length c3 1048576 w0 (by decide) (by decide) hn1 hn2 hn3).mono ?_
  rintro e w1 ⟨⟨r, rfl, hr⟩, b1⟩
  have HB2 := bUp HB0 b1 HB0.size
  have bxa_2 := bxa.below b1
  clear bxa
  rcases hr with hr | ⟨hr, he⟩
  · go_wp2
    go_ret
    exact ⟨rfl, HB2⟩
  have L1 : P.length ≤ 1048576 := by omega
  have L2 : W.length ≤ 1048576 := by omega
  have L3 : F.length ≤ 1048576 := by omega
  clear he
  obtain ⟨a0, a1, a2, az⟩ := id bxa_2
  go_wp2_with fail
  refine (toArm_c A1 P c1 A2 W c2 A3 F c3 _ (r1.below HB2 (Nat.le_refl _)) (r2.below HB2 (Nat.le_refl _)) (r3.below HB2 (Nat.le_refl _)) (by omega) (by omega) (by omega)).mono ?_
  rintro e w3 ⟨gs01, gs02, gs03, rfl, os0, b3⟩
  clear a0 a1 a2 az
  have gl_s0 := HB2.size
  have lo_s0 := os0.lo
  have hg_s0 := os0.hi
  have la_s0 := bxa_2.2.2.2
  have HB4 := bUp HB2 b3 HB2.size
  have bxa_4 := bxa_2.below b3
  clear bxa_2
  have hi_s0 := Nat.le_refl w3.heap.size
  obtain ⟨a0, a1, a2, az⟩ := id bxa_4
  go_wp2_with fail
  refine (specFe_c _ _ _ _ _ _ _ _ _ _ _ _ _ ⟨os0.o1.rd, os0.o2.rd, os0.o3.rd, (by omega), (by omega), (by omega)⟩  ).mono ?_
  rintro e w5 ⟨rfl, b5⟩
  clear a0 a1 a2 az
  have HB6 := bUp HB4 b5 HB4.size
  have os0_6 := os0.below b5
  clear os0
  have hi_s0 := Nat.le_trans hi_s0 b5.size
  have bxa_6 := bxa_4.below b5
  clear bxa_4
  clear os0_6
  obtain ⟨a0, a1, a2, az⟩ := id bxa_6
  go_wp2_with fail
  refine (toArm_c A1 P c1 A2 W c2 A3 F c3 _ (r1.below HB6 (Nat.le_refl _)) (r2.below HB6 (Nat.le_refl _)) (r3.below HB6 (Nat.le_refl _)) (by omega) (by omega) (by omega)).mono ?_
  rintro e w7 ⟨gx01, gx02, gx03, rfl, ox0, b7⟩
  clear a0 a1 a2 az
  have gl_x0 := HB6.size
  have lo_x0 := ox0.lo
  have hg_x0 := ox0.hi
  have la_x0 := bxa_6.2.2.2
  have HB8 := bUp HB6 b7 HB6.size
  have bxa_8 := bxa_6.below b7
  clear bxa_6
  have hi_x0 := Nat.le_refl w7.heap.size
  obtain ⟨a0, a1, a2, az⟩ := id bxa_8
  go_wp2_with fail
  clear a0 a1 a2 az
  have HB9 : Below w.heap.size w (w7.alloc (.cells #[.slice (some ⟨gx01, 0, none⟩) P.length P.length, .slice (some ⟨gx02, 0, none⟩) W.length W.length, .slice (some ⟨gx03, 0, none⟩) F.length F.length] 33)) := HB8.alloc HB8.size _
  have ox0_9 := ox0.alloc (.cells #[.slice (some ⟨gx01, 0, none⟩) P.length P.length, .slice (some ⟨gx02, 0, none⟩) W.length W.length, .slice (some ⟨gx03, 0, none⟩) F.length F.length] 33)
  clear ox0
  have hi_x0 : _ ≤ (w7.alloc (.cells #[.slice (some ⟨gx01, 0, none⟩) P.length P.length, .slice (some ⟨gx02, 0, none⟩) W.length W.length, .slice (some ⟨gx03, 0, none⟩) F.length F.length] 33)).heap.size := Nat.le_trans hi_x0 (by simp)
  have bxa_9 := bxa_8.alloc (.cells #[.slice (some ⟨gx01, 0, none⟩) P.length P.length, .slice (some ⟨gx02, 0, none⟩) W.length W.length, .slice (some ⟨gx03, 0, none⟩) F.length F.length] 33)
  clear bxa_8
  have bxx := Bx3.new w7 (.slice (some ⟨gx01, 0, none⟩) P.length P.length) (.slice (some ⟨gx02, 0, none⟩) W.length W.length) (.slice (some ⟨gx03, 0, none⟩) F.length F.length) 33
  generalize w7.alloc (.cells #[.slice (some ⟨gx01, 0, none⟩) P.length P.length, .slice (some ⟨gx02, 0, none⟩) W.length W.length, .slice (some ⟨gx03, 0, none⟩) F.length F.length] 33) = v9 at *
  generalize w7.heap.size = gx at *
  obtain ⟨a0, a1, a2, az⟩ := id bxa_9
  obtain ⟨x0, x1, x2, xz⟩ := id bxx
  go_wp2_with fail
  refine (implFe_c _ _ _ _ _ _ _ _ _ _ _ _ _ ⟨ox0_9.o1.rd, ox0_9.o2.rd, ox0_9.o3.rd, (by omega), (by omega), (by omega)⟩  ).mono ?_
  rintro e w10 ⟨rfl, b10⟩
  clear a0 a1 a2 az
  clear x0 x1 x2 xz
  have HB11 := bUp HB9 b10 HB9.size
  have ox0_11 := ox0_9.below b10
  clear ox0_9
  have hi_x0 := Nat.le_trans hi_x0 b10.size
  have bxa_11 := bxa_9.below b10
  clear bxa_9
  have bxx_11 := bxx.below b10
  clear bxx
  obtain ⟨a0, a1, a2, az⟩ := id bxa_11
  obtain ⟨x0, x1, x2, xz⟩ := id bxx_11
  have SK : Hid (∀ w', Below w10.heap.size w10 w' → w'.cell? ⟨gx, 0, none⟩ = some (.slice (some ⟨gx01, 0, none⟩) P.length P.length) ∧ w'.cell? ⟨gx, 1, none⟩ = some (.slice (some ⟨gx02, 0, none⟩) W.length W.length) ∧ w'.cell? ⟨gx, 2, none⟩ = some (.slice (some ⟨gx03, 0, none⟩) F.length F.length) ∧ w'.cell? ⟨w.heap.size, 0, none⟩ = some (.slice A1 P.length c1) ∧ w'.cell? ⟨w.heap.size, 1, none⟩ = some (.slice A2 W.length c2) ∧ w'.cell? ⟨w.heap.size, 2, none⟩ = some (.slice A3 F.length c3)) :=
    Lib.hid fun w' HV => ⟨(HV.cell (p := ⟨gx, 0, none⟩) xz).trans x0, (HV.cell (p := ⟨gx, 1, none⟩) xz).trans x1, (HV.cell (p := ⟨gx, 2, none⟩) xz).trans x2, (HV.cell (p := ⟨w.heap.size, 0, none⟩) az).trans a0, (HV.cell (p := ⟨w.heap.size, 1, none⟩) az).trans a1, (HV.cell (p := ⟨w.heap.size, 2, none⟩) az).trans a2⟩
  go_upto_region 10 with fail
  clear a0 a1 a2 az
  clear x0 x1 x2 xz
  refine tamed_region (S := fun w' => w'.cell? ⟨gx, 0, none⟩ = some (.slice (some ⟨gx01, 0, none⟩) P.length P.length) ∧ w'.cell? ⟨gx, 1, none⟩ = some (.slice (some ⟨gx02, 0, none⟩) W.length W.length) ∧ w'.cell? ⟨gx, 2, none⟩ = some (.slice (some ⟨gx03, 0, none⟩) F.length F.length) ∧ w'.cell? ⟨w.heap.size, 0, none⟩ = some (.slice A1 P.length c1) ∧ w'.cell? ⟨w.heap.size, 1, none⟩ = some (.slice A2 W.length c2) ∧ w'.cell? ⟨w.heap.size, 2, none⟩ = some (.slice A3 F.length c3)) (fun _ => false) (by kernel_rfl) ?_
  have hS0 := SK.out w10.drew (Below.drew (Below.refl _ _))
  refine tame (k := 0) ?_ rfl (by kernel_rfl) (by kernel_rfl) (by kernel_rfl) (by kernel_rfl) (fun _ _ _ h => h) (by rfl) hS0 (fun v hv => ?_) ?_
  rotate_left
  · (obtain ⟨g0, g1, g2, g3, g4, g5⟩ := hv; go_simp; all_goals rfl)
  simp only [Act.put, List.setIfInBounds_toArray]
  refine tame (k := 1) ?_ rfl (by kernel_rfl) (by kernel_rfl) (by kernel_rfl) (by kernel_rfl) (fun _ _ _ h => h) (by rfl) hS0 (fun v hv => ?_) ?_
  rotate_left
  · (obtain ⟨g0, g1, g2, g3, g4, g5⟩ := hv; go_simp; all_goals rfl)
  simp only [Act.put]
  clear hS0
  refine tame_one (k := 2) (by kernel_rfl) rfl (by rfl) ?_
  go_simp
  refine (toArm_c A1 P c1 A2 W c2 A3 F c3 _ (r1.below HB11 (Nat.le_refl _)).drew (r2.below HB11 (Nat.le_refl _)).drew (r3.below HB11 (Nat.le_refl _)).drew (by omega) (by omega) (by omega)).mono ?_
  rintro e w12 ⟨h1, h2, h3, rfl, oy, b12⟩
  have hv12 := bUp (Below.drew (Below.refl w10.heap.size w10)) b12 (Nat.le_refl _)
  have oxy := ox0_11.below hv12
  refine ⟨SK.out _ hv12, ?_⟩
  refine tame_one (k := 3) (by kernel_rfl) rfl (by rfl) ?_
  go_simp
  refine (eqArm_same (some ⟨gx01, 0, none⟩) P _ (some ⟨gx02, 0, none⟩) W _ (some ⟨gx03, 0, none⟩) F _ (some ⟨h1, 0, none⟩) _ (some ⟨h2, 0, none⟩) _ (some ⟨h3, 0, none⟩) _ _ oxy.o1.rd oxy.o2.rd oxy.o3.rd oy.o1.rd oy.o2.rd oy.o3.rd (by omega) (by omega) (by omega)).mono ?_
  rintro e w13 ⟨rfl, b13⟩
  have hv13 := bUp hv12 b13 hv12.size
  clear oxy oy b12 b13 hv12
  refine ⟨SK.out _ hv13, ?_⟩
  refine tame_one (k := 4) (by kernel_rfl) rfl (by rfl) ?_
  go_simp
  refine ⟨SK.out _ hv13, ?_⟩
  refine tame_end (by kernel_rfl) ?_
  clear SK
  have HB14 := bUp HB11 hv13 HB11.size
  have ox0_14 := ox0_11.below hv13
  clear ox0_11
  have hi_x0 := Nat.le_trans hi_x0 hv13.size
  have bxa_14 := bxa_11.below hv13
  clear bxa_11
  have bxx_14 := bxx_11.below hv13
  clear bxx_11
  obtain ⟨a0, a1, a2, az⟩ := id bxa_14
  obtain ⟨x0, x1, x2, xz⟩ := id bxx_14
  go_wp2
  go_ret
  exact ⟨rfl, by first | exact HB14 | (simpa using HB14)⟩
end Go.Proofs.Ytdhagkckkdaenaa
