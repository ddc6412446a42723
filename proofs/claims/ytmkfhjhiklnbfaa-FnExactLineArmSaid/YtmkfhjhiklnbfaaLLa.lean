/- The law FnExactLineArm: walked call by call. (Written by gen_lla.py.) -/
import Derived.Test.YtmkfhjhiklnbfaaLaS
import Derived.Test.YtmkfhjhiklnbfaaLaT
import Derived.Test.YtmkfhjhiklnbfaaLaM
namespace Go.Proofs.Ytmkfhjhiklnbfaa
open Go.RowKit
theorem la_lenP (c : List Int) : (laP c).length ≤ 16777216 := by
  unfold laP
  split
  · next h => rw [lnP_length]; simp [lineB] at h; omega
  · simp
theorem la_lenW (c : List Int) : (laW c).length ≤ 16777216 := by
  unfold laW
  split
  · next h => rw [lnW_length]; simp [lineB] at h; omega
  · simp
theorem la_lenN (c : List Int) : (laN c).length ≤ 16777216 := by
  unfold laN
  split
  · next h => simp [lineB] at h; simp; omega
  · simp
set_option maxRecDepth 20000 in
set_option maxHeartbeats 2000000 in
theorem lawLa (A0 : Option Addr) (xs0 : List Int) (c0 : Nat) (w : World) (ha0 : Rd w A0 (ints xs0)) :
    Calls Try.prog 3 #[.slice A0 xs0.length c0] w fun e w' => e = .returned (.bool true) ∧ Below w.heap.size w w' := by
  by_cases hl0 : 1048576 < xs0.length
  · go_enter Try.func3, Try.ntmps3
    go_wp2
    go_ret
    exact ⟨rfl, Below.refl _ _⟩
  have hP := la_lenP xs0
  have hW := la_lenW xs0
  have hN := la_lenN xs0
  have HB0 : Below w.heap.size w w := Below.refl _ _
  go_enter Try.func3, Try.ntmps3
  go_wp2_with fail
  refine (toIntS_c _ _ _ _ (ha0.below HB0 (Nat.le_refl _)) (by omega)).mono ?_
  rintro e w1 ⟨rfl, s0, b1⟩
  have HB2 := bUp HB0 b1 HB0.size
  have loW := HB2.size
  go_wp2_with fail
  refine (specLine_c _ _ _ _ s0.rd (fun ad h => (s0.lt ad h).2) (by omega)).mono ?_
  rintro e w4 ⟨AW1, cW1, AW2, cW2, AW3, cW3, rfl, oW1, oW2, oW3, dW12, dW13, dW23, b4⟩
  have HB5 := bUp HB2 b4 HB2.size
  have s0_6 := s0.below b4
  clear s0
  have LW : Arm3 w4 w1.heap.size w4.heap.size AW1 cW1 AW2 cW2 AW3 cW3 (laP xs0) (laW xs0) (laN xs0) := ⟨oW1, oW2, oW3, fun k hk => oW1.ltk k hk, fun k hk => oW2.ltk k hk, fun k hk => oW3.ltk k hk, dW12, dW13, dW23⟩
  clear oW1 oW2 oW3 dW12 dW13 dW23
  have HB7 := HB5.alloc HB5.size (.cells #[.slice AW1 (laP xs0).length cW1, .slice AW2 (laW xs0).length cW2, .slice AW3 (laN xs0).length cW3] 26)
  have s0_8 := s0_6.alloc (.cells #[.slice AW1 (laP xs0).length cW1, .slice AW2 (laW xs0).length cW2, .slice AW3 (laN xs0).length cW3] 26)
  clear s0_6
  have LW_8 := LW.alloc (.cells #[.slice AW1 (laP xs0).length cW1, .slice AW2 (laW xs0).length cW2, .slice AW3 (laN xs0).length cW3] 26)
  clear LW
  have bW := Bx3.new w4 (.slice AW1 (laP xs0).length cW1) (.slice AW2 (laW xs0).length cW2) (.slice AW3 (laN xs0).length cW3) 26
  have szW := Lib.hid (show (w4.alloc (.cells #[.slice AW1 (laP xs0).length cW1, .slice AW2 (laW xs0).length cW2, .slice AW3 (laN xs0).length cW3] 26)).heap.size = w4.heap.size + 1 by simp)
  have lwW := b4.size
  go_wp2_with fail
  generalize w4.alloc (.cells #[.slice AW1 (laP xs0).length cW1, .slice AW2 (laW xs0).length cW2, .slice AW3 (laN xs0).length cW3] 26) = v4 at *
  clear s0_8
  go_wp2_with fail
  refine (toIntS_c _ _ _ _ (ha0.below HB7 (Nat.le_refl _)) (by omega)).mono ?_
  rintro e w9 ⟨rfl, x0, b9⟩
  have HB10 := bUp HB7 b9 HB7.size
  have LW_11 := LW_8.below b9
  clear LW_8
  have bW_11 := bW.below b9
  clear bW
  have ltx : v4.heap.size < w9.heap.size := (x0.lt _ rfl).2
  have loG := HB10.size
  go_wp2_with fail
  refine (implLine_c _ _ _ _ x0.rd (by omega)).mono ?_
  rintro e w12 ⟨AG1, cG1, AG2, cG2, AG3, cG3, rfl, oG1, oG2, oG3, dG12, dG13, dG23, b12⟩
  have HB13 := bUp HB10 b12 HB10.size
  have LW_14 := LW_11.below b12
  clear LW_11
  have bW_14 := bW_11.below b12
  clear bW_11
  have x0_14 := x0.below b12
  clear x0
  have LG : Arm3 w12 w9.heap.size w12.heap.size AG1 cG1 AG2 cG2 AG3 cG3 (laP xs0) (laW xs0) (laN xs0) := ⟨oG1, oG2, oG3, fun k hk => oG1.ltk k hk, fun k hk => oG2.ltk k hk, fun k hk => oG3.ltk k hk, dG12, dG13, dG23⟩
  clear oG1 oG2 oG3 dG12 dG13 dG23
  obtain ⟨fW0, fW1, fW2, fWz⟩ := id bW_14
  have HB15 := HB13.alloc HB13.size (.cells #[.slice AG1 (laP xs0).length cG1, .slice AG2 (laW xs0).length cG2, .slice AG3 (laN xs0).length cG3] 26)
  have LW_16 := LW_14.alloc (.cells #[.slice AG1 (laP xs0).length cG1, .slice AG2 (laW xs0).length cG2, .slice AG3 (laN xs0).length cG3] 26)
  clear LW_14
  have bW_16 := bW_14.alloc (.cells #[.slice AG1 (laP xs0).length cG1, .slice AG2 (laW xs0).length cG2, .slice AG3 (laN xs0).length cG3] 26)
  clear bW_14
  have x0_16 := x0_14.alloc (.cells #[.slice AG1 (laP xs0).length cG1, .slice AG2 (laW xs0).length cG2, .slice AG3 (laN xs0).length cG3] 26)
  clear x0_14
  have LG_16 := LG.alloc (.cells #[.slice AG1 (laP xs0).length cG1, .slice AG2 (laW xs0).length cG2, .slice AG3 (laN xs0).length cG3] 26)
  clear LG
  have bG := Bx3.new w12 (.slice AG1 (laP xs0).length cG1) (.slice AG2 (laW xs0).length cG2) (.slice AG3 (laN xs0).length cG3) 26
  have szG := Lib.hid (show (w12.alloc (.cells #[.slice AG1 (laP xs0).length cG1, .slice AG2 (laW xs0).length cG2, .slice AG3 (laN xs0).length cG3] 26)).heap.size = w12.heap.size + 1 by simp)
  have lwG := b12.size
  go_wp2_with fail
  generalize w12.alloc (.cells #[.slice AG1 (laP xs0).length cG1, .slice AG2 (laW xs0).length cG2, .slice AG3 (laN xs0).length cG3] 26) = v12 at *
  clear fW0 fW1 fW2 fWz
  obtain ⟨fG0, fG1, fG2, fGz⟩ := id bG
  obtain ⟨fW0, fW1, fW2, fWz⟩ := id bW_16
  go_wp2_with fail
  refine (eqArm_same _ _ _ _ _ _ _ _ _ _ _ _ _ _ _ _ LG_16.o1.rd LG_16.o2.rd LG_16.o3.rd LW_16.o1.rd LW_16.o2.rd LW_16.o3.rd hP hW hN).mono ?_
  rintro e w17 ⟨rfl, b17⟩
  clear fG0 fG1 fG2 fGz
  clear fW0 fW1 fW2 fWz
  have HB18 := bUp HB15 b17 HB15.size
  have LW_19 := LW_16.below b17
  clear LW_16
  have bW_19 := bW_16.below b17
  clear bW_16
  have x0_19 := x0_16.below b17
  clear x0_16
  have LG_19 := LG_16.below b17
  clear LG_16
  have bG_19 := bG.below b17
  clear bG
  go_wp2_with fail
  refine (toIntS_c _ _ _ _ (ha0.below HB18 (Nat.le_refl _)) (by omega)).mono ?_
  rintro e w20 ⟨rfl, y0, b20⟩
  have HB21 := bUp HB18 b20 HB18.size
  have LW_22 := LW_19.below b20
  clear LW_19
  have bW_22 := bW_19.below b20
  clear bW_19
  have x0_22 := x0_19.below b20
  clear x0_19
  have LG_22 := LG_19.below b20
  clear LG_19
  have bG_22 := bG_19.below b20
  clear bG_19
  go_wp2_with fail
  refine (eqIntS_c _ _ _ _ _ _ _ x0_22.rd y0.rd (by omega) (by omega)).mono ?_
  rintro e w23 ⟨rfl, n23, rfl⟩
  have HB24 := bDrewN HB21 n23
  have LW_25 := LW_22.drewN n23
  clear LW_22
  have bW_25 := bW_22.drewN n23
  clear bW_22
  have x0_25 := x0_22.drewN n23
  clear x0_22
  have LG_25 := LG_22.drewN n23
  clear LG_22
  have bG_25 := bG_22.drewN n23
  clear bG_22
  have y0_25 := y0.drewN n23
  clear y0
  clear y0_25
  go_wp2_with fail
  refine (markIntS_c _ _ _ _ _ _ x0_25 (by omega) (by decide) (by decide)).mono ?_
  rintro e w26 ⟨rfl, ox, g26⟩
  have HB26m := HB24.grown g26 HB24.size (fun k hk => by have := x0_25.ge k hk; have e1 := szW.out; have e2 := szG.out; omega)
  clear x0_25
  have LW_27 := LW_25.grown g26 (fun k hk => by simp [blk] at hk; have e1 := szW.out; have e2 := szG.out; omega)
  clear LW_25
  have bW_27 := bW_25.grownR g26 (by have e1 := szW.out; have e2 := szG.out; simp [blk]; omega)
  clear bW_25
  have LG_27 := LG_25.grown g26 (fun k hk => by simp [blk] at hk; have e1 := szW.out; have e2 := szG.out; omega)
  clear LG_25
  have bG_27 := bG_25.grownR g26 (by have e1 := szW.out; have e2 := szG.out; simp [blk]; omega)
  clear bG_25
  obtain ⟨fG0, fG1, fG2, fGz⟩ := id bG_27
  obtain ⟨fW0, fW1, fW2, fWz⟩ := id bW_27
  go_wp2_with fail
  refine (eqArm_same _ _ _ _ _ _ _ _ _ _ _ _ _ _ _ _ LG_27.o1.rd LG_27.o2.rd LG_27.o3.rd LW_27.o1.rd LW_27.o2.rd LW_27.o3.rd hP hW hN).mono ?_
  rintro e w28 ⟨rfl, b28⟩
  clear fG0 fG1 fG2 fGz
  clear fW0 fW1 fW2 fWz
  have HB29 := bUp HB26m b28 HB26m.size
  have LW_30 := LW_27.below b28
  clear LW_27
  have bW_30 := bW_27.below b28
  clear bW_27
  have LG_30 := LG_27.below b28
  clear LG_27
  have bG_30 := bG_27.below b28
  clear bG_27
  obtain ⟨fG0, fG1, fG2, fGz⟩ := id bG_30
  go_wp2_with fail
  refine (markArmR_c _ _ _ _ _ _ _ _ _ _ _ _ _ LG_30 hP hW hN (by decide) (by decide) (by have := bG_30.2.2.2; have e1 := szW.out; have e2 := szG.out; omega)).mono ?_
  rintro e w31 ⟨rfl, LM, h31⟩
  clear fG0 fG1 fG2 fGz
  have HB31m := h31.below HB29 loG HB29.size
  clear LG_30
  have LW_32 := LW_30.holed h31 (.inl (by have e1 := szW.out; have e2 := szG.out; omega))
  clear LW_30
  have bW_32 := bW_30.same (h31.block _ bW_30.2.2.2 (by have e1 := szW.out; have e2 := szG.out; omega)) h31.size
  clear bW_30
  have bG_32 := bG_30.same (h31.block _ bG_30.2.2.2 (by have e1 := szW.out; have e2 := szG.out; omega)) h31.size
  clear bG_30
  obtain ⟨fG0, fG1, fG2, fGz⟩ := id bG_32
  go_wp2_with fail
  refine (heldArm_c _ _ _ _ _ _ _ _ _ _ _ LM.o1.rd LM.o2.rd LM.o3.rd hP hW hN (by decide) (by decide)).mono ?_
  rintro e w33 ⟨rfl, b33⟩
  clear fG0 fG1 fG2 fGz
  have HB34 := bUp HB31m b33 HB31m.size
  have LW_35 := LW_32.below b33
  clear LW_32
  have bW_35 := bW_32.below b33
  clear bW_32
  have bG_35 := bG_32.below b33
  clear bG_32
  have LG_35 := LM.below b33
  clear LM
  go_wp2_with fail
  refine (toIntS_c _ _ _ _ (ha0.below HB34 (Nat.le_refl _)) (by omega)).mono ?_
  rintro e w36 ⟨rfl, s1, b36⟩
  have HB37 := bUp HB34 b36 HB34.size
  have LW_38 := LW_35.below b36
  clear LW_35
  have bW_38 := bW_35.below b36
  clear bW_35
  have bG_38 := bG_35.below b36
  clear bG_35
  have LG_38 := LG_35.below b36
  clear LG_35
  have loH := HB37.size
  go_wp2_with fail
  refine (implLine_c _ _ _ _ s1.rd (by omega)).mono ?_
  rintro e w39 ⟨AH1, cH1, AH2, cH2, AH3, cH3, rfl, oH1, oH2, oH3, dH12, dH13, dH23, b39⟩
  have HB40 := bUp HB37 b39 HB37.size
  have LW_41 := LW_38.below b39
  clear LW_38
  have bW_41 := bW_38.below b39
  clear bW_38
  have bG_41 := bG_38.below b39
  clear bG_38
  have LG_41 := LG_38.below b39
  clear LG_38
  have s1_41 := s1.below b39
  clear s1
  have LH : Arm3 w39 w36.heap.size w39.heap.size AH1 cH1 AH2 cH2 AH3 cH3 (laP xs0) (laW xs0) (laN xs0) := ⟨oH1, oH2, oH3, fun k hk => oH1.ltk k hk, fun k hk => oH2.ltk k hk, fun k hk => oH3.ltk k hk, dH12, dH13, dH23⟩
  clear oH1 oH2 oH3 dH12 dH13 dH23
  obtain ⟨fW0, fW1, fW2, fWz⟩ := id bW_41
  obtain ⟨fG0, fG1, fG2, fGz⟩ := id bG_41
  have HB42 := HB40.alloc HB40.size (.cells #[.slice AH1 (laP xs0).length cH1, .slice AH2 (laW xs0).length cH2, .slice AH3 (laN xs0).length cH3] 26)
  have LW_43 := LW_41.alloc (.cells #[.slice AH1 (laP xs0).length cH1, .slice AH2 (laW xs0).length cH2, .slice AH3 (laN xs0).length cH3] 26)
  clear LW_41
  have bW_43 := bW_41.alloc (.cells #[.slice AH1 (laP xs0).length cH1, .slice AH2 (laW xs0).length cH2, .slice AH3 (laN xs0).length cH3] 26)
  clear bW_41
  have bG_43 := bG_41.alloc (.cells #[.slice AH1 (laP xs0).length cH1, .slice AH2 (laW xs0).length cH2, .slice AH3 (laN xs0).length cH3] 26)
  clear bG_41
  have LG_43 := LG_41.alloc (.cells #[.slice AH1 (laP xs0).length cH1, .slice AH2 (laW xs0).length cH2, .slice AH3 (laN xs0).length cH3] 26)
  clear LG_41
  have s1_43 := s1_41.alloc (.cells #[.slice AH1 (laP xs0).length cH1, .slice AH2 (laW xs0).length cH2, .slice AH3 (laN xs0).length cH3] 26)
  clear s1_41
  have LH_43 := LH.alloc (.cells #[.slice AH1 (laP xs0).length cH1, .slice AH2 (laW xs0).length cH2, .slice AH3 (laN xs0).length cH3] 26)
  clear LH
  have bH := Bx3.new w39 (.slice AH1 (laP xs0).length cH1) (.slice AH2 (laW xs0).length cH2) (.slice AH3 (laN xs0).length cH3) 26
  have szH := Lib.hid (show (w39.alloc (.cells #[.slice AH1 (laP xs0).length cH1, .slice AH2 (laW xs0).length cH2, .slice AH3 (laN xs0).length cH3] 26)).heap.size = w39.heap.size + 1 by simp)
  have lwH := b39.size
  go_wp2_with fail
  generalize w39.alloc (.cells #[.slice AH1 (laP xs0).length cH1, .slice AH2 (laW xs0).length cH2, .slice AH3 (laN xs0).length cH3] 26) = v39 at *
  clear fW0 fW1 fW2 fWz
  clear fG0 fG1 fG2 fGz
  clear s1_43
  obtain ⟨fH0, fH1, fH2, fHz⟩ := id bH
  obtain ⟨fW0, fW1, fW2, fWz⟩ := id bW_43
  go_wp2_with fail
  refine (eqArm_same _ _ _ _ _ _ _ _ _ _ _ _ _ _ _ _ LH_43.o1.rd LH_43.o2.rd LH_43.o3.rd LW_43.o1.rd LW_43.o2.rd LW_43.o3.rd hP hW hN).mono ?_
  rintro e w44 ⟨rfl, b44⟩
  clear fH0 fH1 fH2 fHz
  clear fW0 fW1 fW2 fWz
  have HB45 := bUp HB42 b44 HB42.size
  have LW_46 := LW_43.below b44
  clear LW_43
  have bW_46 := bW_43.below b44
  clear bW_43
  have bG_46 := bG_43.below b44
  clear bG_43
  have LG_46 := LG_43.below b44
  clear LG_43
  have LH_46 := LH_43.below b44
  clear LH_43
  have bH_46 := bH.below b44
  clear bH
  obtain ⟨fG0, fG1, fG2, fGz⟩ := id bG_46
  go_wp2_with fail
  refine (heldArm_c _ _ _ _ _ _ _ _ _ _ _ LG_46.o1.rd LG_46.o2.rd LG_46.o3.rd hP hW hN (by decide) (by decide)).mono ?_
  rintro e w47 ⟨rfl, b47⟩
  clear fG0 fG1 fG2 fGz
  have HB48 := bUp HB45 b47 HB45.size
  have LW_49 := LW_46.below b47
  clear LW_46
  have bW_49 := bW_46.below b47
  clear bW_46
  have bG_49 := bG_46.below b47
  clear bG_46
  have LG_49 := LG_46.below b47
  clear LG_46
  have LH_49 := LH_46.below b47
  clear LH_46
  have bH_49 := bH_46.below b47
  clear bH_46
  go_wp2
  go_ret
  exact ⟨rfl, HB48⟩
end Go.Proofs.Ytmkfhjhiklnbfaa
