/- FairFee: both packages' walks. -/
import Derived.Test.YtdhagkckkdaenaaLsW
namespace Go.Proofs.Ytdhagkckkdaenaa
open Go.RowKit

theorem add_nil0 (a : Addr) : a.add 0 = a := by simp [Addr.add]
set_option maxRecDepth 20000 in
set_option maxHeartbeats 1000000 in
theorem specFe_c (A1 : Option Addr) (P : List Int) (c1 : Nat) (A2 : Option Addr) (W : List Int) (c2 : Nat) (A3 : Option Addr) (F : List Int) (c3 : Nat) (a b fee : Int) (w : World) (h : RdM w A1 P A2 W A3 F) :
    Calls Try.prog 15 #[mkV A1 P.length c1 A2 W.length c2 A3 F.length c3, .int .i64 a, .int .i64 b, .int .i64 fee] w (Quietly w (.tuple #[.bool (fvV P W F a b fee), .bool (fvB P W F a b fee)])) := by
  have HB1 : Below w.heap.size w (w.alloc (.cells #[.slice A1 P.length c1, .slice A2 W.length c2, .slice A3 F.length c3] 33)) := (Below.refl _ _).alloc (Nat.le_refl _) _
  have bx := Bx3.new w (.slice A1 P.length c1) (.slice A2 W.length c2) (.slice A3 F.length c3) 33
  cases hq : (armB P W F && discB a b)
  · have HQ := Lib.hid (fvB_1 (fee := fee) hq)
    rw [fvV_no HQ.out, HQ.out]
    go_enter Try.func15, Try.ntmps15
    go_wp2_with fail
    refine (l8One_is _ _ _ _ _ _ _ _ _ _ _ _ hq _ (h.below HB1 (Nat.le_refl _))).mono ?_
    rintro e w2 ⟨rfl, b2⟩
    go_wp2
    go_ret2
    exact ⟨rfl, bUp HB1 b2 HB1.size⟩
  · cases hi : inB fee (-99) 99
    · have HQ := Lib.hid (fvB_2 (P := P) (W := W) (F := F) (a := a) (b := b) hi)
      rw [fvV_no HQ.out, HQ.out]
      go_enter Try.func15, Try.ntmps15
      go_wp2_with fail
      refine (l8One_is _ _ _ _ _ _ _ _ _ _ _ _ hq _ (h.below HB1 (Nat.le_refl _))).mono ?_
      rintro e w2 ⟨rfl, b2⟩
      go_wp2_with fail
      refine (l1In_is _ _ _ _ hi _).mono ?_
      rintro e w3 ⟨rfl, rfl⟩
      go_wp2
      go_ret2
      exact ⟨rfl, bUp HB1 b2 HB1.size⟩
    · have hk := armAB_iff.1 hq
      have hn1 := hk.arm.tree.n1
      have hwt := hk.arm.tree.wt 0 (by omega)
      have hwl := hk.arm.tree.len
      obtain ⟨a2, rfl, q0⟩ := h.r2.intN (k := 0) (by omega)
      rw [add_nil0] at q0
      have hf := inB_iff.1 hi
      cases he : endB P 0
      · have HQ := Lib.hid (fvB_y hq hi he)
        have HV := Lib.hid (fvV_y hq hi he)
        rw [HV.out, HQ.out]
        rw [he, if_neg (by simp)] at hwt
        have hw0 : ¬ 0 < nth W 0 := by omega
        have hl0 : 0 < W.length := by omega
        clear hwl hwt
        go_enter Try.func15, Try.ntmps15
        go_wp2_with fail
        refine (l8One_is _ _ _ _ _ _ _ _ _ _ _ _ hq _ (h.below HB1 (Nat.le_refl _))).mono ?_
        rintro e w2 ⟨rfl, b2⟩
        have HB2 := bUp HB1 b2 HB1.size
        have q2 := (HB2.cell (cell_lt q0)).trans q0
        obtain ⟨f0, f1, f2, fz⟩ := bx.below b2
        clear bx b2 HB1
        go_wp2_with fail
        refine (l1In_is _ _ _ _ hi _).mono ?_
        rintro e w3 ⟨rfl, rfl⟩
        go_wp2_with fail
        refine (l8Less_c A1 P c1 (some a2) W c2 A3 F c3 a b fee hk hf P.length 0 _ (by omega) (by omega) (h.below HB2 (Nat.le_refl _))).mono ?_
        rintro e w4 ⟨rfl, b4⟩
        go_wp2
        go_ret2
        exact ⟨rfl, bUp HB2 b4 HB2.size⟩
      · have HQ := Lib.hid (fvB_3 (W := W) (F := F) (a := a) (b := b) (fee := fee) he)
        rw [fvV_no HQ.out, HQ.out]
        rw [he, if_pos rfl] at hwt
        have hw0 : 0 < nth W 0 := by omega
        have hl0 : 0 < W.length := by omega
        clear hwl hwt
        go_enter Try.func15, Try.ntmps15
        go_wp2_with fail
        refine (l8One_is _ _ _ _ _ _ _ _ _ _ _ _ hq _ (h.below HB1 (Nat.le_refl _))).mono ?_
        rintro e w2 ⟨rfl, b2⟩
        have HB2 := bUp HB1 b2 HB1.size
        have q2 := (HB2.cell (cell_lt q0)).trans q0
        obtain ⟨f0, f1, f2, fz⟩ := bx.below b2
        clear bx b2 HB1
        go_wp2_with fail
        refine (l1In_is _ _ _ _ hi _).mono ?_
        rintro e w3 ⟨rfl, rfl⟩
        go_wp2
        go_ret2
        exact ⟨rfl, HB2⟩
theorem cmp_ge {f g : Int × Int} : (0 ≤ cmpI f g) = (g.1 * f.2 ≤ f.1 * g.2) := by
  unfold cmpI
  apply propext
  split
  · omega
  · split <;> omega
set_option maxRecDepth 20000 in
set_option maxHeartbeats 1000000 in
theorem implFe_c (A1 : Option Addr) (P : List Int) (c1 : Nat) (A2 : Option Addr) (W : List Int) (c2 : Nat) (A3 : Option Addr) (F : List Int) (c3 : Nat) (a b fee : Int) (w : World) (h : RdM w A1 P A2 W A3 F) :
    Calls Try.prog 16 #[mkV A1 P.length c1 A2 W.length c2 A3 F.length c3, .int .i64 a, .int .i64 b, .int .i64 fee] w (Quietly w (.tuple #[.bool (fvV P W F a b fee), .bool (fvB P W F a b fee)])) := by
  have HB1 : Below w.heap.size w (w.alloc (.cells #[.slice A1 P.length c1, .slice A2 W.length c2, .slice A3 F.length c3] 33)) := (Below.refl _ _).alloc (Nat.le_refl _) _
  have bx := Bx3.new w (.slice A1 P.length c1) (.slice A2 W.length c2) (.slice A3 F.length c3) 33
  cases ha : armB P W F
  · have HQ := Lib.hid (fvB_1 (P := P) (W := W) (F := F) (a := a) (b := b) (fee := fee) (by rw [ha]; rfl))
    rw [fvV_no HQ.out, HQ.out]
    go_enter Try.func16, Try.ntmps16
    go_wp2_with fail
    refine (implArm_is _ _ _ _ _ _ _ _ _ _ ha _ (h.below HB1 (Nat.le_refl _))).mono ?_
    rintro e w2 ⟨rfl, b2⟩
    go_wp2
    go_ret2
    exact ⟨rfl, bUp HB1 b2 HB1.size⟩
  cases hd : discB a b
  · have HQ := Lib.hid (fvB_1 (P := P) (W := W) (F := F) (a := a) (b := b) (fee := fee) (by rw [hd]; simp))
    rw [fvV_no HQ.out, HQ.out]
    go_enter Try.func16, Try.ntmps16
    go_wp2_with fail
    refine (implArm_is _ _ _ _ _ _ _ _ _ _ ha _ (h.below HB1 (Nat.le_refl _))).mono ?_
    rintro e w2 ⟨rfl, b2⟩
    go_wp2_with fail
    refine (isDiscount_is _ _ _ hd _).mono ?_
    rintro e w3 ⟨rfl, rfl⟩
    go_wp2
    go_ret2
    exact ⟨rfl, bUp HB1 b2 HB1.size⟩
  have hq : (armB P W F && discB a b) = true := by rw [ha, hd]; rfl
  cases hi : inB fee (-99) 99
  · have HQ := Lib.hid (fvB_2 (P := P) (W := W) (F := F) (a := a) (b := b) hi)
    rw [fvV_no HQ.out, HQ.out]
    go_enter Try.func16, Try.ntmps16
    go_wp2_with fail
    refine (implArm_is _ _ _ _ _ _ _ _ _ _ ha _ (h.below HB1 (Nat.le_refl _))).mono ?_
    rintro e w2 ⟨rfl, b2⟩
    go_wp2_with fail
    refine (isDiscount_is _ _ _ hd _).mono ?_
    rintro e w3 ⟨rfl, rfl⟩
    go_wp2_with fail
    refine (within_is _ _ _ _ hi _).mono ?_
    rintro e w3 ⟨rfl, rfl⟩
    go_wp2
    go_ret2
    exact ⟨rfl, bUp HB1 b2 HB1.size⟩
  have hk := armAB_iff.1 hq
  have hn1 := hk.arm.tree.n1
  have hf := inB_iff.1 hi
  have h0 := end0 hk.arm
  cases he : endB P 0
  · have HQ := Lib.hid (fvB_y hq hi he)
    have HV := Lib.hid ((fvV_y hq hi he).trans (fair_iff hk he fee))
    rw [HV.out, HQ.out]
    have hl1 : ((F.length : Int) == 1) = false := by
      rw [he] at h0
      have := of_decide_eq_false h0.symm
      simp; omega
    have hfr := frP_iff.1 (idx_fr hk (x := 0) (by omega))
    clear h0 hq
    go_enter Try.func16, Try.ntmps16
    go_wp2_with fail
    refine (implArm_is _ _ _ _ _ _ _ _ _ _ ha _ (h.below HB1 (Nat.le_refl _))).mono ?_
    rintro e w2 ⟨rfl, b2⟩
    go_wp2_with fail
    refine (isDiscount_is _ _ _ hd _).mono ?_
    rintro e w3 ⟨rfl, rfl⟩
    have HB2 := bUp HB1 b2 HB1.size
    obtain ⟨f0, f1, f2, fz⟩ := bx.below b2
    clear bx b2 HB1
    go_wp2_with fail
    refine (within_is _ _ _ _ hi _).mono ?_
    rintro e w3 ⟨rfl, rfl⟩
    go_wp2_with fail
    refine (index_c A1 P c1 A2 W c2 A3 F c3 a b 0 _ (h.below HB2 (Nat.le_refl _)) hk (by omega)).mono ?_
    rintro e w4 ⟨rfl, b4⟩
    go_wp2_with fail
    refine (compared_c _ _ fee 1 (by omega) (by omega) (by omega) (by omega) _).mono ?_
    rintro e w5 ⟨rfl, b5⟩
    have hc := cmp_ge (f := ((idxP P W F a b 0).1, (idxP P W F a b 0).2)) (g := (fee, 1))
    have HC : Hid (decide (0 ≤ cmpI ((idxP P W F a b 0).1, (idxP P W F a b 0).2) (fee, 1)) = decide (fee * (idxP P W F a b 0).2 ≤ (idxP P W F a b 0).1 * 1)) := Lib.hid (decide_eq_decide.2 (iff_of_eq hc))
    generalize cmpI ((idxP P W F a b 0).1, (idxP P W F a b 0).2) (fee, 1) = q at *
    clear hc
    have HB5 := bUp (bUp HB2 b4 HB2.size) b5 (Nat.le_trans HB2.size b4.size)
    go_wp2
    go_ret2
    exact ⟨by rw [← HC.out] <;> rfl, HB5⟩
  · have HQ := Lib.hid (fvB_3 (W := W) (F := F) (a := a) (b := b) (fee := fee) he)
    rw [fvV_no HQ.out, HQ.out]
    have hl1 : ((F.length : Int) == 1) = true := by
      rw [he] at h0
      have := of_decide_eq_true h0.symm
      simp; omega
    clear h0 hq
    go_enter Try.func16, Try.ntmps16
    go_wp2_with fail
    refine (implArm_is _ _ _ _ _ _ _ _ _ _ ha _ (h.below HB1 (Nat.le_refl _))).mono ?_
    rintro e w2 ⟨rfl, b2⟩
    go_wp2_with fail
    refine (isDiscount_is _ _ _ hd _).mono ?_
    rintro e w3 ⟨rfl, rfl⟩
    have HB2 := bUp HB1 b2 HB1.size
    obtain ⟨f0, f1, f2, fz⟩ := bx.below b2
    clear bx b2 HB1
    go_wp2_with fail
    refine (within_is _ _ _ _ hi _).mono ?_
    rintro e w3 ⟨rfl, rfl⟩
    go_wp2
    go_ret2
    exact ⟨rfl, HB2⟩
end Go.Proofs.Ytdhagkckkdaenaa
