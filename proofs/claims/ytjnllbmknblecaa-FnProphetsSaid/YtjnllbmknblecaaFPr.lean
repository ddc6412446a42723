/- The law FnProphets: its walk. (Written by gen_fpr.py.) -/
import Derived.Test.YtjnllbmknblecaaFPt
import Derived.Test.YtjnllbmknblecaaDw7
import Derived.Test.YtjnllbmknblecaaVw
import Derived.Test.YtjnllbmknblecaaGaI
import Derived.Test.YtjnllbmknblecaaGaT
import Derived.Test.YtjnllbmknblecaaBestP
import Derived.Test.YtjnllbmknblecaaHtW
import Derived.Test.YtjnllbmknblecaaThI
import Derived.Test.YtjnllbmknblecaaThX
import Derived.Test.YtjnllbmknblecaaLm
import Derived.Test.YtjnllbmknblecaaLaw
namespace Go.Proofs.Ytjnllbmknblecaa
open Go.RowKit

set_option maxRecDepth 100000 in
set_option maxHeartbeats 16000000 in
theorem lawFpr (A : Option Addr) (bs : List Int) (c : Nat) (w : World) (rc : Rd w A (u8s bs)) (hb : ByOk bs) (hlen : bs.length ≤ 9223372036854775807) (hc : bs.length ≤ c) :
    Calls Try.prog 14 #[.slice A bs.length c] w fun e w' => e = .returned (.bool true) ∧ Below w.heap.size w w' := by
  by_cases hbig : 65536 < (bs.length : Int)
  · have C := vBig_c A bs c w hlen
    rw [decide_eq_true hbig] at C
    go_enter Try.func14, Try.ntmps14
    go_wp2_with fail
    refine C.mono ?_
    rintro e w' ⟨rfl, rfl⟩
    go_wp2
    go_ret
    exact ⟨rfl, Below.refl _ _⟩
  have hl : bs.length ≤ 65536 := by omega
  have C := vBig_c A bs c w hlen
  rw [decide_eq_false hbig] at C
  clear hbig
  go_enter Try.func14, Try.ntmps14
  go_wp2_with fail
  refine C.mono ?_
  rintro e w' ⟨rfl, rfl⟩
  clear C
  go_wp2_with fail
  refine (drawPm_c A bs c w rc hb (by omega)).mono ?_
  rintro e w1 ⟨AL, cL, X, rfl, rL, sL, hX5, b1⟩
  replace rc := rc.below b1 (Nat.le_refl _)
  cases hq : lawsB X
  · have HQ := Lib.hid hq
    have HPM : Hid (pmO X = false) := Lib.hid (pm_no hq).2.2
    have HGL : Hid ((gtV X).length = 0) := Lib.hid (by rw [gtV_no hq]; rfl)
    clear hq
    go_wp2_with fail
    have C := implPm_c AL X cL _ rL sL
    rw [HPM.out] at C
    refine (C).mono ?_
    rintro e w2 ⟨rfl, bq⟩
    replace rc := rc.below bq (Nat.le_refl _)
    replace rL := rL.below bq (Nat.le_refl _)
    have HB1 := bUp b1 bq b1.size
    clear b1
    clear bq
    clear C
    have blB4 : Below w2.heap.size w2 (w2.alloc (.cells #[.int .i64 (pmT X), .int .i64 (pmB X)] 26)) := (Below.refl _ _).alloc (Nat.le_refl _) _
    replace rc := rc.below blB4 (Nat.le_refl _)
    replace rL := rL.below blB4 (Nat.le_refl _)
    have HB2 := bUp HB1 blB4 HB1.size
    clear HB1
    have B4 := Bx.new w2 (.int .i64 (pmT X)) (.int .i64 (pmB X)) 26
    clear blB4
    go_wp2_with fail
    generalize w2.alloc (.cells #[.int .i64 (pmT X), .int .i64 (pmB X)] 26) = v2 at *
    go_wp2_with fail
    have C := specPm_c AL X cL _ rL sL
    rw [HPM.out] at C
    refine (C).mono ?_
    rintro e w3 ⟨rfl, bq⟩
    replace rc := rc.below bq (Nat.le_refl _)
    replace rL := rL.below bq (Nat.le_refl _)
    replace B4 := B4.below bq
    have HB3 := bUp HB2 bq HB2.size
    clear HB2
    clear bq
    clear C
    have blB6 : Below w3.heap.size w3 (w3.alloc (.cells #[.int .i64 (pmT X), .int .i64 (pmB X)] 26)) := (Below.refl _ _).alloc (Nat.le_refl _) _
    replace rc := rc.below blB6 (Nat.le_refl _)
    replace rL := rL.below blB6 (Nat.le_refl _)
    replace B4 := B4.below blB6
    have HB4 := bUp HB3 blB6 HB3.size
    clear HB3
    have B6 := Bx.new w3 (.int .i64 (pmT X)) (.int .i64 (pmB X)) 26
    clear blB6
    go_wp2_with fail
    generalize w3.alloc (.cells #[.int .i64 (pmT X), .int .i64 (pmB X)] 26) = v3 at *
    go_wp2_with fail
    have C := implGm_c AL X cL _ rL sL
    rw [HQ.out] at C
    refine (C).mono ?_
    rintro e w4 ⟨rfl, bq⟩
    replace rc := rc.below bq (Nat.le_refl _)
    replace rL := rL.below bq (Nat.le_refl _)
    replace B4 := B4.below bq
    replace B6 := B6.below bq
    have HB5 := bUp HB4 bq HB4.size
    clear HB4
    clear bq
    clear C
    have blB8 : Below w4.heap.size w4 (w4.alloc (.cells #[.int .i64 (gmT X), .int .i64 (gmB X)] 26)) := (Below.refl _ _).alloc (Nat.le_refl _) _
    replace rc := rc.below blB8 (Nat.le_refl _)
    replace rL := rL.below blB8 (Nat.le_refl _)
    replace B4 := B4.below blB8
    replace B6 := B6.below blB8
    have HB6 := bUp HB5 blB8 HB5.size
    clear HB5
    have B8 := Bx.new w4 (.int .i64 (gmT X)) (.int .i64 (gmB X)) 26
    clear blB8
    go_wp2_with fail
    generalize w4.alloc (.cells #[.int .i64 (gmT X), .int .i64 (gmB X)] 26) = v4 at *
    go_wp2_with fail
    have C := specGm_c AL X cL _ rL sL
    rw [HQ.out] at C
    refine (C).mono ?_
    rintro e w5 ⟨rfl, bq⟩
    replace rc := rc.below bq (Nat.le_refl _)
    replace rL := rL.below bq (Nat.le_refl _)
    replace B4 := B4.below bq
    replace B6 := B6.below bq
    replace B8 := B8.below bq
    have HB7 := bUp HB6 bq HB6.size
    clear HB6
    clear bq
    clear C
    have blB10 : Below w5.heap.size w5 (w5.alloc (.cells #[.int .i64 (gmT X), .int .i64 (gmB X)] 26)) := (Below.refl _ _).alloc (Nat.le_refl _) _
    replace rc := rc.below blB10 (Nat.le_refl _)
    replace rL := rL.below blB10 (Nat.le_refl _)
    replace B4 := B4.below blB10
    replace B6 := B6.below blB10
    replace B8 := B8.below blB10
    have HB8 := bUp HB7 blB10 HB7.size
    clear HB7
    have B10 := Bx.new w5 (.int .i64 (gmT X)) (.int .i64 (gmB X)) 26
    clear blB10
    go_wp2_with fail
    generalize w5.alloc (.cells #[.int .i64 (gmT X), .int .i64 (gmB X)] 26) = v5 at *
    go_wp2_with fail
    have C := implGt_c AL X cL _ rL sL
    rw [HQ.out] at C
    refine (C).mono ?_
    rintro e w6 ⟨AT, cT, rfl, oT, bq⟩
    replace rc := rc.below bq (Nat.le_refl _)
    replace rL := rL.below bq (Nat.le_refl _)
    replace B4 := B4.below bq
    replace B6 := B6.below bq
    replace B8 := B8.below bq
    replace B10 := B10.below bq
    have HB9 := bUp HB8 bq HB8.size
    clear HB8
    clear bq
    clear C
    have rT : Rd _ AT (pcells (gtV X)) := Rd.of_own oT
    clear oT
    rw [HGL.out]
    go_wp2_with fail
    have C := specGt_c AL X cL _ rL sL
    rw [HQ.out] at C
    refine (C).mono ?_
    rintro e w7 ⟨AU, cU, rfl, oU, bq⟩
    replace rc := rc.below bq (Nat.le_refl _)
    replace rL := rL.below bq (Nat.le_refl _)
    replace B4 := B4.below bq
    replace B6 := B6.below bq
    replace B8 := B8.below bq
    replace B10 := B10.below bq
    replace rT := rT.below bq (Nat.le_refl _)
    have HB10 := bUp HB9 bq HB9.size
    clear HB9
    clear bq
    clear C
    have rU : Rd _ AU (pcells (gtV X)) := Rd.of_own oU
    clear oU
    rw [HGL.out]
    go_wp2_with fail
    have C := implBest_c AL X cL _ rL sL
    rw [HQ.out] at C
    refine (C).mono ?_
    rintro e w8 ⟨AE, cE, rfl, oE, bq⟩
    replace rc := rc.below bq (Nat.le_refl _)
    replace rL := rL.below bq (Nat.le_refl _)
    replace B4 := B4.below bq
    replace B6 := B6.below bq
    replace B8 := B8.below bq
    replace B10 := B10.below bq
    replace rT := rT.below bq (Nat.le_refl _)
    replace rU := rU.below bq (Nat.le_refl _)
    have HB11 := bUp HB10 bq HB10.size
    clear HB10
    clear bq
    clear C
    have rE := oE.rd
    clear oE
    go_wp2_with fail
    have C := specBest_c AL X cL _ rL sL
    rw [HQ.out] at C
    refine (C).mono ?_
    rintro e w9 ⟨AF, cF, rfl, oF, bq⟩
    replace rc := rc.below bq (Nat.le_refl _)
    replace rL := rL.below bq (Nat.le_refl _)
    replace B4 := B4.below bq
    replace B6 := B6.below bq
    replace B8 := B8.below bq
    replace B10 := B10.below bq
    replace rT := rT.below bq (Nat.le_refl _)
    replace rU := rU.below bq (Nat.le_refl _)
    replace rE := rE.below bq (Nat.le_refl _)
    have HB12 := bUp HB11 bq HB11.size
    clear HB11
    clear bq
    clear C
    have rF := oF.rd
    clear oF
    go_wp2_with fail
    have C := implHt_c AL X cL _ rL sL
    rw [HQ.out] at C
    refine (C).mono ?_
    rintro e w10 ⟨rfl, bq⟩
    replace rc := rc.below bq (Nat.le_refl _)
    replace rL := rL.below bq (Nat.le_refl _)
    replace B4 := B4.below bq
    replace B6 := B6.below bq
    replace B8 := B8.below bq
    replace B10 := B10.below bq
    replace rT := rT.below bq (Nat.le_refl _)
    replace rU := rU.below bq (Nat.le_refl _)
    replace rE := rE.below bq (Nat.le_refl _)
    replace rF := rF.below bq (Nat.le_refl _)
    have HB13 := bUp HB12 bq HB12.size
    clear HB12
    clear bq
    clear C
    go_wp2_with fail
    have C := specHt_c AL X cL _ rL sL
    rw [HQ.out] at C
    refine (C).mono ?_
    rintro e w11 ⟨rfl, bq⟩
    replace rc := rc.below bq (Nat.le_refl _)
    replace rL := rL.below bq (Nat.le_refl _)
    replace B4 := B4.below bq
    replace B6 := B6.below bq
    replace B8 := B8.below bq
    replace B10 := B10.below bq
    replace rT := rT.below bq (Nat.le_refl _)
    replace rU := rU.below bq (Nat.le_refl _)
    replace rE := rE.below bq (Nat.le_refl _)
    replace rF := rF.below bq (Nat.le_refl _)
    have HB14 := bUp HB13 bq HB13.size
    clear HB13
    clear bq
    clear C
    go_wp2_with fail
    have C := vCut_c A bs c 1 _ rc hb hl (by omega) hc
    refine (C).mono ?_
    rintro e w12 ⟨Ak, ck, bk, rfl, rk, hbk, hlk, hck, bq⟩
    replace rc := rc.below bq (Nat.le_refl _)
    replace rL := rL.below bq (Nat.le_refl _)
    replace B4 := B4.below bq
    replace B6 := B6.below bq
    replace B8 := B8.below bq
    replace B10 := B10.below bq
    replace rT := rT.below bq (Nat.le_refl _)
    replace rU := rU.below bq (Nat.le_refl _)
    replace rE := rE.below bq (Nat.le_refl _)
    replace rF := rF.below bq (Nat.le_refl _)
    have HB15 := bUp HB14 bq HB14.size
    clear HB14
    clear bq
    clear C
    go_wp2_with fail
    refine (drawTh_c Ak bk ck _ rk hbk hlk).mono ?_
    rintro e w13 ⟨AY, cY, Y, lY, rfl, rY, sY, hY5, bq⟩
    replace rc := rc.below bq (Nat.le_refl _)
    replace rL := rL.below bq (Nat.le_refl _)
    replace B4 := B4.below bq
    replace B6 := B6.below bq
    replace B8 := B8.below bq
    replace B10 := B10.below bq
    replace rT := rT.below bq (Nat.le_refl _)
    replace rU := rU.below bq (Nat.le_refl _)
    replace rE := rE.below bq (Nat.le_refl _)
    replace rF := rF.below bq (Nat.le_refl _)
    have HB16 := bUp HB15 bq HB15.size
    clear HB15
    clear bq
    clear rk hbk hlk hck
    go_wp2_with fail
    have C := implTh_c AY Y cY lY _ rY sY
    skip
    refine (C).mono ?_
    rintro e w14 ⟨rfl, bq⟩
    replace rc := rc.below bq (Nat.le_refl _)
    replace rL := rL.below bq (Nat.le_refl _)
    replace B4 := B4.below bq
    replace B6 := B6.below bq
    replace B8 := B8.below bq
    replace B10 := B10.below bq
    replace rT := rT.below bq (Nat.le_refl _)
    replace rU := rU.below bq (Nat.le_refl _)
    replace rE := rE.below bq (Nat.le_refl _)
    replace rF := rF.below bq (Nat.le_refl _)
    replace rY := rY.below bq (Nat.le_refl _)
    have HB17 := bUp HB16 bq HB16.size
    clear HB16
    clear bq
    clear C
    have blB26 : Below w14.heap.size w14 (w14.alloc (.cells #[.int .i64 (tmT Y lY), .int .i64 (tmB Y lY)] 26)) := (Below.refl _ _).alloc (Nat.le_refl _) _
    replace rc := rc.below blB26 (Nat.le_refl _)
    replace rL := rL.below blB26 (Nat.le_refl _)
    replace B4 := B4.below blB26
    replace B6 := B6.below blB26
    replace B8 := B8.below blB26
    replace B10 := B10.below blB26
    replace rT := rT.below blB26 (Nat.le_refl _)
    replace rU := rU.below blB26 (Nat.le_refl _)
    replace rE := rE.below blB26 (Nat.le_refl _)
    replace rF := rF.below blB26 (Nat.le_refl _)
    replace rY := rY.below blB26 (Nat.le_refl _)
    have HB18 := bUp HB17 blB26 HB17.size
    clear HB17
    have B26 := Bx.new w14 (.int .i64 (tmT Y lY)) (.int .i64 (tmB Y lY)) 26
    clear blB26
    go_wp2_with fail
    generalize w14.alloc (.cells #[.int .i64 (tmT Y lY), .int .i64 (tmB Y lY)] 26) = v14 at *
    go_wp2_with fail
    have C := specTh_c AY Y cY lY _ rY sY
    skip
    refine (C).mono ?_
    rintro e w15 ⟨rfl, bq⟩
    replace rc := rc.below bq (Nat.le_refl _)
    replace rL := rL.below bq (Nat.le_refl _)
    replace B4 := B4.below bq
    replace B6 := B6.below bq
    replace B8 := B8.below bq
    replace B10 := B10.below bq
    replace rT := rT.below bq (Nat.le_refl _)
    replace rU := rU.below bq (Nat.le_refl _)
    replace rE := rE.below bq (Nat.le_refl _)
    replace rF := rF.below bq (Nat.le_refl _)
    replace rY := rY.below bq (Nat.le_refl _)
    replace B26 := B26.below bq
    have HB19 := bUp HB18 bq HB18.size
    clear HB18
    clear bq
    clear C
    have blB28 : Below w15.heap.size w15 (w15.alloc (.cells #[.int .i64 (tmT Y lY), .int .i64 (tmB Y lY)] 26)) := (Below.refl _ _).alloc (Nat.le_refl _) _
    replace rc := rc.below blB28 (Nat.le_refl _)
    replace rL := rL.below blB28 (Nat.le_refl _)
    replace B4 := B4.below blB28
    replace B6 := B6.below blB28
    replace B8 := B8.below blB28
    replace B10 := B10.below blB28
    replace rT := rT.below blB28 (Nat.le_refl _)
    replace rU := rU.below blB28 (Nat.le_refl _)
    replace rE := rE.below blB28 (Nat.le_refl _)
    replace rF := rF.below blB28 (Nat.le_refl _)
    replace rY := rY.below blB28 (Nat.le_refl _)
    replace B26 := B26.below blB28
    have HB20 := bUp HB19 blB28 HB19.size
    clear HB19
    have B28 := Bx.new w15 (.int .i64 (tmT Y lY)) (.int .i64 (tmB Y lY)) 26
    clear blB28
    go_wp2_with fail
    generalize w15.alloc (.cells #[.int .i64 (tmT Y lY), .int .i64 (tmB Y lY)] 26) = v15 at *
    go_wp2_with fail
    have C := vCut_c A bs c 2 _ rc hb hl (by omega) hc
    refine (C).mono ?_
    rintro e w16 ⟨Ak, ck, bk, rfl, rk, hbk, hlk, hck, bq⟩
    replace rc := rc.below bq (Nat.le_refl _)
    replace rL := rL.below bq (Nat.le_refl _)
    replace B4 := B4.below bq
    replace B6 := B6.below bq
    replace B8 := B8.below bq
    replace B10 := B10.below bq
    replace rT := rT.below bq (Nat.le_refl _)
    replace rU := rU.below bq (Nat.le_refl _)
    replace rE := rE.below bq (Nat.le_refl _)
    replace rF := rF.below bq (Nat.le_refl _)
    replace rY := rY.below bq (Nat.le_refl _)
    replace B26 := B26.below bq
    replace B28 := B28.below bq
    have HB21 := bUp HB20 bq HB20.size
    clear HB20
    clear bq
    clear C
    go_wp2_with fail
    refine (drawLm_c Ak bk ck _ rk hbk hlk).mono ?_
    rintro e w17 ⟨AZ, cZ, Z, rfl, rZ, hZ6, bq⟩
    replace rc := rc.below bq (Nat.le_refl _)
    replace rL := rL.below bq (Nat.le_refl _)
    replace B4 := B4.below bq
    replace B6 := B6.below bq
    replace B8 := B8.below bq
    replace B10 := B10.below bq
    replace rT := rT.below bq (Nat.le_refl _)
    replace rU := rU.below bq (Nat.le_refl _)
    replace rE := rE.below bq (Nat.le_refl _)
    replace rF := rF.below bq (Nat.le_refl _)
    replace rY := rY.below bq (Nat.le_refl _)
    replace B26 := B26.below bq
    replace B28 := B28.below bq
    have HB22 := bUp HB21 bq HB21.size
    clear HB21
    clear bq
    clear rk hbk hlk hck
    have HLM := Lib.hid (lm_law Z)
    go_wp2_with fail
    have C := implLm_c AZ Z cZ _ rZ (by omega)
    rw [HLM.out] at C
    refine (C).mono ?_
    rintro e w18 ⟨rfl, bq⟩
    replace rc := rc.below bq (Nat.le_refl _)
    replace rL := rL.below bq (Nat.le_refl _)
    replace B4 := B4.below bq
    replace B6 := B6.below bq
    replace B8 := B8.below bq
    replace B10 := B10.below bq
    replace rT := rT.below bq (Nat.le_refl _)
    replace rU := rU.below bq (Nat.le_refl _)
    replace rE := rE.below bq (Nat.le_refl _)
    replace rF := rF.below bq (Nat.le_refl _)
    replace rY := rY.below bq (Nat.le_refl _)
    replace B26 := B26.below bq
    replace B28 := B28.below bq
    replace rZ := rZ.below bq (Nat.le_refl _)
    have HB23 := bUp HB22 bq HB22.size
    clear HB22
    clear bq
    clear C
    have blB31 : Below w18.heap.size w18 (w18.alloc (.cells #[.int .i64 (lmT Z), .int .i64 (lmB Z)] 26)) := (Below.refl _ _).alloc (Nat.le_refl _) _
    replace rc := rc.below blB31 (Nat.le_refl _)
    replace rL := rL.below blB31 (Nat.le_refl _)
    replace B4 := B4.below blB31
    replace B6 := B6.below blB31
    replace B8 := B8.below blB31
    replace B10 := B10.below blB31
    replace rT := rT.below blB31 (Nat.le_refl _)
    replace rU := rU.below blB31 (Nat.le_refl _)
    replace rE := rE.below blB31 (Nat.le_refl _)
    replace rF := rF.below blB31 (Nat.le_refl _)
    replace rY := rY.below blB31 (Nat.le_refl _)
    replace B26 := B26.below blB31
    replace B28 := B28.below blB31
    replace rZ := rZ.below blB31 (Nat.le_refl _)
    have HB24 := bUp HB23 blB31 HB23.size
    clear HB23
    have B31 := Bx.new w18 (.int .i64 (lmT Z)) (.int .i64 (lmB Z)) 26
    clear blB31
    go_wp2_with fail
    generalize w18.alloc (.cells #[.int .i64 (lmT Z), .int .i64 (lmB Z)] 26) = v18 at *
    go_wp2_with fail
    have C := specLm_c AZ Z cZ _ rZ (by omega)
    rw [HLM.out] at C
    refine (C).mono ?_
    rintro e w19 ⟨rfl, bq⟩
    replace rc := rc.below bq (Nat.le_refl _)
    replace rL := rL.below bq (Nat.le_refl _)
    replace B4 := B4.below bq
    replace B6 := B6.below bq
    replace B8 := B8.below bq
    replace B10 := B10.below bq
    replace rT := rT.below bq (Nat.le_refl _)
    replace rU := rU.below bq (Nat.le_refl _)
    replace rE := rE.below bq (Nat.le_refl _)
    replace rF := rF.below bq (Nat.le_refl _)
    replace rY := rY.below bq (Nat.le_refl _)
    replace B26 := B26.below bq
    replace B28 := B28.below bq
    replace rZ := rZ.below bq (Nat.le_refl _)
    replace B31 := B31.below bq
    have HB25 := bUp HB24 bq HB24.size
    clear HB24
    clear bq
    clear C
    have blB33 : Below w19.heap.size w19 (w19.alloc (.cells #[.int .i64 (lmT Z), .int .i64 (lmB Z)] 26)) := (Below.refl _ _).alloc (Nat.le_refl _) _
    replace rc := rc.below blB33 (Nat.le_refl _)
    replace rL := rL.below blB33 (Nat.le_refl _)
    replace B4 := B4.below blB33
    replace B6 := B6.below blB33
    replace B8 := B8.below blB33
    replace B10 := B10.below blB33
    replace rT := rT.below blB33 (Nat.le_refl _)
    replace rU := rU.below blB33 (Nat.le_refl _)
    replace rE := rE.below blB33 (Nat.le_refl _)
    replace rF := rF.below blB33 (Nat.le_refl _)
    replace rY := rY.below blB33 (Nat.le_refl _)
    replace B26 := B26.below blB33
    replace B28 := B28.below blB33
    replace rZ := rZ.below blB33 (Nat.le_refl _)
    replace B31 := B31.below blB33
    have HB26 := bUp HB25 blB33 HB25.size
    clear HB25
    have B33 := Bx.new w19 (.int .i64 (lmT Z)) (.int .i64 (lmB Z)) 26
    clear blB33
    have b41 := B4.1
    have b42 := B4.2.1
    have b61 := B6.1
    have b62 := B6.2.1
    have b81 := B8.1
    have b82 := B8.2.1
    have ba1 := B10.1
    have ba2 := B10.2.1
    have bq1 := B26.1
    have bq2 := B26.2.1
    have br1 := B28.1
    have br2 := B28.2.1
    have bs1 := B31.1
    have bs2 := B31.2.1
    have bt1 := B33.1
    have bt2 := B33.2.1
    have E1 := fun w => (pair_eq (pmT X) (pmB X) (pmT X) (pmB X) w).trans (by rw [BEq.rfl, BEq.rfl, Bool.and_self])
    have E2 := fun w => (pair_eq (gmT X) (gmB X) (gmT X) (gmB X) w).trans (by rw [BEq.rfl, BEq.rfl, Bool.and_self])
    have E3 := fun w => (pair_eq (tmT Y lY) (tmB Y lY) (tmT Y lY) (tmB Y lY) w).trans (by rw [BEq.rfl, BEq.rfl, Bool.and_self])
    have E4 := fun w => (pair_eq (lmT Z) (lmB Z) (lmT Z) (lmB Z) w).trans (by rw [BEq.rfl, BEq.rfl, Bool.and_self])
    go_wp2_with fail
    refine (vPairs_same _ AU (gtV X) _ _ cT cU _ HGL.out.symm HGL.out.symm rT rU (by rw [HGL.out]; omega)).mono ?_
    rintro e w20 ⟨rfl, bq⟩
    clear b41 b42 b61 b62 b81 b82 ba1 ba2 bq1 bq2 br1 br2 bs1 bs2 bt1 bt2
    replace rc := rc.below bq (Nat.le_refl _)
    replace rL := rL.below bq (Nat.le_refl _)
    replace B4 := B4.below bq
    replace B6 := B6.below bq
    replace B8 := B8.below bq
    replace B10 := B10.below bq
    replace rT := rT.below bq (Nat.le_refl _)
    replace rU := rU.below bq (Nat.le_refl _)
    replace rE := rE.below bq (Nat.le_refl _)
    replace rF := rF.below bq (Nat.le_refl _)
    replace rY := rY.below bq (Nat.le_refl _)
    replace B26 := B26.below bq
    replace B28 := B28.below bq
    replace rZ := rZ.below bq (Nat.le_refl _)
    replace B31 := B31.below bq
    replace B33 := B33.below bq
    have HB27 := bUp HB26 bq HB26.size
    clear HB26
    clear bq
    have bq1 := B26.1
    have bq2 := B26.2.1
    have br1 := B28.1
    have br2 := B28.2.1
    have bs1 := B31.1
    have bs2 := B31.2.1
    have bt1 := B33.1
    have bt2 := B33.2.1
    go_wp2_with fail
    refine (vInts_same AE AF (blL X) _ _ cE cF _ rfl rfl rE rF (by have := blL_length X; omega)).mono ?_
    rintro e w21 ⟨rfl, bq⟩
    clear bq1 bq2 br1 br2 bs1 bs2 bt1 bt2
    replace rc := rc.below bq (Nat.le_refl _)
    replace rL := rL.below bq (Nat.le_refl _)
    replace B4 := B4.below bq
    replace B6 := B6.below bq
    replace B8 := B8.below bq
    replace B10 := B10.below bq
    replace rT := rT.below bq (Nat.le_refl _)
    replace rU := rU.below bq (Nat.le_refl _)
    replace rE := rE.below bq (Nat.le_refl _)
    replace rF := rF.below bq (Nat.le_refl _)
    replace rY := rY.below bq (Nat.le_refl _)
    replace B26 := B26.below bq
    replace B28 := B28.below bq
    replace rZ := rZ.below bq (Nat.le_refl _)
    replace B31 := B31.below bq
    replace B33 := B33.below bq
    have HB28 := bUp HB27 bq HB27.size
    clear HB27
    clear bq
    have bq1 := B26.1
    have bq2 := B26.2.1
    have br1 := B28.1
    have br2 := B28.2.1
    have bs1 := B31.1
    have bs2 := B31.2.1
    have bt1 := B33.1
    have bt2 := B33.2.1
    go_wp2_with fail
    refine (implIsLaw_c AZ Z cZ _ rZ (by omega)).mono ?_
    rintro e w22 ⟨rfl, bq⟩
    clear bq1 bq2 br1 br2 bs1 bs2 bt1 bt2
    replace rc := rc.below bq (Nat.le_refl _)
    replace rL := rL.below bq (Nat.le_refl _)
    replace B4 := B4.below bq
    replace B6 := B6.below bq
    replace B8 := B8.below bq
    replace B10 := B10.below bq
    replace rT := rT.below bq (Nat.le_refl _)
    replace rU := rU.below bq (Nat.le_refl _)
    replace rE := rE.below bq (Nat.le_refl _)
    replace rF := rF.below bq (Nat.le_refl _)
    replace rY := rY.below bq (Nat.le_refl _)
    replace B26 := B26.below bq
    replace B28 := B28.below bq
    replace rZ := rZ.below bq (Nat.le_refl _)
    replace B31 := B31.below bq
    replace B33 := B33.below bq
    have HB29 := bUp HB28 bq HB28.size
    clear HB28
    clear bq
    go_wp2_with fail
    refine (specIsLaw_c AZ Z cZ _ rZ (by omega)).mono ?_
    rintro e w23 ⟨rfl, bq⟩
    replace rc := rc.below bq (Nat.le_refl _)
    replace rL := rL.below bq (Nat.le_refl _)
    replace B4 := B4.below bq
    replace B6 := B6.below bq
    replace B8 := B8.below bq
    replace B10 := B10.below bq
    replace rT := rT.below bq (Nat.le_refl _)
    replace rU := rU.below bq (Nat.le_refl _)
    replace rE := rE.below bq (Nat.le_refl _)
    replace rF := rF.below bq (Nat.le_refl _)
    replace rY := rY.below bq (Nat.le_refl _)
    replace B26 := B26.below bq
    replace B28 := B28.below bq
    replace rZ := rZ.below bq (Nat.le_refl _)
    replace B31 := B31.below bq
    replace B33 := B33.below bq
    have HB30 := bUp HB29 bq HB29.size
    clear HB29
    clear bq
    go_wp2_with fail
    refine (implIsLaw_c AZ Z cZ _ rZ (by omega)).mono ?_
    rintro e w24 ⟨rfl, bq⟩
    replace rc := rc.below bq (Nat.le_refl _)
    replace rL := rL.below bq (Nat.le_refl _)
    replace B4 := B4.below bq
    replace B6 := B6.below bq
    replace B8 := B8.below bq
    replace B10 := B10.below bq
    replace rT := rT.below bq (Nat.le_refl _)
    replace rU := rU.below bq (Nat.le_refl _)
    replace rE := rE.below bq (Nat.le_refl _)
    replace rF := rF.below bq (Nat.le_refl _)
    replace rY := rY.below bq (Nat.le_refl _)
    replace B26 := B26.below bq
    replace B28 := B28.below bq
    replace rZ := rZ.below bq (Nat.le_refl _)
    replace B31 := B31.below bq
    replace B33 := B33.below bq
    have HB31 := bUp HB30 bq HB30.size
    clear HB30
    clear bq
    cases h3 : tmO Y lY
    · go_wp2_with fail
      go_ret
      exact ⟨rfl, HB31⟩
    · obtain ⟨hY4, hv4⟩ := pro4 h3
      have HV4 := Lib.hid hv4
      have HY4 := Lib.hid hY4
      clear hv4 hY4 h3
      go_wp2_with fail
      have C := implGm_c AY Y cY _ rY sY
      rw [HY4.out] at C
      refine (C).mono ?_
      rintro e w25 ⟨rfl, bq⟩
      replace rc := rc.below bq (Nat.le_refl _)
      replace rL := rL.below bq (Nat.le_refl _)
      replace B4 := B4.below bq
      replace B6 := B6.below bq
      replace B8 := B8.below bq
      replace B10 := B10.below bq
      replace rT := rT.below bq (Nat.le_refl _)
      replace rU := rU.below bq (Nat.le_refl _)
      replace rE := rE.below bq (Nat.le_refl _)
      replace rF := rF.below bq (Nat.le_refl _)
      replace rY := rY.below bq (Nat.le_refl _)
      replace B26 := B26.below bq
      replace B28 := B28.below bq
      replace rZ := rZ.below bq (Nat.le_refl _)
      replace B31 := B31.below bq
      replace B33 := B33.below bq
      have HB32 := bUp HB31 bq HB31.size
      clear HB31
      clear bq
      clear C
      have blB35 : Below w25.heap.size w25 (w25.alloc (.cells #[.int .i64 (gmT Y), .int .i64 (gmB Y)] 26)) := (Below.refl _ _).alloc (Nat.le_refl _) _
      replace rc := rc.below blB35 (Nat.le_refl _)
      replace rL := rL.below blB35 (Nat.le_refl _)
      replace B4 := B4.below blB35
      replace B6 := B6.below blB35
      replace B8 := B8.below blB35
      replace B10 := B10.below blB35
      replace rT := rT.below blB35 (Nat.le_refl _)
      replace rU := rU.below blB35 (Nat.le_refl _)
      replace rE := rE.below blB35 (Nat.le_refl _)
      replace rF := rF.below blB35 (Nat.le_refl _)
      replace rY := rY.below blB35 (Nat.le_refl _)
      replace B26 := B26.below blB35
      replace B28 := B28.below blB35
      replace rZ := rZ.below blB35 (Nat.le_refl _)
      replace B31 := B31.below blB35
      replace B33 := B33.below blB35
      have HB33 := bUp HB32 blB35 HB32.size
      clear HB32
      have B35 := Bx.new w25 (.int .i64 (gmT Y)) (.int .i64 (gmB Y)) 26
      clear blB35
      have bq1 := B26.1
      have bq2 := B26.2.1
      have br1 := B35.1
      have br2 := B35.2.1
      go_wp2_with fail
      obtain ⟨f1, f2, f3, f4⟩ := frb_gm Y
      obtain ⟨f5, f6, f7, f8⟩ := frb_tm Y lY
      refine (vLess_is _ _ _ _ false HV4.out (by omega) (by omega) (by omega) (by omega) _).mono ?_
      rintro e w26 ⟨rfl, bq⟩
      clear bq1 bq2 br1 br2
      replace rc := rc.below bq (Nat.le_refl _)
      replace rL := rL.below bq (Nat.le_refl _)
      replace B4 := B4.below bq
      replace B6 := B6.below bq
      replace B8 := B8.below bq
      replace B10 := B10.below bq
      replace rT := rT.below bq (Nat.le_refl _)
      replace rU := rU.below bq (Nat.le_refl _)
      replace rE := rE.below bq (Nat.le_refl _)
      replace rF := rF.below bq (Nat.le_refl _)
      replace rY := rY.below bq (Nat.le_refl _)
      replace B26 := B26.below bq
      replace B28 := B28.below bq
      replace rZ := rZ.below bq (Nat.le_refl _)
      replace B31 := B31.below bq
      replace B33 := B33.below bq
      replace B35 := B35.below bq
      have HB34 := bUp HB33 bq HB33.size
      clear HB33
      clear bq
      clear f1 f2 f3 f4 f5 f6 f7 f8
      go_wp2_with fail
      go_ret
      exact ⟨rfl, HB34⟩
  · have HQ := Lib.hid hq
    have HPM : Hid (pmO X = true) := Lib.hid (pm_lw hq).1
    have HGL : Hid ((gtV X).length = X.length + 1) := Lib.hid (gtV_len hq)
    clear hq
    go_wp2_with fail
    have C := implPm_c AL X cL _ rL sL
    rw [HPM.out] at C
    refine (C).mono ?_
    rintro e w2 ⟨rfl, bq⟩
    replace rc := rc.below bq (Nat.le_refl _)
    replace rL := rL.below bq (Nat.le_refl _)
    have HB1 := bUp b1 bq b1.size
    clear b1
    clear bq
    clear C
    have blB4 : Below w2.heap.size w2 (w2.alloc (.cells #[.int .i64 (pmT X), .int .i64 (pmB X)] 26)) := (Below.refl _ _).alloc (Nat.le_refl _) _
    replace rc := rc.below blB4 (Nat.le_refl _)
    replace rL := rL.below blB4 (Nat.le_refl _)
    have HB2 := bUp HB1 blB4 HB1.size
    clear HB1
    have B4 := Bx.new w2 (.int .i64 (pmT X)) (.int .i64 (pmB X)) 26
    clear blB4
    go_wp2_with fail
    generalize w2.alloc (.cells #[.int .i64 (pmT X), .int .i64 (pmB X)] 26) = v2 at *
    go_wp2_with fail
    have C := specPm_c AL X cL _ rL sL
    rw [HPM.out] at C
    refine (C).mono ?_
    rintro e w3 ⟨rfl, bq⟩
    replace rc := rc.below bq (Nat.le_refl _)
    replace rL := rL.below bq (Nat.le_refl _)
    replace B4 := B4.below bq
    have HB3 := bUp HB2 bq HB2.size
    clear HB2
    clear bq
    clear C
    have blB6 : Below w3.heap.size w3 (w3.alloc (.cells #[.int .i64 (pmT X), .int .i64 (pmB X)] 26)) := (Below.refl _ _).alloc (Nat.le_refl _) _
    replace rc := rc.below blB6 (Nat.le_refl _)
    replace rL := rL.below blB6 (Nat.le_refl _)
    replace B4 := B4.below blB6
    have HB4 := bUp HB3 blB6 HB3.size
    clear HB3
    have B6 := Bx.new w3 (.int .i64 (pmT X)) (.int .i64 (pmB X)) 26
    clear blB6
    go_wp2_with fail
    generalize w3.alloc (.cells #[.int .i64 (pmT X), .int .i64 (pmB X)] 26) = v3 at *
    go_wp2_with fail
    have C := implGm_c AL X cL _ rL sL
    rw [HQ.out] at C
    refine (C).mono ?_
    rintro e w4 ⟨rfl, bq⟩
    replace rc := rc.below bq (Nat.le_refl _)
    replace rL := rL.below bq (Nat.le_refl _)
    replace B4 := B4.below bq
    replace B6 := B6.below bq
    have HB5 := bUp HB4 bq HB4.size
    clear HB4
    clear bq
    clear C
    have blB8 : Below w4.heap.size w4 (w4.alloc (.cells #[.int .i64 (gmT X), .int .i64 (gmB X)] 26)) := (Below.refl _ _).alloc (Nat.le_refl _) _
    replace rc := rc.below blB8 (Nat.le_refl _)
    replace rL := rL.below blB8 (Nat.le_refl _)
    replace B4 := B4.below blB8
    replace B6 := B6.below blB8
    have HB6 := bUp HB5 blB8 HB5.size
    clear HB5
    have B8 := Bx.new w4 (.int .i64 (gmT X)) (.int .i64 (gmB X)) 26
    clear blB8
    go_wp2_with fail
    generalize w4.alloc (.cells #[.int .i64 (gmT X), .int .i64 (gmB X)] 26) = v4 at *
    go_wp2_with fail
    have C := specGm_c AL X cL _ rL sL
    rw [HQ.out] at C
    refine (C).mono ?_
    rintro e w5 ⟨rfl, bq⟩
    replace rc := rc.below bq (Nat.le_refl _)
    replace rL := rL.below bq (Nat.le_refl _)
    replace B4 := B4.below bq
    replace B6 := B6.below bq
    replace B8 := B8.below bq
    have HB7 := bUp HB6 bq HB6.size
    clear HB6
    clear bq
    clear C
    have blB10 : Below w5.heap.size w5 (w5.alloc (.cells #[.int .i64 (gmT X), .int .i64 (gmB X)] 26)) := (Below.refl _ _).alloc (Nat.le_refl _) _
    replace rc := rc.below blB10 (Nat.le_refl _)
    replace rL := rL.below blB10 (Nat.le_refl _)
    replace B4 := B4.below blB10
    replace B6 := B6.below blB10
    replace B8 := B8.below blB10
    have HB8 := bUp HB7 blB10 HB7.size
    clear HB7
    have B10 := Bx.new w5 (.int .i64 (gmT X)) (.int .i64 (gmB X)) 26
    clear blB10
    go_wp2_with fail
    generalize w5.alloc (.cells #[.int .i64 (gmT X), .int .i64 (gmB X)] 26) = v5 at *
    go_wp2_with fail
    have C := implGt_c AL X cL _ rL sL
    rw [HQ.out] at C
    refine (C).mono ?_
    rintro e w6 ⟨AT, cT, rfl, oT, bq⟩
    replace rc := rc.below bq (Nat.le_refl _)
    replace rL := rL.below bq (Nat.le_refl _)
    replace B4 := B4.below bq
    replace B6 := B6.below bq
    replace B8 := B8.below bq
    replace B10 := B10.below bq
    have HB9 := bUp HB8 bq HB8.size
    clear HB8
    clear bq
    clear C
    have rT : Rd _ AT (pcells (gtV X)) := Rd.of_own oT
    obtain ⟨aT, rfl, qz⟩ := rT 0 _ (pcells_get (gtV X) 0 (by rw [HGL.out]; omega)).1
    clear qz
    clear oT
    rw [HGL.out]
    go_wp2_with fail
    have C := specGt_c AL X cL _ rL sL
    rw [HQ.out] at C
    refine (C).mono ?_
    rintro e w7 ⟨AU, cU, rfl, oU, bq⟩
    replace rc := rc.below bq (Nat.le_refl _)
    replace rL := rL.below bq (Nat.le_refl _)
    replace B4 := B4.below bq
    replace B6 := B6.below bq
    replace B8 := B8.below bq
    replace B10 := B10.below bq
    replace rT := rT.below bq (Nat.le_refl _)
    have HB10 := bUp HB9 bq HB9.size
    clear HB9
    clear bq
    clear C
    have rU : Rd _ AU (pcells (gtV X)) := Rd.of_own oU
    clear oU
    rw [HGL.out]
    go_wp2_with fail
    have C := implBest_c AL X cL _ rL sL
    rw [HQ.out] at C
    refine (C).mono ?_
    rintro e w8 ⟨AE, cE, rfl, oE, bq⟩
    replace rc := rc.below bq (Nat.le_refl _)
    replace rL := rL.below bq (Nat.le_refl _)
    replace B4 := B4.below bq
    replace B6 := B6.below bq
    replace B8 := B8.below bq
    replace B10 := B10.below bq
    replace rT := rT.below bq (Nat.le_refl _)
    replace rU := rU.below bq (Nat.le_refl _)
    have HB11 := bUp HB10 bq HB10.size
    clear HB10
    clear bq
    clear C
    have rE := oE.rd
    clear oE
    go_wp2_with fail
    have C := specBest_c AL X cL _ rL sL
    rw [HQ.out] at C
    refine (C).mono ?_
    rintro e w9 ⟨AF, cF, rfl, oF, bq⟩
    replace rc := rc.below bq (Nat.le_refl _)
    replace rL := rL.below bq (Nat.le_refl _)
    replace B4 := B4.below bq
    replace B6 := B6.below bq
    replace B8 := B8.below bq
    replace B10 := B10.below bq
    replace rT := rT.below bq (Nat.le_refl _)
    replace rU := rU.below bq (Nat.le_refl _)
    replace rE := rE.below bq (Nat.le_refl _)
    have HB12 := bUp HB11 bq HB11.size
    clear HB11
    clear bq
    clear C
    have rF := oF.rd
    clear oF
    go_wp2_with fail
    have C := implHt_c AL X cL _ rL sL
    rw [HQ.out] at C
    refine (C).mono ?_
    rintro e w10 ⟨rfl, bq⟩
    replace rc := rc.below bq (Nat.le_refl _)
    replace rL := rL.below bq (Nat.le_refl _)
    replace B4 := B4.below bq
    replace B6 := B6.below bq
    replace B8 := B8.below bq
    replace B10 := B10.below bq
    replace rT := rT.below bq (Nat.le_refl _)
    replace rU := rU.below bq (Nat.le_refl _)
    replace rE := rE.below bq (Nat.le_refl _)
    replace rF := rF.below bq (Nat.le_refl _)
    have HB13 := bUp HB12 bq HB12.size
    clear HB12
    clear bq
    clear C
    go_wp2_with fail
    have C := specHt_c AL X cL _ rL sL
    rw [HQ.out] at C
    refine (C).mono ?_
    rintro e w11 ⟨rfl, bq⟩
    replace rc := rc.below bq (Nat.le_refl _)
    replace rL := rL.below bq (Nat.le_refl _)
    replace B4 := B4.below bq
    replace B6 := B6.below bq
    replace B8 := B8.below bq
    replace B10 := B10.below bq
    replace rT := rT.below bq (Nat.le_refl _)
    replace rU := rU.below bq (Nat.le_refl _)
    replace rE := rE.below bq (Nat.le_refl _)
    replace rF := rF.below bq (Nat.le_refl _)
    have HB14 := bUp HB13 bq HB13.size
    clear HB13
    clear bq
    clear C
    go_wp2_with fail
    have C := vCut_c A bs c 1 _ rc hb hl (by omega) hc
    refine (C).mono ?_
    rintro e w12 ⟨Ak, ck, bk, rfl, rk, hbk, hlk, hck, bq⟩
    replace rc := rc.below bq (Nat.le_refl _)
    replace rL := rL.below bq (Nat.le_refl _)
    replace B4 := B4.below bq
    replace B6 := B6.below bq
    replace B8 := B8.below bq
    replace B10 := B10.below bq
    replace rT := rT.below bq (Nat.le_refl _)
    replace rU := rU.below bq (Nat.le_refl _)
    replace rE := rE.below bq (Nat.le_refl _)
    replace rF := rF.below bq (Nat.le_refl _)
    have HB15 := bUp HB14 bq HB14.size
    clear HB14
    clear bq
    clear C
    go_wp2_with fail
    refine (drawTh_c Ak bk ck _ rk hbk hlk).mono ?_
    rintro e w13 ⟨AY, cY, Y, lY, rfl, rY, sY, hY5, bq⟩
    replace rc := rc.below bq (Nat.le_refl _)
    replace rL := rL.below bq (Nat.le_refl _)
    replace B4 := B4.below bq
    replace B6 := B6.below bq
    replace B8 := B8.below bq
    replace B10 := B10.below bq
    replace rT := rT.below bq (Nat.le_refl _)
    replace rU := rU.below bq (Nat.le_refl _)
    replace rE := rE.below bq (Nat.le_refl _)
    replace rF := rF.below bq (Nat.le_refl _)
    have HB16 := bUp HB15 bq HB15.size
    clear HB15
    clear bq
    clear rk hbk hlk hck
    go_wp2_with fail
    have C := implTh_c AY Y cY lY _ rY sY
    skip
    refine (C).mono ?_
    rintro e w14 ⟨rfl, bq⟩
    replace rc := rc.below bq (Nat.le_refl _)
    replace rL := rL.below bq (Nat.le_refl _)
    replace B4 := B4.below bq
    replace B6 := B6.below bq
    replace B8 := B8.below bq
    replace B10 := B10.below bq
    replace rT := rT.below bq (Nat.le_refl _)
    replace rU := rU.below bq (Nat.le_refl _)
    replace rE := rE.below bq (Nat.le_refl _)
    replace rF := rF.below bq (Nat.le_refl _)
    replace rY := rY.below bq (Nat.le_refl _)
    have HB17 := bUp HB16 bq HB16.size
    clear HB16
    clear bq
    clear C
    have blB26 : Below w14.heap.size w14 (w14.alloc (.cells #[.int .i64 (tmT Y lY), .int .i64 (tmB Y lY)] 26)) := (Below.refl _ _).alloc (Nat.le_refl _) _
    replace rc := rc.below blB26 (Nat.le_refl _)
    replace rL := rL.below blB26 (Nat.le_refl _)
    replace B4 := B4.below blB26
    replace B6 := B6.below blB26
    replace B8 := B8.below blB26
    replace B10 := B10.below blB26
    replace rT := rT.below blB26 (Nat.le_refl _)
    replace rU := rU.below blB26 (Nat.le_refl _)
    replace rE := rE.below blB26 (Nat.le_refl _)
    replace rF := rF.below blB26 (Nat.le_refl _)
    replace rY := rY.below blB26 (Nat.le_refl _)
    have HB18 := bUp HB17 blB26 HB17.size
    clear HB17
    have B26 := Bx.new w14 (.int .i64 (tmT Y lY)) (.int .i64 (tmB Y lY)) 26
    clear blB26
    go_wp2_with fail
    generalize w14.alloc (.cells #[.int .i64 (tmT Y lY), .int .i64 (tmB Y lY)] 26) = v14 at *
    go_wp2_with fail
    have C := specTh_c AY Y cY lY _ rY sY
    skip
    refine (C).mono ?_
    rintro e w15 ⟨rfl, bq⟩
    replace rc := rc.below bq (Nat.le_refl _)
    replace rL := rL.below bq (Nat.le_refl _)
    replace B4 := B4.below bq
    replace B6 := B6.below bq
    replace B8 := B8.below bq
    replace B10 := B10.below bq
    replace rT := rT.below bq (Nat.le_refl _)
    replace rU := rU.below bq (Nat.le_refl _)
    replace rE := rE.below bq (Nat.le_refl _)
    replace rF := rF.below bq (Nat.le_refl _)
    replace rY := rY.below bq (Nat.le_refl _)
    replace B26 := B26.below bq
    have HB19 := bUp HB18 bq HB18.size
    clear HB18
    clear bq
    clear C
    have blB28 : Below w15.heap.size w15 (w15.alloc (.cells #[.int .i64 (tmT Y lY), .int .i64 (tmB Y lY)] 26)) := (Below.refl _ _).alloc (Nat.le_refl _) _
    replace rc := rc.below blB28 (Nat.le_refl _)
    replace rL := rL.below blB28 (Nat.le_refl _)
    replace B4 := B4.below blB28
    replace B6 := B6.below blB28
    replace B8 := B8.below blB28
    replace B10 := B10.below blB28
    replace rT := rT.below blB28 (Nat.le_refl _)
    replace rU := rU.below blB28 (Nat.le_refl _)
    replace rE := rE.below blB28 (Nat.le_refl _)
    replace rF := rF.below blB28 (Nat.le_refl _)
    replace rY := rY.below blB28 (Nat.le_refl _)
    replace B26 := B26.below blB28
    have HB20 := bUp HB19 blB28 HB19.size
    clear HB19
    have B28 := Bx.new w15 (.int .i64 (tmT Y lY)) (.int .i64 (tmB Y lY)) 26
    clear blB28
    go_wp2_with fail
    generalize w15.alloc (.cells #[.int .i64 (tmT Y lY), .int .i64 (tmB Y lY)] 26) = v15 at *
    go_wp2_with fail
    have C := vCut_c A bs c 2 _ rc hb hl (by omega) hc
    refine (C).mono ?_
    rintro e w16 ⟨Ak, ck, bk, rfl, rk, hbk, hlk, hck, bq⟩
    replace rc := rc.below bq (Nat.le_refl _)
    replace rL := rL.below bq (Nat.le_refl _)
    replace B4 := B4.below bq
    replace B6 := B6.below bq
    replace B8 := B8.below bq
    replace B10 := B10.below bq
    replace rT := rT.below bq (Nat.le_refl _)
    replace rU := rU.below bq (Nat.le_refl _)
    replace rE := rE.below bq (Nat.le_refl _)
    replace rF := rF.below bq (Nat.le_refl _)
    replace rY := rY.below bq (Nat.le_refl _)
    replace B26 := B26.below bq
    replace B28 := B28.below bq
    have HB21 := bUp HB20 bq HB20.size
    clear HB20
    clear bq
    clear C
    go_wp2_with fail
    refine (drawLm_c Ak bk ck _ rk hbk hlk).mono ?_
    rintro e w17 ⟨AZ, cZ, Z, rfl, rZ, hZ6, bq⟩
    replace rc := rc.below bq (Nat.le_refl _)
    replace rL := rL.below bq (Nat.le_refl _)
    replace B4 := B4.below bq
    replace B6 := B6.below bq
    replace B8 := B8.below bq
    replace B10 := B10.below bq
    replace rT := rT.below bq (Nat.le_refl _)
    replace rU := rU.below bq (Nat.le_refl _)
    replace rE := rE.below bq (Nat.le_refl _)
    replace rF := rF.below bq (Nat.le_refl _)
    replace rY := rY.below bq (Nat.le_refl _)
    replace B26 := B26.below bq
    replace B28 := B28.below bq
    have HB22 := bUp HB21 bq HB21.size
    clear HB21
    clear bq
    clear rk hbk hlk hck
    have HLM := Lib.hid (lm_law Z)
    go_wp2_with fail
    have C := implLm_c AZ Z cZ _ rZ (by omega)
    rw [HLM.out] at C
    refine (C).mono ?_
    rintro e w18 ⟨rfl, bq⟩
    replace rc := rc.below bq (Nat.le_refl _)
    replace rL := rL.below bq (Nat.le_refl _)
    replace B4 := B4.below bq
    replace B6 := B6.below bq
    replace B8 := B8.below bq
    replace B10 := B10.below bq
    replace rT := rT.below bq (Nat.le_refl _)
    replace rU := rU.below bq (Nat.le_refl _)
    replace rE := rE.below bq (Nat.le_refl _)
    replace rF := rF.below bq (Nat.le_refl _)
    replace rY := rY.below bq (Nat.le_refl _)
    replace B26 := B26.below bq
    replace B28 := B28.below bq
    replace rZ := rZ.below bq (Nat.le_refl _)
    have HB23 := bUp HB22 bq HB22.size
    clear HB22
    clear bq
    clear C
    have blB31 : Below w18.heap.size w18 (w18.alloc (.cells #[.int .i64 (lmT Z), .int .i64 (lmB Z)] 26)) := (Below.refl _ _).alloc (Nat.le_refl _) _
    replace rc := rc.below blB31 (Nat.le_refl _)
    replace rL := rL.below blB31 (Nat.le_refl _)
    replace B4 := B4.below blB31
    replace B6 := B6.below blB31
    replace B8 := B8.below blB31
    replace B10 := B10.below blB31
    replace rT := rT.below blB31 (Nat.le_refl _)
    replace rU := rU.below blB31 (Nat.le_refl _)
    replace rE := rE.below blB31 (Nat.le_refl _)
    replace rF := rF.below blB31 (Nat.le_refl _)
    replace rY := rY.below blB31 (Nat.le_refl _)
    replace B26 := B26.below blB31
    replace B28 := B28.below blB31
    replace rZ := rZ.below blB31 (Nat.le_refl _)
    have HB24 := bUp HB23 blB31 HB23.size
    clear HB23
    have B31 := Bx.new w18 (.int .i64 (lmT Z)) (.int .i64 (lmB Z)) 26
    clear blB31
    go_wp2_with fail
    generalize w18.alloc (.cells #[.int .i64 (lmT Z), .int .i64 (lmB Z)] 26) = v18 at *
    go_wp2_with fail
    have C := specLm_c AZ Z cZ _ rZ (by omega)
    rw [HLM.out] at C
    refine (C).mono ?_
    rintro e w19 ⟨rfl, bq⟩
    replace rc := rc.below bq (Nat.le_refl _)
    replace rL := rL.below bq (Nat.le_refl _)
    replace B4 := B4.below bq
    replace B6 := B6.below bq
    replace B8 := B8.below bq
    replace B10 := B10.below bq
    replace rT := rT.below bq (Nat.le_refl _)
    replace rU := rU.below bq (Nat.le_refl _)
    replace rE := rE.below bq (Nat.le_refl _)
    replace rF := rF.below bq (Nat.le_refl _)
    replace rY := rY.below bq (Nat.le_refl _)
    replace B26 := B26.below bq
    replace B28 := B28.below bq
    replace rZ := rZ.below bq (Nat.le_refl _)
    replace B31 := B31.below bq
    have HB25 := bUp HB24 bq HB24.size
    clear HB24
    clear bq
    clear C
    have blB33 : Below w19.heap.size w19 (w19.alloc (.cells #[.int .i64 (lmT Z), .int .i64 (lmB Z)] 26)) := (Below.refl _ _).alloc (Nat.le_refl _) _
    replace rc := rc.below blB33 (Nat.le_refl _)
    replace rL := rL.below blB33 (Nat.le_refl _)
    replace B4 := B4.below blB33
    replace B6 := B6.below blB33
    replace B8 := B8.below blB33
    replace B10 := B10.below blB33
    replace rT := rT.below blB33 (Nat.le_refl _)
    replace rU := rU.below blB33 (Nat.le_refl _)
    replace rE := rE.below blB33 (Nat.le_refl _)
    replace rF := rF.below blB33 (Nat.le_refl _)
    replace rY := rY.below blB33 (Nat.le_refl _)
    replace B26 := B26.below blB33
    replace B28 := B28.below blB33
    replace rZ := rZ.below blB33 (Nat.le_refl _)
    replace B31 := B31.below blB33
    have HB26 := bUp HB25 blB33 HB25.size
    clear HB25
    have B33 := Bx.new w19 (.int .i64 (lmT Z)) (.int .i64 (lmB Z)) 26
    clear blB33
    have b41 := B4.1
    have b42 := B4.2.1
    have b61 := B6.1
    have b62 := B6.2.1
    have b81 := B8.1
    have b82 := B8.2.1
    have ba1 := B10.1
    have ba2 := B10.2.1
    have bq1 := B26.1
    have bq2 := B26.2.1
    have br1 := B28.1
    have br2 := B28.2.1
    have bs1 := B31.1
    have bs2 := B31.2.1
    have bt1 := B33.1
    have bt2 := B33.2.1
    have E1 := fun w => (pair_eq (pmT X) (pmB X) (pmT X) (pmB X) w).trans (by rw [BEq.rfl, BEq.rfl, Bool.and_self])
    have E2 := fun w => (pair_eq (gmT X) (gmB X) (gmT X) (gmB X) w).trans (by rw [BEq.rfl, BEq.rfl, Bool.and_self])
    have E3 := fun w => (pair_eq (tmT Y lY) (tmB Y lY) (tmT Y lY) (tmB Y lY) w).trans (by rw [BEq.rfl, BEq.rfl, Bool.and_self])
    have E4 := fun w => (pair_eq (lmT Z) (lmB Z) (lmT Z) (lmB Z) w).trans (by rw [BEq.rfl, BEq.rfl, Bool.and_self])
    go_wp2_with fail
    refine (vPairs_same _ AU (gtV X) _ _ cT cU _ HGL.out.symm HGL.out.symm rT rU (by rw [HGL.out]; omega)).mono ?_
    rintro e w20 ⟨rfl, bq⟩
    clear b41 b42 b61 b62 b81 b82 ba1 ba2 bq1 bq2 br1 br2 bs1 bs2 bt1 bt2
    replace rc := rc.below bq (Nat.le_refl _)
    replace rL := rL.below bq (Nat.le_refl _)
    replace B4 := B4.below bq
    replace B6 := B6.below bq
    replace B8 := B8.below bq
    replace B10 := B10.below bq
    replace rT := rT.below bq (Nat.le_refl _)
    replace rU := rU.below bq (Nat.le_refl _)
    replace rE := rE.below bq (Nat.le_refl _)
    replace rF := rF.below bq (Nat.le_refl _)
    replace rY := rY.below bq (Nat.le_refl _)
    replace B26 := B26.below bq
    replace B28 := B28.below bq
    replace rZ := rZ.below bq (Nat.le_refl _)
    replace B31 := B31.below bq
    replace B33 := B33.below bq
    have HB27 := bUp HB26 bq HB26.size
    clear HB26
    clear bq
    have bq1 := B26.1
    have bq2 := B26.2.1
    have br1 := B28.1
    have br2 := B28.2.1
    have bs1 := B31.1
    have bs2 := B31.2.1
    have bt1 := B33.1
    have bt2 := B33.2.1
    go_wp2_with fail
    refine (vInts_same AE AF (blL X) _ _ cE cF _ rfl rfl rE rF (by have := blL_length X; omega)).mono ?_
    rintro e w21 ⟨rfl, bq⟩
    clear bq1 bq2 br1 br2 bs1 bs2 bt1 bt2
    replace rc := rc.below bq (Nat.le_refl _)
    replace rL := rL.below bq (Nat.le_refl _)
    replace B4 := B4.below bq
    replace B6 := B6.below bq
    replace B8 := B8.below bq
    replace B10 := B10.below bq
    replace rT := rT.below bq (Nat.le_refl _)
    replace rU := rU.below bq (Nat.le_refl _)
    replace rE := rE.below bq (Nat.le_refl _)
    replace rF := rF.below bq (Nat.le_refl _)
    replace rY := rY.below bq (Nat.le_refl _)
    replace B26 := B26.below bq
    replace B28 := B28.below bq
    replace rZ := rZ.below bq (Nat.le_refl _)
    replace B31 := B31.below bq
    replace B33 := B33.below bq
    have HB28 := bUp HB27 bq HB27.size
    clear HB27
    clear bq
    have bq1 := B26.1
    have bq2 := B26.2.1
    have br1 := B28.1
    have br2 := B28.2.1
    have bs1 := B31.1
    have bs2 := B31.2.1
    have bt1 := B33.1
    have bt2 := B33.2.1
    go_wp2_with fail
    refine (implIsLaw_c AZ Z cZ _ rZ (by omega)).mono ?_
    rintro e w22 ⟨rfl, bq⟩
    clear bq1 bq2 br1 br2 bs1 bs2 bt1 bt2
    replace rc := rc.below bq (Nat.le_refl _)
    replace rL := rL.below bq (Nat.le_refl _)
    replace B4 := B4.below bq
    replace B6 := B6.below bq
    replace B8 := B8.below bq
    replace B10 := B10.below bq
    replace rT := rT.below bq (Nat.le_refl _)
    replace rU := rU.below bq (Nat.le_refl _)
    replace rE := rE.below bq (Nat.le_refl _)
    replace rF := rF.below bq (Nat.le_refl _)
    replace rY := rY.below bq (Nat.le_refl _)
    replace B26 := B26.below bq
    replace B28 := B28.below bq
    replace rZ := rZ.below bq (Nat.le_refl _)
    replace B31 := B31.below bq
    replace B33 := B33.below bq
    have HB29 := bUp HB28 bq HB28.size
    clear HB28
    clear bq
    go_wp2_with fail
    refine (specIsLaw_c AZ Z cZ _ rZ (by omega)).mono ?_
    rintro e w23 ⟨rfl, bq⟩
    replace rc := rc.below bq (Nat.le_refl _)
    replace rL := rL.below bq (Nat.le_refl _)
    replace B4 := B4.below bq
    replace B6 := B6.below bq
    replace B8 := B8.below bq
    replace B10 := B10.below bq
    replace rT := rT.below bq (Nat.le_refl _)
    replace rU := rU.below bq (Nat.le_refl _)
    replace rE := rE.below bq (Nat.le_refl _)
    replace rF := rF.below bq (Nat.le_refl _)
    replace rY := rY.below bq (Nat.le_refl _)
    replace B26 := B26.below bq
    replace B28 := B28.below bq
    replace rZ := rZ.below bq (Nat.le_refl _)
    replace B31 := B31.below bq
    replace B33 := B33.below bq
    have HB30 := bUp HB29 bq HB29.size
    clear HB29
    clear bq
    go_wp2_with fail
    refine (implIsLaw_c AZ Z cZ _ rZ (by omega)).mono ?_
    rintro e w24 ⟨rfl, bq⟩
    replace rc := rc.below bq (Nat.le_refl _)
    replace rL := rL.below bq (Nat.le_refl _)
    replace B4 := B4.below bq
    replace B6 := B6.below bq
    replace B8 := B8.below bq
    replace B10 := B10.below bq
    replace rT := rT.below bq (Nat.le_refl _)
    replace rU := rU.below bq (Nat.le_refl _)
    replace rE := rE.below bq (Nat.le_refl _)
    replace rF := rF.below bq (Nat.le_refl _)
    replace rY := rY.below bq (Nat.le_refl _)
    replace B26 := B26.below bq
    replace B28 := B28.below bq
    replace rZ := rZ.below bq (Nat.le_refl _)
    replace B31 := B31.below bq
    replace B33 := B33.below bq
    have HB31 := bUp HB30 bq HB30.size
    clear HB30
    clear bq
    cases h3 : tmO Y lY
    · go_upto_region 26 with fail
      rename_i K1 hK1 K0 hK0
      replace hK1 := Lib.hid hK1
      go_wp2_with fail
      refine hK1.out _ _ ?_
      exact fprTail X HQ.out hX5 AL cL _ _ _ _ _ _ HB31 rL sL rT B4 B8 _ _ _ _ _ _ _ _ _ _ _ _ _ _ _ _ _ _ _ _ _ _ _ _ _ _ _ _ _ _ _ _ _ _ _ _ _ _ _ _ _ _ _ _ _ _ _ _ _ _ _ _ _ _ _ _ _ _ _ _ _ _ _ _ _ _ _ _ _ _ _ _ _ _ _ _ _ _ _ _ _ _ _ _ _ _ _ _ _ _ _ _ _ _ _ _ _ _ _ _ _ _ _ _ _ _ _ _ _ _ _ _ _ _ _ _ _ _ _ _ _ _ _ _ _ _ _ _ _ _ _ _ _ _ _ _ _ _ _ _ _ _ _ _ _ _ _ _ _ _ _ _ _ _ _ _ _ _ _ _ _ _ _ _ _ _ _ _ _ _ _ _ _ _ _ _ _ _ _ _ _ _ _ _ _ _ _ _ _ _ _ _ _ _ _ _ _ _ _ _ _ _ _ _ _ _ _ _ _ _ _ _ _ _ _ _ _ _ _ _ _ _ _ _ _ _ _ _ _ _ _ _ _ _ _ _ _ _ _ _ _ _ _ _ _ _ _ _ _ _ _ _ _ _ _ _ _ _ _ _ _ _ _ _ _ _ _ _ _ _ _ _ _ _ _ _ _ _ _ _ _ _ _ _ _ _ _ _ _ _ _ _ _ _ _ _ _ _ _ _ _ _ _
    · obtain ⟨hY4, hv4⟩ := pro4 h3
      have HV4 := Lib.hid hv4
      have HY4 := Lib.hid hY4
      clear hv4 hY4 h3
      go_wp2_with fail
      have C := implGm_c AY Y cY _ rY sY
      rw [HY4.out] at C
      refine (C).mono ?_
      rintro e w25 ⟨rfl, bq⟩
      replace rc := rc.below bq (Nat.le_refl _)
      replace rL := rL.below bq (Nat.le_refl _)
      replace B4 := B4.below bq
      replace B6 := B6.below bq
      replace B8 := B8.below bq
      replace B10 := B10.below bq
      replace rT := rT.below bq (Nat.le_refl _)
      replace rU := rU.below bq (Nat.le_refl _)
      replace rE := rE.below bq (Nat.le_refl _)
      replace rF := rF.below bq (Nat.le_refl _)
      replace rY := rY.below bq (Nat.le_refl _)
      replace B26 := B26.below bq
      replace B28 := B28.below bq
      replace rZ := rZ.below bq (Nat.le_refl _)
      replace B31 := B31.below bq
      replace B33 := B33.below bq
      have HB32 := bUp HB31 bq HB31.size
      clear HB31
      clear bq
      clear C
      have blB35 : Below w25.heap.size w25 (w25.alloc (.cells #[.int .i64 (gmT Y), .int .i64 (gmB Y)] 26)) := (Below.refl _ _).alloc (Nat.le_refl _) _
      replace rc := rc.below blB35 (Nat.le_refl _)
      replace rL := rL.below blB35 (Nat.le_refl _)
      replace B4 := B4.below blB35
      replace B6 := B6.below blB35
      replace B8 := B8.below blB35
      replace B10 := B10.below blB35
      replace rT := rT.below blB35 (Nat.le_refl _)
      replace rU := rU.below blB35 (Nat.le_refl _)
      replace rE := rE.below blB35 (Nat.le_refl _)
      replace rF := rF.below blB35 (Nat.le_refl _)
      replace rY := rY.below blB35 (Nat.le_refl _)
      replace B26 := B26.below blB35
      replace B28 := B28.below blB35
      replace rZ := rZ.below blB35 (Nat.le_refl _)
      replace B31 := B31.below blB35
      replace B33 := B33.below blB35
      have HB33 := bUp HB32 blB35 HB32.size
      clear HB32
      have B35 := Bx.new w25 (.int .i64 (gmT Y)) (.int .i64 (gmB Y)) 26
      clear blB35
      have bq1 := B26.1
      have bq2 := B26.2.1
      have br1 := B35.1
      have br2 := B35.2.1
      go_wp2_with fail
      obtain ⟨f1, f2, f3, f4⟩ := frb_gm Y
      obtain ⟨f5, f6, f7, f8⟩ := frb_tm Y lY
      refine (vLess_is _ _ _ _ false HV4.out (by omega) (by omega) (by omega) (by omega) _).mono ?_
      rintro e w26 ⟨rfl, bq⟩
      clear bq1 bq2 br1 br2
      replace rc := rc.below bq (Nat.le_refl _)
      replace rL := rL.below bq (Nat.le_refl _)
      replace B4 := B4.below bq
      replace B6 := B6.below bq
      replace B8 := B8.below bq
      replace B10 := B10.below bq
      replace rT := rT.below bq (Nat.le_refl _)
      replace rU := rU.below bq (Nat.le_refl _)
      replace rE := rE.below bq (Nat.le_refl _)
      replace rF := rF.below bq (Nat.le_refl _)
      replace rY := rY.below bq (Nat.le_refl _)
      replace B26 := B26.below bq
      replace B28 := B28.below bq
      replace rZ := rZ.below bq (Nat.le_refl _)
      replace B31 := B31.below bq
      replace B33 := B33.below bq
      replace B35 := B35.below bq
      have HB34 := bUp HB33 bq HB33.size
      clear HB33
      clear bq
      clear f1 f2 f3 f4 f5 f6 f7 f8
      go_upto_region 26 with fail
      rename_i K1 hK1 K0 hK0
      replace hK1 := Lib.hid hK1
      go_wp2_with fail
      refine hK1.out _ _ ?_
      exact fprTail X HQ.out hX5 AL cL _ _ _ _ _ _ HB34 rL sL rT B4 B8 _ _ _ _ _ _ _ _ _ _ _ _ _ _ _ _ _ _ _ _ _ _ _ _ _ _ _ _ _ _ _ _ _ _ _ _ _ _ _ _ _ _ _ _ _ _ _ _ _ _ _ _ _ _ _ _ _ _ _ _ _ _ _ _ _ _ _ _ _ _ _ _ _ _ _ _ _ _ _ _ _ _ _ _ _ _ _ _ _ _ _ _ _ _ _ _ _ _ _ _ _ _ _ _ _ _ _ _ _ _ _ _ _ _ _ _ _ _ _ _ _ _ _ _ _ _ _ _ _ _ _ _ _ _ _ _ _ _ _ _ _ _ _ _ _ _ _ _ _ _ _ _ _ _ _ _ _ _ _ _ _ _ _ _ _ _ _ _ _ _ _ _ _ _ _ _ _ _ _ _ _ _ _ _ _ _ _ _ _ _ _ _ _ _ _ _ _ _ _ _ _ _ _ _ _ _ _ _ _ _ _ _ _ _ _ _ _ _ _ _ _ _ _ _ _ _ _ _ _ _ _ _ _ _ _ _ _ _ _ _ _ _ _ _ _ _ _ _ _ _ _ _ _ _ _ _ _ _ _ _ _ _ _ _ _ _ _ _ _ _ _ _ _ _ _ _ _ _ _ _ _ _ _ _ _ _ _ _ _ _ _ _ _ _ _ _ _ _ _ _ _ _ _
end Go.Proofs.Ytjnllbmknblecaa
