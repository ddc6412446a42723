/- The law FnWords: its walk. (Written by gen_wrr.py.) -/
import Derived.Test.YtbgkeecndagkgaaWrS
import Derived.Test.YtbgkeecndagkgaaDw9
import Derived.Test.YtbgkeecndagkgaaByt
import Derived.Test.YtbgkeecndagkgaaFfX
import Derived.Test.YtbgkeecndagkgaaFfS
import Derived.Test.YtbgkeecndagkgaaFfI
namespace Go.Proofs.Ytbgkeecndagkgaa
open Go.RowKit

set_option maxRecDepth 100000 in
set_option maxHeartbeats 16000000 in
theorem lawWr (A : Option Addr) (bs : List Int) (c : Nat) (w : World) (rc : Rd w A (u8s bs)) (hb : ByOk bs) (hlen : bs.length ≤ 9223372036854775807) (hc : bs.length ≤ c) :
    Calls Try.prog 3 #[.slice A bs.length c] w fun e w' => e = .returned (.bool true) ∧ Below w.heap.size w w' := by
  by_cases hbig : 65536 < (bs.length : Int)
  · have C := vBig_c A bs c w hlen
    rw [decide_eq_true hbig] at C
    go_enter Try.func3, Try.ntmps3
    go_wp2_with fail
    refine C.mono ?_
    rintro e w' ⟨rfl, rfl⟩
    go_wp2
    go_ret
    exact ⟨rfl, Below.refl _ _⟩
  have hl : bs.length ≤ 65536 := by omega
  have C := vBig_c A bs c w hlen
  rw [decide_eq_false hbig] at C
  clear hbig
  go_enter Try.func3, Try.ntmps3
  go_wp2_with fail
  refine C.mono ?_
  rintro e w' ⟨rfl, rfl⟩
  clear C
  go_wp2_with fail
  refine (drawFf_c A bs c _ rc hb (by omega)).mono ?_
  rintro e w1 ⟨f, AW, cw, wd, n, rfl, rW, hw9, hcw, bq⟩
  replace rc := rc.below bq (Nat.le_refl _)
  have HB1 := bq
  clear bq
  go_wp2_with fail
  refine (implFf_c f AW wd cw n _ rW (by omega) hcw).mono ?_
  rintro e w2 ⟨AF, cF, rfl, oF, bq⟩
  replace rc := rc.below bq (Nat.le_refl _)
  replace rW := rW.below bq (Nat.le_refl _)
  have HB2 := bUp HB1 bq HB1.size
  clear HB1
  clear bq
  have rF := oF.rd
  clear oF
  go_wp2_with fail
  refine (specFf_c f AW wd cw n _ rW (by omega) hcw).mono ?_
  rintro e w3 ⟨AG, cG, rfl, oG, bq⟩
  replace rc := rc.below bq (Nat.le_refl _)
  replace rW := rW.below bq (Nat.le_refl _)
  replace rF := rF.below bq (Nat.le_refl _)
  have HB3 := bUp HB2 bq HB2.size
  clear HB2
  clear bq
  have rG := oG.rd
  clear oG
  go_wp2_with fail
  refine (implWW_c f AW wd cw _ rW (by omega) hcw).mono ?_
  rintro e w4 ⟨rfl, bq⟩
  replace rc := rc.below bq (Nat.le_refl _)
  replace rW := rW.below bq (Nat.le_refl _)
  replace rF := rF.below bq (Nat.le_refl _)
  replace rG := rG.below bq (Nat.le_refl _)
  have HB4 := bUp HB3 bq HB3.size
  clear HB3
  clear bq
  go_wp2_with fail
  refine (specWW_c f AW wd cw _ rW (by omega) hcw).mono ?_
  rintro e w5 ⟨rfl, bq⟩
  replace rc := rc.below bq (Nat.le_refl _)
  replace rW := rW.below bq (Nat.le_refl _)
  replace rF := rF.below bq (Nat.le_refl _)
  replace rG := rG.below bq (Nat.le_refl _)
  have HB5 := bUp HB4 bq HB4.size
  clear HB4
  clear bq
  go_wp2_with fail
  have C := vCut_c A bs c 1 _ rc hb hl (by omega) hc
  refine (C).mono ?_
  rintro e w6 ⟨Ak, ck, bk, rfl, rk, hbk, hlk, hck, bq⟩
  replace rc := rc.below bq (Nat.le_refl _)
  replace rW := rW.below bq (Nat.le_refl _)
  replace rF := rF.below bq (Nat.le_refl _)
  replace rG := rG.below bq (Nat.le_refl _)
  have HB6 := bUp HB5 bq HB5.size
  clear HB5
  clear bq
  clear C
  go_wp2_with fail
  refine (drawTw_c Ak bk ck _ rk hbk hlk).mono ?_
  rintro e w7 ⟨g, AO, cO, os, AT, cT, ts, rfl, rO, hO9, hcO, rT, hT16, hcT, bq⟩
  replace rc := rc.below bq (Nat.le_refl _)
  replace rW := rW.below bq (Nat.le_refl _)
  replace rF := rF.below bq (Nat.le_refl _)
  replace rG := rG.below bq (Nat.le_refl _)
  have HB7 := bUp HB6 bq HB6.size
  clear HB6
  clear bq
  clear rk hbk hlk hck
  go_wp2_with fail
  refine (implTw_c g AO AT os ts cO cT _ rO rT (by omega) (by omega) hcO hcT).mono ?_
  rintro e w8 ⟨rfl, bq⟩
  replace rc := rc.below bq (Nat.le_refl _)
  replace rW := rW.below bq (Nat.le_refl _)
  replace rF := rF.below bq (Nat.le_refl _)
  replace rG := rG.below bq (Nat.le_refl _)
  replace rO := rO.below bq (Nat.le_refl _)
  replace rT := rT.below bq (Nat.le_refl _)
  have HB8 := bUp HB7 bq HB7.size
  clear HB7
  clear bq
  go_wp2_with fail
  refine (specTw_c g AO AT os ts cO cT _ rO rT (by omega) (by omega) hcO hcT).mono ?_
  rintro e w9 ⟨rfl, bq⟩
  replace rc := rc.below bq (Nat.le_refl _)
  replace rW := rW.below bq (Nat.le_refl _)
  replace rF := rF.below bq (Nat.le_refl _)
  replace rG := rG.below bq (Nat.le_refl _)
  replace rO := rO.below bq (Nat.le_refl _)
  replace rT := rT.below bq (Nat.le_refl _)
  have HB9 := bUp HB8 bq HB8.size
  clear HB8
  clear bq
  clear rO rT hO9 hcO hT16 hcT
  generalize twV g os ts = tv at *
  generalize twOk g os ts = tk at *
  go_wp2_with fail
  have C := vCut_c A bs c 2 _ rc hb hl (by omega) hc
  refine (C).mono ?_
  rintro e w10 ⟨Ak, ck, bk, rfl, rk, hbk, hlk, hck, bq⟩
  replace rc := rc.below bq (Nat.le_refl _)
  replace rW := rW.below bq (Nat.le_refl _)
  replace rF := rF.below bq (Nat.le_refl _)
  replace rG := rG.below bq (Nat.le_refl _)
  have HB10 := bUp HB9 bq HB9.size
  clear HB9
  clear bq
  clear C
  go_wp2_with fail
  refine (drawWo_c Ak bk ck _ rk hbk hlk).mono ?_
  rintro e w11 ⟨h, AX, cx, xs, AY, cy, ys, rfl, rX, hx9, hcx, rY, hy16, hcy, bq⟩
  replace rc := rc.below bq (Nat.le_refl _)
  replace rW := rW.below bq (Nat.le_refl _)
  replace rF := rF.below bq (Nat.le_refl _)
  replace rG := rG.below bq (Nat.le_refl _)
  have HB11 := bUp HB10 bq HB10.size
  clear HB10
  clear bq
  clear rk hbk hlk hck rc
  go_wp2_with fail
  refine (implWo_c h AX AY xs ys cx cy _ rX rY (by omega) (by omega) hcx hcy).mono ?_
  rintro e w12 ⟨rfl, bq⟩
  replace rW := rW.below bq (Nat.le_refl _)
  replace rF := rF.below bq (Nat.le_refl _)
  replace rG := rG.below bq (Nat.le_refl _)
  replace rX := rX.below bq (Nat.le_refl _)
  replace rY := rY.below bq (Nat.le_refl _)
  have HB12 := bUp HB11 bq HB11.size
  clear HB11
  clear bq
  have blB1 : Below w12.heap.size w12 (w12.alloc (.cells #[.int .i64 (woT h xs ys), .int .i64 (woB h xs ys)] 35)) := (Below.refl _ _).alloc (Nat.le_refl _) _
  replace rW := rW.below blB1 (Nat.le_refl _)
  replace rF := rF.below blB1 (Nat.le_refl _)
  replace rG := rG.below blB1 (Nat.le_refl _)
  replace rX := rX.below blB1 (Nat.le_refl _)
  replace rY := rY.below blB1 (Nat.le_refl _)
  have HB13 := bUp HB12 blB1 HB12.size
  clear HB12
  have B1 := Bx.new w12 (.int .i64 (woT h xs ys)) (.int .i64 (woB h xs ys)) 35
  clear blB1
  go_wp2_with fail
  generalize w12.alloc (.cells #[.int .i64 (woT h xs ys), .int .i64 (woB h xs ys)] 35) = v12 at *
  go_wp2_with fail
  refine (specWo_c h AX AY xs ys cx cy _ rX rY (by omega) (by omega) hcx hcy).mono ?_
  rintro e w13 ⟨rfl, bq⟩
  replace rW := rW.below bq (Nat.le_refl _)
  replace rF := rF.below bq (Nat.le_refl _)
  replace rG := rG.below bq (Nat.le_refl _)
  replace rX := rX.below bq (Nat.le_refl _)
  replace rY := rY.below bq (Nat.le_refl _)
  replace B1 := B1.below bq
  have HB14 := bUp HB13 bq HB13.size
  clear HB13
  clear bq
  have blB2 : Below w13.heap.size w13 (w13.alloc (.cells #[.int .i64 (woT h xs ys), .int .i64 (woB h xs ys)] 35)) := (Below.refl _ _).alloc (Nat.le_refl _) _
  replace rW := rW.below blB2 (Nat.le_refl _)
  replace rF := rF.below blB2 (Nat.le_refl _)
  replace rG := rG.below blB2 (Nat.le_refl _)
  replace rX := rX.below blB2 (Nat.le_refl _)
  replace rY := rY.below blB2 (Nat.le_refl _)
  replace B1 := B1.below blB2
  have HB15 := bUp HB14 blB2 HB14.size
  clear HB14
  have B2 := Bx.new w13 (.int .i64 (woT h xs ys)) (.int .i64 (woB h xs ys)) 35
  clear blB2
  go_wp2_with fail
  generalize w13.alloc (.cells #[.int .i64 (woT h xs ys), .int .i64 (woB h xs ys)] 35) = v13 at *
  refine (implOO_c h AX AY xs ys cx cy _ rX rY (by omega) (by omega) hcx hcy).mono ?_
  rintro e w14 ⟨AP, cP, rfl, oP, bq⟩
  replace rW := rW.below bq (Nat.le_refl _)
  replace rF := rF.below bq (Nat.le_refl _)
  replace rG := rG.below bq (Nat.le_refl _)
  replace rX := rX.below bq (Nat.le_refl _)
  replace rY := rY.below bq (Nat.le_refl _)
  replace B1 := B1.below bq
  replace B2 := B2.below bq
  have HB16 := bUp HB15 bq HB15.size
  clear HB15
  clear bq
  have rP := oP.rd
  clear oP
  go_wp2_with fail
  refine (specOO_c h AX AY xs ys cx cy _ rX rY (by omega) (by omega) hcx hcy).mono ?_
  rintro e w15 ⟨AQ, cQ, rfl, oQ, bq⟩
  replace rW := rW.below bq (Nat.le_refl _)
  replace rF := rF.below bq (Nat.le_refl _)
  replace rG := rG.below bq (Nat.le_refl _)
  replace rX := rX.below bq (Nat.le_refl _)
  replace rY := rY.below bq (Nat.le_refl _)
  replace B1 := B1.below bq
  replace B2 := B2.below bq
  replace rP := rP.below bq (Nat.le_refl _)
  have HB17 := bUp HB16 bq HB16.size
  clear HB16
  clear bq
  have rQ := oQ.rd
  clear oQ
  have HE1 := Lib.hid (fun w => (pair_eq (woT h xs ys) (woB h xs ys) (woT h xs ys) (woB h xs ys) w).trans (by rw [BEq.rfl, BEq.rfl, Bool.and_self]))
  go_upto_region 16 with fail
  rename_i K1 hK1 K0 hK0
  replace hK1 := Lib.hid hK1
  have b11 := B1.1
  have b12 := B1.2.1
  have b21 := B2.1
  have b22 := B2.2.1
  have E1 := HE1.out
  go_wp2_with fail
  refine (vInts_same AF AG (ffV f wd n) _ _ cF cG _ rfl rfl rF rG (by have := ffV_length f wd n; omega)).mono ?_
  rintro e w16 ⟨rfl, bq⟩
  clear b11 b12 b21 b22
  replace rW := rW.below bq (Nat.le_refl _)
  replace rF := rF.below bq (Nat.le_refl _)
  replace rG := rG.below bq (Nat.le_refl _)
  replace rX := rX.below bq (Nat.le_refl _)
  replace rY := rY.below bq (Nat.le_refl _)
  replace B1 := B1.below bq
  replace B2 := B2.below bq
  replace rP := rP.below bq (Nat.le_refl _)
  replace rQ := rQ.below bq (Nat.le_refl _)
  have HB18 := bUp HB17 bq HB17.size
  clear HB17
  clear bq
  have b11 := B1.1
  have b12 := B1.2.1
  have b21 := B2.1
  have b22 := B2.2.1
  go_wp2_with fail
  refine (vInts_same AP AQ (ooV h xs ys) _ _ cP cQ _ rfl rfl rP rQ (by have := ooV_length h xs ys; omega)).mono ?_
  rintro e w17 ⟨rfl, bq⟩
  clear b11 b12 b21 b22
  replace rW := rW.below bq (Nat.le_refl _)
  replace rF := rF.below bq (Nat.le_refl _)
  replace rG := rG.below bq (Nat.le_refl _)
  replace rX := rX.below bq (Nat.le_refl _)
  replace rY := rY.below bq (Nat.le_refl _)
  replace B1 := B1.below bq
  replace B2 := B2.below bq
  replace rP := rP.below bq (Nat.le_refl _)
  replace rQ := rQ.below bq (Nat.le_refl _)
  have HB19 := bUp HB18 bq HB18.size
  clear HB18
  clear bq
  go_wp2_with fail
  refine hK1.out _ _ ?_
  exact wrMid f wd n AW cw AF cF w _ HB19 rW hcw rF h AX xs cx AY ys cy rX rY (by omega) hy16 hcx hcy _ B1 _ _ _ _ _ _ _ _ _ _ _ _ _ _ _ _ _ _ _ _ _ _ _ _ _ _ _ _ _ _ _ _ _ _ _ _ _ _ _ _ _ _ _ _ _ _ _ _ _ _ _ _ _ _ _ _ _ _ _ _ _ _ _ _ _ _ _ _ _ _ _ _ _ _ _ _ _ _ _ _ _ _ _ _ _ _ _ _ _ _ _ _ _ _ _ _ _ _ _ _ _ _ _ _ _ _ _ _ _ _ _ _ _ _ _ _ _ _ _ _ _ _ _ _ _ _ _ _ _ _ _ _ _ _ _ _ _ _ _ _ _ _ _ _ _ _ _ _ _ _ _ _ _ _ _ _ _ _ _ _ _ _ _ _ _ _ _ _ _ _ _ _ _ _ _ _ _ _ _ _ _ _ _ _ _ _ _ _ _ _ _ _ _ _ _ _ _ _ _ _ _ _ _ _ _ _ _ _ _ _ _ _ _ _ _ _ _ _ _ _ _ _ _ _ _ _ _ _ _ _ _ _ _ _ _ _ _ _ _ _ _ _ _ _ _ _ _ _ _ _ _ _ _ _ _ _ _ _ _ _ _ _ _ _ _ _ _ _ _ _ _ _ _ _ _ _ _ _ _ _ _ _ _ _ _ _ _ _ _ _ _ _ _ _ _ _ _ _ _ _ _ _ _ _ _ _ _ _ _ _ _ _ _ _ _ _ _ _ _ _ _ _ _ _ _ _ _ _ _ _ _ _
end Go.Proofs.Ytbgkeecndagkgaa
