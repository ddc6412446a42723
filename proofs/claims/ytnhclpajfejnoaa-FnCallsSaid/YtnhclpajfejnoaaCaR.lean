/- The law FnCalls: its walk. (Written by gen_car.py.) -/
import Derived.Test.YtnhclpajfejnoaaCaB
import Derived.Test.YtnhclpajfejnoaaCaW
import Derived.Test.YtnhclpajfejnoaaDrC
import Derived.Test.YtnhclpajfejnoaaByt
namespace Go.Proofs.Ytnhclpajfejnoaa
open Go.RowKit

set_option maxRecDepth 20000 in
set_option maxHeartbeats 1000000 in
theorem rBig_c (A : Option Addr) (bs : List Int) (c : Nat) (w : World) (_hl : bs.length ≤ 9223372036854775807) :
    Calls Try.prog 7 #[.slice A bs.length c] w fun e w' => e = .returned (.bool (decide (65536 < (bs.length : Int)))) ∧ w = w' := by
  go_enter Try.func7, Try.ntmps7
  go_wp2
  go_ret
  exact ⟨rfl, rfl⟩
theorem ca_0 (P W F : List Int) : caB P W F 0 = mktB P W F := by simp [caB, inB]
theorem caV_len {P W F : List Int} {k : Int} {g : Int → Int} : (caV P W F k g).length ≤ 24 := by
  unfold caV
  split
  · next h =>
    simp only [caB, Bool.and_eq_true] at h
    rw [clmBy_length]
    exact Nat.le_trans (enTo_len P P.length) (mktB_iff.1 h.1).1.n2
  · simp
theorem caV_yes {P W F : List Int} {k : Int} {g : Int → Int} (h : caB P W F k = true) : caV P W F k g = clmBy P F g := by rw [caV, if_pos h]
theorem prV_no {up : Bool} {P W F C : List Int} (h : prB up P W F C = false) : prV up P W F C = [] := by rw [prV, h]; rfl
theorem caLaw_of {P W F : List Int} {k : Int} (h1 : prB true P W F (clmBy P F (callC k)) = true) (h2 : prB false P W F (clmBy P F (putC k)) = true) (h3 : prB false P W F (clmBy P F (callC k)) = true) (h4 : prB true P W F (clmBy P F (putC k)) = true) :
    CaLaw (prV true P W F (clmBy P F (callC k))) (prV false P W F (clmBy P F (putC k))) (prV false P W F (clmBy P F (callC k))) (prV true P W F (clmBy P F (putC k))) (nth F 0 - k) := by
  have q := calls_law h1 h2 h3 h4 rfl rfl rfl rfl
  obtain ⟨R1, K⟩ := prcs_of h1
  obtain ⟨R2, _⟩ := prcs_of h2
  obtain ⟨R3, _⟩ := prcs_of h3
  obtain ⟨R4, _⟩ := prcs_of h4
  have h0 : 0 < P.length := by have := K.tree.n1; omega
  exact ⟨by rw [R1.len]; exact h0, by rw [R2.len]; exact h0, by rw [R3.len]; exact h0, by rw [R4.len]; exact h0, R1.fr 0 h0, R2.fr 0 h0, R3.fr 0 h0, R4.fr 0 h0, q.1, q.2⟩
/-- What the law's first loop asks. -/
def CaLoop (C Q S : List Int) (k : Int) : Prop := Q.length = C.length ∧ S.length = C.length ∧ ∀ i, i < C.length → nth C i - nth Q i = nth S i - k ∧ 0 ≤ nth S i ∧ nth S i ≤ 20
theorem caLoop_of {P W F : List Int} {k : Int} (h : caB P W F k = true) : CaLoop (clmBy P F (callC k)) (clmBy P F (putC k)) (clmBy P F shareC) k := by
  simp only [caB, Bool.and_eq_true] at h
  have hm := mktB_iff.1 h.1
  refine ⟨by rw [clmBy_length, clmBy_length], by rw [clmBy_length, clmBy_length], fun i hi => ?_⟩
  rw [clmBy_length] at hi
  rw [clmBy_nth hi, clmBy_nth hi, clmBy_nth hi]
  exact ⟨call_put _ _, F_nth hm.2.2 _⟩
theorem share_law {P W F : List Int} (_h : mktB P W F = true) : ∀ x, x < (prV true P W F (clmBy P F shareC)).length → x < F.length ∧ nP (prV true P W F (clmBy P F shareC)) x = (nth F x, 1) := fun x hx => by
  cases hb : prB true P W F (clmBy P F shareC)
  · rw [prV_no hb] at hx
    simp at hx
  · obtain ⟨R, K⟩ := prcs_of hb
    rw [R.len] at hx
    exact ⟨by rw [K.len]; exact hx, share_price hb hx⟩
set_option maxRecDepth 100000 in
set_option maxHeartbeats 16000000 in
theorem lawCa (A : Option Addr) (bs : List Int) (c : Nat) (w : World) (rc : Rd w A (u8s bs)) (hb : ByOk bs) (hlen : bs.length ≤ 9223372036854775807) (_hc : bs.length ≤ c) :
    Calls Try.prog 3 #[.slice A bs.length c] w fun e w' => e = .returned (.bool true) ∧ Below w.heap.size w w' := by
  by_cases hbig : 65536 < (bs.length : Int)
  · have C := rBig_c A bs c w hlen
    rw [decide_eq_true hbig] at C
    go_enter Try.func3, Try.ntmps3
    go_wp2_with fail
    refine C.mono ?_
    rintro e w' ⟨rfl, rfl⟩
    go_wp2
    go_ret
    exact ⟨rfl, Below.refl _ _⟩
  have hl : bs.length ≤ 65536 := by omega
  have C := rBig_c A bs c w hlen
  rw [decide_eq_false hbig] at C
  clear hbig
  go_enter Try.func3, Try.ntmps3
  go_wp2_with fail
  refine C.mono ?_
  rintro e w' ⟨rfl, rfl⟩
  clear C
  go_wp2_with fail
  refine (drawCa_c A bs c w rc hb (by omega)).mono ?_
  rintro e w1 ⟨A1, c1, P, A2, c2, W, A3, c3, F, k, rfl, hP, hW, hF, h, b1⟩
  have blB : Below w1.heap.size w1 (w1.alloc (.cells #[.slice A1 P.length c1, .slice A2 W.length c2, .slice A3 F.length c3] 28)) := (Below.refl _ _).alloc (Nat.le_refl _) _
  have bx := Bx3.new w1 (.slice A1 P.length c1) (.slice A2 W.length c2) (.slice A3 F.length c3) 28
  replace h := h.below blB (Nat.le_refl _)
  have HB1 := bUp b1 blB b1.size
  obtain ⟨C, hC⟩ : ∃ C, caV P W F k (callC k) = C := ⟨_, rfl⟩
  obtain ⟨Q, hQ⟩ : ∃ Q, caV P W F k (putC k) = Q := ⟨_, rfl⟩
  obtain ⟨S, hS⟩ : ∃ S, caV P W F 0 shareC = S := ⟨_, rfl⟩
  obtain ⟨t, ht⟩ : ∃ t, caB P W F k = t := ⟨_, rfl⟩
  obtain ⟨m, hm⟩ : ∃ m, mktB P W F = m := ⟨_, rfl⟩
  have lC : C.length ≤ 24 := by rw [← hC]; exact caV_len
  have lQ : Q.length ≤ 24 := by rw [← hQ]; exact caV_len
  have lS : S.length ≤ 24 := by rw [← hS]; exact caV_len
  have HC := Lib.hid hC
  have HQ := Lib.hid hQ
  have HS := Lib.hid hS
  have HT := Lib.hid ht
  have HM := Lib.hid hm
  clear hC hQ hS ht hm b1 blB rc hb hlen
  go_wp2_with fail
  generalize w1.alloc (.cells #[.slice A1 P.length c1, .slice A2 W.length c2, .slice A3 F.length c3] 28) = v1 at *
  obtain ⟨gm, hgm⟩ : ∃ gm, gm = w1.heap.size := ⟨_, rfl⟩
  rw [← hgm] at bx ⊢
  clear hgm
  have CC := implCall_c A1 P c1 A2 W c2 A3 F c3 k _ h
  rw [HC.out, HT.out] at CC
  refine (CC).mono ?_
  rintro e w2 ⟨AC1, cC1, rfl, oC1, bq⟩
  replace h := h.below bq (Nat.le_refl _)
  replace bx := bx.below bq
  have HB2 := bUp HB1 bq HB1.size
  clear HB1
  clear bq
  clear CC
  have rC1 := oC1.rd
  clear oC1
  have k0 := bx.1
  have k1 := bx.2.1
  have k2 := bx.2.2.1
  go_wp2_with fail
  have CC := specCall_c A1 P c1 A2 W c2 A3 F c3 k _ h
  rw [HC.out, HT.out] at CC
  refine (CC).mono ?_
  rintro e w3 ⟨AC2, cC2, rfl, oC2, bq⟩
  replace h := h.below bq (Nat.le_refl _)
  replace bx := bx.below bq
  replace rC1 := rC1.below bq (Nat.le_refl _)
  have HB3 := bUp HB2 bq HB2.size
  clear HB2
  clear bq
  clear CC
  have rC2 := oC2.rd
  clear oC2
  clear k0 k1 k2
  go_wp2_with fail
  refine (rInts_same AC1 AC2 C _ _ cC1 cC2 _ rfl rfl rC1 rC2 (by omega)).mono ?_
  rintro e w4 ⟨rfl, bq⟩
  replace h := h.below bq (Nat.le_refl _)
  replace bx := bx.below bq
  replace rC1 := rC1.below bq (Nat.le_refl _)
  replace rC2 := rC2.below bq (Nat.le_refl _)
  have HB4 := bUp HB3 bq HB3.size
  clear HB3
  clear bq
  clear rC2
  have k0 := bx.1
  have k1 := bx.2.1
  have k2 := bx.2.2.1
  go_wp2_with fail
  have CC := implPut_c A1 P c1 A2 W c2 A3 F c3 k _ h
  rw [HQ.out, HT.out] at CC
  refine (CC).mono ?_
  rintro e w5 ⟨AQ1, cQ1, rfl, oQ1, bq⟩
  replace h := h.below bq (Nat.le_refl _)
  replace bx := bx.below bq
  replace rC1 := rC1.below bq (Nat.le_refl _)
  have HB5 := bUp HB4 bq HB4.size
  clear HB4
  clear bq
  clear CC
  have rQ1 := oQ1.rd
  clear oQ1
  clear k0 k1 k2
  have k0 := bx.1
  have k1 := bx.2.1
  have k2 := bx.2.2.1
  go_wp2_with fail
  have CC := specPut_c A1 P c1 A2 W c2 A3 F c3 k _ h
  rw [HQ.out, HT.out] at CC
  refine (CC).mono ?_
  rintro e w6 ⟨AQ2, cQ2, rfl, oQ2, bq⟩
  replace h := h.below bq (Nat.le_refl _)
  replace bx := bx.below bq
  replace rC1 := rC1.below bq (Nat.le_refl _)
  replace rQ1 := rQ1.below bq (Nat.le_refl _)
  have HB6 := bUp HB5 bq HB5.size
  clear HB5
  clear bq
  clear CC
  have rQ2 := oQ2.rd
  clear oQ2
  clear k0 k1 k2
  go_wp2_with fail
  refine (rInts_same AQ1 AQ2 Q _ _ cQ1 cQ2 _ rfl rfl rQ1 rQ2 (by omega)).mono ?_
  rintro e w7 ⟨rfl, bq⟩
  replace h := h.below bq (Nat.le_refl _)
  replace bx := bx.below bq
  replace rC1 := rC1.below bq (Nat.le_refl _)
  replace rQ1 := rQ1.below bq (Nat.le_refl _)
  replace rQ2 := rQ2.below bq (Nat.le_refl _)
  have HB7 := bUp HB6 bq HB6.size
  clear HB6
  clear bq
  clear rQ2
  have k0 := bx.1
  have k1 := bx.2.1
  have k2 := bx.2.2.1
  go_wp2_with fail
  have CC := implShare_c A1 P c1 A2 W c2 A3 F c3  _ h
  rw [ca_0] at CC
  rw [HS.out, HM.out] at CC
  refine (CC).mono ?_
  rintro e w8 ⟨AS1, cS1, rfl, oS1, bq⟩
  replace h := h.below bq (Nat.le_refl _)
  replace bx := bx.below bq
  replace rC1 := rC1.below bq (Nat.le_refl _)
  replace rQ1 := rQ1.below bq (Nat.le_refl _)
  have HB8 := bUp HB7 bq HB7.size
  clear HB7
  clear bq
  clear CC
  have rS1 := oS1.rd
  clear oS1
  clear k0 k1 k2
  have k0 := bx.1
  have k1 := bx.2.1
  have k2 := bx.2.2.1
  go_wp2_with fail
  have CC := specShare_c A1 P c1 A2 W c2 A3 F c3  _ h
  rw [ca_0] at CC
  rw [HS.out, HM.out] at CC
  refine (CC).mono ?_
  rintro e w9 ⟨AS2, cS2, rfl, oS2, bq⟩
  replace h := h.below bq (Nat.le_refl _)
  replace bx := bx.below bq
  replace rC1 := rC1.below bq (Nat.le_refl _)
  replace rQ1 := rQ1.below bq (Nat.le_refl _)
  replace rS1 := rS1.below bq (Nat.le_refl _)
  have HB9 := bUp HB8 bq HB8.size
  clear HB8
  clear bq
  clear CC
  have rS2 := oS2.rd
  clear oS2
  clear k0 k1 k2
  have k0 := bx.1
  have k1 := bx.2.1
  have k2 := bx.2.2.1
  go_wp2_with fail
  have CC := isMarket_c A1 P c1 A2 W c2 A3 F c3 _ h
  rw [HM.out] at CC
  refine (CC).mono ?_
  rintro e w10 ⟨rfl, bq⟩
  clear k0 k1 k2 CC
  replace h := h.below bq (Nat.le_refl _)
  replace bx := bx.below bq
  replace rC1 := rC1.below bq (Nat.le_refl _)
  replace rQ1 := rQ1.below bq (Nat.le_refl _)
  replace rS1 := rS1.below bq (Nat.le_refl _)
  replace rS2 := rS2.below bq (Nat.le_refl _)
  have HB10 := bUp HB9 bq HB9.size
  clear HB9
  clear bq
  go_wp2_with fail
  refine (rInts_same AS1 AS2 S _ _ cS1 cS2 _ rfl rfl rS1 rS2 (by omega)).mono ?_
  rintro e w11 ⟨rfl, bq⟩
  replace h := h.below bq (Nat.le_refl _)
  replace bx := bx.below bq
  replace rC1 := rC1.below bq (Nat.le_refl _)
  replace rQ1 := rQ1.below bq (Nat.le_refl _)
  replace rS1 := rS1.below bq (Nat.le_refl _)
  replace rS2 := rS2.below bq (Nat.le_refl _)
  have HB11 := bUp HB10 bq HB10.size
  clear HB10
  clear bq
  clear rS2
  cases t
  · go_wp2_with fail
    go_ret
    exact ⟨rfl, HB11⟩
  have hcb : caB P W F k = true := HT.out
  have hmk : mktB P W F = true ∧ inB k 0 20 = true := by simpa [caB] using hcb
  have hM := mktB_iff.1 hmk.1
  have hC' : C = clmBy P F (callC k) := by rw [← HC.out]; exact caV_yes hcb
  have hQ' : Q = clmBy P F (putC k) := by rw [← HQ.out]; exact caV_yes hcb
  have hS' : S = clmBy P F shareC := by rw [← HS.out]; exact caV_yes (by rw [ca_0]; exact hmk.1)
  have HLP : Hid (CaLoop C Q S k) := Lib.hid (by rw [hC', hQ', hS']; exact caLoop_of hcb)
  have hk := inB_iff.1 hmk.2
  have hF0 : 0 < F.length := by have := hM.1.n1; have := hM.2.1; omega
  have hFb := F_nth hM.2.2 0
  have HLW : Hid (prB true P W F C = true → prB false P W F Q = true → prB false P W F C = true → prB true P W F Q = true → CaLaw (prV true P W F C) (prV false P W F Q) (prV false P W F C) (prV true P W F Q) (nth F 0 - k)) := Lib.hid (by rw [hC', hQ']; exact caLaw_of)
  have HSH : Hid (∀ x, x < (prV true P W F S).length → x < F.length ∧ nP (prV true P W F S) x = (nth F x, 1)) := Lib.hid (by rw [hS']; exact share_law hmk.1)
  clear hC' hQ' hS' HC HQ HS HT HM hcb hmk hM hP hW hF
  go_wp2_with fail
  rename_i K1 hK1
  replace hK1 := Lib.hid hK1
  go_loopw [17] (fun i wr => ∃ n : Nat, n ≤ C.length ∧ i = .int .i64 (n : Int) ∧ Below w11.heap.size w11 wr) (fun i _ => C.length - (intOf i).toNat)
  case atStart => exact ⟨0, by omega, rfl, Below.refl _ _⟩
  case round =>
    obtain ⟨v, rfl⟩ : ∃ v : World, v = wr := ⟨_, rfl⟩
    obtain ⟨n, hn, rfl, HV⟩ := hrel
    by_cases hlt : n < C.length
    · obtain ⟨l1, l2, l3⟩ := HLP.out
      obtain ⟨e1, e2, e3⟩ := l3 n hlt
      have n2 : n < Q.length := by omega
      have n3 : n < S.length := by omega
      obtain ⟨ac, rfl, q1⟩ := (rC1.below HV (Nat.le_refl _)).intN hlt
      obtain ⟨aq, rfl, q2⟩ := (rQ1.below HV (Nat.le_refl _)).intN n2
      obtain ⟨as_, rfl, q3⟩ := (rS1.below HV (Nat.le_refl _)).intN n3
      have i1 : (n : Int) < (C.length : Int) := by omega
      have i2 : (n : Int) < (Q.length : Int) := by omega
      have i3 : (n : Int) < (S.length : Int) := by omega
      clear l1 l2 l3
      generalize nth C n = x at *
      generalize nth Q n = y at *
      generalize nth S n = z at *
      have f1 : IntKind.i64.wrap (x - y) = z - k := by rw [e1]; exact IntWalk.i64_in _ (by omega)
      have f2 : IntKind.i64.wrap (z - k) = z - k := IntWalk.i64_in _ (by omega)
      clear e1
      go_upto_region 21 with fail
      have hd1 : Below v.heap.size v v.drew := Below.drew (Below.refl _ _)
      have SK1 : Hid (∀ w', Below v.heap.size v w' → w'.cell? (ac.add n) = some (.int .i64 x) ∧ w'.cell? (aq.add n) = some (.int .i64 y) ∧ w'.cell? (as_.add n) = some (.int .i64 z)) := Lib.hid fun w' HV => ⟨(HV.cell (cell_lt q1)).trans q1, (HV.cell (cell_lt q2)).trans q2, (HV.cell (cell_lt q3)).trans q3⟩
      clear q1 q2 q3
      have hS1_0 := SK1.out _ hd1
      refine tamed_region (S := fun w' => w'.cell? (ac.add n) = some (.int .i64 x) ∧ w'.cell? (aq.add n) = some (.int .i64 y) ∧ w'.cell? (as_.add n) = some (.int .i64 z)) (fun _ => false) (by kernel_rfl) ?_
      refine tame0 (k := 0) ?_ rfl (by kernel_rfl) (by kernel_rfl) (by kernel_rfl) (fun _ _ _ h => h) (by kernel_rfl) (fun v => ?_) ?_
      rotate_left
      · (go_simp; all_goals rfl)
      simp only [Act.put, List.setIfInBounds_toArray]
      refine tame0 (k := 1) ?_ rfl (by kernel_rfl) (by kernel_rfl) (by kernel_rfl) (fun _ _ _ h => h) (by kernel_rfl) (fun v => ?_) ?_
      rotate_left
      · (go_simp; all_goals rfl)
      simp only [Act.put]
      refine tame0 (k := 2) ?_ rfl (by kernel_rfl) (by kernel_rfl) (by kernel_rfl) (fun _ _ _ h => h) (by kernel_rfl) (fun v => ?_) ?_
      rotate_left
      · (go_simp; all_goals rfl)
      simp only [Act.put]
      refine tame (k := 3) ?_ rfl (by kernel_rfl) (by kernel_rfl) (by kernel_rfl) (by kernel_rfl) (fun _ _ _ h => h) (by kernel_rfl) hS1_0 (fun v hv => ?_) ?_
      rotate_left
      · (obtain ⟨k1, k2, k3⟩ := hv; go_simp; all_goals rfl)
      simp only [Act.put]
      refine tame0 (k := 4) ?_ rfl (by kernel_rfl) (by kernel_rfl) (by kernel_rfl) (fun _ _ _ h => h) (by kernel_rfl) (fun v => ?_) ?_
      rotate_left
      · (go_simp; all_goals rfl)
      simp only [Act.put]
      refine tame0 (k := 5) ?_ rfl (by kernel_rfl) (by kernel_rfl) (by kernel_rfl) (fun _ _ _ h => h) (by kernel_rfl) (fun v => ?_) ?_
      rotate_left
      · (go_simp; all_goals rfl)
      simp only [Act.put]
      refine tame0 (k := 6) ?_ rfl (by kernel_rfl) (by kernel_rfl) (by kernel_rfl) (fun _ _ _ h => h) (by kernel_rfl) (fun v => ?_) ?_
      rotate_left
      · (go_simp; all_goals rfl)
      simp only [Act.put]
      refine tame (k := 7) ?_ rfl (by kernel_rfl) (by kernel_rfl) (by kernel_rfl) (by kernel_rfl) (fun _ _ _ h => h) (by kernel_rfl) hS1_0 (fun v hv => ?_) ?_
      rotate_left
      · (obtain ⟨k1, k2, k3⟩ := hv; go_simp; all_goals rfl)
      simp only [Act.put]
      refine tame0 (k := 8) ?_ rfl (by kernel_rfl) (by kernel_rfl) (by kernel_rfl) (fun _ _ _ h => h) (by kernel_rfl) (fun v => ?_) ?_
      rotate_left
      · (go_simp; all_goals rfl)
      simp only [Act.put]
      refine tame0 (k := 9) ?_ rfl (by kernel_rfl) (by kernel_rfl) (by kernel_rfl) (fun _ _ _ h => h) (by kernel_rfl) (fun v => ?_) ?_
      rotate_left
      · (go_simp; all_goals rfl)
      simp only [Act.put]
      refine tame0 (k := 10) ?_ rfl (by kernel_rfl) (by kernel_rfl) (by kernel_rfl) (fun _ _ _ h => h) (by kernel_rfl) (fun v => ?_) ?_
      rotate_left
      · (go_simp; all_goals rfl)
      simp only [Act.put]
      refine tame0 (k := 11) ?_ rfl (by kernel_rfl) (by kernel_rfl) (by kernel_rfl) (fun _ _ _ h => h) (by kernel_rfl) (fun v => ?_) ?_
      rotate_left
      · (go_simp; all_goals rfl)
      simp only [Act.put]
      refine tame (k := 12) ?_ rfl (by kernel_rfl) (by kernel_rfl) (by kernel_rfl) (by kernel_rfl) (fun _ _ _ h => h) (by kernel_rfl) hS1_0 (fun v hv => ?_) ?_
      rotate_left
      · (obtain ⟨k1, k2, k3⟩ := hv; go_simp; all_goals rfl)
      simp only [Act.put]
      refine tame0 (k := 13) ?_ rfl (by kernel_rfl) (by kernel_rfl) (by kernel_rfl) (fun _ _ _ h => h) (by kernel_rfl) (fun v => ?_) ?_
      rotate_left
      · (go_simp; all_goals rfl)
      simp only [Act.put]
      refine tame0 (k := 14) ?_ rfl (by kernel_rfl) (by kernel_rfl) (by kernel_rfl) (fun _ _ _ h => h) (by kernel_rfl) (fun v => ?_) ?_
      rotate_left
      · (go_simp; all_goals rfl)
      simp only [Act.put]
      have hS1_0v := Lib.hid hS1_0
      clear hS1_0
      refine tame_one (k := 15) (by kernel_rfl) rfl (by kernel_rfl) ?_
      go_simp
      refine ⟨by first | exact hS1_0v | exact Hid.out hS1_0v, ?_⟩
      refine tame_end (by kernel_rfl) ?_
      go_wp2_with fail
      go_roundw
      case rel => exact ⟨n + 1, by omega, by go_num, bUp HV hd1 HV.size⟩
      case measure => simp [intOf] <;> omega
    · go_wp2_with fail
      refine hK1.out _ _ ?_
      replace h := h.below HV (Nat.le_refl _)
      replace bx := bx.below HV
      replace rC1 := rC1.below HV (Nat.le_refl _)
      replace rQ1 := rQ1.below HV (Nat.le_refl _)
      replace rS1 := rS1.below HV (Nat.le_refl _)
      exact caMid A1 P c1 A2 W c2 A3 F c3 k hF0 hFb hk _ AC1 C cC1 AQ1 Q cQ1 AS1 S cS1 lC lQ lS _ _ _ _ _ _ _ _ _ _ (Lib.hid ⟨rfl, rfl⟩) (Lib.hid ⟨rfl, rfl⟩) (Lib.hid ⟨rfl, rfl⟩) (Lib.hid ⟨rfl, rfl⟩) (Lib.hid ⟨rfl, rfl⟩) (prV_len _ _ _ _ _) (prV_len _ _ _ _ _) (prV_len _ _ _ _ _) (prV_len _ _ _ _ _) (prV_len _ _ _ _ _) HSH HLW.out w _ (bUp HB11 HV HB11.size) h bx rC1 rQ1 rS1 _ _ _ _ _ _ _ _ _ _ _ _ _ _ _ _ _ _ _ _ _ _ _ _ _ _ _ _ _ _ _ _ _ _ _ _ _ _ _ _ _ _ _ _ _ _ _ _ _ _ _ _ _ _ _ _ _ _ _ _ _ _ _ _ _ _ _ _ _ _ _ _ _ _ _ _ _ _ _ _ _ _ _ _ _ _ _ _ _ _ _ _ _ _ _ _ _ _ _ _ _ _ _ _ _ _ _ _ _ _ _ _ _ _ _ _ _ _ _ _ _ _ _ _ _ _ _ _ _ _ _ _ _ _ _ _ _ _ _ _ _ _ _ _ _ _ _ _ _ _ _ _ _ _ _ _ _ _ _ _ _ _ _ _ _ _ _ _ _ _ _ _ _ _ _ _ _ _ _ _ _ _ _ _ _ _ _ _ _ _ _ _ _ _ _ _ _ _ _ _ _ _ _ _ _ _ _ _ _ _ _ _ _ _ _ _ _ _ _ _ _ _ _ _ _ _ _ _ _ _ _ _ _ _ _ _ _ _ _ _ _ _ _ _ _ _ _ _ _ _ _ _ _ _ _ _ _ _ _ _ _ _ _ _ _ _ _ _ _ _ _ _ _ _ _ _ _ _ _ _ _ _ _ _ _ _ _ _ _ _ _ _ _ _ _ _ _ _ _ _ _ _ _ _ _ _ _ _ _ _ _ _ _ _ _ _ _ _ _ _ _ _ _ _ _ _ _ _
end Go.Proofs.Ytnhclpajfejnoaa
