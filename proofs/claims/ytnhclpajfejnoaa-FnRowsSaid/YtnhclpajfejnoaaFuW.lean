/- IsFull, EndsOf, UnevenNode: both. -/
import Derived.Test.YtnhclpajfejnoaaPrI
import Derived.Test.YtnhclpajfejnoaaCaL
import Derived.Test.YtnhclpajfejnoaaFgS
namespace Go.Proofs.Ytnhclpajfejnoaa
open Go.RowKit

def eoV (P W : List Int) : List Int := if treeB P W then endL P else []
set_option maxRecDepth 20000 in
theorem implEo_c (A1 : Option Addr) (P : List Int) (c1 : Nat) (A2 : Option Addr) (W : List Int) (c2 : Nat) (w : World) (h1 : Rd w A1 (ints P)) (h2 : Rd w A2 (ints W)) (hl1 : P.length ≤ 16777216) (hl2 : W.length ≤ 16777216) :
    Calls Try.prog 36 #[trV A1 P.length c1 A2 W.length c2] w (Gives w (eoV P W) (treeB P W)) := by
  have HB1 : Below w.heap.size w (w.alloc (.cells #[.slice A1 P.length c1, .slice A2 W.length c2] 26)) := (Below.refl _ _).alloc (Nat.le_refl _) _
  have bx := Bx.new w (.slice A1 P.length c1) (.slice A2 W.length c2) 26
  have C := isTree_c A1 P c1 A2 W c2 _ (h1.below HB1 (Nat.le_refl _)) (h2.below HB1 (Nat.le_refl _)) hl1 hl2
  cases ht : treeB P W
  · have HV : Hid (eoV P W = []) := Lib.hid (by simp [eoV, ht])
    rw [HV.out]
    rw [ht] at C
    go_enter Try.func36, Try.ntmps36
    go_wp2_with fail
    refine C.mono ?_
    rintro e w2 ⟨rfl, b2⟩
    go_wp2_with fail
    go_ret2
    exact ⟨none, 0, rfl, Own.nil _ _, bUp HB1 b2 HB1.size⟩
  · have HV : Hid (eoV P W = endL P) := Lib.hid (by simp [eoV, ht])
    have T := treeB_iff.1 ht
    rw [HV.out]
    rw [ht] at C
    go_enter Try.func36, Try.ntmps36
    go_wp2_with fail
    refine C.mono ?_
    rintro e w2 ⟨rfl, b2⟩
    have HB2 := bUp HB1 b2 HB1.size
    obtain ⟨f0, f1, f2, f3, f4⟩ := bx.below b2
    go_wp2_with fail
    refine (ends_c A1 P c1 A2 W.length c2 _ (h1.below HB2 (Nat.le_refl _)) T.par T.n1 T.n2).mono ?_
    rintro e w3 ⟨A, c, rfl, o, b3⟩
    go_wp2_with fail
    go_ret2
    exact ⟨A, c, rfl, o.mono HB2.size, bUp HB2 b3 HB2.size⟩
set_option maxRecDepth 20000 in
theorem specEo_c (A1 : Option Addr) (P : List Int) (c1 : Nat) (A2 : Option Addr) (W : List Int) (c2 : Nat) (w : World) (h1 : Rd w A1 (ints P)) (h2 : Rd w A2 (ints W)) (hl1 : P.length ≤ 16777216) (hl2 : W.length ≤ 16777216) :
    Calls Try.prog 56 #[trV A1 P.length c1 A2 W.length c2] w (Gives w (eoV P W) (treeB P W)) := by
  have HB1 : Below w.heap.size w (w.alloc (.cells #[.slice A1 P.length c1, .slice A2 W.length c2] 26)) := (Below.refl _ _).alloc (Nat.le_refl _) _
  have bx := Bx.new w (.slice A1 P.length c1) (.slice A2 W.length c2) 26
  have C := l2Good_c A1 P c1 A2 W c2 _ (h1.below HB1 (Nat.le_refl _)) (h2.below HB1 (Nat.le_refl _)) hl1 hl2
  cases ht : treeB P W
  · have HV : Hid (eoV P W = []) := Lib.hid (by simp [eoV, ht])
    rw [HV.out]
    rw [ht] at C
    go_enter Try.func56, Try.ntmps56
    go_wp2_with fail
    refine C.mono ?_
    rintro e w2 ⟨rfl, b2⟩
    have HB2 := bUp HB1 b2 HB1.size
    go_wp2_with fail
    go_ret2
    exact ⟨_, 0, rfl, (Own.lit w2 [] (by decide)).mono HB2.size, HB2.alloc HB2.size _⟩
  · have HV : Hid (eoV P W = endL P) := Lib.hid (by simp [eoV, ht])
    have T := treeB_iff.1 ht
    rw [HV.out]
    rw [ht] at C
    go_enter Try.func56, Try.ntmps56
    go_wp2_with fail
    refine C.mono ?_
    rintro e w2 ⟨rfl, b2⟩
    have HB2 := bUp HB1 b2 HB1.size
    obtain ⟨f0, f1, f2, f3, f4⟩ := bx.below b2
    go_wp2_with fail
    refine (l2Ends_c A1 P c1 A2 W.length c2 _ (h1.below HB2 (Nat.le_refl _)) T.par T.n2).mono ?_
    rintro e w3 ⟨A, c, rfl, o, b3⟩
    go_wp2_with fail
    go_ret2
    exact ⟨A, c, rfl, o.mono HB2.size, bUp HB2 b3 HB2.size⟩
/-- A node with more than one choice. -/
def nfB (P F : List Int) (x : Nat) : Bool := decide (1 < (lessL P F x).length) || decide (1 < (moreL P F x).length) || (decide (0 < (sameL P F x).length) && decide (1 < (lessL P F x).length + (sameL P F x).length + (moreL P F x).length))
def fuV (P W F : List Int) : Bool := sndB P W F && (List.range P.length).all fun x => !nfB P F x
theorem fu_no {P W F : List Int} {x : Nat} (_hs : sndB P W F = true) (hx : x < P.length) (h : nfB P F x = true) : fuV P W F = false := by
  rw [fuV, all_no hx (by rw [h]; rfl), Bool.and_false]
theorem fu_yes {P W F : List Int} (hs : sndB P W F = true) (h : ∀ x, x < P.length → nfB P F x = false) : fuV P W F = true := by
  rw [fuV, hs, all_yes fun i hi => by rw [h i hi]; rfl]
  rfl
set_option maxRecDepth 20000 in
set_option maxHeartbeats 2000000 in
theorem implFull_c (A1 : Option Addr) (P : List Int) (c1 : Nat) (A2 : Option Addr) (W : List Int) (c2 : Nat) (A3 : Option Addr) (F : List Int) (c3 : Nat) (w : World) (h : RdM w A1 P A2 W A3 F) :
    Calls Try.prog 28 #[mkV A1 P.length c1 A2 W.length c2 A3 F.length c3] w (Quietly w (.tuple #[.bool (fuV P W F), .bool (sndB P W F)])) := by
  have HB1 : Below w.heap.size w (w.alloc (.cells #[.slice A1 P.length c1, .slice A2 W.length c2, .slice A3 F.length c3] 28)) := (Below.refl _ _).alloc (Nat.le_refl _) _
  have bx := Bx3.new w (.slice A1 P.length c1) (.slice A2 W.length c2) (.slice A3 F.length c3) 28
  have hv := h.below HB1 (Nat.le_refl _)
  cases hs : sndB P W F
  · have HV : Hid (fuV P W F = false) := Lib.hid (by simp [fuV, hs])
    rw [HV.out]
    go_enter Try.func28, Try.ntmps28
    go_wp2_with fail
    refine (soundMarket_is _ _ _ _ _ _ _ _ _ _ hs _ hv).mono ?_
    rintro e w2 ⟨rfl, b2⟩
    go_wp2_with fail
    go_ret2
    exact ⟨rfl, bUp HB1 b2 HB1.size⟩
  · have HS := Lib.hid hs
    have hmk : mktB P W F = true := by simp only [sndB, Bool.and_eq_true] at hs; exact hs.1
    have HM := Lib.hid (mktB_iff.1 hmk)
    have hn2 := HM.out.1.n2
    have HFL := Lib.hid HM.out.2.1
    go_enter Try.func28, Try.ntmps28
    go_wp2_with fail
    refine (soundMarket_is _ _ _ _ _ _ _ _ _ _ hs _ hv).mono ?_
    rintro e w2 ⟨rfl, b2⟩
    have HB2 := bUp HB1 b2 HB1.size
    have bx2 := bx.below b2
    obtain ⟨f0, f1, f2, f3⟩ := id bx2
    clear hs hmk hv bx b2
    go_wp2_with fail
    go_loopw [14] (fun i wr => ∃ x : Nat, x ≤ P.length ∧ i = .int .i64 (x : Int) ∧ (∀ j, j < x → nfB P F j = false) ∧ Bx3 wr w.heap.size (.slice A1 P.length c1) (.slice A2 W.length c2) (.slice A3 F.length c3) ∧ Below w.heap.size w wr) (fun i _ => P.length - (intOf i).toNat)
    case atStart => exact ⟨0, by omega, rfl, fun j hj => by omega, bx2, HB2⟩
    case round =>
      clear f0 f1 f2 f3
      obtain ⟨v, rfl⟩ : ∃ v : World, v = wr := ⟨_, rfl⟩
      obtain ⟨x, hx, rfl, hall, bx3, HB3⟩ := hrel
      have HA := Lib.hid hall
      clear hall
      obtain ⟨f0, f1, f2, f3⟩ := id bx3
      by_cases hlt : x < P.length
      · have ix : (x : Int) < (F.length : Int) := by rw [HFL.out]; omega
        have l1 : (lessL P F x).length ≤ 24 := Nat.le_trans (filt_len _ _ _) (Nat.le_trans (kidTo_len P (x : Int) P.length) hn2)
        have l2 : (sameL P F x).length ≤ 24 := Nat.le_trans (filt_len _ _ _) (Nat.le_trans (kidTo_len P (x : Int) P.length) hn2)
        have l3 : (moreL P F x).length ≤ 24 := Nat.le_trans (filt_len _ _ _) (Nat.le_trans (kidTo_len P (x : Int) P.length) hn2)
        have HN3 := Lib.hid (fun (e : Bool) (he : nfB P F x = e) => he)
        have HL1 : Hid ((lessL P F x).length = (lessL P F x).length) := Lib.hid rfl
        have HNF : Hid (nfB P F x = (decide (1 < (lessL P F x).length) || decide (1 < (moreL P F x).length) || (decide (0 < (sameL P F x).length) && decide (1 < (lessL P F x).length + (sameL P F x).length + (moreL P F x).length)))) := Lib.hid rfl
        have HFN := Lib.hid (fun (e : nfB P F x = true) => fu_no HS.out hlt e)
        clear HN3 HL1
        go_wp2_with fail
        refine (beside_c A1 P c1 A2 W.length c2 A3 F c3 x _ (h.below HB3 (Nat.le_refl _)).r1 (h.below HB3 (Nat.le_refl _)).r3 hn2 HFL.out hlt).mono ?_
        rintro e w4 ⟨A5, c5, A6, c6, A7, c7, rfl, o5, o6, o7, b4⟩
        have HB4 := bUp HB3 b4 HB3.size
        have BX4 := Lib.hid (bx3.below b4)
        clear o5 o6 o7 b4 bx3
        clear f0 f1 f2 f3
        generalize (lessL P F x).length = l at *
        generalize (sameL P F x).length = s at *
        generalize (moreL P F x).length = m at *
        by_cases h1 : 1 < l
        · have HN := Lib.hid (HFN.out (by rw [HNF.out, decide_eq_true h1]; rfl))
          go_wp2_with fail
          go_ret2
          exact ⟨by rw [HN.out] <;> rfl, HB4⟩
        by_cases h2 : 1 < m
        · have HN := Lib.hid (HFN.out (by rw [HNF.out, decide_eq_true h2]; simp))
          go_wp2_with fail
          go_ret2
          exact ⟨by rw [HN.out] <;> rfl, HB4⟩
        by_cases h3 : 0 < s
        · by_cases h4 : 1 < l + s + m
          · have HN := Lib.hid (HFN.out (by rw [HNF.out, decide_eq_true h3, decide_eq_true h4]; simp))
            have h4' : (1 : Int) < (l : Int) + (s : Int) + (m : Int) := by omega
            go_wp2_with fail
            go_ret2
            exact ⟨by rw [HN.out] <;> rfl, HB4⟩
          · have HY : Hid (nfB P F x = false) := Lib.hid (by rw [HNF.out, decide_eq_false h1, decide_eq_false h2, decide_eq_false h4]; simp)
            have h4' : ¬ (1 : Int) < (l : Int) + (s : Int) + (m : Int) := by omega
            go_wp2_with fail
            go_roundw
            case rel => exact ⟨x + 1, by omega, by go_num, fun j hj => by
              rcases Nat.lt_or_ge j x with h' | h'
              · exact HA.out j h'
              · rw [show j = x by omega]; exact HY.out, BX4.out, HB4⟩
            case measure => simp [intOf] <;> omega
        · have HY : Hid (nfB P F x = false) := Lib.hid (by rw [HNF.out, decide_eq_false h1, decide_eq_false h2, decide_eq_false h3]; simp)
          go_wp2_with fail
          go_roundw
          case rel => exact ⟨x + 1, by omega, by go_num, fun j hj => by
            rcases Nat.lt_or_ge j x with h' | h'
            · exact HA.out j h'
            · rw [show j = x by omega]; exact HY.out, BX4.out, HB4⟩
          case measure => simp [intOf] <;> omega
      · obtain rfl : x = P.length := by omega
        have ix : ¬ ((P.length : Int) < (F.length : Int)) := by rw [HFL.out]; omega
        have HV : Hid (fuV P W F = true) := Lib.hid (fu_yes HS.out HA.out)
        go_wp2_with fail
        go_ret2
        exact ⟨by rw [HV.out] <;> rfl, HB3⟩
set_option maxRecDepth 20000 in
set_option maxHeartbeats 2000000 in
theorem specFull_c (A1 : Option Addr) (P : List Int) (c1 : Nat) (A2 : Option Addr) (W : List Int) (c2 : Nat) (A3 : Option Addr) (F : List Int) (c3 : Nat) (w : World) (h : RdM w A1 P A2 W A3 F) :
    Calls Try.prog 29 #[mkV A1 P.length c1 A2 W.length c2 A3 F.length c3] w (Quietly w (.tuple #[.bool (fuV P W F), .bool (sndB P W F)])) := by
  have HB1 : Below w.heap.size w (w.alloc (.cells #[.slice A1 P.length c1, .slice A2 W.length c2, .slice A3 F.length c3] 28)) := (Below.refl _ _).alloc (Nat.le_refl _) _
  have bx := Bx3.new w (.slice A1 P.length c1) (.slice A2 W.length c2) (.slice A3 F.length c3) 28
  have hv := h.below HB1 (Nat.le_refl _)
  cases hs : sndB P W F
  · have HV : Hid (fuV P W F = false) := Lib.hid (by simp [fuV, hs])
    rw [HV.out]
    go_enter Try.func29, Try.ntmps29
    go_wp2_with fail
    refine (l6Sound_is _ _ _ _ _ _ _ _ _ _ hs _ hv).mono ?_
    rintro e w2 ⟨rfl, b2⟩
    go_wp2_with fail
    go_ret2
    exact ⟨rfl, bUp HB1 b2 HB1.size⟩
  · have HS := Lib.hid hs
    have hmk : mktB P W F = true := by simp only [sndB, Bool.and_eq_true] at hs; exact hs.1
    have HM := Lib.hid (mktB_iff.1 hmk)
    have hn2 := HM.out.1.n2
    have HFL := Lib.hid HM.out.2.1
    go_enter Try.func29, Try.ntmps29
    go_wp2_with fail
    refine (l6Sound_is _ _ _ _ _ _ _ _ _ _ hs _ hv).mono ?_
    rintro e w2 ⟨rfl, b2⟩
    have HB2 := bUp HB1 b2 HB1.size
    have bx2 := bx.below b2
    obtain ⟨f0, f1, f2, f3⟩ := id bx2
    clear hs hmk hv bx b2
    go_wp2_with fail
    go_loopw [4] (fun i wr => ∃ x : Nat, x ≤ P.length ∧ i = .int .i64 (x : Int) ∧ (∀ j, j < x → nfB P F j = false) ∧ Bx3 wr w.heap.size (.slice A1 P.length c1) (.slice A2 W.length c2) (.slice A3 F.length c3) ∧ Below w.heap.size w wr) (fun i _ => P.length - (intOf i).toNat)
    case atStart => exact ⟨0, by omega, rfl, fun j hj => by omega, bx2, HB2⟩
    case round =>
      clear f0 f1 f2 f3
      obtain ⟨v, rfl⟩ : ∃ v : World, v = wr := ⟨_, rfl⟩
      obtain ⟨x, hx, rfl, hall, bx3, HB3⟩ := hrel
      have HA := Lib.hid hall
      clear hall
      obtain ⟨f0, f1, f2, f3⟩ := id bx3
      by_cases hlt : x < P.length
      · have ix : (x : Int) < (F.length : Int) := by rw [HFL.out]; omega
        have l1 : (lessL P F x).length ≤ 24 := Nat.le_trans (filt_len _ _ _) (Nat.le_trans (kidTo_len P (x : Int) P.length) hn2)
        have l2 : (sameL P F x).length ≤ 24 := Nat.le_trans (filt_len _ _ _) (Nat.le_trans (kidTo_len P (x : Int) P.length) hn2)
        have l3 : (moreL P F x).length ≤ 24 := Nat.le_trans (filt_len _ _ _) (Nat.le_trans (kidTo_len P (x : Int) P.length) hn2)
        have HN3 := Lib.hid (fun (e : Bool) (he : nfB P F x = e) => he)
        have HL1 : Hid ((lessL P F x).length = (lessL P F x).length) := Lib.hid rfl
        have HNF : Hid (nfB P F x = (decide (1 < (lessL P F x).length) || decide (1 < (moreL P F x).length) || (decide (0 < (sameL P F x).length) && decide (1 < (lessL P F x).length + (sameL P F x).length + (moreL P F x).length)))) := Lib.hid rfl
        have HFN := Lib.hid (fun (e : nfB P F x = true) => fu_no HS.out hlt e)
        clear HN3 HL1
        go_wp2_with fail
        refine (l6Sides_c A1 P c1 A2 W.length c2 A3 F c3 x _ (h.below HB3 (Nat.le_refl _)).r1 (h.below HB3 (Nat.le_refl _)).r3 HM.out.1.par hn2 HFL.out hlt).mono ?_
        rintro e w4 ⟨rfl, b4⟩
        have HB5 := bUp HB3 b4 HB3.size
        have HB4 := HB5.alloc HB5.size (.cells #[.int .i64 ((lessL P F x).length : Int), .int .i64 ((sameL P F x).length : Int), .int .i64 ((moreL P F x).length : Int)] 90)
        have BX4 := Lib.hid ((bx3.below b4).alloc (.cells #[.int .i64 ((lessL P F x).length : Int), .int .i64 ((sameL P F x).length : Int), .int .i64 ((moreL P F x).length : Int)] 90))
        clear b4 bx3
        clear f0 f1 f2 f3
        generalize (lessL P F x).length = l at *
        generalize (sameL P F x).length = s at *
        generalize (moreL P F x).length = m at *
        by_cases h1 : 1 < l
        · have HN := Lib.hid (HFN.out (by rw [HNF.out, decide_eq_true h1]; rfl))
          go_wp2_with fail
          go_ret2
          exact ⟨by rw [HN.out] <;> rfl, HB4⟩
        by_cases h2 : 1 < m
        · have HN := Lib.hid (HFN.out (by rw [HNF.out, decide_eq_true h2]; simp))
          go_wp2_with fail
          go_ret2
          exact ⟨by rw [HN.out] <;> rfl, HB4⟩
        by_cases h3 : 0 < s
        · by_cases h4 : 1 < l + s + m
          · have HN := Lib.hid (HFN.out (by rw [HNF.out, decide_eq_true h3, decide_eq_true h4]; simp))
            have h4' : (1 : Int) < (l : Int) + (s : Int) + (m : Int) := by omega
            go_wp2_with fail
            go_ret2
            exact ⟨by rw [HN.out] <;> rfl, HB4⟩
          · have HY : Hid (nfB P F x = false) := Lib.hid (by rw [HNF.out, decide_eq_false h1, decide_eq_false h2, decide_eq_false h4]; simp)
            have h4' : ¬ (1 : Int) < (l : Int) + (s : Int) + (m : Int) := by omega
            go_wp2_with fail
            go_roundw
            case rel => exact ⟨x + 1, by omega, by go_num, fun j hj => by
              rcases Nat.lt_or_ge j x with h' | h'
              · exact HA.out j h'
              · rw [show j = x by omega]; exact HY.out, BX4.out, HB4⟩
            case measure => simp [intOf] <;> omega
        · have HY : Hid (nfB P F x = false) := Lib.hid (by rw [HNF.out, decide_eq_false h1, decide_eq_false h2, decide_eq_false h3]; simp)
          go_wp2_with fail
          go_roundw
          case rel => exact ⟨x + 1, by omega, by go_num, fun j hj => by
            rcases Nat.lt_or_ge j x with h' | h'
            · exact HA.out j h'
            · rw [show j = x by omega]; exact HY.out, BX4.out, HB4⟩
          case measure => simp [intOf] <;> omega
      · obtain rfl : x = P.length := by omega
        have ix : ¬ ((P.length : Int) < (F.length : Int)) := by rw [HFL.out]; omega
        have HV : Hid (fuV P W F = true) := Lib.hid (fu_yes HS.out HA.out)
        go_wp2_with fail
        go_ret2
        exact ⟨by rw [HV.out] <;> rfl, HB3⟩
end Go.Proofs.Ytnhclpajfejnoaa
