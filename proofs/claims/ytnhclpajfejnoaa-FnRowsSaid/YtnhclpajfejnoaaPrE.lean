/- Upper and lower prices: the reference. (Written by gen_pre.py.) -/
import Derived.Test.YtnhclpajfejnoaaPrD
import Derived.Test.YtnhclpajfejnoaaFgR
import Derived.Test.YtnhclpajfejnoaaClA
namespace Go.Proofs.Ytnhclpajfejnoaa
open Go.RowKit

def sndB (P W F : List Int) : Bool := mktB P W F && decide (unK P F = -1)
theorem un_lt {P F : List Int} : (unK P F < 0) = (unK P F = -1) := by
  rcases unK_cases P F with ⟨h, _⟩ | ⟨k, _, h, _⟩
  · rw [h]; apply propext; omega
  · rw [h]; apply propext; omega
theorem prok_of {P W F C : List Int} (h1 : sndB P W F = true) (h2 : clmB P C = true) : PrOk P W F C := by
  simp only [sndB, Bool.and_eq_true, decide_eq_true_eq] at h1
  have hm := mktB_iff.1 h1.1
  refine ⟨hm.1, hm.2.1, hm.2.2, h2, ?_⟩
  rcases unK_cases P F with ⟨_, h⟩ | ⟨k, _, h, _⟩
  · exact h
  · have := h1.2; omega
theorem pr_yes {up : Bool} {P W F C : List Int} (h1 : sndB P W F = true) (h2 : clmB P C = true) : prV up P W F C = prO up P F C ∧ prB up P W F C = prK up P F C := by
  simp only [sndB, Bool.and_eq_true, decide_eq_true_eq] at h1
  have e : prB up P W F C = prK up P F C := by simp [prB, prK, h1.1, h1.2, h2]
  refine ⟨?_, e⟩
  rw [prV, e, prK, prO]
  cases stL up P F C P.length <;> rfl
theorem pr_no1 {up : Bool} {P W F C : List Int} (h : sndB P W F = false) : prV up P W F C = [] ∧ prB up P W F C = false := by
  have e : prB up P W F C = false := by
    cases hm : mktB P W F
    · simp [prB, hm]
    · have : ¬ unK P F = -1 := by simpa [sndB, hm] using h
      simp [prB, this]
  exact ⟨by simp [prV, e], e⟩
theorem pr_no2 {up : Bool} {P W F C : List Int} (h : clsB P W F C = false) : prV up P W F C = [] ∧ prB up P W F C = false := by
  have e : prB up P W F C = false := by
    cases hm : mktB P W F
    · simp [prB, hm]
    · have : clmB P C = false := by simpa [clsB, hm] using h
      simp [prB, this]
  exact ⟨by simp [prV, e], e⟩
theorem l6Sound_is (A1 : Option Addr) (P : List Int) (c1 : Nat) (A2 : Option Addr) (W : List Int) (c2 : Nat) (A3 : Option Addr) (F : List Int) (c3 : Nat) (q : Bool) (hq : sndB P W F = q) (w : World) (h : RdM w A1 P A2 W A3 F) :
    Calls Try.prog 73 #[mkV A1 P.length c1 A2 W.length c2 A3 F.length c3] w (Quietly w (.bool q)) := by
  have HB1 : Below w.heap.size w (w.alloc (.cells #[.slice A1 P.length c1, .slice A2 W.length c2, .slice A3 F.length c3] 28)) := (Below.refl _ _).alloc (Nat.le_refl _) _
  have bx := Bx3.new w (.slice A1 P.length c1) (.slice A2 W.length c2) (.slice A3 F.length c3) 28
  cases hm : mktB P W F
  · obtain rfl : q = false := by rw [← hq]; simp [sndB, hm]
    go_enter Try.func73, Try.ntmps73
    go_wp2_with fail
    refine (l6Market_is _ _ _ _ _ _ _ _ _ _ hm _ (h.below HB1 (Nat.le_refl _))).mono ?_
    rintro e w2 ⟨rfl, b2⟩
    go_wp2
    go_ret
    exact ⟨rfl, bUp HB1 b2 HB1.size⟩
  · have HM := Lib.hid (mktB_iff.1 hm)
    have HQ := Lib.hid (show decide (unK P F < 0) = q by rw [← hq]; simp [sndB, hm, un_lt])
    go_enter Try.func73, Try.ntmps73
    go_wp2_with fail
    refine (l6Market_is _ _ _ _ _ _ _ _ _ _ hm _ (h.below HB1 (Nat.le_refl _))).mono ?_
    rintro e w2 ⟨rfl, b2⟩
    have HB2 := bUp HB1 b2 HB1.size
    obtain ⟨f0, f1, f2, fz⟩ := bx.below b2
    clear bx b2 HB1
    go_wp2_with fail
    refine (l6Uneven_c A1 P c1 A2 W.length c2 A3 F c3 _ (h.below HB2 (Nat.le_refl _)).r1 (h.below HB2 (Nat.le_refl _)).r3 HM.out.1.par HM.out.1.n2 HM.out.2.1).mono ?_
    rintro e w3 ⟨rfl, b3⟩
    go_wp2
    go_ret
    exact ⟨by rw [← HQ.out] <;> rfl, bUp HB2 b3 HB2.size⟩

set_option maxRecDepth 20000 in
theorem specUpperPrices_c (A1 : Option Addr) (P : List Int) (c1 : Nat) (A2 : Option Addr) (W : List Int) (c2 : Nat) (A3 : Option Addr) (F : List Int) (c3 : Nat) (A7 : Option Addr) (C : List Int) (c7 : Nat) (w : World) (h : RdM w A1 P A2 W A3 F) (h7 : Rd w A7 (ints C)) (hl7 : C.length ≤ 16777216) :
    Calls Try.prog 18 #[mkV A1 P.length c1 A2 W.length c2 A3 F.length c3, .slice A7 C.length c7] w (GivesP w (prV true P W F C) (prB true P W F C)) := by
  have HB1 : Below w.heap.size w (w.alloc (.cells #[.slice A1 P.length c1, .slice A2 W.length c2, .slice A3 F.length c3] 28)) := (Below.refl _ _).alloc (Nat.le_refl _) _
  have bx := Bx3.new w (.slice A1 P.length c1) (.slice A2 W.length c2) (.slice A3 F.length c3) 28
  cases hc : clsB P W F C
  · have HQ := Lib.hid (pr_no2 (up := true) hc)
    rw [HQ.out.1, HQ.out.2]
    go_enter Try.func18, Try.ntmps18
    go_wp2_with fail
    refine (l6Claims_is _ _ _ _ _ _ _ _ _ _ _ _ _ hc _ (h.below HB1 (Nat.le_refl _)) (h7.below HB1 (Nat.le_refl _)) hl7).mono ?_
    rintro e w2 ⟨rfl, b2⟩
    have HB2 := bUp HB1 b2 HB1.size
    have OL := OwnP.lit w2 [] (by simp)
    go_wp2
    go_ret2
    exact ⟨_, _, rfl, OL.mono HB2.size, HB2.alloc HB2.size _⟩
  · cases hs : sndB P W F
    · have HQ := Lib.hid (pr_no1 (up := true) (C := C) hs)
      rw [HQ.out.1, HQ.out.2]
      go_enter Try.func18, Try.ntmps18
      go_wp2_with fail
      refine (l6Claims_is _ _ _ _ _ _ _ _ _ _ _ _ _ hc _ (h.below HB1 (Nat.le_refl _)) (h7.below HB1 (Nat.le_refl _)) hl7).mono ?_
      rintro e w2 ⟨rfl, b2⟩
      have HB2 := bUp HB1 b2 HB1.size
      obtain ⟨f0, f1, f2, fz⟩ := bx.below b2
      go_wp2_with fail
      refine (l6Sound_is _ _ _ _ _ _ _ _ _ _ hs _ (h.below HB2 (Nat.le_refl _))).mono ?_
      rintro e w3 ⟨rfl, b3⟩
      have HB3 := bUp HB2 b3 HB2.size
      have OL := OwnP.lit w3 [] (by simp)
      go_wp2
      go_ret2
      exact ⟨_, _, rfl, OL.mono HB3.size, HB3.alloc HB3.size _⟩
    · have hcl : clmB P C = true := by simp only [clsB, Bool.and_eq_true] at hc; exact hc.2
      have HQ := Lib.hid (pr_yes (up := true) hs hcl)
      have hok := prok_of hs hcl
      rw [HQ.out.1, HQ.out.2]
      go_enter Try.func18, Try.ntmps18
      go_wp2_with fail
      refine (l6Claims_is _ _ _ _ _ _ _ _ _ _ _ _ _ hc _ (h.below HB1 (Nat.le_refl _)) (h7.below HB1 (Nat.le_refl _)) hl7).mono ?_
      rintro e w2 ⟨rfl, b2⟩
      have HB2 := bUp HB1 b2 HB1.size
      have bx2 := bx.below b2
      obtain ⟨f0, f1, f2, fz⟩ := id bx2
      go_wp2_with fail
      refine (l6Sound_is _ _ _ _ _ _ _ _ _ _ hs _ (h.below HB2 (Nat.le_refl _))).mono ?_
      rintro e w3 ⟨rfl, b3⟩
      have HB3 := bUp HB2 b3 HB2.size
      clear f0 f1 f2 fz
      obtain ⟨f0, f1, f2, fz⟩ := bx2.below b3
      go_wp2_with fail
      refine (l6Prices_c A1 P c1 A2 W c2 A3 F c3 A7 C c7 true _ (h.below HB3 (Nat.le_refl _)) (h7.below HB3 (Nat.le_refl _)) hok).mono ?_
      rintro e w4 ⟨A, c, rfl, o4, b4⟩
      go_wp2
      go_ret2
      exact ⟨_, _, rfl, o4.mono HB3.size, bUp HB3 b4 HB3.size⟩

set_option maxRecDepth 20000 in
theorem specLowerPrices_c (A1 : Option Addr) (P : List Int) (c1 : Nat) (A2 : Option Addr) (W : List Int) (c2 : Nat) (A3 : Option Addr) (F : List Int) (c3 : Nat) (A7 : Option Addr) (C : List Int) (c7 : Nat) (w : World) (h : RdM w A1 P A2 W A3 F) (h7 : Rd w A7 (ints C)) (hl7 : C.length ≤ 16777216) :
    Calls Try.prog 21 #[mkV A1 P.length c1 A2 W.length c2 A3 F.length c3, .slice A7 C.length c7] w (GivesP w (prV false P W F C) (prB false P W F C)) := by
  have HB1 : Below w.heap.size w (w.alloc (.cells #[.slice A1 P.length c1, .slice A2 W.length c2, .slice A3 F.length c3] 28)) := (Below.refl _ _).alloc (Nat.le_refl _) _
  have bx := Bx3.new w (.slice A1 P.length c1) (.slice A2 W.length c2) (.slice A3 F.length c3) 28
  cases hc : clsB P W F C
  · have HQ := Lib.hid (pr_no2 (up := false) hc)
    rw [HQ.out.1, HQ.out.2]
    go_enter Try.func21, Try.ntmps21
    go_wp2_with fail
    refine (l6Claims_is _ _ _ _ _ _ _ _ _ _ _ _ _ hc _ (h.below HB1 (Nat.le_refl _)) (h7.below HB1 (Nat.le_refl _)) hl7).mono ?_
    rintro e w2 ⟨rfl, b2⟩
    have HB2 := bUp HB1 b2 HB1.size
    have OL := OwnP.lit w2 [] (by simp)
    go_wp2
    go_ret2
    exact ⟨_, _, rfl, OL.mono HB2.size, HB2.alloc HB2.size _⟩
  · cases hs : sndB P W F
    · have HQ := Lib.hid (pr_no1 (up := false) (C := C) hs)
      rw [HQ.out.1, HQ.out.2]
      go_enter Try.func21, Try.ntmps21
      go_wp2_with fail
      refine (l6Claims_is _ _ _ _ _ _ _ _ _ _ _ _ _ hc _ (h.below HB1 (Nat.le_refl _)) (h7.below HB1 (Nat.le_refl _)) hl7).mono ?_
      rintro e w2 ⟨rfl, b2⟩
      have HB2 := bUp HB1 b2 HB1.size
      obtain ⟨f0, f1, f2, fz⟩ := bx.below b2
      go_wp2_with fail
      refine (l6Sound_is _ _ _ _ _ _ _ _ _ _ hs _ (h.below HB2 (Nat.le_refl _))).mono ?_
      rintro e w3 ⟨rfl, b3⟩
      have HB3 := bUp HB2 b3 HB2.size
      have OL := OwnP.lit w3 [] (by simp)
      go_wp2
      go_ret2
      exact ⟨_, _, rfl, OL.mono HB3.size, HB3.alloc HB3.size _⟩
    · have hcl : clmB P C = true := by simp only [clsB, Bool.and_eq_true] at hc; exact hc.2
      have HQ := Lib.hid (pr_yes (up := false) hs hcl)
      have hok := prok_of hs hcl
      rw [HQ.out.1, HQ.out.2]
      go_enter Try.func21, Try.ntmps21
      go_wp2_with fail
      refine (l6Claims_is _ _ _ _ _ _ _ _ _ _ _ _ _ hc _ (h.below HB1 (Nat.le_refl _)) (h7.below HB1 (Nat.le_refl _)) hl7).mono ?_
      rintro e w2 ⟨rfl, b2⟩
      have HB2 := bUp HB1 b2 HB1.size
      have bx2 := bx.below b2
      obtain ⟨f0, f1, f2, fz⟩ := id bx2
      go_wp2_with fail
      refine (l6Sound_is _ _ _ _ _ _ _ _ _ _ hs _ (h.below HB2 (Nat.le_refl _))).mono ?_
      rintro e w3 ⟨rfl, b3⟩
      have HB3 := bUp HB2 b3 HB2.size
      clear f0 f1 f2 fz
      obtain ⟨f0, f1, f2, fz⟩ := bx2.below b3
      go_wp2_with fail
      refine (l6Prices_c A1 P c1 A2 W c2 A3 F c3 A7 C c7 false _ (h.below HB3 (Nat.le_refl _)) (h7.below HB3 (Nat.le_refl _)) hok).mono ?_
      rintro e w4 ⟨A, c, rfl, o4, b4⟩
      go_wp2
      go_ret2
      exact ⟨_, _, rfl, o4.mono HB3.size, bUp HB3 b4 HB3.size⟩
end Go.Proofs.Ytnhclpajfejnoaa
