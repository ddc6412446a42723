/- Claims: whether they are valid: both packages' walks. -/
import Derived.Test.YtnhclpajfejnoaaClG
namespace Go.Proofs.Ytnhclpajfejnoaa
open Go.RowKit

theorem clmB_1 {P C : List Int} (h : C.length ≠ (endL P).length) : clmB P C = false := by simp [clmB, h]
theorem clmB_2 {P C : List Int} {q : Bool} (h1 : C.length = (endL P).length) (h : allB C (-99) 99 = q) : clmB P C = q := by simp [clmB, h1, h]
theorem clmB_3 {P C : List Int} (h : allB C (-99) 99 = false) : clmB P C = false := by simp [clmB, h]
theorem areClaims_c (A1 : Option Addr) (P : List Int) (c1 : Nat) (A2 : Option Addr) (W : List Int) (c2 : Nat) (A3 : Option Addr) (F : List Int) (c3 : Nat) (A7 : Option Addr) (C : List Int) (c7 : Nat) (w : World) (h : RdM w A1 P A2 W A3 F) (h7 : Rd w A7 (ints C)) (hl7 : C.length ≤ 16777216) (hm : mktB P W F = true) :
    Calls Try.prog 125 #[mkV A1 P.length c1 A2 W.length c2 A3 F.length c3, .slice A7 C.length c7] w (Quietly w (.bool (clmB P C))) := by
  have HB1 : Below w.heap.size w (w.alloc (.cells #[.slice A1 P.length c1, .slice A2 W.length c2, .slice A3 F.length c3] 28)) := (Below.refl _ _).alloc (Nat.le_refl _) _
  have hv := h.below HB1 (Nat.le_refl _)
  have HM := Lib.hid (mktB_iff.1 hm)
  by_cases hl : C.length = (endL P).length
  · have e1 : ((C.length : Int) == ((endL P).length : Int)) = true := by simp [hl]
    have HL := Lib.hid hl
    clear hl
    cases ha : allB C (-99) 99
    all_goals
      rw [clmB_2 HL.out ha]
      go_enter Try.func125, Try.ntmps125
      go_wp2_with fail
      refine (ends_c _ _ _ _ _ _ _ hv.r1 HM.out.1.par HM.out.1.n1 HM.out.1.n2).mono ?_
      rintro e w2 ⟨Ae, ce, rfl, oe, hb2⟩
      have HB2 := bUp HB1 hb2 HB1.size
      have h7w := h7.below HB2 (Nat.le_refl _)
      clear oe hb2 hv
      go_wp2_with fail
      refine (allWithin_is _ _ _ _ _ _ ha _ h7w hl7).mono ?_
      rintro e w3 ⟨rfl, rfl⟩
      go_wp2
      go_ret
      exact ⟨rfl, HB2⟩
  · have e1 : ((C.length : Int) == ((endL P).length : Int)) = false := by simp; omega
    rw [clmB_1 hl]
    clear hl
    go_enter Try.func125, Try.ntmps125
    go_wp2_with fail
    refine (ends_c _ _ _ _ _ _ _ hv.r1 HM.out.1.par HM.out.1.n1 HM.out.1.n2).mono ?_
    rintro e w2 ⟨Ae, ce, rfl, oe, hb2⟩
    have HB2 := bUp HB1 hb2 HB1.size
    go_wp2
    go_ret
    exact ⟨rfl, HB2⟩
theorem areClaims_is (A1 : Option Addr) (P : List Int) (c1 : Nat) (A2 : Option Addr) (W : List Int) (c2 : Nat) (A3 : Option Addr) (F : List Int) (c3 : Nat) (A7 : Option Addr) (C : List Int) (c7 : Nat) (q : Bool) (hq : clmB P C = q) (w : World) (h : RdM w A1 P A2 W A3 F) (h7 : Rd w A7 (ints C)) (hl7 : C.length ≤ 16777216) (hm : mktB P W F = true) :
    Calls Try.prog 125 #[mkV A1 P.length c1 A2 W.length c2 A3 F.length c3, .slice A7 C.length c7] w (Quietly w (.bool q)) := by
  rw [← hq]
  exact areClaims_c A1 P c1 A2 W c2 A3 F c3 A7 C c7 w h h7 hl7 hm

def clsB (P W F C : List Int) : Bool := mktB P W F && clmB P C
theorem clsB_1 {P W F C : List Int} (h : allB C (-99) 99 = false) : clsB P W F C = false := by simp [clsB, clmB_3 h]
theorem clsB_2 {P W F C : List Int} (h : mktB P W F = false) : clsB P W F C = false := by simp [clsB, h]
theorem clsB_3 {P W F C : List Int} {q : Bool} (h : mktB P W F = true) (h2 : clmB P C = q) : clsB P W F C = q := by simp [clsB, h, h2]
theorem l6Claims_c (A1 : Option Addr) (P : List Int) (c1 : Nat) (A2 : Option Addr) (W : List Int) (c2 : Nat) (A3 : Option Addr) (F : List Int) (c3 : Nat) (A7 : Option Addr) (C : List Int) (c7 : Nat) (w : World) (h : RdM w A1 P A2 W A3 F) (h7 : Rd w A7 (ints C)) (hl7 : C.length ≤ 16777216) :
    Calls Try.prog 72 #[mkV A1 P.length c1 A2 W.length c2 A3 F.length c3, .slice A7 C.length c7] w (Quietly w (.bool (clsB P W F C))) := by
  have HB1 : Below w.heap.size w (w.alloc (.cells #[.slice A1 P.length c1, .slice A2 W.length c2, .slice A3 F.length c3] 28)) := (Below.refl _ _).alloc (Nat.le_refl _) _
  have bx := Bx3.new w (.slice A1 P.length c1) (.slice A2 W.length c2) (.slice A3 F.length c3) 28
  have hv := h.below HB1 (Nat.le_refl _)
  have h7v := h7.below HB1 (Nat.le_refl _)
  go_enter Try.func72, Try.ntmps72
  go_upto_region 1 with fail
  generalize w.alloc (.cells #[.slice A1 P.length c1, .slice A2 W.length c2, .slice A3 F.length c3] 28) = v at *
  go_wp2
  go_loop [5] (fun i => ∃ k : Nat, k ≤ C.length ∧ i = .int .i64 k ∧ allB (C.take k) (-99) 99 = true) (fun i => C.length - (intOf i).toNat)
  case atStart => exact ⟨0, by omega, rfl, rfl⟩
  case round =>
    obtain ⟨k, hk, rfl, hall⟩ := hrel
    have HA := Lib.hid hall
    clear hall
    by_cases hlt : k < C.length
    · obtain ⟨a, rfl, hca⟩ := h7v.intN hlt
      cases hx : inB (nth C k) (-99) 99
      · have HN := Lib.hid (clsB_1 (P := P) (W := W) (F := F) (allB_no hlt hx))
        go_wp2_with fail
        refine (l1In_is _ _ _ _ hx _).mono ?_
        rintro e w' ⟨rfl, rfl⟩
        go_wp2
        go_ret
        exact ⟨by rw [HN.out] <;> rfl, HB1⟩
      · have HN := Lib.hid (allB_succ hlt HA.out hx)
        go_wp2_with fail
        refine (l1In_is _ _ _ _ hx _).mono ?_
        rintro e w' ⟨rfl, rfl⟩
        go_wp2
        go_round
        case rel => exact ⟨k + 1, by omega, by go_num, HN.out⟩
        case measure => simp [intOf] <;> omega
    · have HE := Lib.hid (allB_end hlt HA.out)
      obtain ⟨f0, f1, f2, fz⟩ := id bx
      cases hm : mktB P W F
      · have HN := Lib.hid (clsB_2 (C := C) hm)
        go_wp2_with fail
        refine (l6Market_is _ _ _ _ _ _ _ _ _ _ hm _ hv).mono ?_
        rintro e w2 ⟨rfl, hb2⟩
        go_wp2
        go_ret
        exact ⟨by rw [HN.out] <;> rfl, bUp HB1 hb2 HB1.size⟩
      · have HM := Lib.hid (mktB_iff.1 hm)
        go_wp2_with fail
        refine (l6Market_is _ _ _ _ _ _ _ _ _ _ hm _ hv).mono ?_
        rintro e w2 ⟨rfl, hb2⟩
        have HB2 := bUp HB1 hb2 HB1.size
        clear f0 f1 f2 fz
        obtain ⟨f0, f1, f2, fz⟩ := bx.below hb2
        have HMK := Lib.hid hm
        clear hm hb2
        go_wp2_with fail
        refine (l2Ends_c _ _ _ _ _ _ _ (h.below HB2 (Nat.le_refl _)).r1 HM.out.1.par HM.out.1.n2).mono ?_
        rintro e w3 ⟨Ae, ce, rfl, oe, hb3⟩
        have HB3 := bUp HB2 hb3 HB2.size
        by_cases hl : C.length = (endL P).length
        · have e1 : ((C.length : Int) == ((endL P).length : Int)) = true := by simp [hl]
          have HN := Lib.hid (clsB_3 HMK.out (clmB_2 hl HE.out))
          clear hl
          go_wp2
          go_ret
          exact ⟨by rw [HN.out] <;> rfl, HB3⟩
        · have e1 : ((C.length : Int) == ((endL P).length : Int)) = false := by simp; omega
          have HN := Lib.hid (clsB_3 HMK.out (clmB_1 hl))
          clear hl
          go_wp2
          go_ret
          exact ⟨by rw [HN.out] <;> rfl, HB3⟩
theorem l6Claims_is (A1 : Option Addr) (P : List Int) (c1 : Nat) (A2 : Option Addr) (W : List Int) (c2 : Nat) (A3 : Option Addr) (F : List Int) (c3 : Nat) (A7 : Option Addr) (C : List Int) (c7 : Nat) (q : Bool) (hq : clsB P W F C = q) (w : World) (h : RdM w A1 P A2 W A3 F) (h7 : Rd w A7 (ints C)) (hl7 : C.length ≤ 16777216) :
    Calls Try.prog 72 #[mkV A1 P.length c1 A2 W.length c2 A3 F.length c3, .slice A7 C.length c7] w (Quietly w (.bool q)) := by
  rw [← hq]
  exact l6Claims_c A1 P c1 A2 W c2 A3 F c3 A7 C c7 w h h7 hl7
/-- What a test says of all ends' wealths and claims. -/
def allP (pr : Int → Int → Bool) (P F H C : List Int) (s : Int) : Bool := (List.range (endL P).length).all fun i => pr (wlE P F H s i) (nth C i)
def dcB (P W F H C : List Int) (s : Int) : Bool := hlB P W F H s && clmB P C
def dcV (pr : Int → Int → Bool) (P W F H C : List Int) (s : Int) : Bool := dcB P W F H C s && allP pr P F H C s
def prC (w c : Int) : Bool := decide (c ≤ w)
def prM (w c : Int) : Bool := decide (w = c)
theorem dcB_1 {P W F H C : List Int} {s : Int} (h : hlB P W F H s = false) : dcB P W F H C s = false := by simp [dcB, h]
theorem dcB_2 {P W F H C : List Int} {s : Int} {q : Bool} (h : hlB P W F H s = true) (h2 : clmB P C = q) : dcB P W F H C s = q := by simp [dcB, h, h2]
theorem dcV_no {pr : Int → Int → Bool} {P W F H C : List Int} {s : Int} (h : dcB P W F H C s = false) : dcV pr P W F H C s = false := by simp [dcV, h]
theorem dcV_at {pr : Int → Int → Bool} {P W F H C : List Int} {s : Int} {k : Nat} (hk : k < (endL P).length) (h : pr (wlE P F H s k) (nth C k) = false) : dcV pr P W F H C s = false := by
  rw [dcV, allP, all_no (f := fun i => pr (wlE P F H s i) (nth C i)) hk h, Bool.and_false]
theorem dcV_all {pr : Int → Int → Bool} {P W F H C : List Int} {s : Int} (h1 : dcB P W F H C s = true) (h : ∀ k, k < (endL P).length → pr (wlE P F H s k) (nth C k) = true) : dcV pr P W F H C s = true := by
  rw [dcV, h1, Bool.true_and]
  exact all_yes h
theorem mk_of_hl {P W F H : List Int} {s : Int} (h : hlB P W F H s = true) : mktB P W F = true := by
  simp only [hlB, Bool.and_eq_true] at h
  exact h.1.1
end Go.Proofs.Ytnhclpajfejnoaa
