/- UpperPrices and LowerPrices: the program's two functions. -/
import Derived.Test.YtnhclpajfejnoaaPrG
import Derived.Test.YtnhclpajfejnoaaPrE
namespace Go.Proofs.Ytnhclpajfejnoaa
open Go.RowKit

theorem stL_len {up : Bool} {P F C : List Int} : ∀ m out, stL up P F C m = some out → out.length = P.length
  | 0, out, h => by
    rw [stL] at h
    cases h
    exact stTo_length _ _ _
  | m + 1, out, h => by
    rw [stL] at h
    cases hm : stL up P F C m with
    | none => rw [hm] at h; cases h
    | some o =>
      rw [hm] at h
      have ih := stL_len m o hm
      change stepX up P F (P.length - 1 - m) o = some out at h
      unfold stepX at h
      split at h
      · cases h
        exact ih
      · split at h
        · cases h
          rw [List.length_set, ih]
        · cases h
theorem prV_len (up : Bool) (P W F C : List Int) : (prV up P W F C).length ≤ 24 := by
  unfold prV
  split
  · next h =>
    simp only [prB, Bool.and_eq_true] at h
    have hs : sndB P W F = true := by simp only [sndB, Bool.and_eq_true]; exact ⟨h.1.1.1, h.1.2⟩
    have hk := prok_of hs h.1.1.2
    have hn := hk.tree.n2
    cases hm : stL up P F C P.length with
    | none => simp
    | some o =>
      have := stL_len _ _ hm
      simp
      omega
  · simp

set_option maxRecDepth 20000 in
theorem implUpperPrices_c (A1 : Option Addr) (P : List Int) (c1 : Nat) (A2 : Option Addr) (W : List Int) (c2 : Nat) (A3 : Option Addr) (F : List Int) (c3 : Nat) (A7 : Option Addr) (C : List Int) (c7 : Nat) (w : World) (h : RdM w A1 P A2 W A3 F) (h7 : Rd w A7 (ints C)) (hl7 : C.length ≤ 16777216) :
    Calls Try.prog 17 #[mkV A1 P.length c1 A2 W.length c2 A3 F.length c3, .slice A7 C.length c7] w (GivesP w (prV true P W F C) (prB true P W F C)) := by
  have HB1 : Below w.heap.size w (w.alloc (.cells #[.slice A1 P.length c1, .slice A2 W.length c2, .slice A3 F.length c3] 28)) := (Below.refl _ _).alloc (Nat.le_refl _) _
  go_enter Try.func17, Try.ntmps17
  go_wp2_with fail
  refine (bestPrices_c A1 P c1 A2 W c2 A3 F c3 A7 C c7 true _ (h.below HB1 (Nat.le_refl _)) (h7.below HB1 (Nat.le_refl _)) hl7).mono ?_
  rintro e w4 ⟨A, c, rfl, o4, b4⟩
  go_wp2
  go_ret2
  exact ⟨_, _, rfl, o4.mono HB1.size, bUp HB1 b4 HB1.size⟩
set_option maxRecDepth 20000 in
theorem implLowerPrices_c (A1 : Option Addr) (P : List Int) (c1 : Nat) (A2 : Option Addr) (W : List Int) (c2 : Nat) (A3 : Option Addr) (F : List Int) (c3 : Nat) (A7 : Option Addr) (C : List Int) (c7 : Nat) (w : World) (h : RdM w A1 P A2 W A3 F) (h7 : Rd w A7 (ints C)) (hl7 : C.length ≤ 16777216) :
    Calls Try.prog 20 #[mkV A1 P.length c1 A2 W.length c2 A3 F.length c3, .slice A7 C.length c7] w (GivesP w (prV false P W F C) (prB false P W F C)) := by
  have HB1 : Below w.heap.size w (w.alloc (.cells #[.slice A1 P.length c1, .slice A2 W.length c2, .slice A3 F.length c3] 28)) := (Below.refl _ _).alloc (Nat.le_refl _) _
  go_enter Try.func20, Try.ntmps20
  go_wp2_with fail
  refine (bestPrices_c A1 P c1 A2 W c2 A3 F c3 A7 C c7 false _ (h.below HB1 (Nat.le_refl _)) (h7.below HB1 (Nat.le_refl _)) hl7).mono ?_
  rintro e w4 ⟨A, c, rfl, o4, b4⟩
  go_wp2
  go_ret2
  exact ⟨_, _, rfl, o4.mono HB1.size, bUp HB1 b4 HB1.size⟩
end Go.Proofs.Ytnhclpajfejnoaa
