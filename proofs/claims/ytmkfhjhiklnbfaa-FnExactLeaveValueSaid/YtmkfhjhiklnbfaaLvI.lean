/- Leaving an arm: the program's walk. -/
import Derived.Test.YtmkfhjhiklnbfaaLvW
import Derived.Test.YtmkfhjhiklnbfaaLvS
namespace Go.Proofs.Ytmkfhjhiklnbfaa
open Go.RowKit

/-- The heights added so far. -/
def plS (P : List Int) : Nat → Int
  | 0 => 0
  | _ => hgt P
set_option maxRecDepth 20000 in
set_option maxHeartbeats 1000000 in
theorem areArms1_is (g : Nat) (A1 : Option Addr) (P : List Int) (c1 : Nat) (A2 : Option Addr) (W : List Int) (c2 : Nat) (A3 : Option Addr) (F : List Int) (c3 : Nat) (a b : Int) (q : Bool) (hq : (armB P W F && discB a b) = q) (w : World) (h : RdM w A1 P A2 W A3 F) (hx : Bx3 w g (.slice A1 P.length c1) (.slice A2 W.length c2) (.slice A3 F.length c3)) :
    Calls Try.prog 43 #[.slice (some ⟨g, 0, none⟩) 1 1, .int .i64 a, .int .i64 b] w (Quietly w (.bool q)) := by
  cases hd : discB a b
  · rw [hd, Bool.and_false] at hq
    subst hq
    go_enter Try.func43, Try.ntmps43
    go_wp2_with fail
    refine (isDiscount_is a b _ hd _).mono ?_
    rintro e w2 ⟨rfl, rfl⟩
    go_wp2
    go_ret
    exact ⟨rfl, Below.refl _ _⟩
  · rw [hd, Bool.and_true] at hq
    go_enter Try.func43, Try.ntmps43
    go_wp2_with fail
    refine (isDiscount_is a b _ hd _).mono ?_
    rintro e w2 ⟨rfl, rfl⟩
    go_wp2_with fail
    go_loopw [7, 21] (fun p i wr => ∃ k : Nat, k ≤ 1 ∧ i = .int .i64 (k : Int) ∧ p = .int .i64 (plS P k) ∧ (k = 1 → ArmOk P W F) ∧ Bx3 wr g (.slice A1 P.length c1) (.slice A2 W.length c2) (.slice A3 F.length c3) ∧ Below w.heap.size w wr) (fun _ i _ => 1 - (intOf i).toNat)
    case atStart => exact ⟨0, by omega, rfl, rfl, (fun h => by cases h), hx, Below.refl _ _⟩
    case round =>
      clear hx
      obtain ⟨v, rfl⟩ : ∃ v : World, v = wr := ⟨_, rfl⟩
      obtain ⟨k, hk1, rfl, rfl, hok, bx, HB⟩ := hrel
      rcases Nat.eq_or_lt_of_le hk1 with rfl | hlt
      · have ho := hok rfl
        have h4 := ho.h4
        have h0 := hgt_bd P
        have HQ := Lib.hid (armB_iff.2 ho)
        clear hok ho
        rw [HQ.out] at hq
        subst hq
        have hp : plS P 1 = hgt P := rfl
        rw [hp]
        have i8 : hgt P ≤ 8 := by omega
        go_wp2
        go_ret
        exact ⟨rfl, HB⟩
      · obtain rfl : k = 0 := by omega
        clear hok
        obtain ⟨f0, f1, f2, fz⟩ := id bx
        cases ha : armB P W F
        · obtain rfl : q = false := by rw [← hq, ha]
          go_wp2_with fail
          have HB1 : Below w.heap.size w (v.alloc (.cells #[.slice A1 P.length c1, .slice A2 W.length c2, .slice A3 F.length c3] 26)) := HB.alloc HB.size _
          refine (implArm_is _ _ _ _ _ _ _ _ _ _ ha _ (h.below HB1 (Nat.le_refl _))).mono ?_
          rintro e w5 ⟨rfl, b5⟩
          go_wp2
          go_ret
          exact ⟨rfl, bUp HB1 b5 HB1.size⟩
        · have hok := armB_iff.1 ha
          have hpar := hok.tree.par
          have hn1 := hok.tree.n1
          have hn2 := hok.tree.n2
          have h4 := hok.h4
          have h0 := hgt_bd P
          have HB1 : Below w.heap.size w (v.alloc (.cells #[.slice A1 P.length c1, .slice A2 W.length c2, .slice A3 F.length c3] 26)) := HB.alloc HB.size _
          have bx1 := bx.alloc (.cells #[.slice A1 P.length c1, .slice A2 W.length c2, .slice A3 F.length c3] 26)
          have by1 := Bx3.new v (.slice A1 P.length c1) (.slice A2 W.length c2) (.slice A3 F.length c3) 26
          have p0 : plS P 0 = 0 := rfl
          have e1 : IntKind.i64.wrap (0 + hgt P) = 0 + hgt P := IntWalk.i64_in _ (by omega)
          rw [p0]
          go_wp2_with fail
          generalize v.alloc (.cells #[.slice A1 P.length c1, .slice A2 W.length c2, .slice A3 F.length c3] 26) = u at *
          clear f0 f1 f2 fz bx p0
          refine (implArm_is _ _ _ _ _ _ _ _ _ _ ha _ (h.below HB1 (Nat.le_refl _))).mono ?_
          rintro e w5 ⟨rfl, b5⟩
          have HB5 := bUp HB1 b5 HB1.size
          have bx5 := bx1.below b5
          obtain ⟨f0, f1, f2, fz⟩ := by1.below b5
          clear bx1 by1 b5 HB1
          go_wp2_with fail
          refine (height_c A1 P c1 A2 W.length c2 A3 F.length c3 _ (h.below HB5 (Nat.le_refl _)).r1 hpar hn1 hn2).mono ?_
          rintro e w6 ⟨rfl, b6⟩
          go_wp2_with fail
          go_roundw
          case rel => exact ⟨1, by omega, by go_num, rfl, fun _ => hok, bx5.below b6, bUp HB5 b6 HB5.size⟩
          case measure => simp [intOf] <;> omega
end Go.Proofs.Ytmkfhjhiklnbfaa
