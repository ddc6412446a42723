/- Spreads: both packages' tests. -/
import Derived.Test.YtgmgiedbfbdfdaaLists
import Derived.Test.YtgmgiedbfbdfdaaInts
namespace Go.Proofs.Ytgmgiedbfbdfdaa
open Go.RowKit

def sprB (xs : List Int) : Bool := inB xs.length 1 8 && allB xs 0 40 && inB (sm xs) 1 40
theorem sprB_1 {xs : List Int} (h : inB xs.length 1 8 = false) : sprB xs = false := by simp [sprB, h]
theorem sprB_2 {xs : List Int} (h : allB xs 0 40 = false) : sprB xs = false := by simp [sprB, h]
theorem sprB_3 {xs : List Int} (h1 : inB xs.length 1 8 = true) (h2 : allB xs 0 40 = true) : sprB xs = inB (sm xs) 1 40 := by simp [sprB, h1, h2]
theorem sprB_yes {xs : List Int} (h : sprB xs = true) : 1 ≤ xs.length ∧ xs.length ≤ 8 ∧ allB xs 0 40 = true ∧ 1 ≤ sm xs ∧ sm xs ≤ 40 := by
  simp only [sprB, Bool.and_eq_true, inB_iff] at h
  exact ⟨by omega, by omega, h.1.2, by omega, by omega⟩

theorem l10Row_c (A : Option Addr) (xs : List Int) (c : Nat) (w : World) (ha : Rd w A (ints xs)) (hl : xs.length ≤ 16777216) :
    Calls Try.prog 40 #[.slice A xs.length c, .int .i64 xs.length] w fun e w' => e = .returned (.bool (allB xs 0 40)) ∧ w = w' := by
  go_enter Try.func40, Try.ntmps40
  go_wp2
  go_loop [5] (fun i => ∃ k : Nat, k ≤ xs.length ∧ i = .int .i64 k ∧ allB (xs.take k) 0 40 = true) (fun i => xs.length - (intOf i).toNat)
  case atStart => exact ⟨0, by omega, rfl, rfl⟩
  case round =>
    obtain ⟨k, hk, rfl, hall⟩ := hrel
    have HA := Lib.hid hall
    clear hall
    by_cases hlt : k < xs.length
    · obtain ⟨a, rfl, hca⟩ := ha.intN hlt
      cases hx : inB (nth xs k) 0 40
      · have HN := Lib.hid (allB_no hlt hx)
        go_wp2_with (go_at_call 35; refine (l1In_is _ _ _ _ (by assumption) _).mono ?_; rintro e w' ⟨rfl, rfl⟩)
        go_ret
        exact ⟨by rw [HN.out]; rfl, rfl⟩
      · have HN := Lib.hid (allB_succ hlt HA.out hx)
        go_wp2_with (go_at_call 35; refine (l1In_is _ _ _ _ (by assumption) _).mono ?_; rintro e w' ⟨rfl, rfl⟩)
        go_round
        case rel => exact ⟨k + 1, by omega, by go_num, HN.out⟩
        case measure => simp [intOf] <;> omega
    · have HN := Lib.hid (allB_end hlt HA.out)
      have e1 : ((xs.length : Int) == (xs.length : Int)) = true := by simp
      go_wp2
      go_ret
      exact ⟨by rw [HN.out]; rfl, rfl⟩
theorem l10Row_is (A : Option Addr) (xs : List Int) (c : Nat) (q : Bool) (h : allB xs 0 40 = q) (w : World) (ha : Rd w A (ints xs)) (hl : xs.length ≤ 16777216) :
    Calls Try.prog 40 #[.slice A xs.length c, .int .i64 xs.length] w fun e w' => e = .returned (.bool q) ∧ w = w' := by
  rw [← h]
  exact l10Row_c A xs c w ha hl

theorem l10Spread_c (A : Option Addr) (xs : List Int) (c : Nat) (w : World) (ha : Rd w A (ints xs)) (hl : xs.length ≤ 16777216) :
    Calls Try.prog 28 #[.slice A xs.length c] w fun e w' => e = .returned (.bool (sprB xs)) ∧ w = w' := by
  cases h1 : inB xs.length 1 8
  · rw [sprB_1 h1]
    go_enter Try.func28, Try.ntmps28
    go_wp2_with (go_at_call 35; refine (l1In_is _ _ _ _ (by assumption) _).mono ?_; rintro e w' ⟨rfl, rfl⟩)
    go_ret
    exact ⟨rfl, rfl⟩
  · cases h2 : allB xs 0 40
    · rw [sprB_2 h2]
      go_enter Try.func28, Try.ntmps28
      go_wp2_with (first
        | (go_at_call 35; refine (l1In_is _ _ _ _ (by assumption) _).mono ?_; rintro e w' ⟨rfl, rfl⟩)
        | (go_at_call 40; refine (l10Row_is _ _ _ _ (by assumption) _ ha hl).mono ?_; rintro e w' ⟨rfl, rfl⟩))
      go_ret
      exact ⟨rfl, rfl⟩
    · rw [sprB_3 h1 h2]
      go_enter Try.func28, Try.ntmps28
      go_wp2_with (first
        | (go_at_call 35; refine (l1In_c _ _ _ _).mono ?_; rintro e w' ⟨rfl, rfl⟩)
        | (go_at_call 40; refine (l10Row_is _ _ _ _ (by assumption) _ ha hl).mono ?_; rintro e w' ⟨rfl, rfl⟩)
        | (go_at_call 41; refine (l10Sum_c _ _ _ 40 _ ha (by decide) (allB_mono h2 (by decide) (by decide)) hl).mono ?_; rintro e w' ⟨rfl, rfl⟩))
      go_ret
      exact ⟨rfl, rfl⟩
theorem l10Spread_is (A : Option Addr) (xs : List Int) (c : Nat) (q : Bool) (h : sprB xs = q) (w : World) (ha : Rd w A (ints xs)) (hl : xs.length ≤ 16777216) :
    Calls Try.prog 28 #[.slice A xs.length c] w fun e w' => e = .returned (.bool q) ∧ w = w' := by
  rw [← h]
  exact l10Spread_c A xs c w ha hl

theorem implSpread_c (A : Option Addr) (xs : List Int) (c : Nat) (w : World) (ha : Rd w A (ints xs)) (hl : xs.length ≤ 16777216) :
    Calls Try.prog 12 #[.slice A xs.length c] w fun e w' => e = .returned (.bool (sprB xs)) ∧ w = w' := by
  cases h1 : inB xs.length 1 8
  · rw [sprB_1 h1]
    go_enter Try.func12, Try.ntmps12
    go_wp2_with (go_at_call 29; refine (within_is _ _ _ _ (by assumption) _).mono ?_; rintro e w' ⟨rfl, rfl⟩)
    go_ret
    exact ⟨rfl, rfl⟩
  · cases h2 : allB xs 0 40
    · rw [sprB_2 h2]
      go_enter Try.func12, Try.ntmps12
      go_wp2_with (first
        | (go_at_call 29; refine (within_is _ _ _ _ (by assumption) _).mono ?_; rintro e w' ⟨rfl, rfl⟩)
        | (go_at_call 30; refine (allWithin_is _ _ _ _ _ _ (by assumption) _ ha hl).mono ?_; rintro e w' ⟨rfl, rfl⟩))
      go_ret
      exact ⟨rfl, rfl⟩
    · rw [sprB_3 h1 h2]
      go_enter Try.func12, Try.ntmps12
      go_wp2_with (first
        | (go_at_call 29; refine (within_c _ _ _ _).mono ?_; rintro e w' ⟨rfl, rfl⟩)
        | (go_at_call 30; refine (allWithin_is _ _ _ _ _ _ (by assumption) _ ha hl).mono ?_; rintro e w' ⟨rfl, rfl⟩)
        | (go_at_call 31; refine (total_c _ _ _ 40 _ ha (by decide) (allB_mono h2 (by decide) (by decide)) hl).mono ?_; rintro e w' ⟨rfl, rfl⟩))
      go_ret
      exact ⟨rfl, rfl⟩
theorem implSpread_is (A : Option Addr) (xs : List Int) (c : Nat) (q : Bool) (h : sprB xs = q) (w : World) (ha : Rd w A (ints xs)) (hl : xs.length ≤ 16777216) :
    Calls Try.prog 12 #[.slice A xs.length c] w fun e w' => e = .returned (.bool q) ∧ w = w' := by
  rw [← h]
  exact implSpread_c A xs c w ha hl

theorem specSpread_c (A : Option Addr) (xs : List Int) (c : Nat) (w : World) (ha : Rd w A (ints xs)) (hl : xs.length ≤ 16777216) :
    Calls Try.prog 10 #[.slice A xs.length c] w fun e w' => e = .returned (.bool (sprB xs)) ∧ w = w' := by
  go_enter Try.func10, Try.ntmps10
  go_wp2_with (go_at_call 28; refine (l10Spread_c _ _ _ _ ha hl).mono ?_; rintro e w' ⟨rfl, rfl⟩)
  go_ret
  exact ⟨rfl, rfl⟩

theorem lawSpread (A : Option Addr) (xs : List Int) (c : Nat) (w : World) (ha : Rd w A (ints xs)) :
    Calls Try.prog 3 #[.slice A xs.length c] w fun e w' => e = .returned (.bool true) ∧ Below w.heap.size w w' := by
  by_cases hl : 1048576 < xs.length
  · go_enter Try.func3, Try.ntmps3
    go_wp2
    go_ret
    exact ⟨rfl, Below.refl _ _⟩
  · go_enter Try.func3, Try.ntmps3
    go_wp2_with (go_at_call 11; refine (toIntS_c _ _ _ _ ha (by omega)).mono ?_; rintro e w1 ⟨rfl, ho1, hb1⟩)
    go_wp2_with (go_at_call 10; refine (specSpread_c _ _ _ _ ho1.rd (by omega)).mono ?_; rintro e w' ⟨rfl, rfl⟩)
    have ha1 := ha.below hb1 (Nat.le_refl _)
    go_wp2_with (go_at_call 11; refine (toIntS_c _ _ _ _ ha1 (by omega)).mono ?_; rintro e w2 ⟨rfl, ho2, hb2⟩)
    go_wp2_with (go_at_call 12; refine (implSpread_c _ _ _ _ ho2.rd (by omega)).mono ?_; rintro e w' ⟨rfl, rfl⟩)
    have ha2 := ha1.below hb2 (Nat.le_refl _)
    go_wp2_with (go_at_call 11; refine (toIntS_c _ _ _ _ ha2 (by omega)).mono ?_; rintro e w3 ⟨rfl, ho3, hb3⟩)
    go_wp2_with (go_at_call 13; refine (eqIntS_c _ _ _ _ _ _ _ (ho2.below hb3).rd ho3.rd (by omega) (by omega)).mono ?_; rintro e w4 ⟨rfl, n4, rfl⟩)
    go_ret
    exact ⟨rfl, bDrewN (bUp (bUp hb1 hb2 hb1.size) hb3 (Nat.le_trans hb1.size hb2.size)) _⟩
end Go.Proofs.Ytgmgiedbfbdfdaa
