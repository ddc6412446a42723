/- Laws of offers: both packages' tests. -/
import Derived.Test.YtjnllbmknblecaaLists
import Derived.Test.YtjnllbmknblecaaInts
namespace Go.Proofs.Ytjnllbmknblecaa
open Go.RowKit

def lawB (xs : List Int) : Bool := inB xs.length 1 5 && allB xs 0 5 && decide (0 < sm xs)
theorem lawB_1 {xs : List Int} (h : inB xs.length 1 5 = false) : lawB xs = false := by simp [lawB, h]
theorem lawB_2 {xs : List Int} (h : allB xs 0 5 = false) : lawB xs = false := by simp [lawB, h]
theorem lawB_3 {xs : List Int} (h1 : inB xs.length 1 5 = true) (h2 : allB xs 0 5 = true) : lawB xs = decide (0 < sm xs) := by simp [lawB, h1, h2]
theorem lawB_yes {xs : List Int} (h : lawB xs = true) : 1 ≤ xs.length ∧ xs.length ≤ 5 ∧ allB xs 0 5 = true ∧ 1 ≤ sm xs ∧ sm xs ≤ 25 := by
  simp only [lawB, Bool.and_eq_true, inB_iff, decide_eq_true_eq] at h
  have := sm_bd h.1.2
  exact ⟨by omega, by omega, h.1.2, by omega, by omega⟩

theorem implLaw_c (A : Option Addr) (xs : List Int) (c : Nat) (w : World) (ha : Rd w A (ints xs)) (hl : xs.length ≤ 16777216) :
    Calls Try.prog 17 #[.slice A xs.length c] w fun e w' => e = .returned (.bool (lawB xs)) ∧ w = w' := by
  cases h1 : inB xs.length 1 5
  · rw [lawB_1 h1]
    go_enter Try.func17, Try.ntmps17
    go_wp2_with (go_at_call 64; refine (within_is _ _ _ _ (by assumption) _).mono ?_; rintro e w' ⟨rfl, rfl⟩)
    go_ret
    exact ⟨rfl, rfl⟩
  · cases h2 : allB xs 0 5
    · rw [lawB_2 h2]
      go_enter Try.func17, Try.ntmps17
      go_wp2_with (first
        | (go_at_call 64; refine (within_is _ _ _ _ (by assumption) _).mono ?_; rintro e w' ⟨rfl, rfl⟩)
        | (go_at_call 65; refine (allWithin_is _ _ _ _ _ _ (by assumption) _ ha hl).mono ?_; rintro e w' ⟨rfl, rfl⟩))
      go_ret
      exact ⟨rfl, rfl⟩
    · rw [lawB_3 h1 h2]
      go_enter Try.func17, Try.ntmps17
      go_wp2_with (first
        | (go_at_call 64; refine (within_is _ _ _ _ (by assumption) _).mono ?_; rintro e w' ⟨rfl, rfl⟩)
        | (go_at_call 65; refine (allWithin_is _ _ _ _ _ _ (by assumption) _ ha hl).mono ?_; rintro e w' ⟨rfl, rfl⟩)
        | (go_at_call 66; refine (total_c _ _ _ 5 _ ha (by decide) (allB_mono h2 (by decide) (by decide)) hl).mono ?_; rintro e w' ⟨rfl, rfl⟩))
      go_ret
      exact ⟨rfl, rfl⟩
theorem implLaw_is (A : Option Addr) (xs : List Int) (c : Nat) (q : Bool) (h : lawB xs = q) (w : World) (ha : Rd w A (ints xs)) (hl : xs.length ≤ 16777216) :
    Calls Try.prog 17 #[.slice A xs.length c] w fun e w' => e = .returned (.bool q) ∧ w = w' := by
  rw [← h]
  exact implLaw_c A xs c w ha hl

theorem l7Law_c (A : Option Addr) (xs : List Int) (c : Nat) (w : World) (ha : Rd w A (ints xs)) (hl : xs.length ≤ 16777216) :
    Calls Try.prog 63 #[.slice A xs.length c] w fun e w' => e = .returned (.bool (lawB xs)) ∧ w = w' := by
  go_enter Try.func63, Try.ntmps63
  go_wp2
  go_loop [3, 4] (fun s i => ∃ k : Nat, k ≤ xs.length ∧ i = .int .i64 k ∧ s = .int .i64 (sm (xs.take k)) ∧ allB (xs.take k) 0 5 = true) (fun _ i => xs.length - (intOf i).toNat)
  case atStart => exact ⟨0, by omega, rfl, rfl, rfl⟩
  case round =>
    obtain ⟨k, hk, rfl, rfl, hall⟩ := hrel
    have HA := Lib.hid hall
    clear hall
    have b0 := sm_bd HA.out
    have b1 : (xs.take k).length ≤ 16777216 := by simp; omega
    by_cases hlt : k < xs.length
    · obtain ⟨a, rfl, hca⟩ := ha.intN hlt
      cases hx : inB (nth xs k) 0 5
      · have HN := Lib.hid (lawB_2 (allB_no hlt hx))
        go_wp2_with (go_at_call 76; refine (l1In_is _ _ _ _ (by assumption) _).mono ?_; rintro e w' ⟨rfl, rfl⟩)
        go_ret
        exact ⟨by rw [HN.out]; rfl, rfl⟩
      · have HN := Lib.hid (allB_succ hlt HA.out hx)
        have b2 := inB_iff.1 hx
        have b3 : -100000000 ≤ sm (xs.take k) ∧ sm (xs.take k) ≤ 100000000 := by omega
        have HS := Lib.hid (sm_succ xs k hlt)
        clear b0 b1
        go_wp2_with (go_at_call 76; refine (l1In_is _ _ _ _ (by assumption) _).mono ?_; rintro e w' ⟨rfl, rfl⟩)
        go_round
        case rel => exact ⟨k + 1, by omega, by go_num, by rw [HS.out], HN.out⟩
        case measure => simp [intOf] <;> omega
    · have HN := allB_end hlt HA.out
      have HS := Lib.hid (sm_all xs k hlt)
      clear b0 b1
      cases h1 : inB xs.length 1 5
      · have HR := Lib.hid (lawB_1 h1)
        clear HN
        go_wp2_with (go_at_call 76; refine (l1In_is _ _ _ _ (by assumption) _).mono ?_; rintro e w' ⟨rfl, rfl⟩)
        go_ret
        exact ⟨by rw [HR.out]; rfl, rfl⟩
      · have HR := Lib.hid (lawB_3 h1 HN)
        clear HN
        go_wp2_with (go_at_call 76; refine (l1In_is _ _ _ _ (by assumption) _).mono ?_; rintro e w' ⟨rfl, rfl⟩)
        go_ret
        exact ⟨by rw [HR.out, ← HS.out]; rfl, rfl⟩
theorem l7Law_is (A : Option Addr) (xs : List Int) (c : Nat) (q : Bool) (h : lawB xs = q) (w : World) (ha : Rd w A (ints xs)) (hl : xs.length ≤ 16777216) :
    Calls Try.prog 63 #[.slice A xs.length c] w fun e w' => e = .returned (.bool q) ∧ w = w' := by
  rw [← h]
  exact l7Law_c A xs c w ha hl

theorem specIsLaw_c (A : Option Addr) (xs : List Int) (c : Nat) (w : World) (ha : Rd w A (ints xs)) (hl : xs.length ≤ 16777216) :
    Calls Try.prog 15 #[.slice A xs.length c] w (Quietly w (.bool (lawB xs))) := by
  go_enter Try.func15, Try.ntmps15
  go_wp2_with (go_at_call 63; refine (l7Law_c _ _ _ _ ha hl).mono ?_; rintro e w' ⟨rfl, rfl⟩)
  go_ret
  exact ⟨rfl, Below.refl _ _⟩
theorem implIsLaw_c (A : Option Addr) (xs : List Int) (c : Nat) (w : World) (ha : Rd w A (ints xs)) (hl : xs.length ≤ 16777216) :
    Calls Try.prog 17 #[.slice A xs.length c] w (Quietly w (.bool (lawB xs))) :=
  (implLaw_c A xs c w ha hl).mono fun _ _ ⟨he, hw⟩ => ⟨he, hw ▸ Below.refl _ _⟩
end Go.Proofs.Ytjnllbmknblecaa
