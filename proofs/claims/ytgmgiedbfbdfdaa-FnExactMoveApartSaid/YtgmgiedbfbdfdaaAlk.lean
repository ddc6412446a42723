/- Spreads that are alike: both packages' tests. (Written by gen_alike.py.) -/
import Derived.Test.YtgmgiedbfbdfdaaSpr
namespace Go.Proofs.Ytgmgiedbfbdfdaa
open Go.RowKit
def alkB (xs ys : List Int) : Bool := sprB xs && sprB ys && ((xs.length : Int) == (ys.length : Int)) && (sm xs == sm ys)
theorem alk_yes {xs ys : List Int} (h : alkB xs ys = true) : sprB xs = true ∧ sprB ys = true ∧ xs.length = ys.length ∧ sm xs = sm ys := by
  simp only [alkB, Bool.and_eq_true, beq_iff_eq] at h
  exact ⟨h.1.1.1, h.1.1.2, by omega, h.2⟩

theorem alike_tot (A : Option Addr) (xs : List Int) (c : Nat) (w : World) (ha : Rd w A (ints xs)) (h : sprB xs = true) :
    Calls Try.prog 31 #[.slice A xs.length c] w fun e w' => e = .returned (.int .i64 (sm xs)) ∧ w = w' :=
  total_c A xs c 40 w ha (by decide) (allB_mono (sprB_yes h).2.2.1 (by decide) (by decide)) (by have := sprB_yes h; omega)
theorem alike_c (A B : Option Addr) (xs ys : List Int) (c d : Nat) (w : World) (ha : Rd w A (ints xs)) (hb : Rd w B (ints ys)) (hl : xs.length ≤ 16777216) (hm : ys.length ≤ 16777216) :
    Calls Try.prog 33 #[.slice A xs.length c, .slice B ys.length d] w fun e w' => e = .returned (.bool (alkB xs ys)) ∧ w = w' := by
  cases h1 : sprB xs
  · have hr : alkB xs ys = false := by simp [alkB, h1]
    rw [hr]
    clear hr
    go_enter Try.func33, Try.ntmps33
    go_wp2_with (go_at_call 12; refine (implSpread_is _ _ _ _ (by assumption) _ (by assumption) (by assumption)).mono ?_; rintro e w' ⟨rfl, rfl⟩)
    go_ret
    exact ⟨rfl, rfl⟩
  · cases h2 : sprB ys
    · have hr : alkB xs ys = false := by simp [alkB, h2]
      rw [hr]
      clear hr
      go_enter Try.func33, Try.ntmps33
      go_wp2_with (go_at_call 12; refine (implSpread_is _ _ _ _ (by assumption) _ (by assumption) (by assumption)).mono ?_; rintro e w' ⟨rfl, rfl⟩)
      go_ret
      exact ⟨rfl, rfl⟩
    · cases h3 : ((xs.length : Int) == (ys.length : Int))
      · have hr : alkB xs ys = false := by simp [alkB, h3]
        rw [hr]
        clear hr
        go_enter Try.func33, Try.ntmps33
        go_wp2_with (go_at_call 12; refine (implSpread_is _ _ _ _ (by assumption) _ (by assumption) (by assumption)).mono ?_; rintro e w' ⟨rfl, rfl⟩)
        go_ret
        exact ⟨rfl, rfl⟩
      · have hr : alkB xs ys = (sm xs == sm ys) := by simp [alkB, h1, h2, h3]
        rw [hr]
        clear hr
        go_enter Try.func33, Try.ntmps33
        go_wp2_with (first
          | (go_at_call 12; refine (implSpread_is _ _ _ _ (by assumption) _ (by assumption) (by assumption)).mono ?_; rintro e w' ⟨rfl, rfl⟩)
          | (go_at_call 31; refine (alike_tot _ _ _ _ (by assumption) (by assumption)).mono ?_; rintro e w' ⟨rfl, rfl⟩))
        go_ret
        exact ⟨rfl, rfl⟩
theorem alike_is (A B : Option Addr) (xs ys : List Int) (c d : Nat) (q : Bool) (h : alkB xs ys = q) (w : World) (ha : Rd w A (ints xs)) (hb : Rd w B (ints ys)) (hl : xs.length ≤ 16777216) (hm : ys.length ≤ 16777216) :
    Calls Try.prog 33 #[.slice A xs.length c, .slice B ys.length d] w fun e w' => e = .returned (.bool q) ∧ w = w' := by
  rw [← h]
  exact alike_c A B xs ys c d w ha hb hl hm

theorem l10Alike_tot (A : Option Addr) (xs : List Int) (c : Nat) (w : World) (ha : Rd w A (ints xs)) (h : sprB xs = true) :
    Calls Try.prog 41 #[.slice A xs.length c] w fun e w' => e = .returned (.int .i64 (sm xs)) ∧ w = w' :=
  l10Sum_c A xs c 40 w ha (by decide) (allB_mono (sprB_yes h).2.2.1 (by decide) (by decide)) (by have := sprB_yes h; omega)
theorem l10Alike_c (A B : Option Addr) (xs ys : List Int) (c d : Nat) (w : World) (ha : Rd w A (ints xs)) (hb : Rd w B (ints ys)) (hl : xs.length ≤ 16777216) (hm : ys.length ≤ 16777216) :
    Calls Try.prog 32 #[.slice A xs.length c, .slice B ys.length d] w fun e w' => e = .returned (.bool (alkB xs ys)) ∧ w = w' := by
  cases h1 : sprB xs
  · have hr : alkB xs ys = false := by simp [alkB, h1]
    rw [hr]
    clear hr
    go_enter Try.func32, Try.ntmps32
    go_wp2_with (go_at_call 28; refine (l10Spread_is _ _ _ _ (by assumption) _ (by assumption) (by assumption)).mono ?_; rintro e w' ⟨rfl, rfl⟩)
    go_ret
    exact ⟨rfl, rfl⟩
  · cases h2 : sprB ys
    · have hr : alkB xs ys = false := by simp [alkB, h2]
      rw [hr]
      clear hr
      go_enter Try.func32, Try.ntmps32
      go_wp2_with (go_at_call 28; refine (l10Spread_is _ _ _ _ (by assumption) _ (by assumption) (by assumption)).mono ?_; rintro e w' ⟨rfl, rfl⟩)
      go_ret
      exact ⟨rfl, rfl⟩
    · cases h3 : ((xs.length : Int) == (ys.length : Int))
      · have hr : alkB xs ys = false := by simp [alkB, h3]
        rw [hr]
        clear hr
        go_enter Try.func32, Try.ntmps32
        go_wp2_with (go_at_call 28; refine (l10Spread_is _ _ _ _ (by assumption) _ (by assumption) (by assumption)).mono ?_; rintro e w' ⟨rfl, rfl⟩)
        go_ret
        exact ⟨rfl, rfl⟩
      · have hr : alkB xs ys = (sm xs == sm ys) := by simp [alkB, h1, h2, h3]
        rw [hr]
        clear hr
        go_enter Try.func32, Try.ntmps32
        go_wp2_with (first
          | (go_at_call 28; refine (l10Spread_is _ _ _ _ (by assumption) _ (by assumption) (by assumption)).mono ?_; rintro e w' ⟨rfl, rfl⟩)
          | (go_at_call 41; refine (l10Alike_tot _ _ _ _ (by assumption) (by assumption)).mono ?_; rintro e w' ⟨rfl, rfl⟩))
        go_ret
        exact ⟨rfl, rfl⟩
theorem l10Alike_is (A B : Option Addr) (xs ys : List Int) (c d : Nat) (q : Bool) (h : alkB xs ys = q) (w : World) (ha : Rd w A (ints xs)) (hb : Rd w B (ints ys)) (hl : xs.length ≤ 16777216) (hm : ys.length ≤ 16777216) :
    Calls Try.prog 32 #[.slice A xs.length c, .slice B ys.length d] w fun e w' => e = .returned (.bool q) ∧ w = w' := by
  rw [← h]
  exact l10Alike_c A B xs ys c d w ha hb hl hm

end Go.Proofs.Ytgmgiedbfbdfdaa
