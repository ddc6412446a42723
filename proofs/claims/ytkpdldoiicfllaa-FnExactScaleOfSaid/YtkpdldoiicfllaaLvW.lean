/- Leaving an arm: discounts, powers, sums, units: both packages' walks. -/
import Derived.Test.YtkpdldoiicfllaaLvL
import Derived.Test.YtkpdldoiicfllaaAfW
import Derived.Test.YtkpdldoiicfllaaArI
namespace Go.Proofs.Ytkpdldoiicfllaa
open Go.RowKit

theorem isDiscount_c (a b : Int) (w : World) :
    Calls Try.prog 45 #[.int .i64 a, .int .i64 b] w fun e w' => e = .returned (.bool (discB a b)) ∧ w = w' := by
  by_cases h1 : 1 ≤ a <;> by_cases h2 : a < b <;> by_cases h3 : b ≤ 4
  all_goals
    go_enter Try.func45, Try.ntmps45
    go_wp2
    go_ret
    exact ⟨by simp [discB, *], rfl⟩
theorem isDiscount_is (a b : Int) (q : Bool) (h : discB a b = q) (w : World) :
    Calls Try.prog 45 #[.int .i64 a, .int .i64 b] w fun e w' => e = .returned (.bool q) ∧ w = w' := by
  rw [← h]
  exact isDiscount_c a b w
theorem l8Discount_c (a b : Int) (w : World) :
    Calls Try.prog 39 #[.int .i64 a, .int .i64 b] w fun e w' => e = .returned (.bool (discB a b)) ∧ w = w' := by
  by_cases h1 : 1 ≤ a <;> by_cases h2 : a < b <;> by_cases h3 : b ≤ 4
  all_goals
    go_enter Try.func39, Try.ntmps39
    go_wp2
    go_ret
    exact ⟨by simp [discB, *], rfl⟩
theorem l8Discount_is (a b : Int) (q : Bool) (h : discB a b = q) (w : World) :
    Calls Try.prog 39 #[.int .i64 a, .int .i64 b] w fun e w' => e = .returned (.bool q) ∧ w = w' := by
  rw [← h]
  exact l8Discount_c a b w
theorem l6Power_c (a : Int) (k : Nat) (hk : k ≤ 16777216) (h0 : 0 ≤ a) (hb : ∀ j, j ≤ k → pw a j ≤ 1000000000000) (w : World) :
    Calls Try.prog 42 #[.int .i64 a, .int .i64 k] w fun e w' => e = .returned (.int .i64 (pw a k)) ∧ w = w' := by
  go_enter Try.func42, Try.ntmps42
  go_wp2
  go_loop [5, 6] (fun o i => ∃ j : Nat, j ≤ k ∧ i = .int .i64 j ∧ o = .int .i64 (pw a j)) (fun _ i => k - (intOf i).toNat)
  case atStart => exact ⟨0, by omega, rfl, rfl⟩
  case round =>
    obtain ⟨j, h2, rfl, rfl⟩ := hrel
    by_cases hlt : j < k
    · have hp := pw_pos h0 (j + 1)
      have hq := hb (j + 1) (by omega)
      rw [pw_succ] at hp hq
      clear hb
      go_wp2
      go_round
      case rel => exact ⟨j + 1, by omega, by go_num, rfl⟩
      case measure => simp [intOf] <;> omega
    · clear hb
      go_wp2
      go_ret
      have : j = k := by omega
      subst this
      exact ⟨rfl, rfl⟩
/-- Powers of small numbers, with an exponent that is a difference. -/
theorem l6Power_s (b e p : Int) (h0 : 0 ≤ b) (h4 : b ≤ 4) (he0 : 0 ≤ e) (he4 : e ≤ 4) (hp : pw b e.toNat = p) (w : World) :
    Calls Try.prog 42 #[.int .i64 b, .int .i64 e] w fun e w' => e = .returned (.int .i64 p) ∧ w = w' := by
  have C := l6Power_c b e.toNat (by omega) h0 (fun j hj => by have := (pw_four h0 h4 (k := j) (by omega)).2; omega) w
  rw [Int.toNat_of_nonneg he0, hp] at C
  exact C
theorem power_s (b e p : Int) (h0 : 0 ≤ b) (h4 : b ≤ 4) (he0 : 0 ≤ e) (he4 : e ≤ 4) (hp : pw b e.toNat = p) (w : World) :
    Calls Try.prog 51 #[.int .i64 b, .int .i64 e] w fun e w' => e = .returned (.int .i64 p) ∧ w = w' := by
  have C := power_c b e.toNat (by omega) h0 (fun j hj => by have := (pw_four h0 h4 (k := j) (by omega)).2; omega) w
  rw [Int.toNat_of_nonneg he0, hp] at C
  exact C
/-- It answers a row of its own of n numbers. -/
def RowN (w : World) (n : Nat) (xs : List Int) (e : Ending) (w' : World) : Prop :=
  ∃ A c, e = .returned (.slice A n c) ∧ Own w' w.heap.size A c xs ∧ Below w.heap.size w w'
theorem rowN {w w' : World} {xs : List Int} {e : Ending} {n : Nat} (h : Row w xs e w') (hn : xs.length = n) : RowN w n xs e w' := by
  subst hn
  exact h
theorem sums_c (A1 : Option Addr) (P : List Int) (c1 : Nat) (A2 : Option Addr) (W : List Int) (c2 : Nat) (w : World) (h1 : Rd w A1 (ints P)) (h2 : Rd w A2 (ints W)) (h : TreeOk P W) (hn1 : 1 ≤ P.length) (hn : P.length ≤ 24) :
    Calls Try.prog 50 #[trV A1 P.length c1 A2 W.length c2] w (RowN w P.length (gath P W)) := by
  have HB1 : Below w.heap.size w (w.alloc (.cells #[.slice A1 P.length c1, .slice A2 W.length c2] 38)) := (Below.refl _ _).alloc (Nat.le_refl _) _
  have bx := Bx.new w (.slice A1 P.length c1) (.slice A2 W.length c2) 38
  have HL := Lib.hid h.len
  have hpar := h.par
  have hw0 := h.w0
  have HG := Lib.hid (show (gath P W).length = P.length by rw [gath_length, h.len])
  obtain ⟨f0, f1, f2, f3, f4⟩ := id bx
  go_enter Try.func50, Try.ntmps50
  go_wp2_with fail
  refine (gathered_c A1 P c1 A2 W.length c2 A2 W c2 _ (h1.below HB1 (Nat.le_refl _)) (h2.below HB1 (Nat.le_refl _)) hpar hn1 hn HL.out hw0).mono ?_
  rintro e w2 ⟨A, c, rfl, ho, hb2⟩
  have HB2 := bUp HB1 hb2 HB1.size
  rw [HG.out]
  go_wp2
  go_ret
  exact ⟨A, c, rfl, ho.mono (by simp), HB2⟩
theorem l2SumsN_c (A1 : Option Addr) (P : List Int) (c1 : Nat) (A2 : Option Addr) (W : List Int) (c2 : Nat) (w : World) (h1 : Rd w A1 (ints P)) (h2 : Rd w A2 (ints W)) (h : TreeOk P W) (hn1 : 1 ≤ P.length) (hn : P.length ≤ 24) :
    Calls Try.prog 40 #[trV A1 P.length c1 A2 W.length c2] w (RowN w P.length (gath P W)) :=
  (l2Sums_c A1 P c1 A2 W c2 w h1 h2 h.par hn1 hn h.len h.w0).mono fun _ _ hr => rowN hr (by rw [gath_length, h.len])
theorem l2DepthsN_c (A1 : Option Addr) (P : List Int) (c1 : Nat) (A2 : Option Addr) (n2 c2 : Nat) (w : World) (h1 : Rd w A1 (ints P)) (hp : ParOk P) (hn1 : 1 ≤ P.length) (hn : P.length ≤ 24) :
    Calls Try.prog 41 #[trV A1 P.length c1 A2 n2 c2] w (RowN w P.length (dep P)) := (l2Depths_c A1 P c1 A2 n2 c2 w h1 hp hn1 hn).mono fun _ _ hr => rowN hr (dep_length hn1)
theorem depthsN_c (A1 : Option Addr) (P : List Int) (c1 : Nat) (A2 : Option Addr) (n2 c2 : Nat) (w : World) (h1 : Rd w A1 (ints P)) (hp : ParOk P) (hn1 : 1 ≤ P.length) (hn : P.length ≤ 24) :
    Calls Try.prog 48 #[trV A1 P.length c1 A2 n2 c2] w (RowN w P.length (dep P)) := (depths_c A1 P c1 A2 n2 c2 w h1 hp hn1 hn).mono fun _ _ hr => rowN hr (dep_length hn1)
end Go.Proofs.Ytkpdldoiicfllaa
