/- Powers and numbers of choices, of both packages. -/
import Derived.Test.YtnhclpajfejnoaaScal
namespace Go.Proofs.Ytnhclpajfejnoaa
open Go.RowKit

/-- A power. -/
def pw (a : Int) : Nat → Int
  | 0 => 1
  | k + 1 => pw a k * a
theorem pw_succ (a : Int) (k : Nat) : pw a (k + 1) = pw a k * a := rfl
theorem pw_pos {a : Int} (ha : 0 ≤ a) (k : Nat) : 0 ≤ pw a k := by
  induction k with
  | zero => show (0 : Int) ≤ 1; decide
  | succ k ih => exact Int.mul_nonneg ih ha
theorem pw_mono {a M : Int} (ha : 0 ≤ a) (hM : a ≤ M) (k : Nat) : pw a k ≤ pw M k := by
  induction k with
  | zero => exact Int.le_refl _
  | succ k ih => exact Int.mul_le_mul ih hM ha (pw_pos (by omega) k)
theorem pw_up {M : Int} (hM : 1 ≤ M) {k K : Nat} (hk : k ≤ K) : pw M k ≤ pw M K := by
  induction K with
  | zero => obtain rfl : k = 0 := by omega
            exact Int.le_refl _
  | succ K ih =>
    by_cases h : k = K + 1
    · subst h; exact Int.le_refl _
    · have h1 := ih (by omega)
      have h2 : pw M K * 1 ≤ pw M K * M := Int.mul_le_mul_of_nonneg_left hM (pw_pos (by omega) K)
      rw [Int.mul_one] at h2
      exact Int.le_trans h1 h2
/-- A power of a small number with a small exponent is within what the greatest ones give. -/
theorem pw_bd {a : Int} (M : Int) (K : Nat) (C : Int) (hC : pw M K ≤ C) (ha : 0 ≤ a) (haM : a ≤ M) (hM : 1 ≤ M) {k : Nat} (hk : k ≤ K) : 0 ≤ pw a k ∧ pw a k ≤ C :=
  ⟨pw_pos ha k, Int.le_trans (pw_mono ha haM k) (Int.le_trans (pw_up hM hk) hC)⟩


theorem power_c (a : Int) (k : Nat) (hk : k ≤ 16777216) (h0 : 0 ≤ a) (hb : ∀ j, j ≤ k → pw a j ≤ 1000000000000) (w : World) :
    Calls Try.prog 101 #[.int .i64 a, .int .i64 k] w fun e w' => e = .returned (.int .i64 (pw a k)) ∧ w = w' := by
  go_enter Try.func101, Try.ntmps101
  go_wp2
  go_loop [5, 7] (fun o i => ∃ j : Nat, j ≤ k ∧ i = .int .i64 j ∧ o = .int .i64 (pw a j)) (fun _ i => k - (intOf i).toNat)
  case atStart => exact ⟨0, by omega, rfl, rfl⟩
  case round =>
    obtain ⟨j, h2, rfl, rfl⟩ := hrel
    by_cases hlt : j < k
    · have hp := pw_pos h0 (j + 1)
      have hq := hb (j + 1) (by omega)
      rw [pw_succ] at hp hq
      clear hb
      go_wp2
      go_round
      case rel => exact ⟨j + 1, by omega, by go_num, rfl⟩
      case measure => simp [intOf] <;> omega
    · clear hb
      go_wp2
      go_ret
      have : j = k := by omega
      subst this
      exact ⟨rfl, rfl⟩

/-- The number of ways to choose, by the reference's loop and by the program's. -/
def chS (m k : Nat) : Nat → Int
  | 0 => 1
  | i + 1 => chS m k i * ((m : Int) - k + ((i : Int) + 1)) / ((i : Int) + 1)
def chI (m : Nat) : Nat → Int
  | 0 => 1
  | i + 1 => chI m i * ((m : Int) - i) / ((i : Int) + 1)
theorem ch_bd : ∀ m, m ≤ 12 → ∀ k, k ≤ m → chS m k k = chI m k ∧ ∀ i, i ≤ k → 0 ≤ chS m k i ∧ chS m k i ≤ 1000 ∧ 0 ≤ chI m i ∧ chI m i ≤ 1000 := by decide +kernel
theorem chS_at (m k j : Nat) (h : 1 ≤ j) : chS m k j = chS m k (j - 1) * ((m : Int) - k + (j : Int)) / (j : Int) := by
  obtain ⟨i, rfl⟩ : ∃ i, j = i + 1 := ⟨j - 1, by omega⟩
  rfl
theorem chI_succ (m j : Nat) : chI m (j + 1) = chI m j * ((m : Int) - j) / ((j : Int) + 1) := rfl


end Go.Proofs.Ytnhclpajfejnoaa
