/- Small scalar functions, of both packages. -/
import Derived.Test.YtnhclpajfejnoaaBase
namespace Go.Proofs.Ytnhclpajfejnoaa
open Go.RowKit

theorem within_c (n a b : Int) (w : World) :
    Calls Try.prog 92 #[.int .i64 n, .int .i64 a, .int .i64 b] w fun e w' => e = .returned (.bool (inB n a b)) ∧ w = w' := by
  by_cases h1 : a ≤ n <;> by_cases h2 : n ≤ b
  all_goals
    go_enter Try.func92, Try.ntmps92
    go_wp2
    go_ret
    exact ⟨by simp [inB, *], rfl⟩

theorem l1In_c (n a b : Int) (w : World) :
    Calls Try.prog 64 #[.int .i64 n, .int .i64 a, .int .i64 b] w fun e w' => e = .returned (.bool (inB n a b)) ∧ w = w' := by
  by_cases h1 : a ≤ n <;> by_cases h2 : n ≤ b
  all_goals
    go_enter Try.func64, Try.ntmps64
    go_wp2
    go_ret
    exact ⟨by simp [inB, *], rfl⟩
theorem l1In_is (n a b : Int) (r : Bool) (h : inB n a b = r) (w : World) :
    Calls Try.prog 64 #[.int .i64 n, .int .i64 a, .int .i64 b] w fun e w' => e = .returned (.bool r) ∧ w = w' := by
  rw [← h]
  exact l1In_c n a b w
theorem within_is (n a b : Int) (r : Bool) (h : inB n a b = r) (w : World) :
    Calls Try.prog 92 #[.int .i64 n, .int .i64 a, .int .i64 b] w fun e w' => e = .returned (.bool r) ∧ w = w' := by
  rw [← h]
  exact within_c n a b w
/-- The greater one of two numbers. -/
def mxI (a b : Int) : Int := if b < a then a else b
theorem mxI_l {a b : Int} (h : b < a) : mxI a b = a := if_pos h
theorem mxI_r {a b : Int} (h : ¬ b < a) : mxI a b = b := if_neg h
theorem mxI_bd {a b lo hi : Int} (h1 : lo ≤ a) (h2 : a ≤ hi) (h3 : lo ≤ b) (h4 : b ≤ hi) : lo ≤ mxI a b ∧ mxI a b ≤ hi := by
  unfold mxI
  split <;> omega
theorem l1Most_c (a b : Int) (w : World) : Calls Try.prog 66 #[.int .i64 a, .int .i64 b] w fun e w' => e = .returned (.int .i64 (mxI a b)) ∧ w = w' := by
  by_cases h : b < a
  · rw [mxI_l h]
    go_enter Try.func66, Try.ntmps66
    go_wp2
    go_ret
    exact ⟨rfl, rfl⟩
  · rw [mxI_r h]
    go_enter Try.func66, Try.ntmps66
    go_wp2
    go_ret
    exact ⟨rfl, rfl⟩
theorem l1Most_is (a b m : Int) (h : mxI a b = m) (w : World) : Calls Try.prog 66 #[.int .i64 a, .int .i64 b] w fun e w' => e = .returned (.int .i64 m) ∧ w' = w := by
  rw [← h]
  exact (l1Most_c a b w).mono fun _ _ ⟨he, hw⟩ => ⟨he, hw.symm⟩
end Go.Proofs.Ytnhclpajfejnoaa
