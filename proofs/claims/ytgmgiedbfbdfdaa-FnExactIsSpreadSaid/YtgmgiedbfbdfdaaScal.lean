/- Small scalar functions, of both packages. -/
import Derived.Test.YtgmgiedbfbdfdaaBase
namespace Go.Proofs.Ytgmgiedbfbdfdaa
open Go.RowKit

theorem within_c (n a b : Int) (w : World) :
    Calls Try.prog 29 #[.int .i64 n, .int .i64 a, .int .i64 b] w fun e w' => e = .returned (.bool (inB n a b)) ∧ w = w' := by
  by_cases h1 : a ≤ n <;> by_cases h2 : n ≤ b
  all_goals
    go_enter Try.func29, Try.ntmps29
    go_wp2
    go_ret
    exact ⟨by simp [inB, *], rfl⟩

theorem l1In_c (n a b : Int) (w : World) :
    Calls Try.prog 35 #[.int .i64 n, .int .i64 a, .int .i64 b] w fun e w' => e = .returned (.bool (inB n a b)) ∧ w = w' := by
  by_cases h1 : a ≤ n <;> by_cases h2 : n ≤ b
  all_goals
    go_enter Try.func35, Try.ntmps35
    go_wp2
    go_ret
    exact ⟨by simp [inB, *], rfl⟩
theorem l1In_is (n a b : Int) (r : Bool) (h : inB n a b = r) (w : World) :
    Calls Try.prog 35 #[.int .i64 n, .int .i64 a, .int .i64 b] w fun e w' => e = .returned (.bool r) ∧ w = w' := by
  rw [← h]
  exact l1In_c n a b w
theorem within_is (n a b : Int) (r : Bool) (h : inB n a b = r) (w : World) :
    Calls Try.prog 29 #[.int .i64 n, .int .i64 a, .int .i64 b] w fun e w' => e = .returned (.bool r) ∧ w = w' := by
  rw [← h]
  exact within_c n a b w
end Go.Proofs.Ytgmgiedbfbdfdaa
