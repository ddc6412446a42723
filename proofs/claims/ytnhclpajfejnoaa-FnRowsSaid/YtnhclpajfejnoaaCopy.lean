/- A list's own copy, in both packages. -/
import Derived.Test.YtnhclpajfejnoaaLaws
namespace Go.Proofs.Ytnhclpajfejnoaa
open Go.RowKit
theorem copied_c (A : Option Addr) (xs : List Int) (c : Nat) (w : World) (ha : Rd w A (ints xs)) (hl : xs.length ≤ 16777216) :
    Calls Try.prog 109 #[.slice A xs.length c] w (Row w xs) := by
  go_enter Try.func109, Try.ntmps109
  go_wp2_with (at_builtin; refine wp_append_ints _ rfl _ _ rfl w.heap.size _ 0 0 [] rfl rfl (Own.lit w [] (by simp)) A xs.length c xs rfl rfl (ha.alloc _) (by simp; omega) (by simp) ?_; intro A2 c2 w2 ho2 hg2 hb2; rw [List.nil_append] at ho2)
  go_ret
  exact ⟨A2, c2, by first | rfl | simp, ho2, (grown_of_alloc hg2 |> fun h => (Below.refl _ _).grown h (Nat.le_refl _) (by simp [blk]))⟩
theorem l1Own_c (A : Option Addr) (xs : List Int) (c : Nat) (w : World) (ha : Rd w A (ints xs)) (hl : xs.length ≤ 16777216) :
    Calls Try.prog 88 #[.slice A xs.length c] w (Row w xs) := by
  go_enter Try.func88, Try.ntmps88
  go_wp2_with (at_builtin; refine wp_append_ints _ rfl _ _ rfl w.heap.size _ 0 0 [] rfl rfl (Own.lit w [] (by simp)) A xs.length c xs rfl rfl (ha.alloc _) (by simp; omega) (by simp) ?_; intro A2 c2 w2 ho2 hg2 hb2; rw [List.nil_append] at ho2)
  go_ret
  exact ⟨A2, c2, by first | rfl | simp, ho2, (grown_of_alloc hg2 |> fun h => (Below.refl _ _).grown h (Nat.le_refl _) (by simp [blk]))⟩
end Go.Proofs.Ytnhclpajfejnoaa
