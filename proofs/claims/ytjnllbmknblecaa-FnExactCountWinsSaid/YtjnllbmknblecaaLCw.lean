/- The law FnExactCountWins: walked call by call. (Written by gen_law.py.) -/
import Derived.Test.YtjnllbmknblecaaCwI
namespace Go.Proofs.Ytjnllbmknblecaa
open Go.RowKit
set_option maxHeartbeats 1000000 in
theorem lawCw (a0 : Int) (a1 : Int) (w : World)  :
    Calls Try.prog 11 #[.int .i64 a0, .int .i64 a1] w fun e w' => e = .returned (.bool true) ∧ Below w.heap.size w w' := by
  go_enter Try.func11, Try.ntmps11
  have HB0 : Below w.heap.size w w := Below.refl _ _
  go_wp2_with fail
  refine (specCw_c _ _ _  ).mono ?_
  rintro e w1 ⟨rfl, b1⟩
  have HB2 := bUp HB0 b1 HB0.size
  go_wp2_with fail
  refine (implCw_c _ _ _  ).mono ?_
  rintro e w3 ⟨rfl, b3⟩
  have HB4 := bUp HB2 b3 HB2.size
  go_wp2
  go_ret
  exact ⟨rfl, by first | exact HB4 | (simpa using HB4)⟩
end Go.Proofs.Ytjnllbmknblecaa
