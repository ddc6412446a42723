/- Fractions: the reference's sums, products and comparisons, walked. -/
import Derived.Test.YtfobjkdkjlbkfaaFracB
import Derived.Test.YtfobjkdkjlbkfaaFrac
import Derived.StillTailTactics
import Derived.Deep.RegionHeld3
import Derived.Deep.DeepCutAuto
namespace Go.Proofs.Ytfobjkdkjlbkfaa
open Go.RowKit

theorem l2Less_c (a b c d : Int) (ha : -30000000000 ≤ a) (ha2 : a ≤ 30000000000) (hb : 0 < b) (hb2 : b ≤ 100000000) (hc : -30000000000 ≤ c) (hc2 : c ≤ 30000000000) (hd : 0 < d) (hd2 : d ≤ 100000000) (w : World) :
    Calls Try.prog 119 #[.agg #[.int .i64 a, .int .i64 b], .agg #[.int .i64 c, .int .i64 d]] w (Quietly w (.bool (decide (a * d < c * b)))) := by
  have m1 := mulA_bd ha ha2 (by omega) hd2 (by omega)
  have m2 := mulA_bd hc hc2 (by omega) hb2 (by omega)
  go_enter Try.func119, Try.ntmps119
  go_wp2
  go_ret
  exact ⟨rfl, by with_reducible repeat (first | exact Below.refl _ _ | refine Below.alloc ?_ (by simp) _)⟩
theorem l2Less_is (a b c d : Int) (q : Bool) (h : decide (a * d < c * b) = q) (ha : -30000000000 ≤ a) (ha2 : a ≤ 30000000000) (hb : 0 < b) (hb2 : b ≤ 100000000) (hc : -30000000000 ≤ c) (hc2 : c ≤ 30000000000) (hd : 0 < d) (hd2 : d ≤ 100000000) (w : World) :
    Calls Try.prog 119 #[.agg #[.int .i64 a, .int .i64 b], .agg #[.int .i64 c, .int .i64 d]] w (Quietly w (.bool q)) := by
  rw [← h]
  exact l2Less_c a b c d ha ha2 hb hb2 hc hc2 hd hd2 w


end Go.Proofs.Ytfobjkdkjlbkfaa
