/- The law FnExactInOrderValue: walked call by call. (Written by gen_lawms.py.) -/
import Derived.Test.YthhpioohdkglkaaMksA
import Derived.Test.YthhpioohdkglkaaOrW
namespace Go.Proofs.Ythhpioohdkglkaa
open Go.RowKit
set_option maxRecDepth 20000 in
set_option maxHeartbeats 2000000 in
theorem lawOv (A : Option Addr) (L : List Mkd) (c : Nat) (a1 : Int) (a2 : Int) (w : World) (ha : RdMs w A L) (hn : L.length ≤ 9223372036854775807) (hr : LgMs L) :
    Calls Try.prog 6 #[.slice A L.length c, .int .i64 a1, .int .i64 a2] w fun e w' => e = .returned (.bool true) ∧ Below w.heap.size w w' := by
  go_enter Try.func6, Try.ntmps6
  go_wp2_with fail
  refine (szArmS_c A L c w ha hn hr).mono ?_
  rintro e w1 ⟨r, rfl, hr1 | ⟨hr1, sz⟩, b1⟩
  · go_wp2
    go_ret
    exact ⟨rfl, b1⟩
  go_wp2_with fail
  refine (toArmS_c A L c _ (ha.below b1 (Nat.le_refl _)) sz).mono ?_
  rintro e w2 ⟨gs, rfl, os, b2⟩
  have HB2 := bUp b1 b2 b1.size
  go_wp2_with fail
  refine (specOv_c _ _ _ _ _ _ os sz).mono ?_
  rintro e w3 ⟨rfl, b3⟩
  have HB3 := bUp HB2 b3 HB2.size
  clear os b2 b3
  go_wp2_with fail
  refine (toArmS_c A L c _ (ha.below HB3 (Nat.le_refl _)) sz).mono ?_
  rintro e w4 ⟨gx, rfl, ox, b4⟩
  have HB4 := bUp HB3 b4 HB3.size
  go_wp2_with fail
  refine (implOv_c _ _ _ _ _ _ ox sz).mono ?_
  rintro e w5 ⟨rfl, b5⟩
  have HB5 := bUp HB4 b5 HB4.size
  have ox5 := ox.below b5 (Nat.le_refl _)
  go_wp2_with fail
  refine (toArmS_c A L c _ (ha.below HB5 (Nat.le_refl _)) sz).mono ?_
  rintro e w6 ⟨gy, rfl, oy, b6⟩
  have HB6 := bUp HB5 b6 HB5.size
  go_wp2_with fail
  refine (eqArmS_same _ _ L _ _ _ (ox5.below b6 (Nat.le_refl _)) oy sz).mono ?_
  rintro e w7 ⟨rfl, b7⟩
  go_wp2
  go_ret
  exact ⟨rfl, bUp HB6 b7 HB6.size⟩
end Go.Proofs.Ythhpioohdkglkaa
