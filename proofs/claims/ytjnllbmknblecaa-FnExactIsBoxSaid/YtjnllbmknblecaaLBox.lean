/- The law FnExactIsBox. -/
import Derived.Test.YtjnllbmknblecaaBox
import Derived.Test.YtjnllbmknblecaaBut
import Derived.Deep.DeepCutAuto
namespace Go.Proofs.Ytjnllbmknblecaa
open Go.RowKit
set_option maxRecDepth 20000 in
set_option maxHeartbeats 1000000 in
theorem lawIsBox (A : Option Addr) (xs : List Int) (c : Nat) (fee : Int) (w : World) (ha : Rd w A (ints xs)) (hn : xs.length ≤ 9223372036854775807) :
    Calls Try.prog 12 #[boxV A xs.length c fee] w fun e w' => e = .returned (.bool true) ∧ Below w.heap.size w w' := by
  have HB1 : Below w.heap.size w (w.alloc (.cells #[.slice A xs.length c, .int .i64 fee] 51)) := (Below.refl _ _).alloc (Nat.le_refl _) _
  by_cases h : (1048576 : Int) < (xs.length : Int)
  · have C := szBox_c A xs.length c fee (w.alloc (.cells #[.slice A xs.length c, .int .i64 fee] 51)) hn
    rw [if_pos h] at C
    go_enter Try.func12, Try.ntmps12
    go_wp2_with fail
    refine C.mono ?_
    rintro e w1 ⟨rfl, hb1⟩
    go_wp2
    go_ret
    exact ⟨rfl, HB1.trans (hb1.mono (by simp))⟩
  · have C := szBox_c A xs.length c fee (w.alloc (.cells #[.slice A xs.length c, .int .i64 fee] 51)) hn
    rw [if_neg h] at C
    have h0 : xs.length ≤ 1048576 := by omega
    have hb0 := Bx.new w (.slice A xs.length c) (.int .i64 fee) 51
    have hz0 : w.heap.size < (w.alloc (.cells #[.slice A xs.length c, .int .i64 fee] 51)).heap.size := by simp
    go_enter Try.func12, Try.ntmps12
    go_wp2_with fail
    refine C.mono ?_
    rintro e w1 ⟨rfl, hb1⟩
    have bx1 := hb0.below hb1
    have HB2 := bUp HB1 hb1 HB1.size
    obtain ⟨f0, f1, z0, z1, hz⟩ := bx1
    go_wp2_with fail
    refine (toBox_c A xs c fee _ (ha.below HB2 (Nat.le_refl _)) (by omega)).mono ?_
    rintro e w2 ⟨A2, c2, rfl, o2, hb2⟩
    have HB3 := bUp HB2 hb2 HB2.size
    have bx2 := (show Bx w1 w.heap.size (.slice A xs.length c) (.int .i64 fee) from ⟨f0, f1, z0, z1, hz⟩).below hb2
    clear f0 f1 z0 z1 hz hb1 hb0 C
    obtain ⟨f0, f1, z0, z1, hz⟩ := bx2
    go_wp2_with fail
    refine (specBox_c A2 xs c2 fee _ o2.rd (by omega)).mono ?_
    rintro e w3 ⟨rfl, hb3⟩
    have HB4 := bUp HB3 hb3 HB3.size
    have bx3 := (show Bx w2 w.heap.size (.slice A xs.length c) (.int .i64 fee) from ⟨f0, f1, z0, z1, hz⟩).below hb3
    clear f0 f1 z0 z1 hz hb2
    obtain ⟨f0, f1, z0, z1, hz⟩ := bx3
    go_wp2_with fail
    refine (toBox_c A xs c fee _ (ha.below HB4 (Nat.le_refl _)) (by omega)).mono ?_
    rintro e w4 ⟨A4, c4, rfl, o4, hb4⟩
    have HB5 := bUp HB4 hb4 HB4.size
    have bx4 := (show Bx w3 w.heap.size (.slice A xs.length c) (.int .i64 fee) from ⟨f0, f1, z0, z1, hz⟩).below hb4
    clear f0 f1 z0 z1 hz hb3 o2
    obtain ⟨f0, f1, z0, z1, hz⟩ := bx4
    go_wp2_with fail
    have bx5 := (show Bx w4 w.heap.size (.slice A xs.length c) (.int .i64 fee) from ⟨f0, f1, z0, z1, hz⟩).alloc (.cells #[.slice A4 xs.length c4, .int .i64 fee] 54)
    have HB6 : Below w.heap.size w (w4.alloc (.cells #[.slice A4 xs.length c4, .int .i64 fee] 54)) := HB5.alloc HB5.size _
    have by5 := Bx.new w4 (.slice A4 xs.length c4) (.int .i64 fee) 54
    have o5 := o4.alloc (.cells #[.slice A4 xs.length c4, .int .i64 fee] 54)
    have hz54 : w.heap.size ≤ w4.heap.size := HB5.size
    clear f0 f1 z0 z1 hz o4
    generalize w4.alloc (.cells #[.slice A4 xs.length c4, .int .i64 fee] 54) = v5 at *
    generalize w4.heap.size = g5 at *
    refine (implBox_c A4 xs c4 fee _ o5.rd (by omega)).mono ?_
    rintro e w6 ⟨rfl, hb6⟩
    have HB7 := bUp HB6 hb6 HB6.size
    obtain ⟨f0, f1, z0, z1, hz⟩ := bx5.below hb6
    obtain ⟨k0, k1, y0, y1, ky⟩ := by5.below hb6
    have o6 := o5.below hb6
    clear o5 bx5 by5 hb4 hb6
    have ha7 := ha.below HB7 (Nat.le_refl _)
    have SK : Hid (∀ w', Below w6.heap.size w6 w' → w'.cell? ⟨g5, 0, none⟩ = some (.slice A4 xs.length c4) ∧ w'.cell? ⟨g5, 1, none⟩ = some (.int .i64 fee) ∧ w'.cell? ⟨w.heap.size, 0, none⟩ = some (.slice A xs.length c) ∧ w'.cell? ⟨w.heap.size, 1, none⟩ = some (.int .i64 fee)) :=
      Lib.hid fun w' HV => ⟨(HV.cell (p := ⟨g5, 0, none⟩) ky).trans k0, (HV.cell (p := ⟨g5, 1, none⟩) ky).trans k1, (HV.cell (p := ⟨w.heap.size, 0, none⟩) hz).trans f0, (HV.cell (p := ⟨w.heap.size, 1, none⟩) hz).trans f1⟩
    go_upto_region 10 with fail
    clear f0 f1 z0 z1 hz k0 k1 y0 y1 ky
    refine tamed_region (S := fun w' => w'.cell? ⟨g5, 0, none⟩ = some (.slice A4 xs.length c4) ∧ w'.cell? ⟨g5, 1, none⟩ = some (.int .i64 fee) ∧ w'.cell? ⟨w.heap.size, 0, none⟩ = some (.slice A xs.length c) ∧ w'.cell? ⟨w.heap.size, 1, none⟩ = some (.int .i64 fee)) (fun _ => false) (by kernel_rfl) ?_
    have hS0 := SK.out w6.drew (Below.drew (Below.refl _ _))
    refine tame (k := 0) ?_ rfl (by kernel_rfl) (by kernel_rfl) (by kernel_rfl) (by kernel_rfl) (fun _ _ _ h => h) (by rfl) hS0 (fun v hv => ?_) ?_
    rotate_left
    · (obtain ⟨g0, g1, g2, g3⟩ := hv; go_simp; all_goals rfl)
    simp only [Act.put, List.setIfInBounds_toArray]
    refine tame (k := 1) ?_ rfl (by kernel_rfl) (by kernel_rfl) (by kernel_rfl) (by kernel_rfl) (fun _ _ _ h => h) (by rfl) hS0 (fun v hv => ?_) ?_
    rotate_left
    · (obtain ⟨g0, g1, g2, g3⟩ := hv; go_simp; all_goals rfl)
    simp only [Act.put]
    clear hS0
    refine tame_one (k := 2) (by kernel_rfl) rfl (by rfl) ?_
    go_simp
    refine (toBox_c A xs c fee _ ha7.drew (by omega)).mono ?_
    rintro e w8 ⟨A8, c8, rfl, o8, hb8⟩
    have hv8 := bUp (Below.drew (Below.refl w6.heap.size w6)) hb8 (Nat.le_refl _)
    have o68 := (o6.drew).below hb8
    refine ⟨SK.out _ hv8, ?_⟩
    refine tame_one (k := 3) (by kernel_rfl) rfl (by rfl) ?_
    go_simp
    refine (eqBox_same A4 A8 xs c4 c8 fee _ o68.rd o8.rd (by omega)).mono ?_
    rintro e w9 ⟨rfl, hb9⟩
    have hv9 := bUp hv8 hb9 hv8.size
    refine ⟨SK.out _ hv9, ?_⟩
    refine tame_one (k := 4) (by kernel_rfl) rfl (by rfl) ?_
    go_simp
    refine ⟨SK.out _ hv9, ?_⟩
    refine tame_end (by kernel_rfl) ?_
    go_wp2
    go_ret
    exact ⟨rfl, bUp HB7 hv9 HB7.size⟩
end Go.Proofs.Ytjnllbmknblecaa
