/- Fractions compared: the program's walk (PrF's first part, for seats without markets). -/
import Derived.Test.YtfobjkdkjlbkfaaPrL
import Derived.Test.YtfobjkdkjlbkfaaButA
import Derived.Test.YtfobjkdkjlbkfaaMk
import Derived.Test.YtfobjkdkjlbkfaaTrB
namespace Go.Proofs.Ytfobjkdkjlbkfaa
open Go.RowKit

theorem mulAbs2 {x y A B : Int} (hx : -A ≤ x ∧ x ≤ A) (hy : -B ≤ y ∧ y ≤ B) (hA : 0 ≤ A) (_hB : 0 ≤ B) : -(A * B) ≤ x * y ∧ x * y ≤ A * B := by
  rcases Int.lt_or_le y 0 with h | h
  · have := mulA_bd (x := x) (y := -y) hx.1 hx.2 (by omega) (show -y ≤ B by omega) hA
    rw [Int.mul_neg] at this
    omega
  · exact mulA_bd hx.1 hx.2 h hy.2 hA
def cmpI (f g : Int × Int) : Int := if f.1 * g.2 < g.1 * f.2 then -1 else if g.1 * f.2 < f.1 * g.2 then 1 else 0
theorem cmp_up {f g : Int × Int} : (cmpI f g > 0) = (betP true f g = true) := by
  unfold cmpI betP lessP
  apply propext
  simp only [if_true, decide_eq_true_eq]
  split
  · omega
  · split <;> omega
theorem cmp_low {f g : Int × Int} : (cmpI f g < 0) = (betP false f g = true) := by
  unfold cmpI betP lessP
  apply propext
  simp only [Bool.false_eq_true, if_false, decide_eq_true_eq]
  split
  · omega
  · split <;> omega
set_option maxRecDepth 20000 in
set_option maxHeartbeats 1000000 in
theorem compared_c (a b c d : Int) (ha : -1000000000 ≤ a ∧ a ≤ 1000000000) (hb : 0 ≤ b ∧ b ≤ 1000000) (hc : -1000000000 ≤ c ∧ c ≤ 1000000000) (hd : 0 ≤ d ∧ d ≤ 1000000) (w : World) :
    Calls Try.prog 65 #[.agg #[.int .i64 a, .int .i64 b], .agg #[.int .i64 c, .int .i64 d]] w (Quietly w (.int .i64 (cmpI (a, b) (c, d)))) := by
  have m1 := mulAbs2 (x := a) (y := d) (A := 1000000000) (B := 1000000) ha (by omega) (by decide) (by decide)
  have m2 := mulAbs2 (x := c) (y := b) (A := 1000000000) (B := 1000000) hc (by omega) (by decide) (by decide)
  have e1 : IntKind.i64.wrap (a * d) = a * d := IntWalk.i64_in _ (by omega)
  have e2 : IntKind.i64.wrap (c * b) = c * b := IntWalk.i64_in _ (by omega)
  have HB1 : Below w.heap.size w ((w.alloc (.cells #[.int .i64 a, .int .i64 b] 31)).alloc (.cells #[.int .i64 c, .int .i64 d] 31)) := by
    with_reducible repeat (first | exact Below.refl _ _ | refine Below.alloc ?_ (by simp <;> omega) _)
  have bf := (Bx.new w (.int .i64 a) (.int .i64 b) 31).alloc (.cells #[.int .i64 c, .int .i64 d] 31)
  have bg := Bx.new (w.alloc (.cells #[.int .i64 a, .int .i64 b] 31)) (.int .i64 c) (.int .i64 d) 31
  have HC : Hid (cmpI (a, b) (c, d) = if a * d < c * b then -1 else if c * b < a * d then 1 else 0) := Lib.hid rfl
  go_enter Try.func65, Try.ntmps65
  go_upto_region 1 with fail
  generalize (w.alloc (.cells #[.int .i64 a, .int .i64 b] 31)).alloc (.cells #[.int .i64 c, .int .i64 d] 31) = v at *
  simp only [World.size_alloc] at bf bg
  have HS : Hid ((v.drew.cell? ⟨w.heap.size, 0, none⟩ = some (.int .i64 a) ∧ v.drew.cell? ⟨w.heap.size, 1, none⟩ = some (.int .i64 b)) ∧ v.drew.cell? ⟨w.heap.size + 1, 0, none⟩ = some (.int .i64 c) ∧ v.drew.cell? ⟨w.heap.size + 1, 1, none⟩ = some (.int .i64 d)) := Lib.hid ⟨⟨bf.1, bf.2.1⟩, bg.1, bg.2.1⟩
  have hS0 := HS.out
  clear bf bg
  refine tamed_region (S := fun w' => (w'.cell? ⟨w.heap.size, 0, none⟩ = some (.int .i64 a) ∧ w'.cell? ⟨w.heap.size, 1, none⟩ = some (.int .i64 b)) ∧ w'.cell? ⟨w.heap.size + 1, 0, none⟩ = some (.int .i64 c) ∧ w'.cell? ⟨w.heap.size + 1, 1, none⟩ = some (.int .i64 d)) (fun _ => false) (by kernel_rfl) ?_
  refine tame0 (k := 0) ?_ rfl (by kernel_rfl) (by kernel_rfl) (by kernel_rfl) (fun _ _ _ h => h) (by kernel_rfl) (fun v => ?_) ?_
  rotate_left
  · (go_simp; all_goals rfl)
  simp only [Act.put, List.setIfInBounds_toArray]
  refine tame (k := 1) ?_ rfl (by kernel_rfl) (by kernel_rfl) (by kernel_rfl) (by kernel_rfl) (fun _ _ _ h => h) (by kernel_rfl) hS0 (fun v hv => ?_) ?_
  rotate_left
  · (obtain ⟨⟨k1, k2⟩, k3, k4⟩ := hv; go_simp; all_goals rfl)
  simp only [Act.put]
  refine tame0 (k := 2) ?_ rfl (by kernel_rfl) (by kernel_rfl) (by kernel_rfl) (fun _ _ _ h => h) (by kernel_rfl) (fun v => ?_) ?_
  rotate_left
  · (go_simp; all_goals rfl)
  simp only [Act.put]
  refine tame (k := 3) ?_ rfl (by kernel_rfl) (by kernel_rfl) (by kernel_rfl) (by kernel_rfl) (fun _ _ _ h => h) (by kernel_rfl) hS0 (fun v hv => ?_) ?_
  rotate_left
  · (obtain ⟨⟨k1, k2⟩, k3, k4⟩ := hv; go_simp; all_goals rfl)
  simp only [Act.put]
  refine tame0 (k := 4) ?_ rfl (by kernel_rfl) (by kernel_rfl) (by kernel_rfl) (fun _ _ _ h => h) (by kernel_rfl) (fun v => ?_) ?_
  rotate_left
  · (go_simp; all_goals rfl)
  simp only [Act.put]
  refine tame0 (k := 5) ?_ rfl (by kernel_rfl) (by kernel_rfl) (by kernel_rfl) (fun _ _ _ h => h) (by kernel_rfl) (fun v => ?_) ?_
  rotate_left
  · (go_simp; all_goals rfl)
  simp only [Act.put]
  refine tame (k := 6) ?_ rfl (by kernel_rfl) (by kernel_rfl) (by kernel_rfl) (by kernel_rfl) (fun _ _ _ h => h) (by kernel_rfl) hS0 (fun v hv => ?_) ?_
  rotate_left
  · (obtain ⟨⟨k1, k2⟩, k3, k4⟩ := hv; go_simp; all_goals rfl)
  simp only [Act.put]
  refine tame0 (k := 7) ?_ rfl (by kernel_rfl) (by kernel_rfl) (by kernel_rfl) (fun _ _ _ h => h) (by kernel_rfl) (fun v => ?_) ?_
  rotate_left
  · (go_simp; all_goals rfl)
  simp only [Act.put]
  refine tame (k := 8) ?_ rfl (by kernel_rfl) (by kernel_rfl) (by kernel_rfl) (by kernel_rfl) (fun _ _ _ h => h) (by kernel_rfl) hS0 (fun v hv => ?_) ?_
  rotate_left
  · (obtain ⟨⟨k1, k2⟩, k3, k4⟩ := hv; go_simp; all_goals rfl)
  simp only [Act.put]
  refine tame0 (k := 9) ?_ rfl (by kernel_rfl) (by kernel_rfl) (by kernel_rfl) (fun _ _ _ h => h) (by kernel_rfl) (fun v => ?_) ?_
  rotate_left
  · (go_simp; all_goals rfl)
  simp only [Act.put]
  clear hS0
  refine tame_one (k := 10) (by kernel_rfl) rfl (by kernel_rfl) ?_
  go_simp
  refine ⟨by first | exact HS.out, ?_⟩
  refine tame_one (k := 11) (by kernel_rfl) rfl (by kernel_rfl) ?_
  go_simp
  refine ⟨by first | exact HS.out, ?_⟩
  refine tame_end (by kernel_rfl) ?_
  clear HS
  have HB2 := HB1.drew
  by_cases h1 : a * d < c * b
  · have HC1 : Hid (cmpI (a, b) (c, d) = -1) := Lib.hid (by rw [HC.out, if_pos h1])
    go_wp2_with fail
    go_ret
    exact ⟨by rw [HC1.out] <;> rfl, HB2⟩
  · by_cases h2 : c * b < a * d
    · have HC1 : Hid (cmpI (a, b) (c, d) = 1) := Lib.hid (by rw [HC.out, if_neg h1, if_pos h2])
      go_wp2_with fail
      go_ret
      exact ⟨by rw [HC1.out] <;> rfl, HB2⟩
    · have HC1 : Hid (cmpI (a, b) (c, d) = 0) := Lib.hid (by rw [HC.out, if_neg h1, if_neg h2])
      go_wp2_with fail
      go_ret
      exact ⟨by rw [HC1.out] <;> rfl, HB2⟩
end Go.Proofs.Ytfobjkdkjlbkfaa
