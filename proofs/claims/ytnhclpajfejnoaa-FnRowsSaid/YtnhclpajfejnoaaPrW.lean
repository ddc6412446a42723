/- Prices between two children's, and which one is wanted more: the reference's walk. (Written by gen_prw.py.) -/
import Derived.Test.YtnhclpajfejnoaaPrL
import Derived.Test.YtnhclpajfejnoaaFracW
import Derived.Test.YtnhclpajfejnoaaButA
namespace Go.Proofs.Ytnhclpajfejnoaa
open Go.RowKit

theorem cut_small {n d : Int} (h0 : 0 ≤ n) (h1 : n ≤ 20) (hd : 0 < d) (hd2 : d ≤ 20) : (-20 ≤ cutT n d ∧ cutT n d ≤ 20) ∧ 0 < cutB n d ∧ cutB n d ≤ 20 :=
  ⟨cutT_bd hd (M := 20) (by omega) h1, cutB_bd hd hd2⟩
theorem mulAbs2 {x y A B : Int} (hx : -A ≤ x ∧ x ≤ A) (hy : -B ≤ y ∧ y ≤ B) (hA : 0 ≤ A) (_hB : 0 ≤ B) : -(A * B) ≤ x * y ∧ x * y ≤ A * B := by
  rcases Int.lt_or_le y 0 with h | h
  · have := mulA_bd (x := x) (y := -y) hx.1 hx.2 (by omega) (show -y ≤ B by omega) hA
    rw [Int.mul_neg] at this
    omega
  · exact mulA_bd hx.1 hx.2 h hy.2 hA
set_option maxRecDepth 20000 in
set_option maxHeartbeats 2000000 in
theorem l6Between_c (p a b f1 f2 g1 g2 X Y : Int) (ha : 0 ≤ a) (hap : a < p) (hpb : p < b) (hb : b ≤ 20) (hf : frP (f1, f2) = true) (hg : frP (g1, g2) = true) (hX : X = f1 * (b - p) * g2 + g1 * (p - a) * f2) (hY : Y = (b - a) * f2 * g2) (w : World) :
    Calls Try.prog 139 #[.int .i64 p, .int .i64 a, .int .i64 b, .agg #[.int .i64 f1, .int .i64 f2], .agg #[.int .i64 g1, .int .i64 g2]] w (Quietly w (.agg #[.int .i64 (cutT X Y), .int .i64 (cutB X Y)])) := by
  have HX := Lib.hid hX
  have HY := Lib.hid hY
  clear hX hY
  obtain ⟨⟨F1, F2⟩, ⟨F3, F4⟩, F5⟩ := frP_iff.1 hf
  obtain ⟨⟨G1, G2⟩, ⟨G3, G4⟩, G5⟩ := frP_iff.1 hg
  simp only at F1 F2 F3 F4 F5 G1 G2 G3 G4 G5
  have hY0 : 0 < Y := by rw [HY.out]; exact Int.mul_pos (Int.mul_pos (by omega) (by omega)) (by omega)
  have U := cut_small (n := b - p) (d := b - a) (by omega) (by omega) (by omega) (by omega)
  have V := cut_small (n := p - a) (d := b - a) (by omega) (by omega) (by omega) (by omega)
  have HU := Lib.hid (gI_cut (a := b - p) (b := b - a) (by omega))
  have HV := Lib.hid (gI_cut (a := p - a) (b := b - a) (by omega))
  have HU2 := Lib.hid (cut_cross (b - p) (b - a))
  have HV2 := Lib.hid (cut_cross (p - a) (b - a))
  have e1 : IntKind.i64.wrap (b - p) = b - p := IntWalk.i64_in _ (by omega)
  have e2 : IntKind.i64.wrap (b - a) = b - a := IntWalk.i64_in _ (by omega)
  have e3 : IntKind.i64.wrap (p - a) = p - a := IntWalk.i64_in _ (by omega)
  have HB1 : Below w.heap.size w (((w.alloc (.cells #[.int .i64 f1, .int .i64 f2] 40)).alloc (.cells #[.int .i64 g1, .int .i64 g2] 40)).alloc (.cells #[.int .i64 0, .int .i64 0] 40)) := by
    with_reducible repeat (first | exact Below.refl _ _ | refine Below.alloc ?_ (by simp <;> omega) _)
  have bf := ((Bx.new w (.int .i64 f1) (.int .i64 f2) 40).alloc (.cells #[.int .i64 g1, .int .i64 g2] 40)).alloc (.cells #[.int .i64 0, .int .i64 0] 40)
  have bg := (Bx.new (w.alloc (.cells #[.int .i64 f1, .int .i64 f2] 40)) (.int .i64 g1) (.int .i64 g2) 40).alloc (.cells #[.int .i64 0, .int .i64 0] 40)
  have bo := Bx.new ((w.alloc (.cells #[.int .i64 f1, .int .i64 f2] 40)).alloc (.cells #[.int .i64 g1, .int .i64 g2] 40)) (.int .i64 0) (.int .i64 0) 40
  go_enter Try.func139, Try.ntmps139
  go_upto_region 1 with fail
  generalize ((w.alloc (.cells #[.int .i64 f1, .int .i64 f2] 40)).alloc (.cells #[.int .i64 g1, .int .i64 g2] 40)).alloc (.cells #[.int .i64 0, .int .i64 0] 40) = v at *
  simp only [World.size_alloc] at bf bg bo
  obtain ⟨f0, f1', _, _, fz⟩ := id bf
  obtain ⟨g0, g1', _, _, gz⟩ := id bg
  have hd : Below v.heap.size v v.drew := Below.drew (Below.refl _ _)
  have SK : Hid (∀ w', Below v.heap.size v w' → (w'.cell? ⟨w.heap.size, 0, none⟩ = some (.int .i64 f1) ∧ w'.cell? ⟨w.heap.size, 1, none⟩ = some (.int .i64 f2)) ∧ w'.cell? ⟨w.heap.size + 1, 0, none⟩ = some (.int .i64 g1) ∧ w'.cell? ⟨w.heap.size + 1, 1, none⟩ = some (.int .i64 g2)) :=
    Lib.hid fun w' HV => ⟨⟨(HV.cell (p := ⟨w.heap.size, 0, none⟩) fz).trans f0, (HV.cell (p := ⟨w.heap.size, 1, none⟩) fz).trans f1'⟩, (HV.cell (p := ⟨w.heap.size + 1, 0, none⟩) gz).trans g0, (HV.cell (p := ⟨w.heap.size + 1, 1, none⟩) gz).trans g1'⟩
  clear f0 f1' g0 g1'
  have hS0 := SK.out v.drew hd
  refine tamed_region (S := fun w' => (w'.cell? ⟨w.heap.size, 0, none⟩ = some (.int .i64 f1) ∧ w'.cell? ⟨w.heap.size, 1, none⟩ = some (.int .i64 f2)) ∧ w'.cell? ⟨w.heap.size + 1, 0, none⟩ = some (.int .i64 g1) ∧ w'.cell? ⟨w.heap.size + 1, 1, none⟩ = some (.int .i64 g2)) (fun j => j == 19) (by kernel_rfl) ?_
  refine tame (k := 0) ?_ rfl (by kernel_rfl) (by kernel_rfl) (by kernel_rfl) (by kernel_rfl) (fun _ _ _ h => h) (by kernel_rfl) hS0 (fun v hv => ?_) ?_
  rotate_left
  · (obtain ⟨⟨k1, k2⟩, k3, k4⟩ := hv; go_simp; all_goals rfl)
  simp only [Act.put, List.setIfInBounds_toArray]
  refine tame0 (k := 1) ?_ rfl (by kernel_rfl) (by kernel_rfl) (by kernel_rfl) (fun _ _ _ h => h) (by kernel_rfl) (fun v => ?_) ?_
  rotate_left
  · (go_simp; all_goals rfl)
  simp only [Act.put]
  refine tame0 (k := 2) ?_ rfl (by kernel_rfl) (by kernel_rfl) (by kernel_rfl) (fun _ _ _ h => h) (by kernel_rfl) (fun v => ?_) ?_
  rotate_left
  · (go_simp; all_goals rfl)
  simp only [Act.put]
  refine tame0 (k := 3) ?_ rfl (by kernel_rfl) (by kernel_rfl) (by kernel_rfl) (fun _ _ _ h => h) (by kernel_rfl) (fun v => ?_) ?_
  rotate_left
  · (go_simp; all_goals rfl)
  simp only [Act.put]
  refine tame0 (k := 4) ?_ rfl (by kernel_rfl) (by kernel_rfl) (by kernel_rfl) (fun _ _ _ h => h) (by kernel_rfl) (fun v => ?_) ?_
  rotate_left
  · (go_simp; all_goals rfl)
  simp only [Act.put]
  refine tame0 (k := 5) ?_ rfl (by kernel_rfl) (by kernel_rfl) (by kernel_rfl) (fun _ _ _ h => h) (by kernel_rfl) (fun v => ?_) ?_
  rotate_left
  · (go_simp; all_goals rfl)
  simp only [Act.put]
  refine tame0 (k := 6) ?_ rfl (by kernel_rfl) (by kernel_rfl) (by kernel_rfl) (fun _ _ _ h => h) (by kernel_rfl) (fun v => ?_) ?_
  rotate_left
  · (go_simp; all_goals rfl)
  simp only [Act.put]
  refine tame (k := 9) ?_ rfl (by kernel_rfl) (by kernel_rfl) (by kernel_rfl) (by kernel_rfl) (fun _ _ _ h => h) (by kernel_rfl) hS0 (fun v hv => ?_) ?_
  rotate_left
  · (obtain ⟨⟨k1, k2⟩, k3, k4⟩ := hv; go_simp; all_goals rfl)
  simp only [Act.put]
  refine tame0 (k := 10) ?_ rfl (by kernel_rfl) (by kernel_rfl) (by kernel_rfl) (fun _ _ _ h => h) (by kernel_rfl) (fun v => ?_) ?_
  rotate_left
  · (go_simp; all_goals rfl)
  simp only [Act.put]
  refine tame0 (k := 11) ?_ rfl (by kernel_rfl) (by kernel_rfl) (by kernel_rfl) (fun _ _ _ h => h) (by kernel_rfl) (fun v => ?_) ?_
  rotate_left
  · (go_simp; all_goals rfl)
  simp only [Act.put]
  refine tame0 (k := 12) ?_ rfl (by kernel_rfl) (by kernel_rfl) (by kernel_rfl) (fun _ _ _ h => h) (by kernel_rfl) (fun v => ?_) ?_
  rotate_left
  · (go_simp; all_goals rfl)
  simp only [Act.put]
  refine tame0 (k := 13) ?_ rfl (by kernel_rfl) (by kernel_rfl) (by kernel_rfl) (fun _ _ _ h => h) (by kernel_rfl) (fun v => ?_) ?_
  rotate_left
  · (go_simp; all_goals rfl)
  simp only [Act.put]
  refine tame0 (k := 14) ?_ rfl (by kernel_rfl) (by kernel_rfl) (by kernel_rfl) (fun _ _ _ h => h) (by kernel_rfl) (fun v => ?_) ?_
  rotate_left
  · (go_simp; all_goals rfl)
  simp only [Act.put]
  refine tame0 (k := 15) ?_ rfl (by kernel_rfl) (by kernel_rfl) (by kernel_rfl) (fun _ _ _ h => h) (by kernel_rfl) (fun v => ?_) ?_
  rotate_left
  · (go_simp; all_goals rfl)
  simp only [Act.put]
  clear hS0
  refine tame_one (k := 7) (by kernel_rfl) rfl (by kernel_rfl) ?_
  go_simp
  refine (l2Cut_c (b - p) (b - a) (by omega) (by omega) (by omega) (by omega) _).mono ?_
  rintro e w1 ⟨rfl, b1⟩
  have H1 := bUp hd b1 hd.size
  refine ⟨by first | exact SK.out _ H1 | exact fun _ => SK.out _ H1, ?_⟩
  generalize cutT (b - p) (b - a) = u1 at *
  generalize cutB (b - p) (b - a) = u2 at *
  have M1 := mulA_bd (x := f1) (y := f2) (A := 1000000000) (B := 1000000) F1 F2 (by omega) (by omega) (by omega)
  have B1 := cutT_bd (a := f1 * u1) (b := f2 * u2) (Int.mul_pos (by omega) U.2.1) (M := 20000000000) (by have := mulAbs2 (A := 1000000000) (B := 20) ⟨F1, F2⟩ U.1 (by decide) (by decide); omega) (by have := mulAbs2 (A := 1000000000) (B := 20) ⟨F1, F2⟩ U.1 (by decide) (by decide); omega)
  have B2 := cutB_bd (a := f1 * u1) (b := f2 * u2) (M := 20000000) (Int.mul_pos (by omega) U.2.1) (by have := mul_bd f2 u2 1000000 20 (by omega) (by omega) (by omega) (by omega); omega)
  have X1 := Lib.hid (cut_cross (f1 * u1) (f2 * u2))
  refine tame_one (k := 8) (by kernel_rfl) rfl (by kernel_rfl) ?_
  go_simp
  refine (l2Times_c f1 f2 u1 u2 F5 HU.out (by omega) (by omega) (by omega) (by omega) (by omega) (by omega) U.2.1 (by omega) _).mono ?_
  rintro e w2 ⟨rfl, b2⟩
  have H2 := bUp H1 b2 H1.size
  refine ⟨by first | exact SK.out _ H2 | exact fun _ => SK.out _ H2, ?_⟩
  generalize cutT (f1 * u1) (f2 * u2) = s1 at *
  generalize cutB (f1 * u1) (f2 * u2) = s2 at *
  refine tame_one (k := 16) (by kernel_rfl) rfl (by kernel_rfl) ?_
  go_simp
  refine (l2Cut_c (p - a) (b - a) (by omega) (by omega) (by omega) (by omega) _).mono ?_
  rintro e w3 ⟨rfl, b3⟩
  have H3 := bUp H2 b3 H2.size
  refine ⟨by first | exact SK.out _ H3 | exact fun _ => SK.out _ H3, ?_⟩
  generalize cutT (p - a) (b - a) = v1 at *
  generalize cutB (p - a) (b - a) = v2 at *
  have B3 := cutT_bd (a := g1 * v1) (b := g2 * v2) (Int.mul_pos (by omega) V.2.1) (M := 20000000000) (by have := mulAbs2 (A := 1000000000) (B := 20) ⟨G1, G2⟩ V.1 (by decide) (by decide); omega) (by have := mulAbs2 (A := 1000000000) (B := 20) ⟨G1, G2⟩ V.1 (by decide) (by decide); omega)
  have B4 := cutB_bd (a := g1 * v1) (b := g2 * v2) (M := 20000000) (Int.mul_pos (by omega) V.2.1) (by have := mul_bd g2 v2 1000000 20 (by omega) (by omega) (by omega) (by omega); omega)
  have X2 := Lib.hid (cut_cross (g1 * v1) (g2 * v2))
  refine tame_one (k := 17) (by kernel_rfl) rfl (by kernel_rfl) ?_
  go_simp
  refine (l2Times_c g1 g2 v1 v2 G5 HV.out (by omega) (by omega) (by omega) (by omega) (by omega) (by omega) V.2.1 (by omega) _).mono ?_
  rintro e w4 ⟨rfl, b4⟩
  have H4 := bUp H3 b4 H3.size
  refine ⟨by first | exact SK.out _ H4 | exact fun _ => SK.out _ H4, ?_⟩
  generalize cutT (g1 * v1) (g2 * v2) = t1 at *
  generalize cutB (g1 * v1) (g2 * v2) = t2 at *
  have HE : (s1 * t2 + t1 * s2) * Y = X * (s2 * t2) := by
    rw [HX.out, HY.out]
    exact btw_sum U.2.1 V.2.1 HU2.out HV2.out X1.out X2.out
  refine tame_one (k := 18) (by kernel_rfl) rfl (by kernel_rfl) ?_
  go_simp
  refine (l2Add_c s1 s2 t1 t2 X Y (by omega) (by omega) B2.1 (by omega) (by omega) (by omega) B4.1 (by omega) hY0 HE _).mono ?_
  rintro e w5 ⟨rfl, b5⟩
  have H5 := bUp H4 b5 H4.size
  refine ⟨by first | exact SK.out _ H5 | exact fun _ => SK.out _ H5, ?_⟩
  obtain ⟨o0, o1, oz0, oz1, oz⟩ := bo.below H5
  have HB5 := HB1.trans (H5.mono HB1.size)
  refine tame_one (k := 19) (by kernel_rfl) rfl (by kernel_rfl) ?_
  go_simp
  refine tame_end (by kernel_rfl) ?_
  go_wp2_with fail
  exact bodyPost_ret (v := .agg #[.int .i64 (cutT X Y), .int .i64 (cutB X Y)]) (by simp [results, Try.results139, go_sem, o0, o1]) rfl ⟨rfl, by with_reducible repeat (first | exact HB5 | refine Below.setCell ?_ (by simp <;> omega) _)⟩

theorem bet_less {up : Bool} {f1 f2 g1 g2 : Int} : betP up (f1, f2) (g1, g2) = if up then decide (g1 * f2 < f1 * g2) else decide (f1 * g2 < g1 * f2) := by cases up <;> rfl
theorem l6Better_is (f1 f2 g1 g2 : Int) (up q : Bool) (hq : betP up (f1, f2) (g1, g2) = q) (hf : frP (f1, f2) = true) (hg : frP (g1, g2) = true) (w : World) :
    Calls Try.prog 129 #[.agg #[.int .i64 f1, .int .i64 f2], .agg #[.int .i64 g1, .int .i64 g2], .bool up] w (Quietly w (.bool q)) := by
  obtain ⟨⟨F1, F2⟩, ⟨F3, F4⟩, F5⟩ := frP_iff.1 hf
  obtain ⟨⟨G1, G2⟩, ⟨G3, G4⟩, G5⟩ := frP_iff.1 hg
  simp only at F1 F2 F3 F4 F5 G1 G2 G3 G4 G5
  have HB1 : Below w.heap.size w ((w.alloc (.cells #[.int .i64 f1, .int .i64 f2] 40)).alloc (.cells #[.int .i64 g1, .int .i64 g2] 40)) := by
    with_reducible repeat (first | exact Below.refl _ _ | refine Below.alloc ?_ (by simp <;> omega) _)
  rw [bet_less] at hq
  cases up
  · simp only [Bool.false_eq_true, if_false] at hq
    go_enter Try.func129, Try.ntmps129
    go_wp2_with fail
    refine (l2Less_is f1 f2 g1 g2 q hq (by omega) (by omega) (by omega) (by omega) (by omega) (by omega) (by omega) (by omega) _).mono ?_
    rintro e w2 ⟨rfl, b2⟩
    go_wp2
    go_ret
    exact ⟨rfl, bUp HB1 b2 HB1.size⟩
  · simp only [if_true] at hq
    go_enter Try.func129, Try.ntmps129
    go_wp2_with fail
    refine (l2Less_is g1 g2 f1 f2 q hq (by omega) (by omega) (by omega) (by omega) (by omega) (by omega) (by omega) (by omega) _).mono ?_
    rintro e w2 ⟨rfl, b2⟩
    go_wp2
    go_ret
    exact ⟨rfl, bUp HB1 b2 HB1.size⟩
end Go.Proofs.Ytnhclpajfejnoaa
