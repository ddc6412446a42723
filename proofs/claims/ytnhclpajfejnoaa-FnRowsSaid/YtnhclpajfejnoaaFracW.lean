/- Fractions: the reference's sums, products and comparisons, walked. -/
import Derived.Test.YtnhclpajfejnoaaFracB
import Derived.Test.YtnhclpajfejnoaaFrac
import Derived.StillTailTactics
import Derived.Deep.RegionHeld3
import Derived.Deep.DeepCutAuto
namespace Go.Proofs.Ytnhclpajfejnoaa
open Go.RowKit

theorem l2Less_c (a b c d : Int) (ha : -30000000000 ≤ a) (ha2 : a ≤ 30000000000) (hb : 0 < b) (hb2 : b ≤ 100000000) (hc : -30000000000 ≤ c) (hc2 : c ≤ 30000000000) (hd : 0 < d) (hd2 : d ≤ 100000000) (w : World) :
    Calls Try.prog 140 #[.agg #[.int .i64 a, .int .i64 b], .agg #[.int .i64 c, .int .i64 d]] w (Quietly w (.bool (decide (a * d < c * b)))) := by
  have m1 := mulA_bd ha ha2 (by omega) hd2 (by omega)
  have m2 := mulA_bd hc hc2 (by omega) hb2 (by omega)
  go_enter Try.func140, Try.ntmps140
  go_wp2
  go_ret
  exact ⟨rfl, by with_reducible repeat (first | exact Below.refl _ _ | refine Below.alloc ?_ (by simp) _)⟩
theorem l2Less_is (a b c d : Int) (q : Bool) (h : decide (a * d < c * b) = q) (ha : -30000000000 ≤ a) (ha2 : a ≤ 30000000000) (hb : 0 < b) (hb2 : b ≤ 100000000) (hc : -30000000000 ≤ c) (hc2 : c ≤ 30000000000) (hd : 0 < d) (hd2 : d ≤ 100000000) (w : World) :
    Calls Try.prog 140 #[.agg #[.int .i64 a, .int .i64 b], .agg #[.int .i64 c, .int .i64 d]] w (Quietly w (.bool q)) := by
  rw [← h]
  exact l2Less_c a b c d ha ha2 hb hb2 hc hc2 hd hd2 w

set_option maxRecDepth 20000 in
set_option maxHeartbeats 1000000 in
theorem l2Add_c (a b c d X Y : Int) (ha : -30000000000 ≤ a) (ha2 : a ≤ 30000000000) (hb : 0 < b) (hb2 : b ≤ 30000000) (hc : -30000000000 ≤ c) (hc2 : c ≤ 30000000000) (hd : 0 < d) (hd2 : d ≤ 30000000)
    (hY : 0 < Y) (h : (a * d + c * b) * Y = X * (b * d)) (w : World) :
    Calls Try.prog 141 #[.agg #[.int .i64 a, .int .i64 b], .agg #[.int .i64 c, .int .i64 d]] w (Quietly w (.agg #[.int .i64 (cutT X Y), .int .i64 (cutB X Y)])) := by
  have hk := gI_pos (a := b) (b := d) (by omega)
  have q1 := ediv_bd hd hd2 hk (gI_dvd_right b d)
  have q2 := ediv_bd hb hb2 hk (gI_dvd_left b d)
  have HQ := Lib.hid (And.intro (tdiv_dvd (gI_dvd_right b d)) (tdiv_dvd (gI_dvd_left b d)))
  have HM := Lib.hid (And.intro (Int.ediv_mul_cancel (gI_dvd_right b d)) (Int.ediv_mul_cancel (gI_dvd_left b d)))
  have m1 := mulA_bd ha ha2 (by omega) q1.2 (by omega)
  have m2 := mulA_bd hc hc2 (by omega) q2.2 (by omega)
  have m3 := mul_bd (b / gI b d) d 30000000 30000000 (by omega) (by omega) (by omega) hd2
  have HE : Hid (cutT (a * (d / gI b d) + c * (b / gI b d)) (b / gI b d * d) = cutT X Y ∧ cutB (a * (d / gI b d) + c * (b / gI b d)) (b / gI b d * d) = cutB X Y) := by
    have hM := HM.out
    refine Lib.hid (cut_congr (Int.mul_pos q2.1 hd) hY ?_)
    generalize b / gI b d = y at *
    generalize d / gI b d = x at *
    generalize gI b d = k at *
    have e1 := hM.1
    have e2 := hM.2
    have hk0 : k ≠ 0 := by omega
    have : (a * x + c * y) * Y * k = X * (y * d) * k := by grind
    exact Int.eq_of_mul_eq_mul_right hk0 this
  have HH := Lib.hid h
  clear h
  go_enter Try.func141, Try.ntmps141
  go_wp2_with fail
  refine (l2Gcd_c b d (by omega) (by omega) (by omega) (by omega) _).mono ?_
  rintro e w' ⟨rfl, n, rfl⟩
  have HB0 : Below w.heap.size w ((((w.alloc (.cells #[.int .i64 a, .int .i64 b] 40)).alloc (.cells #[.int .i64 c, .int .i64 d] 40)).alloc (.cells #[.int .i64 0, .int .i64 0] 40)).drewN n) :=
    bDrewN (by with_reducible repeat (first | exact Below.refl _ _ | refine Below.alloc ?_ (by simp <;> omega) _)) _
  obtain ⟨f0, f1, _, _, _⟩ := ((((Bx.new w (.int .i64 a) (.int .i64 b) 40).alloc (.cells #[.int .i64 c, .int .i64 d] 40)).alloc (.cells #[.int .i64 0, .int .i64 0] 40)).drewN n)
  obtain ⟨f2, f3, _, _, _⟩ := (((Bx.new (w.alloc (.cells #[.int .i64 a, .int .i64 b] 40)) (.int .i64 c) (.int .i64 d) 40).alloc (.cells #[.int .i64 0, .int .i64 0] 40)).drewN n)
  obtain ⟨f4, f5, z4, z5, hv⟩ := ((Bx.new ((w.alloc (.cells #[.int .i64 a, .int .i64 b] 40)).alloc (.cells #[.int .i64 c, .int .i64 d] 40)) (.int .i64 0) (.int .i64 0) 40).drewN n)
  generalize (((w.alloc (.cells #[.int .i64 a, .int .i64 b] 40)).alloc (.cells #[.int .i64 c, .int .i64 d] 40)).alloc (.cells #[.int .i64 0, .int .i64 0] 40)).drewN n = v at *
  simp only [World.size_alloc] at f2 f3 f4 f5 z4 z5 hv
  generalize gI b d = k at *
  generalize b / k = y at *
  generalize d / k = x at *
  have t1 := HQ.out.1
  have t2 := HQ.out.2
  have e1 : IntKind.i64.wrap x = x := IntWalk.i64_in _ (by omega)
  have e2 : IntKind.i64.wrap y = y := IntWalk.i64_in _ (by omega)
  have e3 : IntKind.i64.wrap (a * x) = a * x := IntWalk.i64_in _ (by omega)
  have e4 : IntKind.i64.wrap (c * y) = c * y := IntWalk.i64_in _ (by omega)
  have e5 : IntKind.i64.wrap (a * x + c * y) = a * x + c * y := IntWalk.i64_in _ (by omega)
  have e6 : IntKind.i64.wrap (y * d) = y * d := IntWalk.i64_in _ (by omega)
  have k0 : (k == 0) = false := by simp; omega
  have k1 : ¬ k = 0 := by omega
  go_wp2
  go_still_tail 22, (by kernel_rfl)
  change wpList _ _ _ _ _ v.drew
  go_wp2_with fail
  refine (l2Cut_c _ _ (by omega) (by omega) (Int.mul_pos q2.1 hd) (by omega) _).mono ?_
  rintro e w1 ⟨rfl, hb1⟩
  rw [HE.out.1, HE.out.2]
  obtain ⟨z4, z5, z6, z7, hv⟩ := (show Bx v.drew _ _ _ from ⟨f4, f5, z4, z5, hv⟩).below hb1
  have HB1 : Below w.heap.size w w1 := HB0.drew.trans (hb1.mono HB0.size)
  go_wp2
  exact bodyPost_ret (v := .agg #[.int .i64 (cutT X Y), .int .i64 (cutB X Y)]) (by simp [results, Try.results141, go_sem, z4, z5]) rfl ⟨rfl, by with_reducible repeat (first | exact HB1 | refine Below.setCell ?_ (by simp <;> omega) _)⟩

set_option maxRecDepth 20000 in
set_option maxHeartbeats 2000000 in
theorem l2Times_c (a b c d : Int) (h1 : gI a b = 1) (h2 : gI c d = 1) (ha : -30000000000 ≤ a) (ha2 : a ≤ 30000000000) (hb : 0 < b) (hb2 : b ≤ 30000000) (hc : -30000000 ≤ c) (hc2 : c ≤ 30000000) (hd : 0 < d) (hd2 : d ≤ 30000000) (w : World) :
    Calls Try.prog 142 #[.agg #[.int .i64 a, .int .i64 b], .agg #[.int .i64 c, .int .i64 d]] w (Quietly w (.agg #[.int .i64 (cutT (a * c) (b * d)), .int .i64 (cutB (a * c) (b * d))])) := by
  have HE := Lib.hid (times_eq hb hd h1 h2)
  have b1 := cutT_bd (a := a) (b := d) hd ha ha2
  have b2 := cutT_bd (a := c) (b := b) hb hc hc2
  have b3 := cutB_bd (a := a) hd hd2
  have b4 := cutB_bd (a := c) hb hb2
  have m1 : -(30000000000 * 30000000) ≤ cutT a d * cutT c b ∧ cutT a d * cutT c b ≤ 30000000000 * 30000000 := by
    rcases Int.lt_or_le (cutT c b) 0 with h | h
    · have := mulA_bd b1.1 b1.2 (y := -cutT c b) (B := 30000000) (by omega) (by omega) (by omega)
      rw [Int.mul_neg] at this
      omega
    · exact mulA_bd b1.1 b1.2 h (by omega) (by omega)
  have m2 := mul_bd (cutB a d) (cutB c b) 30000000 30000000 (by omega) b3.2 (by omega) b4.2
  have HB0 : Below w.heap.size w (((w.alloc (.cells #[.int .i64 a, .int .i64 b] 40)).alloc (.cells #[.int .i64 c, .int .i64 d] 40)).alloc (.cells #[.int .i64 0, .int .i64 0] 40)) := by with_reducible repeat (first | exact Below.refl _ _ | refine Below.alloc ?_ (by simp <;> omega) _)
  have B0 := (((Bx.new w (.int .i64 a) (.int .i64 b) 40).alloc (.cells #[.int .i64 c, .int .i64 d] 40)).alloc (.cells #[.int .i64 0, .int .i64 0] 40))
  have B1 := ((Bx.new (w.alloc (.cells #[.int .i64 a, .int .i64 b] 40)) (.int .i64 c) (.int .i64 d) 40).alloc (.cells #[.int .i64 0, .int .i64 0] 40))
  have B2 := (Bx.new ((w.alloc (.cells #[.int .i64 a, .int .i64 b] 40)).alloc (.cells #[.int .i64 c, .int .i64 d] 40)) (.int .i64 0) (.int .i64 0) 40)
  simp only [World.size_alloc] at B0 B1 B2
  obtain ⟨f0, f1, y0, y1, hv0⟩ := B0
  obtain ⟨f2, f3, y2, y3, hv1⟩ := B1
  obtain ⟨f4, f5, y4, y5, hv2⟩ := B2
  have HH := Lib.hid (And.intro h1 h2)
  clear h1 h2
  go_enter Try.func142, Try.ntmps142
  go_upto_region 1 with fail
  generalize (((w.alloc (.cells #[.int .i64 a, .int .i64 b] 40)).alloc (.cells #[.int .i64 c, .int .i64 d] 40)).alloc (.cells #[.int .i64 0, .int .i64 0] 40)) = v at *
  have L2 : ∀ n : Nat, n < n + 1 + 1 := fun n => by omega
  have SK : Hid (∀ w', Below v.heap.size v w' → w'.cell? ⟨w.heap.size, 0, none⟩ = some (.int .i64 a) ∧ w'.cell? ⟨w.heap.size, 1, none⟩ = some (.int .i64 b) ∧ w'.cell? ⟨w.heap.size + 1, 0, none⟩ = some (.int .i64 c) ∧ w'.cell? ⟨w.heap.size + 1, 1, none⟩ = some (.int .i64 d)) :=
    Lib.hid fun w' HV => ⟨(HV.cell (p := ⟨w.heap.size, 0, none⟩) hv0).trans f0, (HV.cell (p := ⟨w.heap.size, 1, none⟩) hv0).trans f1, (HV.cell (p := ⟨w.heap.size + 1, 0, none⟩) hv1).trans f2, (HV.cell (p := ⟨w.heap.size + 1, 1, none⟩) hv1).trans f3⟩
  go_cut [5, 6] (fun s5 s6 wx => ∃ g h : Nat, s5 = .pointer (some ⟨g, 0, none⟩) ∧ s6 = .pointer (some ⟨h, 0, none⟩) ∧ wx.cell? ⟨g, 0, none⟩ = some (.int .i64 (cutT a d)) ∧ wx.cell? ⟨g, 1, none⟩ = some (.int .i64 (cutB a d)) ∧
    wx.cell? ⟨h, 0, none⟩ = some (.int .i64 (cutT c b)) ∧ wx.cell? ⟨h, 1, none⟩ = some (.int .i64 (cutB c b)) ∧ Below v.heap.size v wx)
  case first =>
    go_region_held3 (fun w' => w'.cell? ⟨w.heap.size, 0, none⟩ = some (.int .i64 a) ∧ w'.cell? ⟨w.heap.size, 1, none⟩ = some (.int .i64 b) ∧ w'.cell? ⟨w.heap.size + 1, 0, none⟩ = some (.int .i64 c) ∧ w'.cell? ⟨w.heap.size + 1, 1, none⟩ = some (.int .i64 d)) ((refine SK.out _ ?_; with_reducible repeat (first | exact Below.refl _ _ | assumption | refine Below.drew ?_ | refine Below.setCell ?_ (by first | (simp; done) | (simp; omega) | omega) _ | refine Below.alloc ?_ (by first | (simp; done) | (simp; omega) | omega) _)))
      ((go_at_call 105; refine (l2Cut_c _ _ (by omega) (by omega) (by omega) (by omega) _).mono ?_; rintro e w1 ⟨rfl, hb1⟩; have HV : Below v.heap.size v w1 := (by refine Below.trans ?_ (hb1.mono (by first | (simp; done) | (simp; omega) | omega)); with_reducible repeat (first | exact Below.refl _ _ | assumption | refine Below.drew ?_ | refine Below.alloc ?_ (by first | (simp; done) | (simp; omega) | omega) _)); obtain ⟨hc1, hf1⟩ := bcell hb1; have hz1 := HV.size; have hzb := (show _ ≤ _ from hb1.size); (try simp only [World.size_alloc, World.size_drew, Nat.succ_le_iff] at hzb); (try (have hzv : v.heap.size < w1.heap.size := by omega)); (try (have hzv2 : v.heap.size + 1 < w1.heap.size := by omega)); (try (have hzx : v.heap.size < w1.heap.size + 1 := by omega)); (try (have hzn : ¬ v.heap.size = w1.heap.size := by omega)); (try (have hzm : ¬ w1.heap.size = v.heap.size := by omega))))
    all_goals
      go_wp2_with fail
      go_meet
      refine ⟨_, _, rfl, rfl, ?_, ?_, ?_, ?_, ?_⟩
      rotate_left 4
      · with_reducible repeat (first | exact Below.refl _ _ | assumption | refine Below.drew ?_ | refine Below.setCell ?_ (by first | (simp; done) | (simp; omega) | omega) _ | refine Below.alloc ?_ (by first | (simp; done) | (simp; omega) | omega) _)
      all_goals (first | (simp [*]; done) | (simp [go_sem, *]; done) | skip)
  case rest =>
    obtain ⟨g, h, rfl, rfl, h0, h1, h2, h3, HV⟩ := hcut
    obtain ⟨z4, z5, z6, z7, hv⟩ := (show Bx v _ _ _ from ⟨f4, f5, y4, y5, hv2⟩).below HV
    clear b1 b2 L2 SK
    go_wp2
    exact bodyPost_ret (v := .agg #[.int .i64 (cutT (a * c) (b * d)), .int .i64 (cutB (a * c) (b * d))]) (by rw [← HE.out.1, ← HE.out.2]; simp [results, Try.results142, go_sem, z4, z5]) rfl ⟨rfl, by with_reducible repeat (first | exact HB0.trans (HV.mono HB0.size) | refine Below.setCell ?_ (by simp <;> omega) _)⟩
end Go.Proofs.Ytnhclpajfejnoaa
