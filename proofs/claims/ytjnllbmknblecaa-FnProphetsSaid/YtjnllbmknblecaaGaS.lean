/- The greatest means of a gambler: the reference's walk. -/
import Derived.Test.YtjnllbmknblecaaGaL
import Derived.Test.YtjnllbmknblecaaBestA
import Derived.Test.YtjnllbmknblecaaBxM
import Derived.Test.YtjnllbmknblecaaButA
import Derived.Test.YtjnllbmknblecaaPairsW
namespace Go.Proofs.Ytjnllbmknblecaa
open Go.RowKit

/-- The greater one of v and T / B, as a pair. -/
def grT (v z0 z1 : Int) : Int := if v * z1 < z0 * 1 then z0 else v
def grB (v z0 z1 : Int) : Int := if v * z1 < z0 * 1 then z1 else 1
set_option maxRecDepth 20000 in
theorem l7Greater_c (v z0 z1 : Int) (hv : 0 ≤ v) (hv2 : v ≤ 4) (h0 : 0 ≤ z0) (h02 : z0 ≤ 1562500) (h1 : 0 < z1) (h12 : z1 ≤ 390625) (w : World) :
    Calls Try.prog 107 #[.agg #[.int .i64 v, .int .i64 1], .agg #[.int .i64 z0, .int .i64 z1]] w (Quietly w (.agg #[.int .i64 (grT v z0 z1), .int .i64 (grB v z0 z1)])) := by
  have HB0 : Below w.heap.size w (((w.alloc (.cells #[.int .i64 v, .int .i64 1] 26)).alloc (.cells #[.int .i64 z0, .int .i64 z1] 26)).alloc (.cells #[.int .i64 0, .int .i64 0] 26)) := by
    with_reducible repeat (first | exact Below.refl _ _ | refine Below.alloc ?_ (by simp <;> omega) _)
  have B0 := ((Bx.new w (.int .i64 v) (.int .i64 1) 26).alloc (.cells #[.int .i64 z0, .int .i64 z1] 26)).alloc (.cells #[.int .i64 0, .int .i64 0] 26)
  have B1 := (Bx.new (w.alloc (.cells #[.int .i64 v, .int .i64 1] 26)) (.int .i64 z0) (.int .i64 z1) 26).alloc (.cells #[.int .i64 0, .int .i64 0] 26)
  have B2 := Bx.new ((w.alloc (.cells #[.int .i64 v, .int .i64 1] 26)).alloc (.cells #[.int .i64 z0, .int .i64 z1] 26)) (.int .i64 0) (.int .i64 0) 26
  simp only [World.size_alloc] at B1 B2
  go_enter Try.func107, Try.ntmps107
  go_upto_region 1 with fail
  generalize ((w.alloc (.cells #[.int .i64 v, .int .i64 1] 26)).alloc (.cells #[.int .i64 z0, .int .i64 z1] 26)).alloc (.cells #[.int .i64 0, .int .i64 0] 26) = x at *
  have C0 := B0
  have C1 := B1
  have C2 := B2
  obtain ⟨f0, f1, _, _, _⟩ := B0
  obtain ⟨f2, f3, _, _, _⟩ := B1
  by_cases hc : v * z1 < z0 * 1
  · have HV : Hid (grT v z0 z1 = z0 ∧ grB v z0 z1 = z1) := Lib.hid (by unfold grT grB; rw [if_pos hc, if_pos hc]; exact ⟨rfl, rfl⟩)
    have CL := Lib.hid (fun w => l2Less_is v 1 z0 z1 true (decide_eq_true hc) (by omega) (by omega) (by omega) (by omega) (by omega) (by omega) (by omega) (by omega) w)
    clear hc
    go_wp2_with fail
    refine (CL.out _).mono ?_
    rintro e w2 ⟨rfl, hb2⟩
    clear f0 f1 f2 f3
    obtain ⟨f0, f1, _, _, _⟩ := C0.below hb2
    obtain ⟨f2, f3, _, _, _⟩ := C1.below hb2
    obtain ⟨f4, f5, y4, y5, _⟩ := C2.below hb2
    have HB2 := bUp HB0 hb2 HB0.size
    go_wp2
    exact bodyPost_ret (v := .agg #[.int .i64 z0, .int .i64 z1]) (by simp [results, Try.results107, go_sem, f4, f5]) rfl ⟨by rw [HV.out.1, HV.out.2], by with_reducible repeat (first | exact HB2 | refine Below.setCell ?_ (by simp <;> omega) _)⟩
  · have HV : Hid (grT v z0 z1 = v ∧ grB v z0 z1 = 1) := Lib.hid (by unfold grT grB; rw [if_neg hc, if_neg hc]; exact ⟨rfl, rfl⟩)
    have CL := Lib.hid (fun w => l2Less_is v 1 z0 z1 false (decide_eq_false hc) (by omega) (by omega) (by omega) (by omega) (by omega) (by omega) (by omega) (by omega) w)
    clear hc
    go_wp2_with fail
    refine (CL.out _).mono ?_
    rintro e w2 ⟨rfl, hb2⟩
    clear f0 f1 f2 f3
    obtain ⟨f0, f1, _, _, _⟩ := C0.below hb2
    obtain ⟨f2, f3, _, _, _⟩ := C1.below hb2
    obtain ⟨f4, f5, y4, y5, _⟩ := C2.below hb2
    have HB2 := bUp HB0 hb2 HB0.size
    go_wp2
    exact bodyPost_ret (v := .agg #[.int .i64 v, .int .i64 1]) (by simp [results, Try.results107, go_sem, f4, f5]) rfl ⟨by rw [HV.out.1, HV.out.2], by with_reducible repeat (first | exact HB2 | refine Below.setCell ?_ (by simp <;> omega) _)⟩
/-- The greater one is a pair in lowest terms, worth what the maximum is worth. -/
theorem gr_eq {v T B z0 z1 : Int} (hB : 0 < B) (hz : 0 < z1) (h : z0 * B = T * z1) (hg : gI z0 z1 = 1) : gI (grT v z0 z1) (grB v z0 z1) = 1 ∧ grT v z0 z1 * B = mxI (v * B) T * grB v z0 z1 ∧ (grT v z0 z1 = z0 ∧ grB v z0 z1 = z1 ∨ grT v z0 z1 = v ∧ grB v z0 z1 = 1) := by
  unfold grT grB
  by_cases hc : v * z1 < z0 * 1
  · rw [if_pos hc, if_pos hc]
    have h1 := (over_less hB hz h).1 hc
    rw [mxI_r (by omega)]
    exact ⟨hg, h, .inl ⟨rfl, rfl⟩⟩
  · rw [if_neg hc, if_neg hc]
    have h1 : ¬ v * B < T := fun h2 => hc ((over_less hB hz h).2 h2)
    have h2 : mxI (v * B) T = v * B := by
      rcases Int.lt_or_le T (v * B) with h3 | h3
      · exact mxI_l h3
      · rw [mxI_r (by omega)]; omega
    rw [h2]
    exact ⟨gI_one v, by rw [Int.mul_one], .inr ⟨rfl, rfl⟩⟩
theorem ga_t_eq {wu a b m B : Int} (h : a * B = m * b) : (wu * a) * B = (wu * m) * (1 * b) := by grind
theorem ga_s_eq {cs cb S B wu m q p : Int} (h1 : cs * B = S * cb) (h2 : p * B = (wu * m) * q) : (cs * q + p * cb) * B = (S + wu * m) * (cb * q) := by grind
theorem ga_end_eq {cs cb S B n : Int} (h1 : cs * B = S * cb) : (cs * 1) * (B * n) = S * (cb * n) := by grind

set_option maxRecDepth 20000 in
set_option maxHeartbeats 2000000 in
theorem l7Over_c (A : Option Addr) (xs : List Int) (c : Nat) (T B : Int) (w : World) (ha : Rd w A (ints xs)) (hL : lawB xs = true) (hT : 0 ≤ T) (hT2 : T ≤ 4 * B) (hB : 1 ≤ B) (hB2 : B ≤ 390625) :
    Calls Try.prog 102 #[.slice A xs.length c, .agg #[.int .i64 (cutT T B), .int .i64 (cutB T B)]] w (Quietly w (.agg #[.int .i64 (cutT (gS xs T B xs.length) (B * sm xs)), .int .i64 (cutB (gS xs T B xs.length) (B * sm xs))])) := by
  have HLL := Lib.hid hL
  obtain ⟨l1, l2, l3, l4, l5⟩ := lawB_yes hL
  have HL3 := Lib.hid l3
  have HC := Lib.hid (cut_cross T B)
  have GC := Lib.hid (gI_cut (a := T) (b := B) (by omega))
  have bc0 := cutT_bd (a := T) (b := B) (by omega) (M := 1562500) (by omega) (by omega)
  have bc00 : 0 ≤ cutT T B := Int.ediv_nonneg hT (Int.le_of_lt (gI_pos (by omega)))
  have bc1 := cutB_bd (a := T) (b := B) (M := 390625) (by omega) (by omega)
  clear l3 hL
  generalize cutT T B = z0 at *
  generalize cutB T B = z1 at *
  have HB0 : Below w.heap.size w (((w.alloc (.cells #[.int .i64 z0, .int .i64 z1] 26)).alloc (.cells #[.int .i64 0, .int .i64 0] 26)).alloc (.cells #[.int .i64 0, .int .i64 1] 26)) := by
    with_reducible repeat (first | exact Below.refl _ _ | refine Below.alloc ?_ (by simp <;> omega) _)
  have B3 := ((Bx.new w (.int .i64 z0) (.int .i64 z1) 26).alloc (.cells #[.int .i64 0, .int .i64 0] 26)).alloc (.cells #[.int .i64 0, .int .i64 1] 26)
  have B4 := (Bx.new (w.alloc (.cells #[.int .i64 z0, .int .i64 z1] 26)) (.int .i64 0) (.int .i64 0) 26).alloc (.cells #[.int .i64 0, .int .i64 1] 26)
  have B5 := Bx.new ((w.alloc (.cells #[.int .i64 z0, .int .i64 z1] 26)).alloc (.cells #[.int .i64 0, .int .i64 0] 26)) (.int .i64 0) (.int .i64 1) 26
  simp only [World.size_alloc] at B4 B5
  go_enter Try.func102, Try.ntmps102
  go_upto_region 2 with fail
  generalize ((w.alloc (.cells #[.int .i64 z0, .int .i64 z1] 26)).alloc (.cells #[.int .i64 0, .int .i64 0] 26)).alloc (.cells #[.int .i64 0, .int .i64 1] 26) = x at *
  go_wp2
  go_loopw [6] (fun i wr => ∃ u : Nat, u ≤ xs.length ∧ i = .int .i64 u ∧ Bx wr (w.heap.size + 1 + 1) (.int .i64 (cutT (gS xs T B u) B)) (.int .i64 (cutB (gS xs T B u) B)) ∧ Bx wr w.heap.size (.int .i64 z0) (.int .i64 z1) ∧ Bx wr (w.heap.size + 1) (.int .i64 0) (.int .i64 0) ∧ Below w.heap.size w wr) (fun i _ => xs.length - (intOf i).toNat)
  case atStart => exact ⟨0, by omega, rfl, by rw [show gS xs T B 0 = 0 from rfl, (cut_zero (b := B) (by omega)).1, (cut_zero (b := B) (by omega)).2]; exact B5, B3, B4, HB0⟩
  case round =>
    obtain ⟨u, hu, rfl, b5, b3, b4, hb⟩ := hrel
    clear B3 B4 B5 HB0
    have bs := gS_bd HLL.out (by omega) hT hT2 u hu
    have bu : (u : Int) * (20 * B) ≤ 5 * (20 * B) := Int.mul_le_mul_of_nonneg_right (by omega) (by omega)
    have HX := Lib.hid (cut_cross (gS xs T B u) B)
    have GX := Lib.hid (gI_cut (a := gS xs T B u) (b := B) (by omega))
    have bx0 := cutT_bd (a := gS xs T B u) (b := B) (by omega) (M := 40000000) (by omega) (by omega)
    have bx1 := cutB_bd (a := gS xs T B u) (b := B) (M := 390625) (by omega) (by omega)
    by_cases hlu : u < xs.length
    · have bw := allB_nth HL3.out hlu
      have bt := gs_term HLL.out (by omega) hT hT2 hlu
      have bm := mx_bd (B := B) (by omega) hT hT2 (v := u) (by omega)
      have HU := Lib.hid (gS_succ xs T B u)
      have i5 : (0 : Int) ≤ (u : Int) := by omega
      have i6 : (u : Int) < (xs.length : Int) := by omega
      have GR := Lib.hid (gr_eq (v := (u : Int)) (by omega) bc1.1 HC.out GC.out)
      have C9 := Lib.hid (fun w => l7Greater_c (u : Int) z0 z1 (by omega) (by omega) bc00 bc0.2 bc1.1 bc1.2 w)
      have bg : 0 ≤ grT u z0 z1 ∧ grT u z0 z1 ≤ 1562500 ∧ 0 < grB u z0 z1 ∧ grB u z0 z1 ≤ 390625 := by
        rcases GR.out.2.2 with ⟨e1, e2⟩ | ⟨e1, e2⟩ <;> rw [e1, e2] <;> omega
      generalize grT u z0 z1 = t0 at *
      generalize grB u z0 z1 = t1 at *
      have C10 := Lib.hid (fun w => l2Times_is (nth xs u) 1 t0 t1 (nth xs u * mxI (u * B) T) B (gI_one _) GR.out.1 (by omega) (by omega) (by omega) (by omega) (by omega) (by omega) (by omega) (by omega) (by omega) (ga_t_eq GR.out.2.1) w)
      have HP := Lib.hid (cut_cross (nth xs u * mxI (u * B) T) B)
      have bp0 := cutT_bd (a := nth xs u * mxI (u * B) T) (b := B) (by omega) (M := 40000000) (by omega) (by omega)
      have bp1 := cutB_bd (a := nth xs u * mxI (u * B) T) (b := B) (M := 390625) (by omega) (by omega)
      generalize cutT (nth xs u * mxI (u * B) T) B = p0 at *
      generalize cutB (nth xs u * mxI (u * B) T) B = p1 at *
      generalize cutT (gS xs T B u) B = s0 at *
      generalize cutB (gS xs T B u) B = s1 at *
      have C11 := Lib.hid (fun w => l2Add_c s0 s1 p0 p1 (gS xs T B u + nth xs u * mxI (u * B) T) B (by omega) (by omega) (by omega) (by omega) (by omega) (by omega) (by omega) (by omega) (by omega) (ga_s_eq HX.out HP.out) w)
      obtain ⟨b, rfl, hcb⟩ := (ha.below hb (Nat.le_refl _)).intN hlu
      have b5' := b5
      have b4' := b4
      have b3' := b3
      obtain ⟨f0, f1, _, _, hf0⟩ := b5
      obtain ⟨f2, f3, _, _, hf2⟩ := b3
      have SK : Hid (∀ w', Below wr.heap.size wr w' → w'.cell? ⟨w.heap.size + 1 + 1, 0, none⟩ = some (.int .i64 s0) ∧ w'.cell? ⟨w.heap.size + 1 + 1, 1, none⟩ = some (.int .i64 s1) ∧ w'.cell? ⟨w.heap.size, 0, none⟩ = some (.int .i64 z0) ∧ w'.cell? ⟨w.heap.size, 1, none⟩ = some (.int .i64 z1) ∧ w'.cell? (b.add u) = some (.int .i64 (nth xs u))) :=
        Lib.hid fun w' HV => ⟨(HV.cell (p := ⟨w.heap.size + 1 + 1, 0, none⟩) hf0).trans f0, (HV.cell (p := ⟨w.heap.size + 1 + 1, 1, none⟩) hf0).trans f1, (HV.cell (p := ⟨w.heap.size, 0, none⟩) hf2).trans f2, (HV.cell (p := ⟨w.heap.size, 1, none⟩) hf2).trans f3, (HV.cell (cell_lt hcb)).trans hcb⟩
      go_upto_region 5 with fail
      clear f0 f1 f2 f3 hcb
      refine tamed_region (S := fun w' => w'.cell? ⟨w.heap.size + 1 + 1, 0, none⟩ = some (.int .i64 s0) ∧ w'.cell? ⟨w.heap.size + 1 + 1, 1, none⟩ = some (.int .i64 s1) ∧ w'.cell? ⟨w.heap.size, 0, none⟩ = some (.int .i64 z0) ∧ w'.cell? ⟨w.heap.size, 1, none⟩ = some (.int .i64 z1) ∧ w'.cell? (b.add u) = some (.int .i64 (nth xs u))) (fun t => t == 12) (by kernel_rfl) ?_
      have hS0 := SK.out wr.drew (Below.drew (Below.refl _ _))
      refine tame (k := 0) ?_ rfl (by kernel_rfl) (by kernel_rfl) (by kernel_rfl) (by kernel_rfl) (fun _ _ _ h => h) (by rfl) hS0 (fun v hv => ?_) ?_
      rotate_left
      · (obtain ⟨g0, g1, g2, g3, g4⟩ := hv; go_simp; all_goals rfl)
      simp only [Act.put, List.setIfInBounds_toArray]
      refine tame0 (k := 1) ?_ rfl (by kernel_rfl) (by kernel_rfl) (by kernel_rfl) (fun _ _ _ h => h) (by rfl) (fun v => ?_) ?_
      rotate_left
      · (go_simp; all_goals rfl)
      simp only [Act.put]
      refine tame0 (k := 2) ?_ rfl (by kernel_rfl) (by kernel_rfl) (by kernel_rfl) (fun _ _ _ h => h) (by rfl) (fun v => ?_) ?_
      rotate_left
      · (go_simp; all_goals rfl)
      simp only [Act.put]
      refine tame0 (k := 3) ?_ rfl (by kernel_rfl) (by kernel_rfl) (by kernel_rfl) (fun _ _ _ h => h) (by rfl) (fun v => ?_) ?_
      rotate_left
      · (go_simp; all_goals rfl)
      simp only [Act.put]
      refine tame (k := 4) ?_ rfl (by kernel_rfl) (by kernel_rfl) (by kernel_rfl) (by kernel_rfl) (fun _ _ _ h => h) (by rfl) hS0 (fun v hv => ?_) ?_
      rotate_left
      · (obtain ⟨g0, g1, g2, g3, g4⟩ := hv; go_simp; all_goals rfl)
      simp only [Act.put]
      refine tame0 (k := 5) ?_ rfl (by kernel_rfl) (by kernel_rfl) (by kernel_rfl) (fun _ _ _ h => h) (by rfl) (fun v => ?_) ?_
      rotate_left
      · (go_simp; all_goals rfl)
      simp only [Act.put]
      refine tame0 (k := 6) ?_ rfl (by kernel_rfl) (by kernel_rfl) (by kernel_rfl) (fun _ _ _ h => h) (by rfl) (fun v => ?_) ?_
      rotate_left
      · (go_simp; all_goals rfl)
      simp only [Act.put]
      refine tame0 (k := 7) ?_ rfl (by kernel_rfl) (by kernel_rfl) (by kernel_rfl) (fun _ _ _ h => h) (by rfl) (fun v => ?_) ?_
      rotate_left
      · (go_simp; all_goals rfl)
      simp only [Act.put]
      refine tame (k := 8) ?_ rfl (by kernel_rfl) (by kernel_rfl) (by kernel_rfl) (by kernel_rfl) (fun _ _ _ h => h) (by rfl) hS0 (fun v hv => ?_) ?_
      rotate_left
      · (obtain ⟨g0, g1, g2, g3, g4⟩ := hv; go_simp; all_goals rfl)
      simp only [Act.put]
      refine tame_one (k := 9) (by kernel_rfl) rfl (by rfl) ?_
      go_simp
      refine (C9.out _).mono ?_
      rintro e w2 ⟨rfl, hb2⟩
      have hb92 := bUp (Below.drew (Below.refl wr.heap.size wr)) hb2 (Nat.le_refl _)
      refine ⟨SK.out _ hb92, ?_⟩
      refine tame_one (k := 10) (by kernel_rfl) rfl (by rfl) ?_
      go_simp
      refine (C10.out _).mono ?_
      rintro e w3 ⟨rfl, hb3⟩
      have hb93 := bUp hb92 hb3 hb92.size
      refine ⟨SK.out _ hb93, ?_⟩
      refine tame_one (k := 11) (by kernel_rfl) rfl (by rfl) ?_
      go_simp
      refine (C11.out _).mono ?_
      rintro e w4 ⟨rfl, hb4⟩
      have hb94 := bUp hb93 hb4 hb93.size
      refine ⟨SK.out _ hb94, ?_⟩
      refine tame_one (k := 12) (by kernel_rfl) rfl (by rfl) ?_
      have b54 := b5'.below hb94
      have b55 := b54.set2 (.int .i64 (cutT (gS xs T B u + nth xs u * mxI (u * B) T) B)) (.int .i64 (cutB (gS xs T B u + nth xs u * mxI (u * B) T) B))
      have b35 := ((b3'.below hb94).setO ⟨w.heap.size + 1 + 1, 0, none⟩ (.int .i64 (cutT (gS xs T B u + nth xs u * mxI (u * B) T) B)) (by simp; omega)).setO ⟨w.heap.size + 1 + 1, 1, none⟩ (.int .i64 (cutB (gS xs T B u + nth xs u * mxI (u * B) T) B)) (by simp; omega)
      have b45 := ((b4'.below hb94).setO ⟨w.heap.size + 1 + 1, 0, none⟩ (.int .i64 (cutT (gS xs T B u + nth xs u * mxI (u * B) T) B)) (by simp)).setO ⟨w.heap.size + 1 + 1, 1, none⟩ (.int .i64 (cutB (gS xs T B u + nth xs u * mxI (u * B) T) B)) (by simp)
      have hb5 := ((bUp hb hb94 hb.size).setCell (p := ⟨w.heap.size + 1 + 1, 0, none⟩) (by simp; omega) (.int .i64 (cutT (gS xs T B u + nth xs u * mxI (u * B) T) B))).setCell (p := ⟨w.heap.size + 1 + 1, 1, none⟩) (by simp; omega) (.int .i64 (cutB (gS xs T B u + nth xs u * mxI (u * B) T) B))
      obtain ⟨h70, h71, hy0, hy1, hh7⟩ := b54
      go_simp
      refine tame_end (by kernel_rfl) ?_
      clear hS0 hf0 hf2
      go_wp2
      go_roundw
      case rel => exact ⟨u + 1, by omega, by go_num, by rw [HU.out]; exact b55, b35, b45, hb5⟩
      case measure => simp [intOf] <;> omega
    · have hul : u = xs.length := by omega
      subst hul
      have CT := Lib.hid (fun (w : World) (h : Rd w A (ints xs)) => same_swap (l7Total_c A xs c 5 w h (by decide) (allB_mono HL3.out (by decide) (by decide)) (by omega)))
      have C53 := Lib.hid (fun w => l2Times_is (cutT (gS xs T B xs.length) B) (cutB (gS xs T B xs.length) B) 1 (sm xs) (gS xs T B xs.length) (B * sm xs) GX.out (gI_one' _) (by omega) (by omega) (by omega) (by omega) (by omega) (by omega) (by omega) (by omega) (Int.mul_pos (by omega) (by omega)) (ga_end_eq HX.out) w)
      have har := ha.below hb (Nat.le_refl _)
      generalize gS xs T B xs.length = S at *
      generalize cutT S B = s0 at *
      generalize cutB S B = s1 at *
      obtain ⟨f0, f1, _, _, hf0⟩ := b5
      go_wp2
      refine wp_region_still_tail 4 (by kernel_rfl) (by kernel_rfl) ?_
      simp only [List.take_succ_cons, List.take_zero, List.drop_succ_cons, List.drop_zero]
      iterate 2 still_step
      still_call (CT.out _ har)
      repeat still_step
      refine wpStill_nil ?_
      change wpList _ _ _ _ _ wr.drew
      clear f0 f1
      go_wp2_with fail
      refine (C53.out _).mono ?_
      rintro e w2 ⟨rfl, hb2⟩
      have HB2 := bUp hb.drew hb2 hb.size
      obtain ⟨f4, f5, y4, y5, hf4⟩ := b4.drew.below hb2
      go_wp2
      exact bodyPost_ret (v := .agg #[.int .i64 (cutT S (B * sm xs)), .int .i64 (cutB S (B * sm xs))]) (by simp [results, Try.results102, go_sem, f4, f5]) rfl ⟨rfl, by with_reducible repeat (first | exact HB2 | refine Below.setCell ?_ (by simp <;> omega) _)⟩
end Go.Proofs.Ytjnllbmknblecaa
