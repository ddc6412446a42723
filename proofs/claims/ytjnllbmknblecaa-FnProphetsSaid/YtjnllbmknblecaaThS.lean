/- A gambler with a threshold: the reference's walk. -/
import Derived.Test.YtjnllbmknblecaaThL
import Derived.Test.YtjnllbmknblecaaBestA
import Derived.Test.YtjnllbmknblecaaBxM
import Derived.Test.YtjnllbmknblecaaButA
namespace Go.Proofs.Ytjnllbmknblecaa
open Go.RowKit

theorem th_hi_eq {cs cb S B wu u q p : Int} (h1 : cs * B = S * cb) (h2 : p * 1 = (wu * u) * q) : (cs * q + p * cb) * B = (S + wu * u * B) * (cb * q) := by grind
theorem th_lo_eq {cs cb S B wu T q p : Int} (h1 : cs * B = S * cb) (h2 : p * B = (wu * T) * q) : (cs * q + p * cb) * B = (S + wu * T) * (cb * q) := by grind
theorem th_lo_eq2 {t0 t1 T B wu : Int} (h1 : t0 * B = T * t1) : (wu * t0) * B = (wu * T) * (1 * t1) := by grind
theorem th_end_eq {cs cb S B n : Int} (h1 : cs * B = S * cb) : (cs * 1) * (B * n) = S * (cb * n) := by grind

set_option maxRecDepth 20000 in
set_option maxHeartbeats 2000000 in
theorem l7Least_c (A : Option Addr) (xss : List (List Int)) (c : Nat) (least : Int) (w : World) (ha : RdSS w A xss) (h1 : lawsB xss = true) :
    Calls Try.prog 77 #[.slice A xss.length c, .int .i64 least] w (Quietly w (.agg #[.int .i64 (cutT (thT xss least xss.length) (thB xss xss.length)), .int .i64 (cutB (thT xss least xss.length) (thB xss xss.length))])) := by
  have HB0 : Below w.heap.size w ((w.alloc (.cells #[.int .i64 0, .int .i64 0] 26)).alloc (.cells #[.int .i64 0, .int .i64 1] 26)) := ((Below.refl _ _).alloc (Nat.le_refl _) _).alloc (by simp) _
  have B4 := (Bx.new w (.int .i64 0) (.int .i64 0) 26).alloc (.cells #[.int .i64 0, .int .i64 1] 26)
  have B5 := Bx.new (w.alloc (.cells #[.int .i64 0, .int .i64 0] 26)) (.int .i64 0) (.int .i64 1) 26
  simp only [World.size_alloc] at B5
  have HL := Lib.hid h1
  have hn := (lawsB_yes h1).1
  go_enter Try.func77, Try.ntmps77
  have BT := Lib.hid (thT_bd h1 least xss.length (Nat.le_refl _))
  go_upto_region 3 with fail
  generalize (w.alloc (.cells #[.int .i64 0, .int .i64 0] 26)).alloc (.cells #[.int .i64 0, .int .i64 1] 26) = v at *
  go_loopw [6] (fun i wr => ∃ k : Nat, k ≤ xss.length ∧ i = .int .i64 ((k : Int) - 1) ∧ Bx wr (w.heap.size + 1) (.int .i64 (cutT (thT xss least (xss.length - k)) (thB xss (xss.length - k)))) (.int .i64 (cutB (thT xss least (xss.length - k)) (thB xss (xss.length - k)))) ∧ Bx wr w.heap.size (.int .i64 0) (.int .i64 0) ∧ Below w.heap.size w wr) (fun i _ => (intOf i + 1).toNat)
  case atStart => exact ⟨xss.length, Nat.le_refl _, rfl, by rw [Nat.sub_self, show thT xss least 0 = 0 from rfl, show thB xss 0 = 1 from rfl, (cut_one 0).1, (cut_one 0).2]; exact B5, B4, HB0⟩
  case round =>
    obtain ⟨k, hk, rfl, b5, b4, hb⟩ := hrel
    clear HB0
    have bB := thB_bd HL.out (xss.length - k) (by omega)
    have bT := thT_bd HL.out least (xss.length - k) (by omega)
    rcases k with _ | m
    · have e0 : ((0 : Nat) : Int) - 1 = -1 := rfl
      rw [e0]
      rw [Nat.sub_zero] at b5
      clear e0 B4 B5 bB bT
      obtain ⟨f0, f1, _, _, _⟩ := b5
      obtain ⟨f2, f3, z2, z3, hz⟩ := b4
      go_wp2
      have HB1 := hb
      exact bodyPost_ret (v := .agg #[.int .i64 (cutT (thT xss least xss.length) (thB xss xss.length)), .int .i64 (cutB (thT xss least xss.length) (thB xss xss.length))]) (by simp [results, Try.results77, go_sem, f2, f3]) rfl ⟨rfl, by with_reducible repeat (first | exact HB1 | refine Below.setCell ?_ (by simp) _)⟩
    · have e0 : ((m + 1 : Nat) : Int) - 1 = (m : Int) := by omega
      rw [e0]
      clear e0 B4 B5
      obtain ⟨wo, rfl⟩ : ∃ wo : World, wo = wr := ⟨_, rfl⟩
      obtain ⟨a, A', c', rfl, hca, hra⟩ := (ha.below hb (Nat.le_refl _)) m (by omega)
      have hll := Lib.hid ((lawsB_yes HL.out).2 m (by omega))
      obtain ⟨l1, l2, l3, l4, l5⟩ := lawB_yes hll.out
      have HL3 := Lib.hid l3
      have HS1 := Lib.hid (thT_succ xss least m (by omega))
      have HS2 := Lib.hid (thB_succ xss m (by omega))
      have hsz : w.heap.size ≤ wo.heap.size := hb.size
      have i1 : (0 : Int) ≤ (m : Int) := by omega
      have i2 : (m : Int) < (xss.length : Int) := by omega
      generalize thT xss least (xss.length - (m + 1)) = T at *
      generalize thB xss (xss.length - (m + 1)) = B at *
      have hc0 := cut_cross T B
      have gc0 := gI_cut (a := T) (b := B) (by omega)
      have bc0 := cutT_bd (a := T) (b := B) (by omega) (M := 1562500) (by omega) (by omega)
      have bc1 := cutB_bd (a := T) (b := B) (M := 390625) (by omega) (by omega)
      have HC := Lib.hid hc0
      have GC := Lib.hid gc0
      clear l3 hc0 gc0
      generalize cutT T B = t0 at *
      generalize cutB T B = t1 at *
      go_upto_region 6 with fail
      have bo7 := Bx.new wo (.int .i64 0) (.int .i64 1) 26
      have hb7 := hb.alloc (o := .cells #[.int .i64 0, .int .i64 1] 26) hsz
      have hw7 : Below wo.heap.size wo (wo.alloc (.cells #[.int .i64 0, .int .i64 1] 26)) := (Below.refl _ _).alloc (Nat.le_refl _) _
      generalize wo.alloc (.cells #[.int .i64 0, .int .i64 1] 26) = v7 at *
      go_wp2
      go_loopw [8] (fun i wr => ∃ u : Nat, u ≤ (rowAt xss m).length ∧ i = .int .i64 u ∧ Bx wr wo.heap.size (.int .i64 (cutT (thS (rowAt xss m) least T B u) B)) (.int .i64 (cutB (thS (rowAt xss m) least T B u) B)) ∧ Below wo.heap.size wo wr) (fun i _ => (rowAt xss m).length - (intOf i).toNat)
      case atStart => exact ⟨0, by omega, rfl, by rw [show thS (rowAt xss m) least T B 0 = 0 from rfl, (cut_zero (b := B) (by omega)).1, (cut_zero (b := B) (by omega)).2]; exact bo7, hw7⟩
      case round =>
        obtain ⟨u, hu, rfl, b7, hb8⟩ := hrel
        clear bo7 hb7 hw7
        have bs := thS_bd (least := least) hll.out (by omega) bT.1 bT.2 u hu
        have HB8 := bUp hb hb8 hb.size
        have hca8 := (hb8.cell (p := a.add m) (cell_lt hca)).trans hca
        have bu : (u : Int) * (20 * B) ≤ 5 * (20 * B) := Int.mul_le_mul_of_nonneg_right (by omega) (by omega)
        have HX := Lib.hid (cut_cross (thS (rowAt xss m) least T B u) B)
        have GX := Lib.hid (gI_cut (a := thS (rowAt xss m) least T B u) (b := B) (by omega))
        have bx0 := cutT_bd (a := thS (rowAt xss m) least T B u) (b := B) (by omega) (M := 40000000) (by omega) (by omega)
        have bx1 := cutB_bd (a := thS (rowAt xss m) least T B u) (b := B) (M := 390625) (by omega) (by omega)
        have gs5 : w.heap.size + 1 < wo.heap.size := b5.2.2.2.2
        by_cases hlu : u < (rowAt xss m).length
        · have bw := allB_nth HL3.out hlu
          have bl := lo_bd hll.out bT.1 bT.2 hlu
          have bh := hi_bd hll.out (B := B) (by omega) hlu
          have i5 : (0 : Int) ≤ (u : Int) := by omega
          have i6 : (u : Int) < ((rowAt xss m).length : Int) := by omega
          generalize hS : thS (rowAt xss m) least T B u = S at *
          generalize cutT S B = s0 at *
          generalize cutB S B = s1 at *
          have hg7 : wo.heap.size < wr.heap.size := b7.2.2.2.2
          by_cases hc : (u : Int) < least
          · have HU : Hid (thS (rowAt xss m) least T B (u + 1) = S + nth (rowAt xss m) u * T) := Lib.hid (by rw [thS_lo hc, hS])
            clear hS
            have C44 := Lib.hid (fun w => l2Times_is (nth (rowAt xss m) u) 1 t0 t1 (nth (rowAt xss m) u * T) (B) (gI_one _) GC.out (by omega) (by omega) (by omega) (by omega) (by omega) (by omega) (by omega) (by omega) (by omega) (th_lo_eq2 HC.out) w)
            have HP := Lib.hid (cut_cross (nth (rowAt xss m) u * T) (B))
            have bp0 := cutT_bd (a := nth (rowAt xss m) u * T) (b := B) (by omega) (M := 40000000) (by omega) (by omega)
            have bp1 := cutB_bd (a := nth (rowAt xss m) u * T) (b := B) (M := 390625) (by omega) (by omega)
            generalize cutT (nth (rowAt xss m) u * T) (B) = p0 at *
            generalize cutB (nth (rowAt xss m) u * T) (B) = p1 at *
            have C45 := Lib.hid (fun w => l2Add_c s0 s1 p0 p1 (S + nth (rowAt xss m) u * T) B (by omega) (by omega) (by omega) (by omega) (by omega) (by omega) (by omega) (by omega) (by omega) (th_lo_eq HX.out HP.out) w)
            obtain ⟨f50, f51, _, _, _⟩ := b5.below hb8
            have b9 := Bx.new wr (.int .i64 t0) (.int .i64 t1) 26
            have b79 := b7.alloc (.cells #[.int .i64 t0, .int .i64 t1] 26)
            have hb9 : Below wr.heap.size wr (wr.alloc (.cells #[.int .i64 t0, .int .i64 t1] 26)) := (Below.refl _ _).alloc (Nat.le_refl _) _
            go_upto_region 12 with fail
            clear f50 f51
            generalize wr.alloc (.cells #[.int .i64 t0, .int .i64 t1] 26) = v9 at *
            have hb89 := bUp hb8 hb9 hb8.size
            have hca9 := (hb89.cell (p := a.add m) (cell_lt hca)).trans hca
            obtain ⟨b, rfl, hcb0⟩ := hra.intN hlu
            have hcb := (hb89.cell (p := b.add u) (cell_lt hcb0)).trans hcb0
            have b79' := b79
            obtain ⟨f70, f71, y70, y71, hf7⟩ := b79
            obtain ⟨f90, f91, _, _, hf9⟩ := b9
            have SK : Hid (∀ w', Below v9.heap.size v9 w' → w'.cell? ⟨wo.heap.size, 0, none⟩ = some (.int .i64 s0) ∧ w'.cell? ⟨wo.heap.size, 1, none⟩ = some (.int .i64 s1) ∧ w'.cell? ⟨wr.heap.size, 0, none⟩ = some (.int .i64 t0) ∧ w'.cell? ⟨wr.heap.size, 1, none⟩ = some (.int .i64 t1) ∧ w'.cell? (a.add m) = some (.slice (some b) (rowAt xss m).length c') ∧ w'.cell? (b.add u) = some (.int .i64 (nth (rowAt xss m) u))) :=
              Lib.hid fun w' HV => ⟨(HV.cell (p := ⟨wo.heap.size, 0, none⟩) hf7).trans f70, (HV.cell (p := ⟨wo.heap.size, 1, none⟩) hf7).trans f71, (HV.cell (p := ⟨wr.heap.size, 0, none⟩) hf9).trans f90, (HV.cell (p := ⟨wr.heap.size, 1, none⟩) hf9).trans f91, (HV.cell (cell_lt hca9)).trans hca9, (HV.cell (cell_lt hcb)).trans hcb⟩
            refine tamed_region (S := fun w' => w'.cell? ⟨wo.heap.size, 0, none⟩ = some (.int .i64 s0) ∧ w'.cell? ⟨wo.heap.size, 1, none⟩ = some (.int .i64 s1) ∧ w'.cell? ⟨wr.heap.size, 0, none⟩ = some (.int .i64 t0) ∧ w'.cell? ⟨wr.heap.size, 1, none⟩ = some (.int .i64 t1) ∧ w'.cell? (a.add m) = some (.slice (some b) (rowAt xss m).length c') ∧ w'.cell? (b.add u) = some (.int .i64 (nth (rowAt xss m) u))) (fun k => k == 12) (by kernel_rfl) ?_
            have hS0 := SK.out v9.drew (Below.drew (Below.refl _ _))
            refine tame (k := 0) ?_ rfl (by kernel_rfl) (by kernel_rfl) (by kernel_rfl) (by kernel_rfl) (fun _ _ _ h => h) (by rfl) hS0 (fun v hv => ?_) ?_
            rotate_left
            · (obtain ⟨g0, g1, g2, g3, g4, g5⟩ := hv; go_simp; all_goals rfl)
            simp only [Act.put, List.setIfInBounds_toArray]
            refine tame (k := 1) ?_ rfl (by kernel_rfl) (by kernel_rfl) (by kernel_rfl) (by kernel_rfl) (fun _ _ _ h => h) (by rfl) hS0 (fun v hv => ?_) ?_
            rotate_left
            · (obtain ⟨g0, g1, g2, g3, g4, g5⟩ := hv; go_simp; all_goals rfl)
            simp only [Act.put]
            refine tame (k := 2) ?_ rfl (by kernel_rfl) (by kernel_rfl) (by kernel_rfl) (by kernel_rfl) (fun _ _ _ h => h) (by rfl) hS0 (fun v hv => ?_) ?_
            rotate_left
            · (obtain ⟨g0, g1, g2, g3, g4, g5⟩ := hv; go_simp; all_goals rfl)
            simp only [Act.put]
            refine tame (k := 3) ?_ rfl (by kernel_rfl) (by kernel_rfl) (by kernel_rfl) (by kernel_rfl) (fun _ _ _ h => h) (by rfl) hS0 (fun v hv => ?_) ?_
            rotate_left
            · (obtain ⟨g0, g1, g2, g3, g4, g5⟩ := hv; go_simp; all_goals rfl)
            simp only [Act.put]
            refine tame (k := 4) ?_ rfl (by kernel_rfl) (by kernel_rfl) (by kernel_rfl) (by kernel_rfl) (fun _ _ _ h => h) (by rfl) hS0 (fun v hv => ?_) ?_
            rotate_left
            · (obtain ⟨g0, g1, g2, g3, g4, g5⟩ := hv; go_simp; all_goals rfl)
            simp only [Act.put]
            refine tame (k := 5) ?_ rfl (by kernel_rfl) (by kernel_rfl) (by kernel_rfl) (by kernel_rfl) (fun _ _ _ h => h) (by rfl) hS0 (fun v hv => ?_) ?_
            rotate_left
            · (obtain ⟨g0, g1, g2, g3, g4, g5⟩ := hv; go_simp; all_goals rfl)
            simp only [Act.put]
            refine tame (k := 6) ?_ rfl (by kernel_rfl) (by kernel_rfl) (by kernel_rfl) (by kernel_rfl) (fun _ _ _ h => h) (by rfl) hS0 (fun v hv => ?_) ?_
            rotate_left
            · (obtain ⟨g0, g1, g2, g3, g4, g5⟩ := hv; go_simp; all_goals rfl)
            simp only [Act.put]
            refine tame (k := 7) ?_ rfl (by kernel_rfl) (by kernel_rfl) (by kernel_rfl) (by kernel_rfl) (fun _ _ _ h => h) (by rfl) hS0 (fun v hv => ?_) ?_
            rotate_left
            · (obtain ⟨g0, g1, g2, g3, g4, g5⟩ := hv; go_simp; all_goals rfl)
            simp only [Act.put]
            refine tame (k := 8) ?_ rfl (by kernel_rfl) (by kernel_rfl) (by kernel_rfl) (by kernel_rfl) (fun _ _ _ h => h) (by rfl) hS0 (fun v hv => ?_) ?_
            rotate_left
            · (obtain ⟨g0, g1, g2, g3, g4, g5⟩ := hv; go_simp; all_goals rfl)
            simp only [Act.put]
            refine tame (k := 9) ?_ rfl (by kernel_rfl) (by kernel_rfl) (by kernel_rfl) (by kernel_rfl) (fun _ _ _ h => h) (by rfl) hS0 (fun v hv => ?_) ?_
            rotate_left
            · (obtain ⟨g0, g1, g2, g3, g4, g5⟩ := hv; go_simp; all_goals rfl)
            simp only [Act.put]
            refine tame_one (k := 10) (by kernel_rfl) rfl (by rfl) ?_
            go_simp
            refine (C44.out _).mono ?_
            rintro e w2 ⟨rfl, hb2⟩
            have hb92 := bUp (Below.drew (Below.refl v9.heap.size v9)) hb2 (Nat.le_refl _)
            refine ⟨SK.out _ hb92, ?_⟩
            refine tame_one (k := 11) (by kernel_rfl) rfl (by rfl) ?_
            go_simp
            refine (C45.out _).mono ?_
            rintro e w3 ⟨rfl, hb3⟩
            have hb93 := bUp hb92 hb3 hb92.size
            refine ⟨SK.out _ hb93, ?_⟩
            refine tame_one (k := 12) (by kernel_rfl) rfl (by rfl) ?_
            have b73 := b79'.below hb93
            have b74 := b73.set2 (.int .i64 (cutT (S + nth (rowAt xss m) u * T) B)) (.int .i64 (cutB (S + nth (rowAt xss m) u * T) B))
            have hb94 := ((bUp hb89 hb93 hb89.size).setCell (p := ⟨wo.heap.size, 0, none⟩) (Nat.le_refl _) (.int .i64 (cutT (S + nth (rowAt xss m) u * T) B))).setCell (p := ⟨wo.heap.size, 1, none⟩) (Nat.le_refl _) (.int .i64 (cutB (S + nth (rowAt xss m) u * T) B))
            obtain ⟨h70, h71, hy0, hy1, hh7⟩ := b73
            go_simp
            refine tame_end (by kernel_rfl) ?_
            clear f70 f71 y70 y71 hf7 f90 f91 hf9 hS0 hca9 hcb hca8
            go_wp2
            go_roundw
            case rel => exact ⟨u + 1, by omega, by go_num, by rw [HU.out]; exact b74, hb94⟩
            case measure => simp [intOf] <;> omega
          · have HU : Hid (thS (rowAt xss m) least T B (u + 1) = S + nth (rowAt xss m) u * u * B) := Lib.hid (by rw [thS_hi hc, hS])
            clear hS
            have C44 := Lib.hid (fun w => l2Times_is (nth (rowAt xss m) u) 1 (u : Int) 1 (nth (rowAt xss m) u * u) (1) (gI_one _) (gI_one _) (by omega) (by omega) (by omega) (by omega) (by omega) (by omega) (by omega) (by omega) (by omega) rfl w)
            have HP := Lib.hid (cut_cross (nth (rowAt xss m) u * u) (1))
            have bp0 := cutT_bd (a := nth (rowAt xss m) u * u) (b := 1) (by omega) (M := 40000000) (by omega) (by omega)
            have bp1 := cutB_bd (a := nth (rowAt xss m) u * u) (b := 1) (M := 390625) (by omega) (by omega)
            generalize cutT (nth (rowAt xss m) u * u) (1) = p0 at *
            generalize cutB (nth (rowAt xss m) u * u) (1) = p1 at *
            have C45 := Lib.hid (fun w => l2Add_c s0 s1 p0 p1 (S + nth (rowAt xss m) u * u * B) B (by omega) (by omega) (by omega) (by omega) (by omega) (by omega) (by omega) (by omega) (by omega) (th_hi_eq HX.out HP.out) w)
            have b9 := Bx.new wr (.int .i64 (u : Int)) (.int .i64 1) 26
            have b79 := b7.alloc (.cells #[.int .i64 (u : Int), .int .i64 1] 26)
            have hb9 : Below wr.heap.size wr (wr.alloc (.cells #[.int .i64 (u : Int), .int .i64 1] 26)) := (Below.refl _ _).alloc (Nat.le_refl _) _
            go_upto_region 12 with fail
            generalize wr.alloc (.cells #[.int .i64 (u : Int), .int .i64 1] 26) = v9 at *
            have hb89 := bUp hb8 hb9 hb8.size
            have hca9 := (hb89.cell (p := a.add m) (cell_lt hca)).trans hca
            obtain ⟨b, rfl, hcb0⟩ := hra.intN hlu
            have hcb := (hb89.cell (p := b.add u) (cell_lt hcb0)).trans hcb0
            have b79' := b79
            obtain ⟨f70, f71, y70, y71, hf7⟩ := b79
            obtain ⟨f90, f91, _, _, hf9⟩ := b9
            have SK : Hid (∀ w', Below v9.heap.size v9 w' → w'.cell? ⟨wo.heap.size, 0, none⟩ = some (.int .i64 s0) ∧ w'.cell? ⟨wo.heap.size, 1, none⟩ = some (.int .i64 s1) ∧ w'.cell? ⟨wr.heap.size, 0, none⟩ = some (.int .i64 (u : Int)) ∧ w'.cell? ⟨wr.heap.size, 1, none⟩ = some (.int .i64 1) ∧ w'.cell? (a.add m) = some (.slice (some b) (rowAt xss m).length c') ∧ w'.cell? (b.add u) = some (.int .i64 (nth (rowAt xss m) u))) :=
              Lib.hid fun w' HV => ⟨(HV.cell (p := ⟨wo.heap.size, 0, none⟩) hf7).trans f70, (HV.cell (p := ⟨wo.heap.size, 1, none⟩) hf7).trans f71, (HV.cell (p := ⟨wr.heap.size, 0, none⟩) hf9).trans f90, (HV.cell (p := ⟨wr.heap.size, 1, none⟩) hf9).trans f91, (HV.cell (cell_lt hca9)).trans hca9, (HV.cell (cell_lt hcb)).trans hcb⟩
            refine tamed_region (S := fun w' => w'.cell? ⟨wo.heap.size, 0, none⟩ = some (.int .i64 s0) ∧ w'.cell? ⟨wo.heap.size, 1, none⟩ = some (.int .i64 s1) ∧ w'.cell? ⟨wr.heap.size, 0, none⟩ = some (.int .i64 (u : Int)) ∧ w'.cell? ⟨wr.heap.size, 1, none⟩ = some (.int .i64 1) ∧ w'.cell? (a.add m) = some (.slice (some b) (rowAt xss m).length c') ∧ w'.cell? (b.add u) = some (.int .i64 (nth (rowAt xss m) u))) (fun k => k == 12) (by kernel_rfl) ?_
            have hS0 := SK.out v9.drew (Below.drew (Below.refl _ _))
            refine tame (k := 0) ?_ rfl (by kernel_rfl) (by kernel_rfl) (by kernel_rfl) (by kernel_rfl) (fun _ _ _ h => h) (by rfl) hS0 (fun v hv => ?_) ?_
            rotate_left
            · (obtain ⟨g0, g1, g2, g3, g4, g5⟩ := hv; go_simp; all_goals rfl)
            simp only [Act.put, List.setIfInBounds_toArray]
            refine tame (k := 1) ?_ rfl (by kernel_rfl) (by kernel_rfl) (by kernel_rfl) (by kernel_rfl) (fun _ _ _ h => h) (by rfl) hS0 (fun v hv => ?_) ?_
            rotate_left
            · (obtain ⟨g0, g1, g2, g3, g4, g5⟩ := hv; go_simp; all_goals rfl)
            simp only [Act.put]
            refine tame (k := 2) ?_ rfl (by kernel_rfl) (by kernel_rfl) (by kernel_rfl) (by kernel_rfl) (fun _ _ _ h => h) (by rfl) hS0 (fun v hv => ?_) ?_
            rotate_left
            · (obtain ⟨g0, g1, g2, g3, g4, g5⟩ := hv; go_simp; all_goals rfl)
            simp only [Act.put]
            refine tame (k := 3) ?_ rfl (by kernel_rfl) (by kernel_rfl) (by kernel_rfl) (by kernel_rfl) (fun _ _ _ h => h) (by rfl) hS0 (fun v hv => ?_) ?_
            rotate_left
            · (obtain ⟨g0, g1, g2, g3, g4, g5⟩ := hv; go_simp; all_goals rfl)
            simp only [Act.put]
            refine tame (k := 4) ?_ rfl (by kernel_rfl) (by kernel_rfl) (by kernel_rfl) (by kernel_rfl) (fun _ _ _ h => h) (by rfl) hS0 (fun v hv => ?_) ?_
            rotate_left
            · (obtain ⟨g0, g1, g2, g3, g4, g5⟩ := hv; go_simp; all_goals rfl)
            simp only [Act.put]
            refine tame (k := 5) ?_ rfl (by kernel_rfl) (by kernel_rfl) (by kernel_rfl) (by kernel_rfl) (fun _ _ _ h => h) (by rfl) hS0 (fun v hv => ?_) ?_
            rotate_left
            · (obtain ⟨g0, g1, g2, g3, g4, g5⟩ := hv; go_simp; all_goals rfl)
            simp only [Act.put]
            refine tame (k := 6) ?_ rfl (by kernel_rfl) (by kernel_rfl) (by kernel_rfl) (by kernel_rfl) (fun _ _ _ h => h) (by rfl) hS0 (fun v hv => ?_) ?_
            rotate_left
            · (obtain ⟨g0, g1, g2, g3, g4, g5⟩ := hv; go_simp; all_goals rfl)
            simp only [Act.put]
            refine tame (k := 7) ?_ rfl (by kernel_rfl) (by kernel_rfl) (by kernel_rfl) (by kernel_rfl) (fun _ _ _ h => h) (by rfl) hS0 (fun v hv => ?_) ?_
            rotate_left
            · (obtain ⟨g0, g1, g2, g3, g4, g5⟩ := hv; go_simp; all_goals rfl)
            simp only [Act.put]
            refine tame (k := 8) ?_ rfl (by kernel_rfl) (by kernel_rfl) (by kernel_rfl) (by kernel_rfl) (fun _ _ _ h => h) (by rfl) hS0 (fun v hv => ?_) ?_
            rotate_left
            · (obtain ⟨g0, g1, g2, g3, g4, g5⟩ := hv; go_simp; all_goals rfl)
            simp only [Act.put]
            refine tame (k := 9) ?_ rfl (by kernel_rfl) (by kernel_rfl) (by kernel_rfl) (by kernel_rfl) (fun _ _ _ h => h) (by rfl) hS0 (fun v hv => ?_) ?_
            rotate_left
            · (obtain ⟨g0, g1, g2, g3, g4, g5⟩ := hv; go_simp; all_goals rfl)
            simp only [Act.put]
            refine tame_one (k := 10) (by kernel_rfl) rfl (by rfl) ?_
            go_simp
            refine (C44.out _).mono ?_
            rintro e w2 ⟨rfl, hb2⟩
            have hb92 := bUp (Below.drew (Below.refl v9.heap.size v9)) hb2 (Nat.le_refl _)
            refine ⟨SK.out _ hb92, ?_⟩
            refine tame_one (k := 11) (by kernel_rfl) rfl (by rfl) ?_
            go_simp
            refine (C45.out _).mono ?_
            rintro e w3 ⟨rfl, hb3⟩
            have hb93 := bUp hb92 hb3 hb92.size
            refine ⟨SK.out _ hb93, ?_⟩
            refine tame_one (k := 12) (by kernel_rfl) rfl (by rfl) ?_
            have b73 := b79'.below hb93
            have b74 := b73.set2 (.int .i64 (cutT (S + nth (rowAt xss m) u * u * B) B)) (.int .i64 (cutB (S + nth (rowAt xss m) u * u * B) B))
            have hb94 := ((bUp hb89 hb93 hb89.size).setCell (p := ⟨wo.heap.size, 0, none⟩) (Nat.le_refl _) (.int .i64 (cutT (S + nth (rowAt xss m) u * u * B) B))).setCell (p := ⟨wo.heap.size, 1, none⟩) (Nat.le_refl _) (.int .i64 (cutB (S + nth (rowAt xss m) u * u * B) B))
            obtain ⟨h70, h71, hy0, hy1, hh7⟩ := b73
            go_simp
            refine tame_end (by kernel_rfl) ?_
            clear f70 f71 y70 y71 hf7 f90 f91 hf9 hS0 hca9 hcb hca8
            go_wp2
            go_roundw
            case rel => exact ⟨u + 1, by omega, by go_num, by rw [HU.out]; exact b74, hb94⟩
            case measure => simp [intOf] <;> omega
        · have hul : u = (rowAt xss m).length := by omega
          subst hul
          have CT := fun (w : World) (h : Rd w A' (ints (rowAt xss m))) => same_swap (l7Total_c A' (rowAt xss m) c' 5 w h (by decide) (allB_mono HL3.out (by decide) (by decide)) (by omega))
          have CT := Lib.hid CT
          have C53 := Lib.hid (fun w => l2Times_is (cutT (thS (rowAt xss m) least T B (rowAt xss m).length) B) (cutB (thS (rowAt xss m) least T B (rowAt xss m).length) B) 1 (sm (rowAt xss m)) (thS (rowAt xss m) least T B (rowAt xss m).length) (B * sm (rowAt xss m)) GX.out (gI_one' _) (by omega) (by omega) (by omega) (by omega) (by omega) (by omega) (by omega) (by omega) (Int.mul_pos (by omega) (by omega)) (th_end_eq HX.out) w)
          have hra8 := hra.below hb8 (Nat.le_refl _)
          generalize hS : thS (rowAt xss m) least T B (rowAt xss m).length = S at *
          generalize cutT S B = s0 at *
          generalize cutB S B = s1 at *
          have hb58 := b5.below hb8
          obtain ⟨f70, f71, _, _, _⟩ := b7
          clear hS
          go_wp2
          refine wp_region_still_tail 7 (by kernel_rfl) (by kernel_rfl) ?_
          simp only [List.take_succ_cons, List.take_zero, List.drop_succ_cons, List.drop_zero]
          iterate 5 still_step
          still_call (CT.out _ hra8)
          repeat still_step
          refine wpStill_nil ?_
          change wpList _ _ _ _ _ wr.drew
          clear f70 f71
          go_wp2_with fail
          refine (C53.out _).mono ?_
          rintro e w2 ⟨rfl, hb2⟩
          have hb82 := bUp hb8.drew hb2 hb8.size
          have b52 := hb58.drew.below hb2
          have b53 := b52.set2 (.int .i64 (cutT S (B * sm (rowAt xss m)))) (.int .i64 (cutB S (B * sm (rowAt xss m))))
          have b43 := (((b4.below hb8).drew.below hb2).setO ⟨w.heap.size + 1, 0, none⟩ (.int .i64 (cutT S (B * sm (rowAt xss m)))) (by simp)).setO ⟨w.heap.size + 1, 1, none⟩ (.int .i64 (cutB S (B * sm (rowAt xss m)))) (by simp)
          have hbv := ((bUp hb hb82 hb.size).setCell (p := ⟨w.heap.size + 1, 0, none⟩) (by simp) (.int .i64 (cutT S (B * sm (rowAt xss m))))).setCell (p := ⟨w.heap.size + 1, 1, none⟩) (by simp) (.int .i64 (cutB S (B * sm (rowAt xss m))))
          obtain ⟨h70, h71, hy0, hy1, hh7⟩ := b52
          go_wp2
          go_roundw
          case rel => exact ⟨m, by omega, rfl, by rw [HS1.out, HS2.out]; exact b53, b43, hbv⟩
          case measure => simp [intOf] <;> omega
end Go.Proofs.Ytjnllbmknblecaa
