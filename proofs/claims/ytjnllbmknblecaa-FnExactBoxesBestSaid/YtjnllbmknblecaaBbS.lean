/- Boxes opened in any order: the reference. (Written by gen_bbs.py.) -/
import Derived.Test.YtjnllbmknblecaaBbL
import Derived.Test.YtjnllbmknblecaaGaS
import Derived.Test.YtjnllbmknblecaaPairsW
namespace Go.Proofs.Ytjnllbmknblecaa
open Go.RowKit

set_option maxRecDepth 20000 in
set_option maxHeartbeats 1000000 in
theorem l7GreaterG_c (a b c d : Int) (ha : -30000000000 ≤ a) (ha2 : a ≤ 30000000000) (hb : 0 < b) (hb2 : b ≤ 100000000) (hc : -30000000000 ≤ c) (hc2 : c ≤ 30000000000) (hd : 0 < d) (hd2 : d ≤ 100000000) (w : World) :
    Calls Try.prog 107 #[.agg #[.int .i64 a, .int .i64 b], .agg #[.int .i64 c, .int .i64 d]] w (Quietly w (.agg #[.int .i64 (if a * d < c * b then c else a), .int .i64 (if a * d < c * b then d else b)])) := by
  obtain ⟨q, hq⟩ : ∃ q, q = decide (a * d < c * b) := ⟨_, rfl⟩
  cases q
  · have hn : ¬ a * d < c * b := by simpa using hq.symm
    rw [if_neg hn, if_neg hn]
    clear hn
    have CL := Lib.hid (fun w => l2Less_is a b c d false hq.symm ha ha2 hb hb2 hc hc2 hd hd2 w)
    clear hq
    have HB0 : Below w.heap.size w (((w.alloc (.cells #[.int .i64 a, .int .i64 b] 26)).alloc (.cells #[.int .i64 c, .int .i64 d] 26)).alloc (.cells #[.int .i64 0, .int .i64 0] 26)) := by
      with_reducible repeat (first | exact Below.refl _ _ | refine Below.alloc ?_ (by simp <;> omega) _)
    have B0 := ((Bx.new w (.int .i64 a) (.int .i64 b) 26).alloc (.cells #[.int .i64 c, .int .i64 d] 26)).alloc (.cells #[.int .i64 0, .int .i64 0] 26)
    have B1 := (Bx.new (w.alloc (.cells #[.int .i64 a, .int .i64 b] 26)) (.int .i64 c) (.int .i64 d) 26).alloc (.cells #[.int .i64 0, .int .i64 0] 26)
    have B2 := Bx.new ((w.alloc (.cells #[.int .i64 a, .int .i64 b] 26)).alloc (.cells #[.int .i64 c, .int .i64 d] 26)) (.int .i64 0) (.int .i64 0) 26
    simp only [World.size_alloc] at B1 B2
    go_enter Try.func107, Try.ntmps107
    go_upto_region 1 with fail
    generalize ((w.alloc (.cells #[.int .i64 a, .int .i64 b] 26)).alloc (.cells #[.int .i64 c, .int .i64 d] 26)).alloc (.cells #[.int .i64 0, .int .i64 0] 26) = x at *
    have C0 := B0
    have C1 := B1
    have C2 := B2
    obtain ⟨f0, f1, _, _, _⟩ := B0
    obtain ⟨f2, f3, _, _, _⟩ := B1
    go_wp2_with fail
    refine (CL.out _).mono ?_
    rintro e w2 ⟨rfl, hb2⟩
    clear f0 f1 f2 f3
    obtain ⟨f0, f1, _, _, _⟩ := C0.below hb2
    obtain ⟨f2, f3, _, _, _⟩ := C1.below hb2
    obtain ⟨f4, f5, y4, y5, _⟩ := C2.below hb2
    have HB2 := bUp HB0 hb2 HB0.size
    go_wp2
    exact bodyPost_ret (v := .agg #[.int .i64 a, .int .i64 b]) (by simp [results, Try.results107, go_sem, f4, f5]) rfl ⟨rfl, by with_reducible repeat (first | exact HB2 | refine Below.setCell ?_ (by simp <;> omega) _)⟩
  · have hn : a * d < c * b := by simpa using hq.symm
    rw [if_pos hn, if_pos hn]
    clear hn
    have CL := Lib.hid (fun w => l2Less_is a b c d true hq.symm ha ha2 hb hb2 hc hc2 hd hd2 w)
    clear hq
    have HB0 : Below w.heap.size w (((w.alloc (.cells #[.int .i64 a, .int .i64 b] 26)).alloc (.cells #[.int .i64 c, .int .i64 d] 26)).alloc (.cells #[.int .i64 0, .int .i64 0] 26)) := by
      with_reducible repeat (first | exact Below.refl _ _ | refine Below.alloc ?_ (by simp <;> omega) _)
    have B0 := ((Bx.new w (.int .i64 a) (.int .i64 b) 26).alloc (.cells #[.int .i64 c, .int .i64 d] 26)).alloc (.cells #[.int .i64 0, .int .i64 0] 26)
    have B1 := (Bx.new (w.alloc (.cells #[.int .i64 a, .int .i64 b] 26)) (.int .i64 c) (.int .i64 d) 26).alloc (.cells #[.int .i64 0, .int .i64 0] 26)
    have B2 := Bx.new ((w.alloc (.cells #[.int .i64 a, .int .i64 b] 26)).alloc (.cells #[.int .i64 c, .int .i64 d] 26)) (.int .i64 0) (.int .i64 0) 26
    simp only [World.size_alloc] at B1 B2
    go_enter Try.func107, Try.ntmps107
    go_upto_region 1 with fail
    generalize ((w.alloc (.cells #[.int .i64 a, .int .i64 b] 26)).alloc (.cells #[.int .i64 c, .int .i64 d] 26)).alloc (.cells #[.int .i64 0, .int .i64 0] 26) = x at *
    have C0 := B0
    have C1 := B1
    have C2 := B2
    obtain ⟨f0, f1, _, _, _⟩ := B0
    obtain ⟨f2, f3, _, _, _⟩ := B1
    go_wp2_with fail
    refine (CL.out _).mono ?_
    rintro e w2 ⟨rfl, hb2⟩
    clear f0 f1 f2 f3
    obtain ⟨f0, f1, _, _, _⟩ := C0.below hb2
    obtain ⟨f2, f3, _, _, _⟩ := C1.below hb2
    obtain ⟨f4, f5, y4, y5, _⟩ := C2.below hb2
    have HB2 := bUp HB0 hb2 HB0.size
    go_wp2
    exact bodyPost_ret (v := .agg #[.int .i64 c, .int .i64 d]) (by simp [results, Try.results107, go_sem, f4, f5]) rfl ⟨rfl, by with_reducible repeat (first | exact HB2 | refine Below.setCell ?_ (by simp <;> omega) _)⟩
/-- The greater one of two fractions over one denominator. -/
theorem gr_same {M O S : Int} (hS : 0 < S) : (if cutT M S * cutB O S < cutT O S * cutB M S then cutT O S else cutT M S) = cutT (mxI M O) S ∧ (if cutT M S * cutB O S < cutT O S * cutB M S then cutB O S else cutB M S) = cutB (mxI M O) S := by
  have g1 := gI_pos (a := M) (b := S) (by omega)
  have g2 := gI_pos (a := O) (b := S) (by omega)
  obtain ⟨m1, m2⟩ := cut_mul M S
  obtain ⟨o1, o2⟩ := cut_mul O S
  have b1 := cutB_pos (a := M) hS
  have b2 := cutB_pos (a := O) hS
  have hiff : cutT M S * cutB O S < cutT O S * cutB M S ↔ M < O := by
    have e1 : M * S = cutT M S * cutB O S * (gI M S * gI O S) := by
      conv => lhs; rw [← m1, ← o2]
      grind
    have e2 : O * S = cutT O S * cutB M S * (gI M S * gI O S) := by
      conv => lhs; rw [← o1, ← m2]
      grind
    have hg := Int.mul_pos g1 g2
    constructor
    · intro h
      have := Int.mul_lt_mul_of_pos_right h hg
      rw [← e1, ← e2] at this
      exact Int.lt_of_mul_lt_mul_right this (Int.le_of_lt hS)
    · intro h
      have := Int.mul_lt_mul_of_pos_right h hS
      rw [e1, e2] at this
      exact Int.lt_of_mul_lt_mul_right this (Int.le_of_lt hg)
  by_cases h : M < O
  · rw [if_pos (hiff.2 h), if_pos (hiff.2 h), mxI_r (by omega)]
    exact ⟨rfl, rfl⟩
  · rw [if_neg (fun h' => h (hiff.1 h')), if_neg (fun h' => h (hiff.1 h'))]
    rcases Int.lt_or_le O M with h1 | h1
    · rw [mxI_l h1]
      exact ⟨rfl, rfl⟩
    · obtain rfl : M = O := by omega
      rw [mxI_r (by omega)]
      exact ⟨rfl, rfl⟩
/-- A row of five fractions over one denominator. -/
def RowF (V : Nat → Int) (S : Int) (ps : List (Int × Int)) : Prop := ps.length = 5 ∧ ∀ v, v < 5 → pT ps v = cutT (V v) S ∧ pB ps v = cutB (V v) S
theorem op_e1 {a b O f S G : Int} (h : a * S = G * b) (hO : O = -f * S + G) : (a * 1 + -f * b) * S = O * (b * 1) := by subst hO; grind
set_option maxRecDepth 20000 in
set_option maxHeartbeats 4000000 in
theorem l7Open_c {V : Nat → Int} {b : Bxd} {S' : Int} {ps : List (Int × Int)} {s : Nat} (hb : lawB b.w = true) (hf0 : 0 ≤ b.fee) (hf : b.fee ≤ 20) (hS1 : 1 ≤ S') (hS2 : S' ≤ 390625) (hSS : S' * sm b.w ≤ 390625) (hV : ∀ s', s' ≤ 4 → 0 ≤ V s' ∧ V s' ≤ 4 * S') (hs : s ≤ 4) (hps : RowF V S' ps)
    (A : Option Addr) (c : Nat) (AR : Option Addr) (cR : Nat) (w : World) (hA : Rd w A (ints b.w)) (hR : Rd w AR (pcells ps)) :
    Calls Try.prog 108 #[boxV A b.w.length c b.fee, .int .i64 (s : Int), .slice AR 5 cR] w (Quietly w (.agg #[.int .i64 (cutT (oS V b (S' * sm b.w) s b.w.length) (S' * sm b.w)), .int .i64 (cutB (oS V b (S' * sm b.w) s b.w.length) (S' * sm b.w))])) := by
  obtain ⟨l1, l2, l3, l4, l5⟩ := lawB_yes hb
  have HL3 := Lib.hid l3
  have HV := Lib.hid hV
  have HPS := Lib.hid hps
  have HLB := Lib.hid hb
  clear l3 hV hps hb
  have HB0 : Below w.heap.size w (((w.alloc (.cells #[.slice A b.w.length c, .int .i64 b.fee] 54)).alloc (.cells #[.int .i64 0, .int .i64 0] 26)).alloc (.cells #[.int .i64 0, .int .i64 1] 26)) := by
    with_reducible repeat (first | exact Below.refl _ _ | refine Below.alloc ?_ (by simp <;> omega) _)
  have B3 := ((Bx.new w (.slice A b.w.length c) (.int .i64 b.fee) 54).alloc (.cells #[.int .i64 0, .int .i64 0] 26)).alloc (.cells #[.int .i64 0, .int .i64 1] 26)
  have B4 := (Bx.new (w.alloc (.cells #[.slice A b.w.length c, .int .i64 b.fee] 54)) (.int .i64 0) (.int .i64 0) 26).alloc (.cells #[.int .i64 0, .int .i64 1] 26)
  have B5 := Bx.new ((w.alloc (.cells #[.slice A b.w.length c, .int .i64 b.fee] 54)).alloc (.cells #[.int .i64 0, .int .i64 0] 26)) (.int .i64 0) (.int .i64 1) 26
  simp only [World.size_alloc] at B4 B5
  go_enter Try.func108, Try.ntmps108
  go_upto_region 2 with fail
  generalize ((w.alloc (.cells #[.slice A b.w.length c, .int .i64 b.fee] 54)).alloc (.cells #[.int .i64 0, .int .i64 0] 26)).alloc (.cells #[.int .i64 0, .int .i64 1] 26) = x at *
  go_wp2
  go_loopw [8] (fun i wr => ∃ u : Nat, u ≤ b.w.length ∧ i = .int .i64 u ∧ Bx wr (w.heap.size + 1 + 1) (.int .i64 (cutT (gS2 V b.w s u) S')) (.int .i64 (cutB (gS2 V b.w s u) S')) ∧ Bx wr w.heap.size (.slice A b.w.length c) (.int .i64 b.fee) ∧ Bx wr (w.heap.size + 1) (.int .i64 0) (.int .i64 0) ∧ Below w.heap.size w wr) (fun i _ => b.w.length - (intOf i).toNat)
  case atStart => exact ⟨0, by omega, rfl, by rw [show gS2 V b.w s 0 = 0 from rfl, (cut_zero (b := S') (by omega)).1, (cut_zero (b := S') (by omega)).2]; exact B5, B3, B4, HB0⟩
  case round =>
    obtain ⟨v, rfl⟩ : ∃ v : World, v = wr := ⟨_, rfl⟩
    obtain ⟨u, hu, rfl, b5, b3, b4, hB⟩ := hrel
    clear B3 B4 B5 HB0
    have bs := gS2_top HLB.out (S' := S') (by omega) HV.out hs hu
    have HX := Lib.hid (cut_cross (gS2 V b.w s u) S')
    have GX := Lib.hid (gI_cut (a := gS2 V b.w s u) (b := S') (by omega))
    have bx0 := cutT_bd (a := gS2 V b.w s u) (b := S') (by omega) (M := 1562500) (by omega) (by omega)
    have bx1 := cutB_bd (a := gS2 V b.w s u) (b := S') (M := 390625) (by omega) (by omega)
    by_cases hlu : u < b.w.length
    · obtain ⟨M, hM⟩ : ∃ M, M = max s u := ⟨_, rfl⟩
      have bw := allB_nth HL3.out hlu
      have tb := bd_term HLB.out (S' := S') (by omega) HV.out hs hlu
      rw [← hM] at tb
      have hM5 : M < 5 := by omega
      have i5 : (0 : Int) ≤ (M : Int) := by omega
      have i6 : (M : Int) < 5 := by omega
      have hMx : mxI (s : Int) (u : Int) = (M : Int) := by unfold mxI; split <;> omega
      have hMM : (max s u) = M := hM.symm
      have HU : Hid (gS2 V b.w s (u + 1) = gS2 V b.w s u + nth b.w u * V M) := Lib.hid (by rw [gS2, hMM])
      have CM := l1Most_c (s : Int) (u : Int) v.drew
      rw [hMx] at CM
      have hpv := HPS.out.2 M hM5
      have HPL := Lib.hid HPS.out.1
      have HVC := Lib.hid (cut_cross (V M) S')
      have GVC := gI_cut (a := V M) (b := S') (by omega)
      have bv0 := cutT_bd (a := V M) (b := S') (by omega) (M := 1562500) (by omega) (by omega)
      have bv1 := cutB_bd (a := V M) (b := S') (M := 390625) (by omega) (by omega)
      obtain ⟨y0, y1⟩ := pcells_get ps M (by rw [HPL.out]; exact hM5)
      obtain ⟨ar, rfl, r0⟩ := (hR.below hB (Nat.le_refl _)) _ _ y0
      obtain ⟨_, er, r1⟩ := (hR.below hB (Nat.le_refl _)) _ _ y1
      injection er with er
      subst er
      rw [hpv.1] at r0
      rw [hpv.2] at r1
      have r1' := cellOffB 1 (by omega) r1
      clear hM hMx hMM hpv y0 y1 r1
      have m5 : nth b.w u * (4 * S') ≤ 5 * (4 * S') := Int.mul_le_mul_of_nonneg_right tb.2.1 (by omega)
      have C13 := Lib.hid (fun w => l2Times_is (nth b.w u) 1 (cutT (V M) S') (cutB (V M) S') (nth b.w u * V M) S' (gI_one _) GVC (by omega) (by omega) (by omega) (by omega) (by omega) (by omega) (by omega) (by omega) (by omega) (ga_t_eq HVC.out) w)
      have HP := Lib.hid (cut_cross (nth b.w u * V M) S')
      have bp0 := cutT_bd (a := nth b.w u * V M) (b := S') (by omega) (M := 7812500) (by omega) (by omega)
      have bp1 := cutB_bd (a := nth b.w u * V M) (b := S') (M := 390625) (by omega) (by omega)
      generalize cutT (V M) S' = t0 at *
      generalize cutB (V M) S' = t1 at *
      generalize cutT (nth b.w u * V M) S' = p0 at *
      generalize cutB (nth b.w u * V M) S' = p1 at *
      generalize cutT (gS2 V b.w s u) S' = s0 at *
      generalize cutB (gS2 V b.w s u) S' = s1 at *
      have C14 := Lib.hid (fun w => l2Add_c s0 s1 p0 p1 (gS2 V b.w s u + nth b.w u * V M) S' (by omega) (by omega) (by omega) (by omega) (by omega) (by omega) (by omega) (by omega) (by omega) (ga_s_eq HX.out HP.out) w)
      obtain ⟨ba, rfl, hcb⟩ := (hA.below hB (Nat.le_refl _)).intN hlu
      obtain ⟨f0, f1, _, _, hf0⟩ := id b5
      obtain ⟨f2, f3, _, _, hf2⟩ := id b3
      clear bw tb bv0 bv1 bp0 bp1 m5 bx0 bx1 bs
      go_upto_region 5 with fail
      have hd1 : Below v.heap.size v v.drew := Below.drew (Below.refl _ _)
      have SK1 : Hid (∀ w', Below v.heap.size v w' → w'.cell? ⟨w.heap.size + 1 + 1, 0, none⟩ = some (.int .i64 s0) ∧ w'.cell? ⟨w.heap.size + 1 + 1, 1, none⟩ = some (.int .i64 s1) ∧ w'.cell? ⟨w.heap.size, 0, none⟩ = some (.slice (some ba) b.w.length c) ∧ w'.cell? (ba.add u) = some (.int .i64 (nth b.w u)) ∧ w'.cell? (ar.add (M * 2)) = some (.int .i64 t0) ∧ w'.cell? ⟨(ar.add (M * 2)).block, (ar.add (M * 2)).off + 1, none⟩ = some (.int .i64 t1)) := Lib.hid fun w' HV => ⟨(HV.cell (p := ⟨w.heap.size + 1 + 1, 0, none⟩) hf0).trans f0, (HV.cell (p := ⟨w.heap.size + 1 + 1, 1, none⟩) hf0).trans f1, (HV.cell (p := ⟨w.heap.size, 0, none⟩) hf2).trans f2, (HV.cell (cell_lt hcb)).trans hcb, (HV.cell (cell_lt r0)).trans r0, (HV.cell (cell_lt r1')).trans r1'⟩
      clear f0 f1 f2 f3 hcb r0 r1'
      have hS1_0 := SK1.out _ hd1
      refine tamed_region (S := fun w' => w'.cell? ⟨w.heap.size + 1 + 1, 0, none⟩ = some (.int .i64 s0) ∧ w'.cell? ⟨w.heap.size + 1 + 1, 1, none⟩ = some (.int .i64 s1) ∧ w'.cell? ⟨w.heap.size, 0, none⟩ = some (.slice (some ba) b.w.length c) ∧ w'.cell? (ba.add u) = some (.int .i64 (nth b.w u)) ∧ w'.cell? (ar.add (M * 2)) = some (.int .i64 t0) ∧ w'.cell? ⟨(ar.add (M * 2)).block, (ar.add (M * 2)).off + 1, none⟩ = some (.int .i64 t1)) (fun k => k == 15) (by kernel_rfl) ?_
      refine tameT (k := 0) ?_ rfl (by kernel_rfl) (by kernel_rfl) (by kernel_rfl) (by kernel_rfl) (by kernel_rfl) (fun _ _ _ h => h) (by kernel_rfl) hS1_0 (fun v hv => ?_) ?_
      rotate_left
      · (obtain ⟨k1, k2, k3, k4, k5, k6⟩ := hv; go_simp; all_goals rfl)
      simp only [Act.put, List.setIfInBounds_toArray]
      refine tame0 (k := 1) ?_ rfl (by kernel_rfl) (by kernel_rfl) (by kernel_rfl) (fun _ _ _ h => h) (by kernel_rfl) (fun v => ?_) ?_
      rotate_left
      · (go_simp; all_goals rfl)
      simp only [Act.put]
      refine tameT (k := 2) ?_ rfl (by kernel_rfl) (by kernel_rfl) (by kernel_rfl) (by kernel_rfl) (by kernel_rfl) (fun _ _ _ h => h) (by kernel_rfl) hS1_0 (fun v hv => ?_) ?_
      rotate_left
      · (obtain ⟨k1, k2, k3, k4, k5, k6⟩ := hv; go_simp; all_goals rfl)
      simp only [Act.put]
      refine tame0 (k := 3) ?_ rfl (by kernel_rfl) (by kernel_rfl) (by kernel_rfl) (fun _ _ _ h => h) (by kernel_rfl) (fun v => ?_) ?_
      rotate_left
      · (go_simp; all_goals rfl)
      simp only [Act.put]
      refine tame0 (k := 4) ?_ rfl (by kernel_rfl) (by kernel_rfl) (by kernel_rfl) (fun _ _ _ h => h) (by kernel_rfl) (fun v => ?_) ?_
      rotate_left
      · (go_simp; all_goals rfl)
      simp only [Act.put]
      refine tameT (k := 5) ?_ rfl (by kernel_rfl) (by kernel_rfl) (by kernel_rfl) (by kernel_rfl) (by kernel_rfl) (fun _ _ _ h => h) (by kernel_rfl) hS1_0 (fun v hv => ?_) ?_
      rotate_left
      · (obtain ⟨k1, k2, k3, k4, k5, k6⟩ := hv; go_simp; all_goals rfl)
      simp only [Act.put]
      refine tame0 (k := 6) ?_ rfl (by kernel_rfl) (by kernel_rfl) (by kernel_rfl) (fun _ _ _ h => h) (by kernel_rfl) (fun v => ?_) ?_
      rotate_left
      · (go_simp; all_goals rfl)
      simp only [Act.put]
      refine tame0 (k := 7) ?_ rfl (by kernel_rfl) (by kernel_rfl) (by kernel_rfl) (fun _ _ _ h => h) (by kernel_rfl) (fun v => ?_) ?_
      rotate_left
      · (go_simp; all_goals rfl)
      simp only [Act.put]
      refine tame0 (k := 8) ?_ rfl (by kernel_rfl) (by kernel_rfl) (by kernel_rfl) (fun _ _ _ h => h) (by kernel_rfl) (fun v => ?_) ?_
      rotate_left
      · (go_simp; all_goals rfl)
      simp only [Act.put]
      refine tame0 (k := 9) ?_ rfl (by kernel_rfl) (by kernel_rfl) (by kernel_rfl) (fun _ _ _ h => h) (by kernel_rfl) (fun v => ?_) ?_
      rotate_left
      · (go_simp; all_goals rfl)
      simp only [Act.put]
      have hS1_0v := Lib.hid hS1_0
      clear hS1_0
      refine tame_one (k := 10) (by kernel_rfl) rfl (by kernel_rfl) ?_
      go_simp
      refine (CM).mono ?_
      rintro e v' ⟨rfl, rfl⟩
      refine ⟨by first | exact hS1_0v | exact Hid.out hS1_0v, ?_⟩
      refine tame0 (k := 11) ?_ rfl (by kernel_rfl) (by kernel_rfl) (by kernel_rfl) (fun _ _ _ h => h) (by kernel_rfl) (fun v => ?_) ?_
      rotate_left
      · (go_simp; all_goals rfl)
      simp only [Act.put]
      have hS1_0vo := Hid.out hS1_0v
      refine tameT (k := 12) ?_ rfl (by kernel_rfl) (by kernel_rfl) (by kernel_rfl) (by kernel_rfl) (by kernel_rfl) (fun _ _ _ h => h) (by kernel_rfl) hS1_0vo (fun v hv => ?_) ?_
      rotate_left
      · (obtain ⟨k1, k2, k3, k4, k5, k6⟩ := hv; go_simp; all_goals rfl)
      simp only [Act.put]
      have hS1_0vov := Lib.hid hS1_0vo
      clear hS1_0vo
      refine tame_one (k := 13) (by kernel_rfl) rfl (by kernel_rfl) ?_
      go_simp
      refine (C13.out _).mono ?_
      rintro e v3 ⟨rfl, b13⟩
      have hd1_1 := bUp hd1 b13 (Nat.le_refl _)
      have hS1_1 := Lib.hid (SK1.out _ hd1_1)
      refine ⟨by first | exact hS1_1 | exact Hid.out hS1_1, ?_⟩
      refine tame_one (k := 14) (by kernel_rfl) rfl (by kernel_rfl) ?_
      go_simp
      refine (C14.out _).mono ?_
      rintro e v4 ⟨rfl, b14⟩
      have hd1_2 := bUp hd1_1 b14 hd1_1.size
      have hS1_2 := Lib.hid (SK1.out _ hd1_2)
      refine ⟨by first | exact hS1_2 | exact Hid.out hS1_2, ?_⟩
      have b54 := b5.below hd1_2
      have b55 := b54.set2 (.int .i64 (cutT (gS2 V b.w s u + nth b.w u * V M) S')) (.int .i64 (cutB (gS2 V b.w s u + nth b.w u * V M) S'))
      have b35 := ((b3.below hd1_2).setO ⟨w.heap.size + 1 + 1, 0, none⟩ (.int .i64 (cutT (gS2 V b.w s u + nth b.w u * V M) S')) (by simp; omega)).setO ⟨w.heap.size + 1 + 1, 1, none⟩ (.int .i64 (cutB (gS2 V b.w s u + nth b.w u * V M) S')) (by simp; omega)
      have b45 := ((b4.below hd1_2).setO ⟨w.heap.size + 1 + 1, 0, none⟩ (.int .i64 (cutT (gS2 V b.w s u + nth b.w u * V M) S')) (by simp)).setO ⟨w.heap.size + 1 + 1, 1, none⟩ (.int .i64 (cutB (gS2 V b.w s u + nth b.w u * V M) S')) (by simp)
      have hb5 := ((bUp hB hd1_2 hB.size).setCell (p := ⟨w.heap.size + 1 + 1, 0, none⟩) (by simp; omega) (.int .i64 (cutT (gS2 V b.w s u + nth b.w u * V M) S'))).setCell (p := ⟨w.heap.size + 1 + 1, 1, none⟩) (by simp; omega) (.int .i64 (cutB (gS2 V b.w s u + nth b.w u * V M) S'))
      obtain ⟨h70, h71, hy0, hy1, hh7⟩ := b54
      refine tame_one (k := 15) (by kernel_rfl) rfl (by kernel_rfl) ?_
      go_simp
      try (refine ⟨fun h => absurd h (by decide), ?_⟩)
      refine tame_end (by kernel_rfl) ?_
      clear hf0 hf2
      go_wp2
      go_roundw
      case rel => exact ⟨u + 1, by omega, by go_num, by rw [HU.out]; exact b55, b35, b45, hb5⟩
      case measure => simp [intOf] <;> omega
    · have hul : u = b.w.length := by omega
      subst hul
      have CT := Lib.hid (fun (w : World) (h : Rd w A (ints b.w)) => same_swap (l7Total_c A b.w c 5 w h (by decide) (allB_mono HL3.out (by decide) (by decide)) (by omega)))
      have hG := gS2_top HLB.out (S' := S') (by omega) HV.out hs (Nat.le_refl b.w.length)
      have hT1 : 1 * 1 ≤ S' * sm b.w := Int.mul_le_mul (by omega) (by omega) (by omega) (by omega)
      have C37 := Lib.hid (fun w => l2Times_is (cutT (gS2 V b.w s b.w.length) S') (cutB (gS2 V b.w s b.w.length) S') 1 (sm b.w) (gS2 V b.w s b.w.length) (S' * sm b.w) GX.out (gI_one' _) (by omega) (by omega) (by omega) (by omega) (by omega) (by omega) (by omega) (by omega) (by omega) (ga_end_eq HX.out) w)
      have HO := oS_eq V b (S' * sm b.w) s b.w.length
      have HX2 := cut_cross (gS2 V b.w s b.w.length) (S' * sm b.w)
      have z0 := cutT_bd (a := gS2 V b.w s b.w.length) (b := S' * sm b.w) (by omega) (M := 1562500) (by omega) (by omega)
      have z1 := cutB_bd (a := gS2 V b.w s b.w.length) (b := S' * sm b.w) (M := 390625) (by omega) (by omega)
      have C42 := Lib.hid (fun w => l2Add_c (cutT (gS2 V b.w s b.w.length) (S' * sm b.w)) (cutB (gS2 V b.w s b.w.length) (S' * sm b.w)) (-b.fee) 1 (oS V b (S' * sm b.w) s b.w.length) (S' * sm b.w) (by omega) (by omega) (by omega) (by omega) (by omega) (by omega) (by omega) (by omega) (by omega) (op_e1 HX2 HO) w)
      have har := Lib.hid (hA.below hB (Nat.le_refl _))
      have ef : IntKind.i64.wrap (-b.fee) = -b.fee := IntWalk.i64_in _ (by omega)
      clear HO HX2 z0 z1 hG bs bx0 bx1 hT1
      generalize gS2 V b.w s b.w.length = G at *
      generalize hGS : cutT G (S' * sm b.w) = g0 at *
      generalize hGB : cutB G (S' * sm b.w) = g1 at *
      clear hGS hGB
      generalize oS V b (S' * sm b.w) s b.w.length = O at *
      generalize S' * sm b.w = SS at *
      generalize cutT G S' = s0 at *
      generalize cutB G S' = s1 at *
      obtain ⟨f0, f1, _, _, hf0⟩ := id b5
      obtain ⟨f2, f3, _, _, hf2⟩ := id b3
      go_upto_region 6 with fail
      have hd2 : Below v.heap.size v v.drew := Below.drew (Below.refl _ _)
      have SK2 : Hid (∀ w', Below v.heap.size v w' → w'.cell? ⟨w.heap.size + 1 + 1, 0, none⟩ = some (.int .i64 s0) ∧ w'.cell? ⟨w.heap.size + 1 + 1, 1, none⟩ = some (.int .i64 s1) ∧ w'.cell? ⟨w.heap.size, 0, none⟩ = some (.slice A b.w.length c) ∧ w'.cell? ⟨w.heap.size, 1, none⟩ = some (.int .i64 b.fee)) := Lib.hid fun w' HV => ⟨(HV.cell (p := ⟨w.heap.size + 1 + 1, 0, none⟩) hf0).trans f0, (HV.cell (p := ⟨w.heap.size + 1 + 1, 1, none⟩) hf0).trans f1, (HV.cell (p := ⟨w.heap.size, 0, none⟩) hf2).trans f2, (HV.cell (p := ⟨w.heap.size, 1, none⟩) hf2).trans f3⟩
      clear f0 f1 f2 f3
      have hS2_0 := SK2.out _ hd2
      refine tamed_region (S := fun w' => w'.cell? ⟨w.heap.size + 1 + 1, 0, none⟩ = some (.int .i64 s0) ∧ w'.cell? ⟨w.heap.size + 1 + 1, 1, none⟩ = some (.int .i64 s1) ∧ w'.cell? ⟨w.heap.size, 0, none⟩ = some (.slice A b.w.length c) ∧ w'.cell? ⟨w.heap.size, 1, none⟩ = some (.int .i64 b.fee)) (fun k => k == 11) (by kernel_rfl) ?_
      refine tameT (k := 0) ?_ rfl (by kernel_rfl) (by kernel_rfl) (by kernel_rfl) (by kernel_rfl) (by kernel_rfl) (fun _ _ _ h => h) (by kernel_rfl) hS2_0 (fun v hv => ?_) ?_
      rotate_left
      · (obtain ⟨k1, k2, k3, k4⟩ := hv; go_simp; all_goals rfl)
      simp only [Act.put, List.setIfInBounds_toArray]
      refine tame0 (k := 1) ?_ rfl (by kernel_rfl) (by kernel_rfl) (by kernel_rfl) (fun _ _ _ h => h) (by kernel_rfl) (fun v => ?_) ?_
      rotate_left
      · (go_simp; all_goals rfl)
      simp only [Act.put]
      refine tameT (k := 2) ?_ rfl (by kernel_rfl) (by kernel_rfl) (by kernel_rfl) (by kernel_rfl) (by kernel_rfl) (fun _ _ _ h => h) (by kernel_rfl) hS2_0 (fun v hv => ?_) ?_
      rotate_left
      · (obtain ⟨k1, k2, k3, k4⟩ := hv; go_simp; all_goals rfl)
      simp only [Act.put]
      refine tame0 (k := 6) ?_ rfl (by kernel_rfl) (by kernel_rfl) (by kernel_rfl) (fun _ _ _ h => h) (by kernel_rfl) (fun v => ?_) ?_
      rotate_left
      · (go_simp; all_goals rfl)
      simp only [Act.put]
      refine tameT (k := 7) ?_ rfl (by kernel_rfl) (by kernel_rfl) (by kernel_rfl) (by kernel_rfl) (by kernel_rfl) (fun _ _ _ h => h) (by kernel_rfl) hS2_0 (fun v hv => ?_) ?_
      rotate_left
      · (obtain ⟨k1, k2, k3, k4⟩ := hv; go_simp; all_goals rfl)
      simp only [Act.put]
      refine tame0 (k := 8) ?_ rfl (by kernel_rfl) (by kernel_rfl) (by kernel_rfl) (fun _ _ _ h => h) (by kernel_rfl) (fun v => ?_) ?_
      rotate_left
      · (go_simp; all_goals rfl)
      simp only [Act.put]
      refine tame0 (k := 9) ?_ rfl (by kernel_rfl) (by kernel_rfl) (by kernel_rfl) (fun _ _ _ h => h) (by kernel_rfl) (fun v => ?_) ?_
      rotate_left
      · (go_simp; all_goals rfl)
      simp only [Act.put]
      have hS2_0v := Lib.hid hS2_0
      clear hS2_0
      refine tame_one (k := 3) (by kernel_rfl) rfl (by kernel_rfl) ?_
      go_simp
      refine (CT.out v.drew (har.out.drew)).mono ?_
      rintro e v' ⟨rfl, rfl⟩
      refine ⟨by first | exact hS2_0v | exact Hid.out hS2_0v, ?_⟩
      refine tame0 (k := 4) ?_ rfl (by kernel_rfl) (by kernel_rfl) (by kernel_rfl) (fun _ _ _ h => h) (by kernel_rfl) (fun v => ?_) ?_
      rotate_left
      · (go_simp; all_goals rfl)
      simp only [Act.put]
      refine tame_one (k := 5) (by kernel_rfl) rfl (by kernel_rfl) ?_
      go_simp
      refine (C37.out _).mono ?_
      rintro e v3 ⟨rfl, b13⟩
      have hd2_1 := bUp hd2 b13 (Nat.le_refl _)
      have hS2_1 := Lib.hid (SK2.out _ hd2_1)
      refine ⟨by first | exact hS2_1 | exact Hid.out hS2_1, ?_⟩
      refine tame_one (k := 10) (by kernel_rfl) rfl (by kernel_rfl) ?_
      go_simp
      refine (C42.out _).mono ?_
      rintro e v4 ⟨rfl, b14⟩
      have hd2_2 := bUp hd2_1 b14 hd2_1.size
      have hS2_2 := Lib.hid (SK2.out _ hd2_2)
      refine ⟨by first | exact hS2_2 | exact Hid.out hS2_2, ?_⟩
      have b54 := b4.below hd2_2
      have HB2 := bUp hB hd2_2 hB.size
      obtain ⟨h70, h71, hy0, hy1, hh7⟩ := b54
      refine tame_one (k := 11) (by kernel_rfl) rfl (by kernel_rfl) ?_
      go_simp
      try (refine ⟨fun h => absurd h (by decide), ?_⟩)
      refine tame_end (by kernel_rfl) ?_
      clear hf0 hf2
      go_wp2
      exact bodyPost_ret (v := .agg #[.int .i64 (cutT O SS), .int .i64 (cutB O SS)]) (by simp [results, Try.results108, go_sem, h70, h71]) rfl ⟨rfl, by with_reducible repeat (first | exact HB2 | refine Below.setCell ?_ (by simp <;> omega) _)⟩
end Go.Proofs.Ytjnllbmknblecaa
