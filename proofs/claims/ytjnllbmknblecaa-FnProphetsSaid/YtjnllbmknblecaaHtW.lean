/- HalfThreshold: both packages' walks. -/
import Derived.Test.YtjnllbmknblecaaProL
import Derived.Test.YtjnllbmknblecaaThX
import Derived.Test.YtjnllbmknblecaaBestP
import Derived.Test.YtjnllbmknblecaaGaL
namespace Go.Proofs.Ytjnllbmknblecaa
open Go.RowKit

def hlV (xss : List (List Int)) : Int := if lawsB xss then (hlK xss : Int) else 0
theorem hl_no {xss : List (List Int)} (h : lawsB xss = false) : hlV xss = 0 := by simp [hlV, h]
theorem hl_yes {xss : List (List Int)} (h : lawsB xss = true) {k : Nat} (h1 : okAt xss k = true) (hl : ∀ j, j < k → okAt xss j = false) (hk : k ≤ 5) : hlV xss = (k : Int) := by
  unfold hlV
  rw [if_pos h, hlK_eq h1 hl hk]
theorem wtK_four {xs : List Int} (h : ∀ v, 0 ≤ nth xs v) (k : Nat) (hk : k ≤ xs.length) (h5 : xs.length ≤ 5) : 0 ≤ wtK xs k ∧ wtK xs k ≤ 4 * sm (xs.take k) := by
  induction k with
  | zero => simp [wtK, sm]
  | succ k ih =>
    have ih := ih (by omega)
    rw [wtK, sm_succ _ _ (by omega)]
    have h1 : (k : Int) * nth xs k ≤ 4 * nth xs k := Int.mul_le_mul_of_nonneg_right (by omega) (h k)
    have h2 := Int.mul_nonneg (show (0 : Int) ≤ (k : Int) by omega) (h k)
    omega
theorem wt_best {xss : List (List Int)} (h : lawsB xss = true) : 0 ≤ wt (best xss) ∧ wt (best xss) ≤ 4 * thB xss xss.length := by
  have hb := best_bd h
  have h1 := wtK_four (fun v => (hb.2 v).1) (best xss).length (Nat.le_refl _) (by rw [hb.1]; exact Nat.le_refl _)
  rw [List.take_of_length_le (Nat.le_refl _), best_sm_eq h] at h1
  exact h1
theorem cut_less {a b c d : Int} (hb : 0 < b) (hd : 0 < d) (m : Int) : m * cutT a b * cutB c d < cutT c d * cutB a b ↔ m * a * d < c * b := by
  have e1 := cut_cross a b
  have e2 := cut_cross c d
  have p1 := cutB_pos (a := a) hb
  have p2 := cutB_pos (a := c) hd
  generalize cutT a b = x0 at *
  generalize cutB a b = x1 at *
  generalize cutT c d = y0 at *
  generalize cutB c d = y1 at *
  have hbd : 0 < b * d := Int.mul_pos hb hd
  have hxy : 0 < x1 * y1 := Int.mul_pos p1 p2
  have f1 : m * x0 * y1 * (b * d) = m * a * d * (x1 * y1) := by grind
  have f2 : y0 * x1 * (b * d) = c * b * (x1 * y1) := by grind
  constructor
  · intro h
    have := Int.mul_lt_mul_of_pos_right h hbd
    rw [f1, f2] at this
    exact Int.lt_of_mul_lt_mul_right this (by omega)
  · intro h
    have := Int.mul_lt_mul_of_pos_right h hxy
    rw [← f1, ← f2] at this
    exact Int.lt_of_mul_lt_mul_right this (by omega)
theorem half_less {T W B : Int} (hB : 0 < B) : (1 * T * (B * 2) < W * B) ↔ ¬ W ≤ 2 * T := by
  constructor
  · intro h
    have e : 1 * T * (B * 2) = (2 * T) * B := by grind
    rw [e] at h
    have := Int.lt_of_mul_lt_mul_right h (by omega)
    omega
  · intro h
    have : (2 * T) * B < W * B := Int.mul_lt_mul_of_pos_right (by omega) hB
    have e : 1 * T * (B * 2) = (2 * T) * B := by grind
    rw [e]
    exact this
theorem okAt_spec {xss : List (List Int)} (h : lawsB xss = true) (k : Nat) :
    decide (cutT (thT xss k xss.length) (thB xss xss.length) * cutB (wt (best xss)) (thB xss xss.length * 2) < cutT (wt (best xss)) (thB xss xss.length * 2) * cutB (thT xss k xss.length) (thB xss xss.length)) = !okAt xss k := by
  have hB := (thB_bd h xss.length (Nat.le_refl _)).1
  have h1 := cut_less (a := thT xss k xss.length) (b := thB xss xss.length) (c := wt (best xss)) (d := thB xss xss.length * 2) (by omega) (by omega) 1
  rw [Int.one_mul] at h1
  rw [decide_eq_decide.2 (h1.trans (half_less (by omega)))]
  unfold okAt
  rw [decide_not]
theorem okAt_impl {xss : List (List Int)} (h : lawsB xss = true) (k : Nat) :
    (2 * cutT (thT xss k xss.length) (thB xss xss.length) * cutB (wt (best xss)) (thB xss xss.length) < cutT (wt (best xss)) (thB xss xss.length) * cutB (thT xss k xss.length) (thB xss xss.length)) ↔ okAt xss k = false := by
  have hB := (thB_bd h xss.length (Nat.le_refl _)).1
  refine (cut_less (a := thT xss k xss.length) (b := thB xss xss.length) (c := wt (best xss)) (d := thB xss xss.length) (by omega) (by omega) 2).trans ?_
  unfold okAt
  rw [decide_eq_false_iff_not]
  constructor
  · intro h1 h2
    have := Int.mul_le_mul_of_nonneg_right h2 (show 0 ≤ thB xss xss.length by omega)
    omega
  · intro h1
    exact Int.mul_lt_mul_of_pos_right (by omega) (by omega)
theorem half_eq {cs cb W B : Int} (h : cs * B = W * cb) : (cs * 1) * (B * 2) = W * (cb * 2) := by grind

theorem specHt_no (A : Option Addr) (xss : List (List Int)) (c : Nat) (w : World) (ha : RdSS w A xss) (hs : SzSS xss) (h : lawsB xss = false) :
    Calls Try.prog 41 #[.slice A xss.length c] w (Quietly w (.tuple #[.int .i64 0, .bool false])) := by
  go_enter Try.func41, Try.ntmps41
  go_wp2_with (go_at_call 72; refine (l7Laws_is _ _ _ _ (by assumption) _ ha hs).mono ?_; rintro e w' ⟨rfl, rfl⟩)
  go_ret2
  exact ⟨rfl, Below.refl _ _⟩
set_option maxRecDepth 20000 in
set_option maxHeartbeats 1000000 in
theorem specHt_yes (A : Option Addr) (xss : List (List Int)) (c : Nat) (w : World) (ha : RdSS w A xss) (hs : SzSS xss) (h : lawsB xss = true) :
    Calls Try.prog 41 #[.slice A xss.length c] w (Quietly w (.tuple #[.int .i64 (hlV xss), .bool true])) := by
  have HH := Lib.hid h
  have hb := best_bd h
  have HL := Lib.hid hb.1
  have HA := Lib.hid hb.allB
  have bB := thB_bd h xss.length (Nat.le_refl _)
  have bW := wt_best h
  have HS := Lib.hid (best_sm_eq h)
  have HX := Lib.hid (cut_cross (wt (best xss)) (thB xss xss.length))
  have GX := Lib.hid (gI_cut (a := wt (best xss)) (b := thB xss xss.length) (by omega))
  have bx0 := cutT_bd (a := wt (best xss)) (b := thB xss xss.length) (by omega) (M := 1562500) (by omega) (by omega)
  have bx1 := cutB_bd (a := wt (best xss)) (b := thB xss xss.length) (M := 390625) (by omega) (by omega)
  have CT := Lib.hid (fun w => l2Times_is (cutT (wt (best xss)) (thB xss xss.length)) (cutB (wt (best xss)) (thB xss xss.length)) 1 2 (wt (best xss)) (thB xss xss.length * 2) GX.out (gI_one' _) (by omega) (by omega) (by omega) (by omega) (by omega) (by omega) (by omega) (by omega) (by omega) (half_eq HX.out) w)
  have bh0 := cutT_bd (a := wt (best xss)) (b := thB xss xss.length * 2) (by omega) (M := 1562500) (by omega) (by omega)
  have bh1 := cutB_bd (a := wt (best xss)) (b := thB xss xss.length * 2) (M := 781250) (by omega) (by omega)
  have HO := Lib.hid (okAt_spec h)
  clear hb
  go_enter Try.func41, Try.ntmps41
  go_wp2_with fail
  refine (l7Laws_is _ _ _ _ h _ ha hs).mono ?_
  rintro e w' ⟨rfl, rfl⟩
  clear h
  go_wp2_with fail
  refine (l7Best_c _ _ _ _ ha HH.out).mono ?_
  rintro e w2 ⟨g, rfl, ho, hb⟩
  have W1 := l7Mean_c (some ⟨g, 0, none⟩) (best xss) 5 244140625 w2 ho.rd (by decide) HA.out (by rw [HL.out]; decide) (by rw [HS.out]; omega)
  rw [HL.out, HS.out] at W1
  have W1 := Lib.hid W1
  go_wp2_with fail
  refine W1.out.mono ?_
  rintro e w3 ⟨rfl, hb3⟩
  clear W1
  have HB3 := bUp hb hb3 hb.size
  go_wp2_with fail
  refine (CT.out _).mono ?_
  rintro e w4 ⟨rfl, hb4⟩
  have HB4 := bUp HB3 hb4 HB3.size
  generalize cutT (wt (best xss)) (thB xss xss.length * 2) = h0 at *
  generalize cutB (wt (best xss)) (thB xss xss.length * 2) = h1 at *
  have B0 := Bx.new w4 (.int .i64 h0) (.int .i64 h1) 26
  have HB5 : Below w.heap.size w (w4.alloc (.cells #[.int .i64 h0, .int .i64 h1] 26)) := HB4.alloc HB4.size _
  clear CT
  go_upto_region 4 with fail
  generalize w4.alloc (.cells #[.int .i64 h0, .int .i64 h1] 26) = x at *
  go_wp2
  go_loopw [5] (fun i wr => ∃ k : Nat, k ≤ 5 ∧ i = .int .i64 k ∧ (∀ j, j < k → okAt xss j = false) ∧ Bx wr w4.heap.size (.int .i64 h0) (.int .i64 h1) ∧ Below w.heap.size w wr) (fun i _ => 5 - (intOf i).toNat)
  case atStart => exact ⟨0, by omega, rfl, fun j hj => by omega, B0, HB5⟩
  case round =>
    obtain ⟨k, hk, rfl, hall, b4, hB⟩ := hrel
    have HA := Lib.hid hall
    clear hall B0 HB5
    have bt := thT_bd HH.out (k : Int) xss.length (Nat.le_refl _)
    have bc0 := cutT_bd (a := thT xss k xss.length) (b := thB xss xss.length) (by omega) (M := 1562500) (by omega) (by omega)
    have bc1 := cutB_bd (a := thT xss k xss.length) (b := thB xss xss.length) (M := 390625) (by omega) (by omega)
    have hax := ha.below hB (Nat.le_refl _)
    obtain ⟨f0, f1, _, _, hf0⟩ := b4
    have b4 : Bx wr w4.heap.size (.int .i64 h0) (.int .i64 h1) := ⟨f0, f1, by assumption, by assumption, hf0⟩
    have HOk := HO.out k
    have SK : Hid (∀ w', Below wr.heap.size wr w' → w'.cell? ⟨w4.heap.size, 0, none⟩ = some (.int .i64 h0) ∧ w'.cell? ⟨w4.heap.size, 1, none⟩ = some (.int .i64 h1)) :=
      Lib.hid fun w' HV => ⟨(HV.cell (p := ⟨w4.heap.size, 0, none⟩) hf0).trans f0, (HV.cell (p := ⟨w4.heap.size, 1, none⟩) hf0).trans f1⟩
    clear f0 f1 hf0
    have C2 := Lib.hid (fun (w : World) (ha : RdSS w A xss) => l7Least_c A xss c (k : Int) w ha HH.out)
    generalize cutT (thT xss k xss.length) (thB xss xss.length) = t0 at *
    generalize cutB (thT xss k xss.length) (thB xss xss.length) = t1 at *
    have C4 := Lib.hid (fun w => l2Less_is t0 t1 h0 h1 _ HOk (by omega) (by omega) (by omega) (by omega) (by omega) (by omega) (by omega) (by omega) w)
    clear HOk
    cases hok : okAt xss k
    all_goals
      have HK := Lib.hid hok
      rw [hok] at C4
      clear hok
      go_upto_region 5 with fail
      refine tamed_region (S := fun w' => w'.cell? ⟨w4.heap.size, 0, none⟩ = some (.int .i64 h0) ∧ w'.cell? ⟨w4.heap.size, 1, none⟩ = some (.int .i64 h1)) (fun _ => false) (by kernel_rfl) ?_
      have hS0 := SK.out wr.drew (Below.drew (Below.refl _ _))
      refine tame0 (k := 0) ?_ rfl (by kernel_rfl) (by kernel_rfl) (by kernel_rfl) (fun _ _ _ h => h) (by rfl) (fun v => ?_) ?_
      rotate_left
      · (go_simp; all_goals rfl)
      simp only [Act.put, List.setIfInBounds_toArray]
      refine tame0 (k := 1) ?_ rfl (by kernel_rfl) (by kernel_rfl) (by kernel_rfl) (fun _ _ _ h => h) (by rfl) (fun v => ?_) ?_
      rotate_left
      · (go_simp; all_goals rfl)
      simp only [Act.put]
      refine tame (k := 3) ?_ rfl (by kernel_rfl) (by kernel_rfl) (by kernel_rfl) (by kernel_rfl) (fun _ _ _ h => h) (by rfl) hS0 (fun v hv => ?_) ?_
      rotate_left
      · (obtain ⟨g0, g1⟩ := hv; go_simp; all_goals rfl)
      simp only [Act.put]
      clear hS0
      refine tame_one (k := 2) (by kernel_rfl) rfl (by rfl) ?_
      go_simp
      refine (C2.out _ (hax.drewN 1)).mono ?_
      rintro e w5 ⟨rfl, hb5⟩
      have hb95 := bUp (Below.drew (Below.refl wr.heap.size wr)) hb5 (Nat.le_refl _)
      refine ⟨SK.out _ hb95, ?_⟩
      refine tame_one (k := 4) (by kernel_rfl) rfl (by rfl) ?_
      go_simp
      refine (C4.out _).mono ?_
      rintro e w6 ⟨rfl, hb6⟩
      have hb96 := bUp hb95 hb6 hb95.size
      refine ⟨SK.out _ hb96, ?_⟩
      refine tame_end (by kernel_rfl) ?_
      have b46 := b4.below hb96
      have hB6 := bUp hB hb96 hB.size
      clear hb5 hb6 hb95
    · have HN := Lib.hid (hlK_next HH.out HA.out HK.out)
      have hk5 := HN.out.1
      go_wp2
      go_roundw
      case rel => exact ⟨k + 1, by omega, by go_num, HN.out.2, b46, hB6⟩
      case measure => simp [intOf] <;> omega
    · have HV := Lib.hid (hl_yes HH.out HK.out HA.out hk)
      go_wp2
      go_ret2
      exact ⟨by rw [HV.out]; rfl, hB6⟩
theorem specHt_c (A : Option Addr) (xss : List (List Int)) (c : Nat) (w : World) (ha : RdSS w A xss) (hs : SzSS xss) :
    Calls Try.prog 41 #[.slice A xss.length c] w (Quietly w (.tuple #[.int .i64 (hlV xss), .bool (lawsB xss)])) := by
  cases h : lawsB xss with
  | false => rw [hl_no h]; exact specHt_no A xss c w ha hs h
  | true => exact specHt_yes A xss c w ha hs h
theorem tm_in {xss : List (List Int)} (h : lawsB xss = true) {k : Nat} (hk : k ≤ 5) : tmT xss k = cutT (thT xss k xss.length) (thB xss xss.length) ∧ tmB xss k = cutB (thT xss k xss.length) (thB xss xss.length) := by
  have h1 := tm_yes (xss := xss) (least := (k : Int)) (by rw [h, Bool.true_and]; exact inB_iff.2 (by omega))
  have hB := thB_bd h xss.length (Nat.le_refl _)
  have hT := thT_bd h (k : Int) xss.length (Nat.le_refl _)
  have h2 := lw_small (T := thT xss k xss.length) (B := thB xss xss.length) (by omega) (by omega) (by omega) (by omega)
  rw [h1.1, h1.2.1, h2.2.1, h2.2.2]
  exact ⟨rfl, rfl⟩
theorem pm_in {xss : List (List Int)} (h : lawsB xss = true) : pmT xss = cutT (wt (best xss)) (thB xss xss.length) ∧ pmB xss = cutB (wt (best xss)) (thB xss xss.length) ∧ pmO xss = true := by
  have h1 := pm_yes h
  have hB := thB_bd h xss.length (Nat.le_refl _)
  have hW := wt_best h
  rw [best_sm_eq h] at h1
  have h2 := lw_small (T := wt (best xss)) (B := thB xss xss.length) (by omega) (by omega) (by omega) (by omega)
  rw [h1.1, h1.2.1, h1.2.2, h2.2.1, h2.2.2, h2.1]
  exact ⟨rfl, rfl, rfl⟩
theorem implHt_no (A : Option Addr) (xss : List (List Int)) (c : Nat) (w : World) (ha : RdSS w A xss) (hs : SzSS xss) (h : lawsB xss = false) :
    Calls Try.prog 42 #[.slice A xss.length c] w (Quietly w (.tuple #[.int .i64 0, .bool false])) := by
  have C := implPm_c A xss c w ha hs
  rw [(pm_no h).2.2] at C
  have C := Lib.hid C
  clear h
  go_enter Try.func42, Try.ntmps42
  go_wp2_with fail
  refine C.out.mono ?_
  rintro e w2 ⟨rfl, hb2⟩
  go_wp2
  go_ret2
  exact ⟨rfl, hb2.alloc hb2.size _⟩
set_option maxRecDepth 20000 in
set_option maxHeartbeats 1000000 in
theorem implHt_yes (A : Option Addr) (xss : List (List Int)) (c : Nat) (w : World) (ha : RdSS w A xss) (hs : SzSS xss) (h : lawsB xss = true) :
    Calls Try.prog 42 #[.slice A xss.length c] w (Quietly w (.tuple #[.int .i64 (hlV xss), .bool true])) := by
  have HH := Lib.hid h
  have bB := thB_bd h xss.length (Nat.le_refl _)
  have bW := wt_best h
  have hp := pm_in h
  have C := implPm_c A xss c w ha hs
  rw [hp.1, hp.2.1, hp.2.2] at C
  have C := Lib.hid C
  have bx0 := cutT_bd (a := wt (best xss)) (b := thB xss xss.length) (by omega) (M := 1562500) (by omega) (by omega)
  have bx1 := cutB_bd (a := wt (best xss)) (b := thB xss xss.length) (M := 390625) (by omega) (by omega)
  have HO := Lib.hid (okAt_impl h)
  clear hp h
  generalize cutT (wt (best xss)) (thB xss xss.length) = h0 at *
  generalize cutB (wt (best xss)) (thB xss xss.length) = h1 at *
  go_enter Try.func42, Try.ntmps42
  go_wp2_with fail
  refine C.out.mono ?_
  rintro e w2 ⟨rfl, hb2⟩
  clear C
  have B0 := Bx.new w2 (.int .i64 h0) (.int .i64 h1) 26
  have HB2 : Below w.heap.size w (w2.alloc (.cells #[.int .i64 h0, .int .i64 h1] 26)) := hb2.alloc hb2.size _
  go_upto_region 4 with fail
  generalize w2.alloc (.cells #[.int .i64 h0, .int .i64 h1] 26) = x at *
  go_wp2
  go_loopw [6] (fun i wr => ∃ k : Nat, k ≤ 5 ∧ i = .int .i64 k ∧ (∀ j, j < k → okAt xss j = false) ∧ Bx wr w2.heap.size (.int .i64 h0) (.int .i64 h1) ∧ Below w.heap.size w wr) (fun i _ => 5 - (intOf i).toNat)
  case atStart => exact ⟨0, by omega, rfl, fun j hj => by omega, B0, HB2⟩
  case round =>
    obtain ⟨k, hk, rfl, hall, b4, hB⟩ := hrel
    have HA := Lib.hid hall
    clear hall B0 HB2
    have bt := thT_bd HH.out (k : Int) xss.length (Nat.le_refl _)
    have bc0 := cutT_bd (a := thT xss k xss.length) (b := thB xss xss.length) (by omega) (M := 1562500) (by omega) (by omega)
    have bc1 := cutB_bd (a := thT xss k xss.length) (b := thB xss xss.length) (M := 390625) (by omega) (by omega)
    have hT := tm_in HH.out hk
    have C := implTh_c A xss c (k : Int) wr (ha.below hB (Nat.le_refl _)) hs
    rw [hT.1, hT.2] at C
    have C := Lib.hid C
    have HOk := HO.out k
    clear hT
    generalize cutT (thT xss k xss.length) (thB xss xss.length) = t0 at *
    generalize cutB (thT xss k xss.length) (thB xss xss.length) = t1 at *
    have m1 := mulA_bd (x := 2 * t0) (y := h1) (A := 3125000) (B := 390625) (by omega) (by omega) (by omega) (by omega) (by omega)
    have m2 := mulA_bd (x := h0) (y := t1) (A := 1562500) (B := 390625) (by omega) (by omega) (by omega) (by omega) (by omega)
    go_wp2_with fail
    refine C.out.mono ?_
    rintro e w3 ⟨rfl, hb3⟩
    clear C
    have b43 := (b4.below hb3).alloc (.cells #[.int .i64 t0, .int .i64 t1] 26)
    have hB3 := bUp hB hb3 hB.size
    have hB4 : Below w.heap.size w (w3.alloc (.cells #[.int .i64 t0, .int .i64 t1] 26)) := hB3.alloc hB3.size _
    have b7 := Bx.new w3 (.int .i64 t0) (.int .i64 t1) 26
    go_upto_region 8 with fail
    generalize w3.alloc (.cells #[.int .i64 t0, .int .i64 t1] 26) = y at *
    have b43' := b43
    obtain ⟨f0, f1, _, _, _⟩ := b43
    obtain ⟨f2, f3, _, _, _⟩ := b7
    cases hok : okAt xss k
    · have hlt := HOk.2 hok
      have HK := Lib.hid hok
      have HN := Lib.hid (hlK_next HH.out HA.out HK.out)
      have hk5 := HN.out.1
      clear hok HOk
      go_wp2
      go_roundw
      case rel => exact ⟨k + 1, by omega, by go_num, HN.out.2, b43', hB4⟩
      case measure => simp [intOf] <;> omega
    · have hlt : ¬ (2 * t0 * h1 < h0 * t1) := fun hh => by
        have := HOk.1 hh
        rw [this] at hok
        cases hok
      have HK := Lib.hid hok
      have HV := Lib.hid (hl_yes HH.out HK.out HA.out hk)
      clear hok HOk
      go_wp2
      go_ret2
      exact ⟨by rw [HV.out]; rfl, hB4⟩
theorem implHt_c (A : Option Addr) (xss : List (List Int)) (c : Nat) (w : World) (ha : RdSS w A xss) (hs : SzSS xss) :
    Calls Try.prog 42 #[.slice A xss.length c] w (Quietly w (.tuple #[.int .i64 (hlV xss), .bool (lawsB xss)])) := by
  cases h : lawsB xss with
  | false => rw [hl_no h]; exact implHt_no A xss c w ha hs h
  | true => exact implHt_yes A xss c w ha hs h
end Go.Proofs.Ytjnllbmknblecaa
