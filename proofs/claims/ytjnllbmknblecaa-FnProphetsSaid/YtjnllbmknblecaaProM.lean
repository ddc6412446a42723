/- Prophets and gamblers, plainly: the gambler has at most what the prophet has, thresholds are no better, and one of them has half. No program stands here. -/
import Derived.Test.YtjnllbmknblecaaHtW
namespace Go.Proofs.Ytjnllbmknblecaa

theorem cut_lessM {a b c d : Int} (hb : 0 < b) (hd : 0 < d) (m : Int) (_hm : 0 < m) : (m * cutT a b * cutB c d < cutT c d * cutB a b) ↔ m * a * d < c * b := by
  have g1 := gI_pos (a := a) (b := b) (by omega)
  have g2 := gI_pos (a := c) (b := d) (by omega)
  obtain ⟨m1, m2⟩ := cut_mul a b
  obtain ⟨o1, o2⟩ := cut_mul c d
  have e1 : m * a * d = m * cutT a b * cutB c d * (gI a b * gI c d) := by
    conv => lhs; rw [← m1, ← o2]
    grind
  have e2 : c * b = cutT c d * cutB a b * (gI a b * gI c d) := by
    conv => lhs; rw [← o1, ← m2]
    grind
  have hg := Int.mul_pos g1 g2
  rw [e1, e2]
  exact ⟨fun h => Int.mul_lt_mul_of_pos_right h hg, fun h => Int.lt_of_mul_lt_mul_right h (Int.le_of_lt hg)⟩
theorem mx_ge_l (x y : Int) : x ≤ mxI x y := by unfold mxI; split <;> omega
theorem mx_ge_r (x y : Int) : y ≤ mxI x y := by unfold mxI; split <;> omega
theorem mx_le {x y z : Int} (h1 : x ≤ z) (h2 : y ≤ z) : mxI x y ≤ z := by unfold mxI; split <;> omega
/-- A threshold is no better than the best rule. -/
theorem thS_le_gS {w : List Int} {least T T' B : Int} (hw : ∀ v, 0 ≤ nth w v) (hT : T' ≤ T) : ∀ v, thS w least T' B v ≤ gS w T B v
  | 0 => Int.le_refl _
  | v + 1 => by
    have ih := thS_le_gS (least := least) (B := B) hw hT v
    rw [gS_succ]
    by_cases h : (v : Int) < least
    · rw [thS_lo h]
      have := Int.mul_le_mul_of_nonneg_left (Int.le_trans hT (mx_ge_r ((v : Int) * B) T)) (hw v)
      omega
    · rw [thS_hi h, Int.mul_assoc]
      have := Int.mul_le_mul_of_nonneg_left (mx_ge_l ((v : Int) * B) T) (hw v)
      omega
theorem thT_le_gT {xss : List (List Int)} (h : lawsB xss = true) (least : Int) : ∀ j, j ≤ xss.length → thT xss least j ≤ gT xss j
  | 0, _ => Int.le_refl _
  | j + 1, hj => by
    rw [thT, gT]
    exact thS_le_gS (law_nn ((lawsB_yes h).2 _ (by omega))) (thT_le_gT h least j (by omega)) _
theorem gS_ge {w : List Int} {T B : Int} (hw : ∀ v, 0 ≤ nth w v) : ∀ v, v ≤ w.length → sm (w.take v) * T ≤ gS w T B v
  | 0, _ => by simp [sm, gS]
  | v + 1, hv => by
    have ih := gS_ge (T := T) (B := B) hw v (by omega)
    rw [gS_succ, sm_succ _ _ (by omega), Int.add_mul]
    have := Int.mul_le_mul_of_nonneg_left (mx_ge_r ((v : Int) * B) T) (hw v)
    omega
theorem gT_step {xss : List (List Int)} (h : lawsB xss = true) {j : Nat} (hj : j < xss.length) : gT xss j * thB xss (j + 1) ≤ gT xss (j + 1) * thB xss j := by
  have hb := thB_bd h j (by omega)
  have h1 := gS_ge (T := gT xss j) (B := thB xss j) (law_nn ((lawsB_yes h).2 (xss.length - 1 - j) (by omega))) _ (Nat.le_refl _)
  rw [List.take_of_length_le (Nat.le_refl _)] at h1
  have h2 := Int.mul_le_mul_of_nonneg_right h1 (show 0 ≤ thB xss j by omega)
  rw [thB, gT]
  have e : gT xss j * (thB xss j * sm (rowAt xss (xss.length - 1 - j))) = sm (rowAt xss (xss.length - 1 - j)) * gT xss j * thB xss j := by grind
  rw [e]
  exact h2
/-- What one more law brings to a value v. -/
def hS (w : List Int) (v : Nat) (T B : Int) : Nat → Int
  | 0 => 0
  | u + 1 => hS w v T B u + nth w u * mxI (((max u v : Nat) : Int) * B) T
theorem hS_ge1 {w : List Int} {v : Nat} {T B : Int} (hw : ∀ v, 0 ≤ nth w v) (hB : 0 ≤ B) : ∀ u, gS w T B u ≤ hS w v T B u
  | 0 => Int.le_refl _
  | u + 1 => by
    have ih := hS_ge1 (v := v) (T := T) hw hB u
    rw [gS_succ, hS]
    have h1 : (u : Int) * B ≤ ((max u v : Nat) : Int) * B := Int.mul_le_mul_of_nonneg_right (by omega) hB
    have h2 : mxI ((u : Int) * B) T ≤ mxI (((max u v : Nat) : Int) * B) T := mx_le (Int.le_trans h1 (mx_ge_l _ _)) (mx_ge_r _ _)
    have := Int.mul_le_mul_of_nonneg_left h2 (hw u)
    omega
theorem hS_ge2 {w : List Int} {v : Nat} {T B : Int} (hw : ∀ v, 0 ≤ nth w v) (hB : 0 ≤ B) : ∀ u, u ≤ w.length → sm (w.take u) * ((v : Int) * B) ≤ hS w v T B u
  | 0, _ => by simp [sm, hS]
  | u + 1, hu => by
    have ih := hS_ge2 (v := v) (T := T) hw hB u (by omega)
    rw [hS, sm_succ _ _ (by omega), Int.add_mul]
    have h1 : (v : Int) * B ≤ ((max u v : Nat) : Int) * B := Int.mul_le_mul_of_nonneg_right (by omega) hB
    have := Int.mul_le_mul_of_nonneg_left (Int.le_trans h1 (mx_ge_l _ T)) (hw u)
    omega
theorem gS_addAt (xs : List Int) (T B : Int) (j : Nat) (x : Int) (hj : j < xs.length) : ∀ k, gS (addAt xs j x) T B k = gS xs T B k + if j < k then x * mxI ((j : Int) * B) T else 0
  | 0 => by simp [gS]
  | k + 1 => by
    rw [gS_succ, gS_succ, gS_addAt xs T B j x hj k, nth_addAt xs j k x hj]
    rcases Nat.lt_trichotomy j k with h | h | h
    · rw [if_pos h, if_neg (show ¬ j = k by omega), if_pos (show j < k + 1 by omega)]; omega
    · subst h
      rw [if_neg (Nat.lt_irrefl j), if_pos rfl, if_pos (Nat.lt_succ_self j), Int.add_mul]; omega
    · rw [if_neg (show ¬ j < k by omega), if_neg (show ¬ j = k by omega), if_neg (show ¬ j < k + 1 by omega)]; omega
theorem gS_inU {now w next : List Int} {v : Nat} {T B S : Int} (hx : Bd next S) (hv : v < 5) (hl : w.length ≤ 5) : ∀ u, u ≤ w.length → (inU now w v next u).length = 5 ∧ gS (inU now w v next u) T B 5 = gS next T B 5 + nth now v * hS w v T B u
  | 0, _ => ⟨hx.1, by rw [inU_0, hS, Int.mul_zero, Int.add_zero]⟩
  | u + 1, hu => by
    obtain ⟨h1, h2⟩ := gS_inU (now := now) (T := T) (B := B) hx hv hl u (by omega)
    rw [inU_succ, addAt_length]
    refine ⟨h1, ?_⟩
    rw [gS_addAt _ _ _ _ _ (by rw [h1]; omega), h2, if_pos (by omega), hS, Int.mul_add, Int.mul_assoc]
    omega
theorem gS_inV {now w : List Int} {M T B : Int} (hM : 0 ≤ M) (hn : Bd now M) (hw : lawB w = true) (hB : 0 ≤ B) : ∀ v, v ≤ 5 → gS now (gS w T B w.length) (B * sm w) v ≤ gS (inV now w v) T B 5
  | 0, _ => by
    have : ∀ k, gS (List.replicate 5 0) T B k = 0 := by
      intro k
      induction k with
      | zero => rfl
      | succ k ih =>
        have : nth (List.replicate 5 0) k = 0 := by
          unfold nth
          match k with
          | 0 => rfl
          | 1 => rfl
          | 2 => rfl
          | 3 => rfl
          | 4 => rfl
          | k + 5 => simp
        rw [gS_succ, ih, this]
        simp
    rw [inV, this]
    exact Int.le_refl _
  | v + 1, hv => by
    have ih := gS_inV (T := T) hM hn hw hB v (by omega)
    have hl := lawB_yes hw
    have hnn := law_nn hw
    obtain ⟨_, h2⟩ := gS_inU (now := now) (w := w) (v := v) (T := T) (B := B) (inV_bd hM hn hw v (by omega)) (by omega) hl.2.1 w.length (Nat.le_refl _)
    rw [inV_succ, h2, gS_succ]
    have h3 := hS_ge1 (v := v) (T := T) hnn hB w.length
    have h4 := hS_ge2 (v := v) (T := T) hnn hB w.length (Nat.le_refl _)
    rw [List.take_of_length_le (Nat.le_refl _)] at h4
    have e : (v : Int) * (B * sm w) = sm w * ((v : Int) * B) := by grind
    have := Int.mul_le_mul_of_nonneg_left (mx_le (x := (v : Int) * (B * sm w)) (by rw [e]; exact h4) h3) (hn.2 v).1
    omega
/-- The gambler behind i laws, seen with the best of these. -/
theorem gam_up {xss : List (List Int)} (h : lawsB xss = true) : ∀ i, i ≤ xss.length → gT xss xss.length ≤ gS (bestK xss i) (gT xss (xss.length - i)) (thB xss (xss.length - i)) 5
  | 0, _ => by
    have hb := gT_bd h xss.length (Nat.le_refl _)
    rw [Nat.sub_zero]
    have e : gS (bestK xss 0) (gT xss xss.length) (thB xss xss.length) 5 = gT xss xss.length := by
      simp only [bestK, gS, nth]
      simp [mxI]
      intro h
      omega
    rw [e]
    exact Int.le_refl _
  | i + 1, hi => by
    have ih := gam_up h i (by omega)
    have hb := thB_bd h (xss.length - (i + 1)) (by omega)
    have h1 := gS_inV (T := gT xss (xss.length - (i + 1))) (B := thB xss (xss.length - (i + 1))) (by decide) (bestK_bd' h i (by omega)) ((lawsB_yes h).2 i (by omega)) (by omega) 5 (Nat.le_refl _)
    rw [← gT_succ xss i (by omega), ← thB_succ xss i (by omega)] at h1
    rw [bestK_succ]
    exact Int.le_trans ih h1
theorem gS_wt (xs : List Int) : ∀ k, gS xs 0 1 k = wtK xs k
  | 0 => rfl
  | k + 1 => by
    rw [gS_succ, wtK_succ, gS_wt xs k, Int.mul_one]
    have : mxI (k : Int) 0 = (k : Int) := by unfold mxI; split <;> omega
    rw [this, Int.mul_comm]
theorem gam_le_pro {xss : List (List Int)} (h : lawsB xss = true) : gT xss xss.length ≤ wt (best xss) := by
  have h1 := gam_up h xss.length (Nat.le_refl _)
  rw [Nat.sub_self] at h1
  have hb := (best_bd h).1
  unfold wt
  rw [hb]
  rw [← gS_wt]
  exact h1
theorem pro_le_two {xss : List (List Int)} (h : lawsB xss = true) : wt (best xss) ≤ 2 * gT xss xss.length := by
  obtain ⟨c, _, hc⟩ := half_found h
  have := thT_le_gT h (c : Int) xss.length (Nat.le_refl _)
  omega
theorem hlK_ok {xss : List (List Int)} (h : lawsB xss = true) : hlK xss ≤ 5 ∧ wt (best xss) ≤ 2 * thT xss (hlK xss) xss.length := by
  obtain ⟨c, hc, hw⟩ := half_found h
  have hok : okAt xss c = true := decide_eq_true hw
  obtain ⟨k, hk⟩ : ∃ k, (List.range 6).find? (okAt xss) = some k := by
    cases hf : (List.range 6).find? (okAt xss) with
    | some k => exact ⟨k, rfl⟩
    | none =>
      rw [List.find?_eq_none] at hf
      exact absurd hok (hf c (List.mem_range.2 (by omega)))
  have h1 := List.find?_some hk
  have h2 := List.mem_range.1 (List.mem_of_find?_eq_some hk)
  unfold hlK
  rw [hk]
  exact ⟨by simp; omega, by simpa using of_decide_eq_true h1⟩
end Go.Proofs.Ytjnllbmknblecaa
