/- A prophet has at most twice what some threshold brings: the plain side. No program stands here. -/
import Derived.Test.YtjnllbmknblecaaThL
import Derived.Test.YtjnllbmknblecaaLm
namespace Go.Proofs.Ytjnllbmknblecaa

/-- The weight of the first v values that are less than c. -/
def lowS (w : List Int) (c : Int) : Nat → Int
  | 0 => 0
  | v + 1 => lowS w c v + if (v : Int) < c then nth w v else 0
/-- What values are above d, with their weights. -/
def excS (w : List Int) (d : Int) : Nat → Int
  | 0 => 0
  | v + 1 => excS w d v + nth w v * mxI (v - d) 0
theorem excS_succ (w : List Int) (d : Int) (v : Nat) : excS w d (v + 1) = excS w d v + nth w v * mxI (v - d) 0 := rfl
theorem mxI_nn (x : Int) : 0 ≤ mxI x 0 := by unfold mxI; split <;> omega
theorem lowS_bd {w : List Int} {c : Int} (h : ∀ v, 0 ≤ nth w v) (k : Nat) (hk : k ≤ w.length) : 0 ≤ lowS w c k ∧ lowS w c k ≤ sm (w.take k) := by
  induction k with
  | zero => simp [lowS, sm]
  | succ k ih =>
    have := ih (by omega)
    have h1 := h k
    rw [lowS, sm_succ _ _ (by omega)]
    split <;> omega
theorem excS_nn {w : List Int} {d : Int} (h : ∀ v, 0 ≤ nth w v) (k : Nat) : 0 ≤ excS w d k := by
  induction k with
  | zero => exact Int.le_refl _
  | succ k ih =>
    rw [excS]
    have := Int.mul_nonneg (h k) (mxI_nn (k - d))
    omega
/-- One law: what a threshold c brings, at least: for d = c or d = c - 1. -/
theorem thS_low {w : List Int} {c d T B : Int} (h : ∀ v, 0 ≤ nth w v) (hd : d = c ∨ d = c - 1) (k : Nat) (hk : k ≤ w.length) :
    (sm (w.take k) - lowS w c k) * (d * B) + excS w d k * B + lowS w c k * T ≤ thS w c T B k := by
  induction k with
  | zero => simp [thS, lowS, excS, sm]
  | succ k ih =>
    have ih := ih (by omega)
    have h1 := h k
    rw [lowS, excS, sm_succ _ _ (by omega)]
    by_cases hc : (k : Int) < c
    · rw [thS_lo hc, if_pos hc]
      have hz : mxI ((k : Int) - d) 0 = 0 := by unfold mxI; rw [if_neg (by omega)]
      rw [hz, Int.mul_zero, Int.add_zero]
      have e : (sm (w.take k) + nth w k - (lowS w c k + nth w k)) = sm (w.take k) - lowS w c k := by omega
      rw [e, Int.add_mul]
      omega
    · rw [thS_hi hc, if_neg hc, Int.add_zero]
      have hz : mxI ((k : Int) - d) 0 = k - d := by
        unfold mxI
        split <;> omega
      rw [hz]
      have e : (sm (w.take k) + nth w k - lowS w c k) * (d * B) + (excS w d k + nth w k * (k - d)) * B + lowS w c k * T =
          (sm (w.take k) - lowS w c k) * (d * B) + excS w d k * B + lowS w c k * T + nth w k * k * B := by grind
      rw [e]
      omega
/-- All laws behind the first n - j have values below c: their weight. -/
def lowP (xss : List (List Int)) (c : Int) : Nat → Int
  | 0 => 1
  | j + 1 => lowP xss c j * lowS (rowAt xss (xss.length - 1 - j)) c (rowAt xss (xss.length - 1 - j)).length
/-- What the last j laws are above d, all together, times the totals. -/
def excP (xss : List (List Int)) (d : Int) : Nat → Int
  | 0 => 0
  | j + 1 => excP xss d j * sm (rowAt xss (xss.length - 1 - j)) + excS (rowAt xss (xss.length - 1 - j)) d (rowAt xss (xss.length - 1 - j)).length * thB xss j
theorem law_nn {w : List Int} (hw : lawB w = true) (v : Nat) : 0 ≤ nth w v := by
  by_cases hv : v < w.length
  · exact (allB_nth (lawB_yes hw).2.2.1 hv).1
  · unfold nth
    rw [List.getD_eq_getElem?_getD, List.getElem?_eq_none (by omega)]
    exact Int.le_refl _
theorem lowP_bd {xss : List (List Int)} (h : lawsB xss = true) (c : Int) (j : Nat) (hj : j ≤ xss.length) : 0 ≤ lowP xss c j ∧ lowP xss c j ≤ thB xss j := by
  have hy := lawsB_yes h
  induction j with
  | zero => exact ⟨show (0 : Int) ≤ 1 by decide, Int.le_refl _⟩
  | succ j ih =>
    have h1 := ih (by omega)
    have h2 := lowS_bd (c := c) (law_nn (hy.2 (xss.length - 1 - j) (by omega))) _ (Nat.le_refl _)
    rw [List.take_of_length_le (Nat.le_refl _)] at h2
    rw [lowP, thB]
    exact ⟨Int.mul_nonneg h1.1 h2.1, Int.mul_le_mul h1.2 h2.2 h2.1 (by have := (thB_bd h j (by omega)).1; omega)⟩
theorem excP_nn {xss : List (List Int)} (h : lawsB xss = true) (d : Int) (j : Nat) (hj : j ≤ xss.length) : 0 ≤ excP xss d j := by
  have hy := lawsB_yes h
  induction j with
  | zero => exact Int.le_refl _
  | succ j ih =>
    have h0 := lawB_yes (hy.2 (xss.length - 1 - j) (by omega))
    have h1 := Int.mul_nonneg (ih (by omega)) (show 0 ≤ sm (rowAt xss (xss.length - 1 - j)) by omega)
    have h2 := Int.mul_nonneg (excS_nn (d := d) (law_nn (hy.2 (xss.length - 1 - j) (by omega))) (rowAt xss (xss.length - 1 - j)).length) (show 0 ≤ thB xss j by have := (thB_bd h j (by omega)).1; omega)
    rw [excP]
    omega
/-- All laws: the weight below c is p of t; what comes above d is e. -/
theorem thT_low {xss : List (List Int)} (h : lawsB xss = true) {c d : Int} (hd : d = c ∨ d = c - 1) (j : Nat) (hj : j ≤ xss.length) :
    (thB xss j - lowP xss c j) * d * thB xss j + lowP xss c j * excP xss d j ≤ thT xss c j * thB xss j := by
  have hy := lawsB_yes h
  induction j with
  | zero => simp [thB, lowP, excP, thT]
  | succ j ih =>
    have ih := ih (by omega)
    have hw := hy.2 (xss.length - 1 - j) (by omega)
    have hB := thB_bd h j (by omega)
    have hP := lowP_bd h c j (by omega)
    have hE := excP_nn h d j (by omega)
    have hl := lowS_bd (c := c) (law_nn hw) _ (Nat.le_refl _)
    have hx := excS_nn (d := d) (law_nn hw) (rowAt xss (xss.length - 1 - j)).length
    have h1 := thS_low (law_nn hw) (T := thT xss c j) (B := thB xss j) hd (rowAt xss (xss.length - 1 - j)).length (Nat.le_refl _)
    rw [List.take_of_length_le (Nat.le_refl _)] at hl h1
    rw [thB, lowP, excP, thT]
    generalize thS (rowAt xss (xss.length - 1 - j)) c (thT xss c j) (thB xss j) (rowAt xss (xss.length - 1 - j)).length = X at *
    generalize sm (rowAt xss (xss.length - 1 - j)) = s at *
    generalize lowS (rowAt xss (xss.length - 1 - j)) c (rowAt xss (xss.length - 1 - j)).length = l at *
    generalize excS (rowAt xss (xss.length - 1 - j)) d (rowAt xss (xss.length - 1 - j)).length = x at *
    generalize thT xss c j = T at *
    generalize thB xss j = B at *
    generalize lowP xss c j = p at *
    generalize excP xss d j = e at *
    -- (B s - p l) d (B s) + p l (e s + x B) ≤ X (B s)
    have s0 : 0 ≤ s := by omega
    have a1 : ((s - l) * (d * B) + x * B + l * T) * (B * s) ≤ X * (B * s) := Int.mul_le_mul_of_nonneg_right h1 (Int.mul_nonneg (by omega) s0)
    have a2 : ((B - p) * d * B + p * e) * (l * s) ≤ T * B * (l * s) := Int.mul_le_mul_of_nonneg_right ih (Int.mul_nonneg hl.1 s0)
    have pl : p * l ≤ B * s := Int.mul_le_mul hP.2 hl.2 hl.1 (by omega)
    have a3 : p * l * (x * B) ≤ B * s * (x * B) := Int.mul_le_mul_of_nonneg_right pl (Int.mul_nonneg hx (by omega))
    have e1 : ((s - l) * (d * B) + x * B + l * T) * (B * s) = (s - l) * d * B * B * s + x * B * B * s + T * B * (l * s) := by grind
    have e2 : (B * s - p * l) * d * (B * s) + p * l * (e * s + x * B) = (s - l) * d * B * B * s + ((B - p) * d * B + p * e) * (l * s) + p * l * (x * B) := by grind
    have e3 : B * s * (x * B) = x * B * B * s := by grind
    rw [e2]
    omega

/-- A sum of products with one number added. -/
theorem excS_addAt (xs : List Int) (d : Int) (j : Nat) (x : Int) (hj : j < xs.length) (k : Nat) : excS (addAt xs j x) d k = excS xs d k + if j < k then x * mxI ((j : Int) - d) 0 else 0 := by
  induction k with
  | zero => simp [excS]
  | succ k ih =>
    rw [excS, excS, ih, nth_addAt _ _ _ _ hj]
    by_cases h1 : j = k
    · subst h1
      rw [if_pos rfl, if_neg (by omega), if_pos (by omega), Int.add_mul]
      omega
    · rw [if_neg h1]
      by_cases h2 : j < k
      · rw [if_pos h2, if_pos (by omega)]; omega
      · rw [if_neg h2, if_neg (by omega)]; omega
theorem mx_sub (u v : Nat) (d : Int) : mxI (((max u v : Nat) : Int) - d) 0 ≤ mxI ((u : Int) - d) 0 + mxI ((v : Int) - d) 0 := by
  have h1 := mxI_nn ((u : Int) - d)
  have h2 := mxI_nn ((v : Int) - d)
  rcases Nat.le_total u v with h | h
  · rw [Nat.max_eq_right h]; omega
  · rw [Nat.max_eq_left h]; omega
theorem inU_exc {now w next : List Int} {v : Nat} {S : Int} (d : Int) (hn : ∀ k, 0 ≤ nth now k) (hw : ∀ k, 0 ≤ nth w k) (hx : Bd next S) (hv : v < 5) (hl : w.length ≤ 5) (u : Nat) (hu : u ≤ w.length) :
    excS (inU now w v next u) d 5 ≤ excS next d 5 + nth now v * excS w d u + nth now v * mxI ((v : Int) - d) 0 * sm (w.take u) := by
  induction u with
  | zero => simp [inU, excS, sm]
  | succ u ih =>
    have ih := ih (by omega)
    have hlen := (inU_sm (now := now) hx hv hl u (by omega)).1
    rw [inU_succ, excS_addAt _ _ _ _ (by rw [hlen]; omega), if_pos (by omega), sm_succ _ _ (by omega), excS_succ w d u]
    have h1 := Int.mul_nonneg (hn v) (hw u)
    have h2 := Int.mul_le_mul_of_nonneg_left (mx_sub u v d) h1
    have e : excS next d 5 + nth now v * (excS w d u + nth w u * mxI ((u : Int) - d) 0) + nth now v * mxI ((v : Int) - d) 0 * (sm (w.take u) + nth w u) =
        excS next d 5 + nth now v * excS w d u + nth now v * mxI ((v : Int) - d) 0 * sm (w.take u) + nth now v * nth w u * (mxI ((u : Int) - d) 0 + mxI ((v : Int) - d) 0) := by grind
    rw [e]
    omega
theorem inV_exc {now w : List Int} {M : Int} (d : Int) (hM : 0 ≤ M) (hn : Bd now M) (hw : lawB w = true) (v : Nat) (hv : v ≤ 5) : excS (inV now w v) d 5 ≤ sm (now.take v) * excS w d w.length + excS now d v * sm w := by
  have hl := lawB_yes hw
  induction v with
  | zero =>
    have : excS (inV now w 0) d 5 = 0 := by simp [inV, excS, nth]
    rw [this]
    simp [sm, excS]
  | succ v ih =>
    have ih := ih (by omega)
    have h1 := inU_exc (v := v) d (fun k => (hn.2 k).1) (law_nn hw) (inV_bd hM hn hw v (by omega)) (by omega) hl.2.1 w.length (Nat.le_refl _)
    rw [List.take_of_length_le (Nat.le_refl _)] at h1
    rw [inV_succ, sm_succ _ _ (by rw [hn.1]; omega), excS_succ now d v, Int.add_mul, Int.add_mul]
    omega
/-- The same from the first law on. -/
def excF (xss : List (List Int)) (d : Int) : Nat → Int
  | 0 => 0
  | i + 1 => excF xss d i * sm (rowAt xss i) + excS (rowAt xss i) d (rowAt xss i).length * totK xss i
theorem best_exc {xss : List (List Int)} (h : lawsB xss = true) {d : Int} (hd : 0 ≤ d) (i : Nat) (hi : i ≤ xss.length) : excS (bestK xss i) d 5 ≤ excF xss d i := by
  have hy := lawsB_yes h
  induction i with
  | zero =>
    have e : mxI (-d) 0 = 0 := by unfold mxI; rw [if_neg (by omega)]
    simp [bestK, excS, nth, excF, e]
  | succ i ih =>
    have hb := bestK_bd' h i (by omega)
    have hs := bestK_sm h i (by omega)
    have h1 := inV_exc d (by decide) hb (hy.2 i (by omega)) 5 (Nat.le_refl _)
    rw [List.take_of_length_le (by rw [hb.1]; exact Nat.le_refl _), hs] at h1
    have h2 := Int.mul_le_mul_of_nonneg_right (ih (by omega)) (show 0 ≤ sm (rowAt xss i) by have := lawB_yes (hy.2 i (by omega)); omega)
    rw [bestK_succ, excF, Int.mul_comm (excS (rowAt xss i) d _)]
    omega
theorem wtK_exc {xs : List Int} {d : Int} (h : ∀ v, 0 ≤ nth xs v) (k : Nat) (hk : k ≤ xs.length) : wtK xs k ≤ d * sm (xs.take k) + excS xs d k := by
  induction k with
  | zero => simp [wtK, sm, excS]
  | succ k ih =>
    have ih := ih (by omega)
    rw [wtK, sm_succ _ _ (by omega), excS]
    have h1 : (k : Int) ≤ d + mxI ((k : Int) - d) 0 := by unfold mxI; split <;> omega
    have h2 := Int.mul_le_mul_of_nonneg_right h1 (h k)
    have e : d * (sm (xs.take k) + nth xs k) + (excS xs d k + nth xs k * mxI ((k : Int) - d) 0) = d * sm (xs.take k) + excS xs d k + (d + mxI ((k : Int) - d) 0) * nth xs k := by grind
    rw [e]
    omega
theorem tot_both (xss : List (List Int)) (d : Int) (m : Nat) (hm : m ≤ xss.length) :
    totK xss m * thB xss (xss.length - m) = thB xss xss.length ∧ excF xss d m * thB xss (xss.length - m) + excP xss d (xss.length - m) * totK xss m = excP xss d xss.length := by
  induction m with
  | zero => simp [totK, excF]
  | succ m ih =>
    have ih := ih (by omega)
    rw [thB_succ xss m (by omega)] at ih
    have e : xss.length - m = xss.length - (m + 1) + 1 := by omega
    have e2 : xss.length - 1 - (xss.length - (m + 1)) = m := by omega
    have hE : excP xss d (xss.length - m) = excP xss d (xss.length - (m + 1)) * sm (rowAt xss m) + excS (rowAt xss m) d (rowAt xss m).length * thB xss (xss.length - (m + 1)) := by rw [e, excP, e2]
    rw [hE] at ih
    rw [totK, excF]
    constructor
    · rw [← ih.1]; grind
    · rw [← ih.2]; grind
theorem tot_eq (xss : List (List Int)) : totK xss xss.length = thB xss xss.length := by
  have := (tot_both xss 0 xss.length (Nat.le_refl _)).1
  rw [Nat.sub_self] at this
  rw [← this]
  simp [thB]
theorem excF_eq (xss : List (List Int)) (d : Int) : excF xss d xss.length = excP xss d xss.length := by
  have := (tot_both xss d xss.length (Nat.le_refl _)).2
  rw [Nat.sub_self] at this
  rw [← this]
  simp [thB, excP]
/-- The prophet has at most d and what is above d. -/
theorem prophet_le {xss : List (List Int)} (h : lawsB xss = true) {d : Int} (hd : 0 ≤ d) : wt (best xss) ≤ d * thB xss xss.length + excP xss d xss.length := by
  have hb := best_bd h
  have h1 := wtK_exc (d := d) (fun v => (hb.2 v).1) (best xss).length (Nat.le_refl _)
  rw [List.take_of_length_le (Nat.le_refl _)] at h1
  have h2 := best_exc h hd xss.length (Nat.le_refl _)
  have h3 : sm (best xss) = thB xss xss.length := by unfold best; rw [bestK_sm h _ (Nat.le_refl _), tot_eq]
  rw [excF_eq] at h2
  have h4 : excS (best xss) d (best xss).length ≤ excP xss d xss.length := by rw [hb.1]; exact h2
  rw [h3] at h1
  unfold wt
  omega
theorem best_sm_eq {xss : List (List Int)} (h : lawsB xss = true) : sm (best xss) = thB xss xss.length := by unfold best; rw [bestK_sm h _ (Nat.le_refl _), tot_eq]
theorem lowS_zero (w : List Int) (k : Nat) : lowS w 0 k = 0 := by
  induction k with
  | zero => rfl
  | succ k ih => rw [lowS, ih, if_neg (by omega)]; rfl
theorem lowS_five (w : List Int) (k : Nat) (hk : k ≤ w.length) (h5 : w.length ≤ 5) : lowS w 5 k = sm (w.take k) := by
  induction k with
  | zero => simp [lowS, sm]
  | succ k ih => rw [lowS, ih (by omega), sm_succ _ _ (by omega), if_pos (by omega)]
theorem lowP_zero {xss : List (List Int)} (hn : 0 < xss.length) : lowP xss 0 xss.length = 0 := by
  obtain ⟨j, hj⟩ : ∃ j, xss.length = j + 1 := ⟨xss.length - 1, by omega⟩
  have : ∀ j, lowP xss 0 (j + 1) = 0 := fun j => by rw [lowP, lowS_zero, Int.mul_zero]
  rw [hj]
  exact this j
theorem lowP_five {xss : List (List Int)} (h : lawsB xss = true) (j : Nat) (hj : j ≤ xss.length) : lowP xss 5 j = thB xss j := by
  have hy := lawsB_yes h
  induction j with
  | zero => rfl
  | succ j ih =>
    have hl := lawB_yes (hy.2 (xss.length - 1 - j) (by omega))
    rw [lowP, thB, ih (by omega), lowS_five _ _ (Nat.le_refl _) hl.2.1, List.take_of_length_le (Nat.le_refl _)]
/-- The least threshold at which at least half of the weight lies below. -/
theorem median {f : Nat → Int} {t : Int} (h0 : 2 * f 0 < t) (h5 : t ≤ 2 * f 5) : ∃ d, d ≤ 4 ∧ 2 * f d < t ∧ t ≤ 2 * f (d + 1) := by
  by_cases h1 : t ≤ 2 * f 1
  · exact ⟨0, by omega, h0, h1⟩
  by_cases h2 : t ≤ 2 * f 2
  · exact ⟨1, by omega, by omega, h2⟩
  by_cases h3 : t ≤ 2 * f 3
  · exact ⟨2, by omega, by omega, h3⟩
  by_cases h4 : t ≤ 2 * f 4
  · exact ⟨3, by omega, by omega, h4⟩
  exact ⟨4, by omega, by omega, h5⟩
/-- Some threshold brings at least half of what the prophet has. -/
theorem half_found {xss : List (List Int)} (h : lawsB xss = true) : ∃ c : Nat, c ≤ 5 ∧ wt (best xss) ≤ 2 * thT xss c xss.length := by
  have hB := thB_bd h xss.length (Nat.le_refl _)
  rcases Nat.eq_zero_or_pos xss.length with hn | hn
  · have hp := prophet_le h (d := 0) (Int.le_refl _)
    have he : excP xss 0 xss.length = 0 := by rw [hn]; rfl
    have ht : thT xss (0 : Nat) xss.length = 0 := by rw [hn]; rfl
    exact ⟨0, by omega, by rw [ht]; rw [he] at hp; omega⟩
  · have h5 := lowP_five h xss.length (Nat.le_refl _)
    have h0 := lowP_zero hn
    have h5' : lowP xss ((5 : Nat) : Int) xss.length = thB xss xss.length := h5
    have h0' : lowP xss ((0 : Nat) : Int) xss.length = 0 := h0
    obtain ⟨d, hd4, hd1, hd2⟩ := median (f := fun c => lowP xss (c : Int) xss.length) (t := thB xss xss.length) (by simp only [h0']; omega) (by simp only [h5']; omega)
    have hp := prophet_le h (d := (d : Int)) (by omega)
    have l1 := thT_low h (c := (d : Int)) (d := (d : Int)) (.inl rfl) xss.length (Nat.le_refl _)
    have l2 := thT_low h (c := ((d + 1 : Nat) : Int)) (d := (d : Int)) (.inr (by omega)) xss.length (Nat.le_refl _)
    generalize thB xss xss.length = B at *
    generalize excP xss (d : Int) xss.length = E at *
    have key : ∀ (q T : Int), 0 ≤ (2 * q - B) * (E - d * B) → (B - q) * d * B + q * E ≤ T * B → wt (best xss) ≤ 2 * T := by
      intro q T h1 h2
      have e : (2 * q - B) * (E - d * B) = 2 * ((B - q) * d * B + q * E) - B * (d * B + E) := by grind
      rw [e] at h1
      have h3 : B * (d * B + E) ≤ B * (2 * T) := by
        have e2 : B * (2 * T) = 2 * (T * B) := by grind
        rw [e2]
        omega
      have h4 := Int.le_of_mul_le_mul_left h3 (by omega)
      omega
    rcases Int.le_total (d * B) E with hE | hE
    · exact ⟨d + 1, by omega, key _ _ (Int.mul_nonneg (by omega) (by omega)) l2⟩
    · exact ⟨d, by omega, key _ _ (Int.mul_nonneg_of_nonpos_of_nonpos (by omega) (by omega)) l1⟩

/-- The threshold k brings at least half of what the prophet has. -/
def okAt (xss : List (List Int)) (k : Nat) : Bool := decide (wt (best xss) ≤ 2 * thT xss k xss.length)
/-- The least such threshold. -/
def hlK (xss : List (List Int)) : Nat := ((List.range 6).find? (okAt xss)).getD 0
theorem hlK_eq {xss : List (List Int)} {k : Nat} (h : okAt xss k = true) (hl : ∀ j, j < k → okAt xss j = false) (hk : k ≤ 5) : hlK xss = k := by
  unfold hlK
  have : (List.range 6).find? (okAt xss) = some k := by
    rw [List.find?_range_eq_some]
    exact ⟨h, by simp; omega, fun j hj => by simp [hl j hj]⟩
  rw [this]
  rfl
theorem hlK_next {xss : List (List Int)} (h : lawsB xss = true) {k : Nat} (hl : ∀ j, j < k → okAt xss j = false) (hk : okAt xss k = false) : k + 1 ≤ 5 ∧ ∀ j, j < k + 1 → okAt xss j = false := by
  have h2 : ∀ j, j < k + 1 → okAt xss j = false := fun j hj => by
    rcases Nat.lt_or_ge j k with h | h
    · exact hl j h
    · have : j = k := by omega
      subst this
      exact hk
  obtain ⟨c, hc, hw⟩ := half_found h
  have : ¬ c < k + 1 := fun hlt => by
    have := h2 c hlt
    unfold okAt at this
    rw [decide_eq_true hw] at this
    cases this
  exact ⟨by omega, h2⟩
end Go.Proofs.Ytjnllbmknblecaa
