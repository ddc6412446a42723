/- The greatest means of a gambler: the plain side. -/
import Derived.Test.YtjnllbmknblecaaThL
import Derived.Test.YtjnllbmknblecaaPairs
namespace Go.Proofs.Ytjnllbmknblecaa

/-- What the first v values of a law bring, times a bottom, if the rest has the mean T / B. -/
def gS (w : List Int) (T B : Int) : Nat → Int
  | 0 => 0
  | v + 1 => gS w T B v + nth w v * mxI (v * B) T
theorem gS_succ (w : List Int) (T B : Int) (v : Nat) : gS w T B (v + 1) = gS w T B v + nth w v * mxI (v * B) T := rfl
theorem mx_bd {T B : Int} (hB : 0 ≤ B) (hT0 : 0 ≤ T) (hT : T ≤ 4 * B) {v : Nat} (hv : v ≤ 4) : 0 ≤ (v : Int) * B ∧ (v : Int) * B ≤ 4 * B ∧ 0 ≤ mxI (v * B) T ∧ mxI (v * B) T ≤ 4 * B := by
  have h0 : 0 ≤ (v : Int) * B := Int.mul_nonneg (by omega) hB
  have h1 : (v : Int) * B ≤ 4 * B := Int.mul_le_mul_of_nonneg_right (by omega) hB
  have h2 := mxI_bd (a := (v : Int) * B) (b := T) h0 h1 hT0 hT
  exact ⟨h0, h1, h2.1, h2.2⟩
theorem gs_term {w : List Int} {T B : Int} (hw : lawB w = true) (hB : 0 ≤ B) (hT0 : 0 ≤ T) (hT : T ≤ 4 * B) {v : Nat} (hv : v < w.length) :
    0 ≤ nth w v * mxI (v * B) T ∧ nth w v * mxI (v * B) T ≤ nth w v * (4 * B) ∧ nth w v * mxI (v * B) T ≤ 20 * B := by
  have h0 := lawB_yes hw
  have h1 := allB_nth h0.2.2.1 hv
  have h2 := mx_bd hB hT0 hT (v := v) (by omega)
  have h3 : nth w v * mxI (v * B) T ≤ nth w v * (4 * B) := Int.mul_le_mul_of_nonneg_left h2.2.2.2 h1.1
  have h4 : nth w v * (4 * B) ≤ 5 * (4 * B) := Int.mul_le_mul_of_nonneg_right h1.2 (by omega)
  exact ⟨Int.mul_nonneg h1.1 h2.2.2.1, h3, by omega⟩
theorem gS_bd {w : List Int} {T B : Int} (hw : lawB w = true) (hB : 0 ≤ B) (hT0 : 0 ≤ T) (hT : T ≤ 4 * B) (v : Nat) (hv : v ≤ w.length) :
    0 ≤ gS w T B v ∧ gS w T B v ≤ sm (w.take v) * (4 * B) ∧ gS w T B v ≤ v * (20 * B) := by
  induction v with
  | zero => simp [gS, sm]
  | succ v ih =>
    have h := ih (by omega)
    have h1 := gs_term hw hB hT0 hT (v := v) (by omega)
    rw [sm_succ _ _ (by omega), Int.add_mul, show ((v + 1 : Nat) : Int) = (v : Int) + 1 by omega, Int.add_mul, gS_succ]
    omega
def gT (xss : List (List Int)) : Nat → Int
  | 0 => 0
  | j + 1 => gS (rowAt xss (xss.length - 1 - j)) (gT xss j) (thB xss j) (rowAt xss (xss.length - 1 - j)).length
theorem gT_bd {xss : List (List Int)} (h : lawsB xss = true) (j : Nat) (hj : j ≤ xss.length) : 0 ≤ gT xss j ∧ gT xss j ≤ 4 * thB xss j := by
  have hy := lawsB_yes h
  induction j with
  | zero => exact ⟨Int.le_refl _, show (0 : Int) ≤ 4 * 1 by decide⟩
  | succ j ih =>
    have h1 := ih (by omega)
    have hb := thB_bd h j (by omega)
    have h2 := gS_bd (hy.2 (xss.length - 1 - j) (by omega)) (by omega) h1.1 h1.2 (rowAt xss (xss.length - 1 - j)).length (Nat.le_refl _)
    rw [List.take_of_length_le (Nat.le_refl _)] at h2
    rw [gT, thB]
    refine ⟨h2.1, ?_⟩
    have e : sm (rowAt xss (xss.length - 1 - j)) * (4 * thB xss j) = 4 * (thB xss j * sm (rowAt xss (xss.length - 1 - j))) := by grind
    omega
theorem gT_succ (xss : List (List Int)) (m : Nat) (hm : m < xss.length) :
    gT xss (xss.length - m) = gS (rowAt xss m) (gT xss (xss.length - (m + 1))) (thB xss (xss.length - (m + 1))) (rowAt xss m).length := by
  have e : xss.length - m = xss.length - (m + 1) + 1 := by omega
  have e2 : xss.length - 1 - (xss.length - (m + 1)) = m := by omega
  rw [e, gT, e2]
/-- The mean behind the last j laws, in lowest terms. -/
def gF (xss : List (List Int)) (j : Nat) : Int × Int := (cutT (gT xss j) (thB xss j), cutB (gT xss j) (thB xss j))
/-- The means behind none, one, .. and the last j laws. -/
def gTab (xss : List (List Int)) (j : Nat) : List (Int × Int) := (List.range (j + 1)).map (gF xss)
theorem gTab_length (xss : List (List Int)) (j : Nat) : (gTab xss j).length = j + 1 := by simp [gTab]
theorem gTab_zero (xss : List (List Int)) : gTab xss 0 = [(0, 1)] := by
  simp [gTab, gF, gT, thB, cut_one]
theorem gTab_succ (xss : List (List Int)) (j : Nat) : gTab xss (j + 1) = gTab xss j ++ [gF xss (j + 1)] := by
  unfold gTab
  rw [List.range_succ, List.map_append]
  rfl
theorem gTab_rev (xss : List (List Int)) (j : Nat) : (gTab xss (j + 1)).reverse = [gF xss (j + 1)] ++ (gTab xss j).reverse := by
  rw [gTab_succ, List.reverse_append]
  rfl
theorem gTab_first (xss : List (List Int)) (j : Nat) : pT (gTab xss j).reverse 0 = (gF xss j).1 ∧ pB (gTab xss j).reverse 0 = (gF xss j).2 := by
  cases j with
  | zero => rw [gTab_zero]; simp [gF, gT, thB, cut_one, pT, pB]
  | succ j => rw [gTab_rev]; exact ⟨rfl, rfl⟩
theorem gTab_rev_at (xss : List (List Int)) (j k : Nat) (hk : k ≤ j) : pT (gTab xss j).reverse k = (gF xss (j - k)).1 ∧ pB (gTab xss j).reverse k = (gF xss (j - k)).2 := by
  have e : (gTab xss j).reverse.getD k (0, 0) = gF xss (j - k) := by
    rw [List.getD_eq_getElem?_getD, List.getElem?_reverse (by rw [gTab_length]; omega), gTab_length]
    simp only [gTab, List.getElem?_map]
    rw [List.getElem?_range (by omega)]
    simp
  unfold pT pB
  rw [e]
  exact ⟨rfl, rfl⟩
/-- Small quotients are fractions. -/
theorem lw_small {T B : Int} (hB : 0 < B) (hB2 : B ≤ 1000000) (hT : -1000000000 ≤ T) (hT2 : T ≤ 1000000000) : lwOk T B = true ∧ lwT T B = cutT T B ∧ lwB T B = cutB T B := by
  have h1 := cutT_bd hB hT hT2
  have h2 := cutB_bd (a := T) hB hB2
  have h : lwOk T B = true := by
    rw [lwOk_eq hB]
    simp only [Bool.and_eq_true, inB_iff, decide_eq_true_eq]
    omega
  refine ⟨h, ?_⟩
  have hf : fracB (cutT T B) (cutB T B) = true := h
  unfold lwT lwB kpT kpB
  rw [hf]
  exact ⟨rfl, rfl⟩
theorem gF_bd {xss : List (List Int)} (h : lawsB xss = true) (j : Nat) (hj : j ≤ xss.length) : 0 ≤ gT xss j ∧ gT xss j ≤ 1562500 ∧ 1 ≤ thB xss j ∧ thB xss j ≤ 390625 ∧ lwOk (gT xss j) (thB xss j) = true := by
  have h1 := gT_bd h j hj
  have h2 := thB_bd h j hj
  exact ⟨h1.1, by omega, h2.1, h2.2, (lw_small (by omega) (by omega) (by omega) (by omega)).1⟩
def gtV (xss : List (List Int)) : List (Int × Int) := if lawsB xss then (gTab xss xss.length).reverse else []
theorem gtV_no {xss : List (List Int)} (h : lawsB xss = false) : gtV xss = [] := by simp [gtV, h]
theorem gtV_yes {xss : List (List Int)} (h : lawsB xss = true) : gtV xss = (gTab xss xss.length).reverse := by simp [gtV, h]
theorem gtV_length (xss : List (List Int)) : (gtV xss).length ≤ 5 := by
  cases h : lawsB xss
  · rw [gtV_no h]; simp
  · rw [gtV_yes h, List.length_reverse, gTab_length]
    have := (lawsB_yes h).1
    omega
/-- Which one of two means is greater. -/
theorem over_less {T B z0 z1 v : Int} (hB : 0 < B) (hz : 0 < z1) (h : z0 * B = T * z1) : (v * z1 < z0 * 1) ↔ v * B < T := by
  constructor
  · intro h1
    have h2 : v * z1 * B < z0 * B := by
      have := Int.mul_lt_mul_of_pos_right h1 hB
      rwa [Int.mul_one] at this
    rw [h] at h2
    have h3 : v * B * z1 < T * z1 := by
      have e : v * z1 * B = v * B * z1 := by grind
      rwa [e] at h2
    exact Int.lt_of_mul_lt_mul_right h3 (by omega)
  · intro h1
    have h2 : v * B * z1 < T * z1 := Int.mul_lt_mul_of_pos_right h1 hz
    rw [← h] at h2
    have h3 : v * z1 * B < z0 * 1 * B := by
      have e : v * B * z1 = v * z1 * B := by grind
      rw [e] at h2
      simpa using h2
    exact Int.lt_of_mul_lt_mul_right h3 (by omega)
end Go.Proofs.Ytjnllbmknblecaa
