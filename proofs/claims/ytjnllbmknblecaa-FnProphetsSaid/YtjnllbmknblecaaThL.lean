/- A gambler with a threshold: the plain side. -/
import Derived.Test.YtjnllbmknblecaaBestL
import Derived.Test.YtjnllbmknblecaaFracB
namespace Go.Proofs.Ytjnllbmknblecaa

/-- What the first v values of a law bring, times a bottom. -/
def thS (w : List Int) (least T B : Int) : Nat → Int
  | 0 => 0
  | v + 1 => thS w least T B v + if (v : Int) < least then nth w v * T else nth w v * v * B
theorem thS_lo {w : List Int} {least T B : Int} {v : Nat} (h : (v : Int) < least) : thS w least T B (v + 1) = thS w least T B v + nth w v * T := by rw [thS, if_pos h]
theorem thS_hi {w : List Int} {least T B : Int} {v : Nat} (h : ¬ (v : Int) < least) : thS w least T B (v + 1) = thS w least T B v + nth w v * v * B := by rw [thS, if_neg h]
theorem lo_bd {w : List Int} {T B : Int} (hw : lawB w = true) (hT0 : 0 ≤ T) (hT : T ≤ 4 * B) {v : Nat} (hv : v < w.length) : 0 ≤ nth w v * T ∧ nth w v * T ≤ nth w v * (4 * B) ∧ nth w v * T ≤ 20 * B := by
  have h1 := allB_nth (lawB_yes hw).2.2.1 hv
  have h2 : nth w v * T ≤ nth w v * (4 * B) := Int.mul_le_mul_of_nonneg_left hT h1.1
  have h3 : nth w v * (4 * B) ≤ 5 * (4 * B) := Int.mul_le_mul_of_nonneg_right h1.2 (by omega)
  exact ⟨Int.mul_nonneg h1.1 hT0, h2, by omega⟩
theorem hi_bd {w : List Int} {B : Int} (hw : lawB w = true) (hB : 0 ≤ B) {v : Nat} (hv : v < w.length) : 0 ≤ nth w v * v ∧ nth w v * v ≤ 20 ∧ 0 ≤ nth w v * v * B ∧ nth w v * v * B ≤ nth w v * (4 * B) ∧ nth w v * v * B ≤ 20 * B := by
  have h0 := lawB_yes hw
  have h1 := allB_nth h0.2.2.1 hv
  have h2 := mul_bd (nth w v) v 5 4 h1.1 h1.2 (by omega) (by omega)
  have h3 : nth w v * v * B ≤ 20 * B := Int.mul_le_mul_of_nonneg_right (by omega) hB
  have h4 : (v : Int) * B ≤ 4 * B := Int.mul_le_mul_of_nonneg_right (by omega) hB
  have h5 : nth w v * ((v : Int) * B) ≤ nth w v * (4 * B) := Int.mul_le_mul_of_nonneg_left h4 h1.1
  rw [← Int.mul_assoc] at h5
  exact ⟨h2.1, by omega, Int.mul_nonneg h2.1 hB, h5, h3⟩
theorem thS_bd {w : List Int} {least T B : Int} (hw : lawB w = true) (hB : 0 ≤ B) (hT0 : 0 ≤ T) (hT : T ≤ 4 * B) (v : Nat) (hv : v ≤ w.length) :
    0 ≤ thS w least T B v ∧ thS w least T B v ≤ sm (w.take v) * (4 * B) ∧ thS w least T B v ≤ v * (20 * B) := by
  induction v with
  | zero => simp [thS, sm]
  | succ v ih =>
    have h := ih (by omega)
    have h1 := lo_bd hw hT0 hT (v := v) (by omega)
    have h2 := hi_bd hw hB (v := v) (by omega)
    rw [sm_succ _ _ (by omega), Int.add_mul, show ((v + 1 : Nat) : Int) = (v : Int) + 1 by omega, Int.add_mul]
    by_cases hl : (v : Int) < least
    · rw [thS_lo hl]; omega
    · rw [thS_hi hl]; omega

/-- Top and bottom of a mean that goes with a rule f of one law, behind the last j laws. -/
def thB (xss : List (List Int)) : Nat → Int
  | 0 => 1
  | j + 1 => thB xss j * sm (rowAt xss (xss.length - 1 - j))
def thT (xss : List (List Int)) (least : Int) : Nat → Int
  | 0 => 0
  | j + 1 => thS (rowAt xss (xss.length - 1 - j)) least (thT xss least j) (thB xss j) (rowAt xss (xss.length - 1 - j)).length
/-- 25 to the power of j. -/
def hi25 : Nat → Int
  | 0 => 1
  | j + 1 => hi25 j * 25
theorem hi25_bd {j : Nat} (h : j ≤ 4) : 1 ≤ hi25 j ∧ hi25 j ≤ 390625 := by
  match j, h with
  | 0, _ => decide
  | 1, _ => decide
  | 2, _ => decide
  | 3, _ => decide
  | 4, _ => decide
theorem thB_bd' {xss : List (List Int)} (h : lawsB xss = true) (j : Nat) (hj : j ≤ xss.length) : 1 ≤ thB xss j ∧ thB xss j ≤ hi25 j := by
  have hy := lawsB_yes h
  induction j with
  | zero => exact ⟨Int.le_refl _, Int.le_refl _⟩
  | succ j ih =>
    have h1 := ih (by omega)
    have h2 := lawB_yes (hy.2 (xss.length - 1 - j) (by omega))
    have h3 : 1 * 1 ≤ thB xss j * sm (rowAt xss (xss.length - 1 - j)) := Int.mul_le_mul h1.1 h2.2.2.2.1 (by omega) (by omega)
    have h4 : thB xss j * sm (rowAt xss (xss.length - 1 - j)) ≤ hi25 j * 25 := Int.mul_le_mul h1.2 h2.2.2.2.2 (by omega) (by omega)
    rw [thB, hi25]
    omega
theorem thB_bd {xss : List (List Int)} (h : lawsB xss = true) (j : Nat) (hj : j ≤ xss.length) : 1 ≤ thB xss j ∧ thB xss j ≤ 390625 := by
  have h1 := thB_bd' h j hj
  have h2 := hi25_bd (j := j) (by have := (lawsB_yes h).1; omega)
  omega
theorem thT_bd {xss : List (List Int)} (h : lawsB xss = true) (least : Int) (j : Nat) (hj : j ≤ xss.length) : 0 ≤ thT xss least j ∧ thT xss least j ≤ 4 * thB xss j := by
  have hy := lawsB_yes h
  induction j with
  | zero => exact ⟨Int.le_refl _, show (0 : Int) ≤ 4 * 1 by decide⟩
  | succ j ih =>
    have h1 := ih (by omega)
    have hb := thB_bd h j (by omega)
    have h2 := thS_bd (least := least) (hy.2 (xss.length - 1 - j) (by omega)) (by omega) h1.1 h1.2 (rowAt xss (xss.length - 1 - j)).length (Nat.le_refl _)
    rw [List.take_of_length_le (Nat.le_refl _)] at h2
    rw [thT, thB]
    refine ⟨h2.1, ?_⟩
    have e : sm (rowAt xss (xss.length - 1 - j)) * (4 * thB xss j) = 4 * (thB xss j * sm (rowAt xss (xss.length - 1 - j))) := by grind
    omega
theorem thT_succ (xss : List (List Int)) (least : Int) (m : Nat) (hm : m < xss.length) :
    thT xss least (xss.length - m) = thS (rowAt xss m) least (thT xss least (xss.length - (m + 1))) (thB xss (xss.length - (m + 1))) (rowAt xss m).length := by
  have e : xss.length - m = xss.length - (m + 1) + 1 := by omega
  have e2 : xss.length - 1 - (xss.length - (m + 1)) = m := by omega
  rw [e, thT, e2]
theorem thB_succ (xss : List (List Int)) (m : Nat) (hm : m < xss.length) : thB xss (xss.length - m) = thB xss (xss.length - (m + 1)) * sm (rowAt xss m) := by
  have e : xss.length - m = xss.length - (m + 1) + 1 := by omega
  have e2 : xss.length - 1 - (xss.length - (m + 1)) = m := by omega
  rw [e, thB, e2]

def tmT (xss : List (List Int)) (least : Int) : Int := if lawsB xss && inB least 0 5 then lwT (thT xss least xss.length) (thB xss xss.length) else 0
def tmB (xss : List (List Int)) (least : Int) : Int := if lawsB xss && inB least 0 5 then lwB (thT xss least xss.length) (thB xss xss.length) else 0
def tmO (xss : List (List Int)) (least : Int) : Bool := if lawsB xss && inB least 0 5 then lwOk (thT xss least xss.length) (thB xss xss.length) else false
theorem tm_no {xss : List (List Int)} {least : Int} (h : (lawsB xss && inB least 0 5) = false) : tmT xss least = 0 ∧ tmB xss least = 0 ∧ tmO xss least = false := by simp [tmT, tmB, tmO, h]
theorem tm_yes {xss : List (List Int)} {least : Int} (h : (lawsB xss && inB least 0 5) = true) :
    tmT xss least = lwT (thT xss least xss.length) (thB xss xss.length) ∧ tmB xss least = lwB (thT xss least xss.length) (thB xss xss.length) ∧ tmO xss least = lwOk (thT xss least xss.length) (thB xss xss.length) := by simp [tmT, tmB, tmO, h]
end Go.Proofs.Ytjnllbmknblecaa
