/- Rows, plainly: their values, what they are worth when they may end early, and the prices in a row's market. No program stands here. -/
import Derived.Test.YtnhclpajfejnoaaRmA
import Derived.Test.YtnhclpajfejnoaaPow
import Derived.Test.YtnhclpajfejnoaaRowAt
import Derived.Test.YtnhclpajfejnoaaFracB
namespace Go.Proofs.Ytnhclpajfejnoaa
open Go.RowKit

/-- The value at place i of a row with k steps to go, times the power. -/
def rvA (u d : Int) (xs : List Int) : Nat → Nat → Int
  | 0, i => nth xs i
  | k + 1, i => d * rvA u d xs k (i + 1) + u * rvA u d xs k i
/-- The same where a row may be ended early. -/
def eaA (u d : Int) (T : List (List Int)) (n : Nat) : Nat → Nat → Int
  | 0, i => nth (rowAt T n) i
  | k + 1, i => mxI (nth (rowAt T (n - (k + 1))) i * pw (u + d) (k + 1)) (d * eaA u d T n k (i + 1) + u * eaA u d T n k i)
theorem pw_one {s : Int} (h : 1 ≤ s) (k : Nat) : 1 ≤ pw s k := pw_up h (Nat.zero_le k)
theorem pw_18 {s : Int} (h : 0 ≤ s) (h2 : s ≤ 18) {k : Nat} (hk : k ≤ 4) : pw s k ≤ 104976 := (pw_bd 18 4 104976 (by decide) h h2 (by decide) hk).2
theorem two_bd {u d a b B : Int} (hu : 0 ≤ u) (hd : 0 ≤ d) (ha : -B ≤ a ∧ a ≤ B) (hb : -B ≤ b ∧ b ≤ B) : -(B * (u + d)) ≤ d * a + u * b ∧ d * a + u * b ≤ B * (u + d) := by
  have h1 := Int.mul_le_mul_of_nonneg_left ha.1 hd
  have h2 := Int.mul_le_mul_of_nonneg_left ha.2 hd
  have h3 := Int.mul_le_mul_of_nonneg_left hb.1 hu
  have h4 := Int.mul_le_mul_of_nonneg_left hb.2 hu
  have e : B * (u + d) = d * B + u * B := by grind
  rw [Int.mul_neg] at h1 h3
  omega
section
variable {u d M : Int} {xs : List Int} {T : List (List Int)} {n : Nat}
theorem rvA_bd (hu : 0 ≤ u) (hd : 0 ≤ d) (hx : ∀ i, i ≤ n → -M ≤ nth xs i ∧ nth xs i ≤ M) : ∀ k i, i + k ≤ n → -(M * pw (u + d) k) ≤ rvA u d xs k i ∧ rvA u d xs k i ≤ M * pw (u + d) k
  | 0, i, h => by
    have := hx i (by omega)
    simp only [rvA, pw, Int.mul_one]
    exact this
  | k + 1, i, h => by
    have := two_bd hu hd (rvA_bd hu hd hx k (i + 1) (by omega)) (rvA_bd hu hd hx k i (by omega))
    simp only [rvA, pw_succ, ← Int.mul_assoc]
    exact this
theorem big_bd {s : Int} (h0 : 0 ≤ s) (h1 : s ≤ 18) (_hM : 0 ≤ M) (hM2 : M ≤ 999) {k : Nat} (hk : k ≤ 4) : M * pw s k ≤ 104871024 := by
  have := Int.mul_le_mul hM2 (pw_18 h0 h1 hk) (pw_pos h0 k) (by decide)
  omega
theorem eaA_bd (hu : 0 ≤ u) (hd : 0 ≤ d) (hM : 0 ≤ M) (hx : ∀ t i, t ≤ n → i ≤ t → -M ≤ nth (rowAt T t) i ∧ nth (rowAt T t) i ≤ M) : ∀ k i, i + k ≤ n → -(M * pw (u + d) k) ≤ eaA u d T n k i ∧ eaA u d T n k i ≤ M * pw (u + d) k
  | 0, i, h => by
    have := hx n i (Nat.le_refl _) (by omega)
    simp only [eaA, pw, Int.mul_one]
    exact this
  | k + 1, i, h => by
    have h1 := two_bd hu hd (eaA_bd hu hd hM hx k (i + 1) (by omega)) (eaA_bd hu hd hM hx k i (by omega))
    rw [Int.mul_assoc, ← pw_succ] at h1
    have h2 := hx (n - (k + 1)) i (by omega) (by omega)
    have hp := pw_pos (a := u + d) (by omega) (k + 1)
    have h3 := Int.mul_le_mul_of_nonneg_right h2.1 hp
    have h4 := Int.mul_le_mul_of_nonneg_right h2.2 hp
    rw [Int.neg_mul] at h3
    rw [eaA]
    exact mxI_bd h3 h4 h1.1 h1.2
/-- To end early is worth no less than to wait. -/
theorem ea_rv (hu : 0 ≤ u) (hd : 0 ≤ d) : ∀ k i, rvA u d (rowAt T n) k i ≤ eaA u d T n k i
  | 0, i => by simp only [rvA, eaA]; exact Int.le_refl _
  | k + 1, i => by
    have h1 := Int.mul_le_mul_of_nonneg_left (ea_rv hu hd k (i + 1)) hd
    have h2 := Int.mul_le_mul_of_nonneg_left (ea_rv hu hd k i) hu
    rw [rvA, eaA]
    unfold mxI
    split <;> omega
theorem ea_now : ∀ k, k ≤ n → ∀ i, nth (rowAt T (n - k)) i * pw (u + d) k ≤ eaA u d T n k i
  | 0, _, i => by simp only [eaA, pw, Int.mul_one, Nat.sub_zero]; exact Int.le_refl _
  | k + 1, _, i => by
    rw [eaA]
    unfold mxI
    split <;> omega
end
/-- What is less, in lowest terms. -/
theorem cut_ge {a b S : Int} (hS : 0 < S) (h : b ≤ a) : decide (cutT a S * cutB b S < cutT b S * cutB a S) = false := by
  rw [decide_eq_false_iff_not, Int.not_lt]
  have h1 := cut_cross a S
  have h2 := cut_cross b S
  have p1 := cutB_pos (a := a) hS
  have p2 := cutB_pos (a := b) hS
  generalize cutT a S = x at *
  generalize cutB a S = y at *
  generalize cutT b S = z at *
  generalize cutB b S = v at *
  refine Int.le_of_mul_le_mul_right (a := S) ?_ hS
  have e1 : z * y * S = b * v * y := by rw [← h2]; grind
  have e2 : x * v * S = a * y * v := by rw [← h1]; grind
  rw [e1, e2]
  have : b * (v * y) ≤ a * (v * y) := Int.mul_le_mul_of_nonneg_right h (Int.mul_nonneg (by omega) (by omega))
  have e3 : a * y * v = a * (v * y) := by grind
  rw [e3, Int.mul_assoc]
  exact this
theorem cut_ge1 {a x S : Int} (hS : 0 < S) (h : x * S ≤ a) : decide (cutT a S * 1 < x * cutB a S) = false := by
  rw [decide_eq_false_iff_not, Int.not_lt]
  have h1 := cut_cross a S
  have p1 := cutB_pos (a := a) hS
  generalize cutT a S = t at *
  generalize cutB a S = y at *
  refine Int.le_of_mul_le_mul_right (a := S) ?_ hS
  rw [Int.mul_one, h1]
  have : x * S * y ≤ a * y := Int.mul_le_mul_of_nonneg_right h (by omega)
  have e3 : x * y * S = x * S * y := by grind
  rw [e3]
  exact this
/-- A number of bounded size over a power is a fraction, in lowest terms. -/
theorem lw_ok {a b : Int} (ha : -1000000000 ≤ a ∧ a ≤ 1000000000) (hb : 1 ≤ b ∧ b ≤ 1000000) : lwOk a b = true ∧ lwT a b = cutT a b ∧ lwB a b = cutB a b := by
  have h0 : 0 < b := by omega
  have h1 := cutT_bd (M := 1000000000) h0 ha.1 ha.2
  have h2 := cutB_le (a := a) h0
  have e : lwOk a b = true := by
    rw [lwOk_eq h0, Bool.and_eq_true, inB_iff, decide_eq_true_eq]
    omega
  refine ⟨e, ?_, ?_⟩
  · unfold lwT kpT; exact if_pos e
  · unfold lwB kpB; exact if_pos e

/-- A row with its values. -/
def rwB (n u d : Int) (xs : List Int) : Bool := rowB n u d && decide ((xs.length : Int) = n + 1) && allB xs (-999) 999
def rwN (n u d : Int) (xs : List Int) : Int := rvA u d xs n.toNat 0
def rwT (n u d : Int) (xs : List Int) : Int := if rwB n u d xs then cutT (rwN n u d xs) (pw (u + d) n.toNat) else 0
def rwU (n u d : Int) (xs : List Int) : Int := if rwB n u d xs then cutB (rwN n u d xs) (pw (u + d) n.toNat) else 0
structure RowOk (n : Nat) (u d : Int) : Prop where
  n4 : n ≤ 4
  u1 : 1 ≤ u
  u9 : u ≤ 9
  d1 : 1 ≤ d
  d9 : d ≤ 9
theorem rowB_iff {n u d : Int} : rowB n u d = true ↔ 0 ≤ n ∧ RowOk n.toNat u d := by
  simp only [rowB, Bool.and_eq_true, inB_iff]
  constructor
  · rintro ⟨⟨h1, h2⟩, h3⟩
    exact ⟨h1.1, by omega, h2.1, h2.2, h3.1, h3.2⟩
  · rintro ⟨h0, h⟩
    have := h.n4
    exact ⟨⟨by omega, h.u1, h.u9⟩, h.d1, h.d9⟩
theorem RowOk.pb {n : Nat} {u d : Int} (h : RowOk n u d) {k : Nat} (hk : k ≤ 4) : 1 ≤ pw (u + d) k ∧ pw (u + d) k ≤ 104976 := by
  have := h.u1
  have := h.u9
  have := h.d1
  have := h.d9
  exact ⟨pw_one (by omega) k, pw_18 (by omega) (by omega) hk⟩
structure RowW (n : Nat) (u d : Int) (xs : List Int) : Prop extends RowOk n u d where
  len : xs.length = n + 1
  bd : ∀ i, i ≤ n → -999 ≤ nth xs i ∧ nth xs i ≤ 999
theorem rwB_iff {n u d : Int} {xs : List Int} : rwB n u d xs = true ↔ 0 ≤ n ∧ RowOk n.toNat u d ∧ xs.length = n.toNat + 1 ∧ allB xs (-999) 999 = true := by
  simp only [rwB, Bool.and_eq_true, rowB_iff, decide_eq_true_eq]
  constructor
  · rintro ⟨⟨⟨h0, h1⟩, h2⟩, h3⟩
    exact ⟨h0, h1, by omega, h3⟩
  · rintro ⟨h0, h1, h2, h3⟩
    exact ⟨⟨⟨h0, h1⟩, by omega⟩, h3⟩
theorem rwB_ok {n : Nat} {u d : Int} {xs : List Int} (h1 : RowOk n u d) (h2 : xs.length = n + 1) (h3 : allB xs (-999) 999 = true) : RowW n u d xs :=
  ⟨h1, h2, fun i hi => allB_nth h3 (by omega)⟩
theorem RowW.rv {n : Nat} {u d : Int} {xs : List Int} (h : RowW n u d xs) {k i : Nat} (hk : i + k ≤ n) : -104871024 ≤ rvA u d xs k i ∧ rvA u d xs k i ≤ 104871024 := by
  have := h.u1
  have := h.u9
  have := h.d1
  have := h.d9
  have := h.n4
  have b := rvA_bd (u := u) (d := d) (by omega) (by omega) h.bd k i hk
  have c := big_bd (s := u + d) (M := 999) (by omega) (by omega) (by decide) (by decide) (show k ≤ 4 by omega)
  omega
/-- How many shares are held. -/
def rhB (n u d : Int) (xs : List Int) : Bool := rwB n u d xs && decide (n ≠ 0)
def rhN (n u d : Int) (xs : List Int) : Int := rvA u d xs (n.toNat - 1) 1 - rvA u d xs (n.toNat - 1) 0
def rhT (n u d : Int) (xs : List Int) : Int := if rhB n u d xs then cutT (rhN n u d xs) (pw (u + d) n.toNat) else 0
def rhU (n u d : Int) (xs : List Int) : Int := if rhB n u d xs then cutB (rhN n u d xs) (pw (u + d) n.toNat) else 0
/-- A table: row t has t + 1 numbers. -/
def tabB (T : List (List Int)) : Bool := (List.range T.length).all fun t => decide ((rowAt T t).length = t + 1) && allB (rowAt T t) (-999) 999
def reB (n u d : Int) (T : List (List Int)) : Bool := rowB n u d && decide ((T.length : Int) = n + 1) && tabB T
def reN (n u d : Int) (T : List (List Int)) : Int := eaA u d T n.toNat n.toNat 0
def reT (n u d : Int) (T : List (List Int)) : Int := if reB n u d T then cutT (reN n u d T) (pw (u + d) n.toNat) else 0
def reU (n u d : Int) (T : List (List Int)) : Int := if reB n u d T then cutB (reN n u d T) (pw (u + d) n.toNat) else 0
structure RowE (n : Nat) (u d : Int) (T : List (List Int)) : Prop extends RowOk n u d where
  len : T.length = n + 1
  rl : ∀ t, t ≤ n → (rowAt T t).length = t + 1
  rb : ∀ t, t ≤ n → allB (rowAt T t) (-999) 999 = true
theorem tabB_iff {T : List (List Int)} : tabB T = true ↔ ∀ t, t < T.length → (rowAt T t).length = t + 1 ∧ allB (rowAt T t) (-999) 999 = true := by
  simp only [tabB, List.all_eq_true, List.mem_range, Bool.and_eq_true, decide_eq_true_eq]
theorem reB_iff {n u d : Int} {T : List (List Int)} : reB n u d T = true ↔ 0 ≤ n ∧ RowE n.toNat u d T := by
  simp only [reB, Bool.and_eq_true, rowB_iff, decide_eq_true_eq, tabB_iff]
  constructor
  · rintro ⟨⟨⟨h0, h1⟩, h2⟩, h3⟩
    exact ⟨h0, h1, by omega, fun t ht => (h3 t (by omega)).1, fun t ht => (h3 t (by omega)).2⟩
  · rintro ⟨h0, h⟩
    have := h.len
    exact ⟨⟨⟨h0, h.toRowOk⟩, by omega⟩, fun t ht => ⟨h.rl t (by omega), h.rb t (by omega)⟩⟩
theorem RowE.bd {n : Nat} {u d : Int} {T : List (List Int)} (h : RowE n u d T) : ∀ t i, t ≤ n → i ≤ t → -999 ≤ nth (rowAt T t) i ∧ nth (rowAt T t) i ≤ 999 := fun t i ht hi => allB_nth (h.rb t ht) (by rw [h.rl t ht]; omega)
theorem RowE.ea {n : Nat} {u d : Int} {T : List (List Int)} (h : RowE n u d T) {k i : Nat} (hk : i + k ≤ n) : -104871024 ≤ eaA u d T n k i ∧ eaA u d T n k i ≤ 104871024 := by
  have := h.u1
  have := h.u9
  have := h.d1
  have := h.d9
  have := h.n4
  have b := eaA_bd (u := u) (d := d) (by omega) (by omega) (by decide) h.bd k i hk
  have c := big_bd (s := u + d) (M := 999) (by omega) (by omega) (by decide) (by decide) (show k ≤ 4 by omega)
  omega
/-- What the law asks of a row that may be ended early. -/
theorem early_law {n u d : Int} {T : List (List Int)} (h : reB n u d T = true) : rwB n u d (rowAt T n.toNat) = true ∧
    decide (reT n u d T * rwU n u d (rowAt T n.toNat) < rwT n u d (rowAt T n.toNat) * reU n u d T) = false ∧ decide (reT n u d T * 1 < nth (rowAt T 0) 0 * reU n u d T) = false := by
  obtain ⟨h0, H⟩ := reB_iff.1 h
  have hw : rwB n u d (rowAt T n.toNat) = true := rwB_iff.2 ⟨h0, H.toRowOk, H.rl _ (Nat.le_refl _), H.rb _ (Nat.le_refl _)⟩
  have hp := (H.toRowOk.pb H.n4).1
  have h1 := H.u1
  have h2 := H.d1
  refine ⟨hw, ?_, ?_⟩
  · rw [reT, reU, rwT, rwU, if_pos h, if_pos h, if_pos hw, if_pos hw]
    exact cut_ge (by omega) (ea_rv (by omega) (by omega) _ _)
  · rw [reT, reU, if_pos h, if_pos h]
    have := ea_now (u := u) (d := d) (T := T) n.toNat (Nat.le_refl _) 0
    rw [Nat.sub_self] at this
    exact cut_ge1 (by omega) this
end Go.Proofs.Ytnhclpajfejnoaa
