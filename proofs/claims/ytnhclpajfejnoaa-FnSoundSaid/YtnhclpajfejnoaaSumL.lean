/- Sums over the numbers below n, sums over children. No program stands here. -/
import Derived.Test.YtnhclpajfejnoaaTreA
namespace Go.Proofs.Ytnhclpajfejnoaa

/-- A sum over the numbers below n. -/
def sN (f : Nat → Int) : Nat → Int
  | 0 => 0
  | n + 1 => sN f n + f n
theorem sN_congr {f g : Nat → Int} : ∀ {n}, (∀ i, i < n → f i = g i) → sN f n = sN g n
  | 0, _ => rfl
  | n + 1, h => by rw [sN, sN, sN_congr (fun i hi => h i (by omega)), h n (by omega)]
theorem sN_add (f g : Nat → Int) : ∀ n, sN (fun i => f i + g i) n = sN f n + sN g n
  | 0 => rfl
  | n + 1 => by rw [sN, sN, sN, sN_add f g n]; omega
theorem sN_mul (c : Int) (f : Nat → Int) : ∀ n, sN (fun i => c * f i) n = c * sN f n
  | 0 => by simp [sN]
  | n + 1 => by rw [sN, sN, sN_mul c f n, Int.mul_add]
theorem sN_zero {f : Nat → Int} : ∀ {n}, (∀ i, i < n → f i = 0) → sN f n = 0
  | 0, _ => rfl
  | n + 1, h => by rw [sN, sN_zero (fun i hi => h i (by omega)), h n (by omega)]; rfl
theorem sN_one {f : Nat → Int} {k : Nat} : ∀ {n}, k < n → (∀ i, i < n → i ≠ k → f i = 0) → sN f n = f k
  | 0, h, _ => by omega
  | n + 1, h, h0 => by
    rw [sN]
    rcases Nat.eq_or_lt_of_le (Nat.lt_succ_iff.1 h) with rfl | h'
    · rw [sN_zero fun i hi => h0 i (by omega) (by omega)]; omega
    · rw [sN_one h' fun i hi hk => h0 i (by omega) hk, h0 n (by omega) (by omega)]; omega
theorem sN_le {f g : Nat → Int} : ∀ {n}, (∀ i, i < n → f i ≤ g i) → sN f n ≤ sN g n
  | 0, _ => Int.le_refl _
  | n + 1, h => by
    have h1 := sN_le (f := f) (g := g) (n := n) fun i hi => h i (by omega)
    have h2 := h n (by omega)
    rw [sN, sN]; omega
theorem sN_bd {f : Nat → Int} {M : Int} : ∀ {n}, (∀ i, i < n → -M ≤ f i ∧ f i ≤ M) → -(M * (n : Int)) ≤ sN f n ∧ sN f n ≤ M * (n : Int)
  | 0, _ => by simp [sN]
  | n + 1, h => by
    have h1 := sN_bd (f := f) (M := M) (n := n) fun i hi => h i (by omega)
    have h2 := h n (by omega)
    rw [sN, Int.natCast_add, Int.mul_add]
    omega
theorem sN_comm (f : Nat → Nat → Int) (m : Nat) : ∀ n, sN (fun i => sN (fun j => f i j) m) n = sN (fun j => sN (fun i => f i j) n) m
  | 0 => by rw [sN, sN_zero]; intro i _; rfl
  | n + 1 => by
    rw [sN, sN_comm f m n, ← sN_add]
    rfl
theorem sN_up {f : Nat → Int} {n : Nat} : ∀ {m}, n ≤ m → (∀ i, n ≤ i → i < m → f i = 0) → sN f m = sN f n
  | 0, h, _ => by obtain rfl : n = 0 := by omega
                  rfl
  | m + 1, h, h0 => by
    rcases Nat.eq_or_lt_of_le h with rfl | h'
    · rfl
    · rw [sN, sN_up (m := m) (by omega) (fun i h1 h2 => h0 i h1 (by omega)), h0 m (by omega) (by omega)]; omega
/-- A sum over children. -/
theorem kS_sN_to {P : List Int} (v : Nat → Int) (x : Nat) : ∀ m, (∀ k, k ≤ (kidTo P (x : Int) m).length → True) → ((kidTo P (x : Int) m).map fun y => v y.toNat).sum = sN (fun z => if nth P z = (x : Int) then v z else 0) m
  | 0, _ => rfl
  | m + 1, _ => by
    have ih := kS_sN_to (P := P) v x m fun _ _ => trivial
    rw [sN]
    by_cases h : nth P m = (x : Int)
    · rw [kidTo_yes h, if_pos h, List.map_append, List.sum_append, ih]; simp
    · rw [kidTo_no h, if_neg h, ih]; omega
theorem kS_take {P : List Int} (v : Nat → Int) (x : Nat) : ∀ k, k ≤ (kids P (x : Int)).length → kS P v x k = (((kids P (x : Int)).take k).map fun y => v y.toNat).sum
  | 0, _ => by simp [kS]
  | k + 1, h => by
    rw [kS, kS_take v x k (by omega), List.take_succ_eq_append_getElem (by omega), List.map_append, List.sum_append, ← nth_eq (by omega)]
    simp
theorem kS_sN {P : List Int} (v : Nat → Int) (x : Nat) : kS P v x (kids P (x : Int)).length = sN (fun z => if nth P z = (x : Int) then v z else 0) P.length := by
  rw [kS_take v x _ (Nat.le_refl _), List.take_length]
  exact kS_sN_to v x P.length fun _ _ => trivial
end Go.Proofs.Ytnhclpajfejnoaa
