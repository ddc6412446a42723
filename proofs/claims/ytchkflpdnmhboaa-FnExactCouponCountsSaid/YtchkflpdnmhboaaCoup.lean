/- CouponCounts: the reference's alternating sum, the program's table. -/
import Derived.Test.YtchkflpdnmhboaaPow
import Derived.Test.YtchkflpdnmhboaaLaws
namespace Go.Proofs.Ytchkflpdnmhboaa
open Go.RowKit

/-- The sum's sign. -/
def sg : Nat → Int
  | 0 => 1
  | j + 1 => - sg j
/-- The sum behind j terms, from k = n down. -/
def ccS (n m : Nat) : Nat → Int
  | 0 => 0
  | j + 1 => ccS n m j + sg j * chI n (n - j) * pw ((n - j : Nat) : Int) m
theorem sg_succ (j : Nat) : sg (j + 1) = - sg j := rfl
theorem ccS_succ (n m j : Nat) : ccS n m (j + 1) = ccS n m j + sg j * chI n (n - j) * pw ((n - j : Nat) : Int) m := rfl
theorem sg_bd (j : Nat) : -1 ≤ sg j ∧ sg j ≤ 1 := by
  induction j with
  | zero => decide
  | succ j ih => rw [sg_succ]; omega
theorem cc_bd : ∀ n, n ≤ 8 → ∀ m, m ≤ 8 → ∀ j, j ≤ n + 1 → -1000000000000 ≤ ccS n m j ∧ ccS n m j ≤ 1000000000000 ∧ -1000000 ≤ sg j * chI n (n - j) ∧ sg j * chI n (n - j) ≤ 1000000 ∧
    -1000000000000 ≤ sg j * chI n (n - j) * pw ((n - j : Nat) : Int) m ∧ sg j * chI n (n - j) * pw ((n - j : Nat) : Int) m ≤ 1000000000000 := by decide +kernel

/-- One round over the table: the first k entries have been handed on. -/
def cpIn (n : Nat) (t : List Int) : Nat → List Int
  | 0 => List.replicate (n + 1) 0
  | k + 1 =>
    if k < n then ((cpIn n t k).set k (nth (cpIn n t k) k + k * nth t k)).set (k + 1) (nth (cpIn n t k) (k + 1) + ((n : Int) - k) * nth t k)
    else (cpIn n t k).set k (nth (cpIn n t k) k + k * nth t k)
def cpAt (n : Nat) : Nat → List Int
  | 0 => (List.replicate (n + 1) 0).set 0 1
  | m + 1 => cpIn n (cpAt n m) (n + 1)
theorem cpIn_length (n : Nat) (t : List Int) (k : Nat) : (cpIn n t k).length = n + 1 := by
  induction k with
  | zero => simp [cpIn]
  | succ k ih => unfold cpIn; split <;> simp [ih]
theorem cpAt_length (n m : Nat) : (cpAt n m).length = n + 1 := by
  cases m with
  | zero => simp [cpAt]
  | succ m => exact cpIn_length _ _ _
theorem cpIn_lt (n : Nat) (t : List Int) (k : Nat) (h : k < n) : cpIn n t (k + 1) = ((cpIn n t k).set k (nth (cpIn n t k) k + k * nth t k)).set (k + 1) (nth (cpIn n t k) (k + 1) + ((n : Int) - k) * nth t k) := by
  rw [cpIn, if_pos h]
theorem cpIn_ge (n : Nat) (t : List Int) (k : Nat) (h : ¬ k < n) : cpIn n t (k + 1) = (cpIn n t k).set k (nth (cpIn n t k) k + k * nth t k) := by
  rw [cpIn, if_neg h]
/-- Within what bounds all numbers stay, and that both ways agree: by going through all tables. -/
def inT (x : Int) : Bool := decide (0 ≤ x) && decide (x ≤ 1000000000)
theorem cp_bd : ∀ n, n ≤ 8 → ∀ m, m ≤ 8 → (∀ k, k ≤ n → inT (nth (cpAt n m) k) = true ∧ inT (nth (cpIn n (cpAt n m) k) k) = true ∧
    inT (nth (cpIn n (cpAt n m) k) (k + 1)) = true) := by decide +kernel
theorem cp_eq : ∀ n, n ≤ 8 → 1 ≤ n → ∀ m, m ≤ 8 → nth (cpAt n m) n = ccS n m (n + 1) := by decide +kernel
theorem inT_iff {x : Int} : inT x = true ↔ 0 ≤ x ∧ x ≤ 1000000000 := by simp [inT]
end Go.Proofs.Ytchkflpdnmhboaa
