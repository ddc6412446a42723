/- How a slice of slices of numbers that came in reads. -/
import Derived.Test.YtjnllbmknblecaaFrame
import Derived.Test.YtjnllbmknblecaaSS
import Derived.Deep.Matrix
namespace Go.Proofs.Ytjnllbmknblecaa
open Go.ChangeShapes Go.WideShapes Go.ChangeAt Go.RowKit

/-- A slice of slices of numbers that came in: nil, or a row of heads. -/
theorem ss_of_rows {w : World} {a : Addr} {len cap : Nat} {A : Nat → Option Addr} {L C : Nat → Nat} {Z : Nat → List Int} (hl : len ≤ cap)
    (h : ∀ r, r < cap → w.cell? (a.add r) = some (.slice (A r) (L r) (C r)) ∧ L r ≤ C r ∧ C r ≤ maxLen ∧ (Z r).length = C r ∧ (∀ n ∈ Z r, (Lit.int .i64 n).wf = true) ∧ (A r = none → C r = 0) ∧
      ∀ a', A r = some a' → 0 ≤ a'.block ∧ ∀ c, c < C r → w.cell? (a'.add c) = some (.int .i64 ((Z r).getD c 0))) :
    ((List.range len).map fun r => (Z r).take (L r)).length = len ∧ RdSS w (some a) ((List.range len).map fun r => (Z r).take (L r)) ∧
      ∀ k, k < ((List.range len).map fun r => (Z r).take (L r)).length → (rowAt ((List.range len).map fun r => (Z r).take (L r)) k).length ≤ 9223372036854775807 := by
  have hlen : ((List.range len).map fun r => (Z r).take (L r)).length = len := by simp
  have hrow : ∀ k, k < len → rowAt ((List.range len).map fun r => (Z r).take (L r)) k = (Z k).take (L k) := fun k hk => by
    rw [rowAt_eq (by rw [hlen]; exact hk)]
    simp
  have hL : ∀ k, k < len → ((Z k).take (L k)).length = L k := fun k hk => by
    obtain ⟨_, h1, _, h2, _⟩ := h k (by omega)
    simp
    omega
  refine ⟨hlen, fun k hk => ?_, fun k hk => ?_⟩
  · rw [hlen] at hk
    obtain ⟨hc, h1, h2, h3, _, h5, h6⟩ := h k (by omega)
    refine ⟨a, A k, C k, rfl, by rw [hrow k hk, hL k hk]; exact hc, ?_⟩
    rw [hrow k hk]
    cases hA : A k with
    | none =>
      have : L k = 0 := by have := h5 hA; omega
      rw [this, List.take_zero]
      exact Rd.nil _ _
    | some a' => exact (rd_of_row (k := .i64) h1 h3 (fun i hi => (h6 a' hA).2 i (by omega))).2
  · rw [hlen] at hk
    rw [hrow k hk, hL k hk]
    obtain ⟨_, h1, h2, _⟩ := h k (by omega)
    unfold maxLen at h2
    omega
end Go.Proofs.Ytjnllbmknblecaa
