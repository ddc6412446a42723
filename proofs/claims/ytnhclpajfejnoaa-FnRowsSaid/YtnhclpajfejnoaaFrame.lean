/- What every frame of a law's row needs: the program's knobs, and how a slice of numbers that came in reads. -/
import Derived.Test.YtnhclpajfejnoaaBase
import Derived.ShutString
import Derived.ChangeOld
namespace Go.Proofs.Ytnhclpajfejnoaa
open Go.ChangeShapes Go.WideShapes Go.ChangeAt Go.RowKit

theorem own : ownKnob Try.prog.godebug = none := by kernel_rfl
theorem laidOut : laidOutB Try.prog = true := by kernel_rfl

/-- A slice of numbers that came in: nil, or a row of cells. -/
theorem rd_of_row {k : IntKind} {w : World} {x : Addr} {len cap : Nat} {zs : List Int} (hl : len ≤ cap) (hz : zs.length = cap)
    (hcell : ∀ i, i < zs.length → w.cell? (x.add i) = some (.int k (zs.getD i 0))) :
    (zs.take len).length = len ∧ Rd w (some x) ((zs.take len).map (Value.int k)) := by
  refine ⟨by simp; omega, fun i u hu => ⟨x, rfl, ?_⟩⟩
  have hi : i < (zs.take len).length := by have := (List.getElem?_eq_some_iff.1 hu).1; simpa using this
  have hi2 : i < zs.length := by simp at hi; omega
  rw [hcell i hi2, ← hu]
  simp at hi
  simp [List.getD, hi, hi2]
end Go.Proofs.Ytnhclpajfejnoaa
