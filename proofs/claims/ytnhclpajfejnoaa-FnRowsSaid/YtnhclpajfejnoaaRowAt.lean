/- The rows of a list of lists. Plain. -/
import Derived.Test.YtnhclpajfejnoaaBase
namespace Go.Proofs.Ytnhclpajfejnoaa
open Go.RowKit

/-- The list at a place, empty behind the end. -/
def rowAt (xss : List (List Int)) (k : Nat) : List Int := xss.getD k []
theorem rowAt_eq {xss : List (List Int)} {k : Nat} (h : k < xss.length) : rowAt xss k = xss[k] := by simp [rowAt, h]
end Go.Proofs.Ytnhclpajfejnoaa
