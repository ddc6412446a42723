/- How a struct's fields that came in read: a slice of numbers, a number. -/
import Derived.Test.YtjnllbmknblecaaFrame
import Derived.Lib.SmallJoins
namespace Go.Proofs.Ytjnllbmknblecaa
open Go.ChangeShapes Go.WideShapes Go.ChangeAt Go.RowKit

theorem ints_of_trod {H : Type} {enc : TypeId × Value → H} {W : World} {base n : Nat} {held : Bool} {v : Value} {y : DataW H × List MemPlace} (h : DataW.trod enc Try.prog W base (fun _ => true) held n 22 [v] = some y) :
    ∃ (A : Option Addr) (xs : List Int) (c : Nat), v = .slice A xs.length c ∧ Rd W A (ints xs) ∧ xs.length ≤ 9223372036854775807 := by
  rcases open_ints Try.underlying22 Try.underlying3 (by kernel_rfl) h with ⟨hcs, _⟩ | ⟨x, l, c, zs, hcs, _, hl, hm, hz, _, hcell, hwz⟩
  · injection hcs with hv
    exact ⟨none, [], 0, hv, Rd.nil _ _, by simp⟩
  · injection hcs with hv
    have := rd_of_row (k := .i64) hl (by simpa using hz) hcell
    exact ⟨some x, zs.take l, c, by rw [this.1]; exact hv, this.2, by rw [this.1]; unfold maxLen at hm; omega⟩
theorem int_of_trod {H : Type} {enc : TypeId × Value → H} {W : World} {base n : Nat} {held : Bool} {v : Value} {y : DataW H × List MemPlace} (h : DataW.trod enc Try.prog W base (fun _ => true) held n 3 [v] = some y) :
    ∃ a : Int, v = .int .i64 a := by
  obtain ⟨a, hcs, _⟩ := DataW.trod_int Try.underlying3 h
  injection hcs with hv
  exact ⟨a, hv⟩
end Go.Proofs.Ytjnllbmknblecaa
