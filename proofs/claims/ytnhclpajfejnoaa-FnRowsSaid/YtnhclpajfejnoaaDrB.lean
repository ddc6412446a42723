/- What all draws share: worlds that grow beside a cursor; a row that has been drawn. -/
import Derived.Test.YtnhclpajfejnoaaCur
namespace Go.Proofs.Ytnhclpajfejnoaa
open Go.RowKit

theorem grown_new {w0 w1 w2 : World} {r row : Option Nat} (h1 : w0.grownBy w1 r) (h2 : w1.grownBy w2 row) (hrow : ∀ b, row = some b → w0.heap.size ≤ b) : w0.grownBy w2 r :=
  ⟨h2.os.trans h1.os, h2.tape.trans h1.tape, h2.output.trans h1.output, Nat.le_trans h1.size h2.size, fun k hk hr => (h2.block k (Nat.lt_of_lt_of_le hk h1.size) fun e => by have := hrow k e.symm; omega).trans (h1.block k hk hr)⟩
theorem grown_low {w0 w1 w2 : World} {r : Option Nat} (h1 : w0.grownBy w1 r) (h2 : Below w1.heap.size w1 w2) : w0.grownBy w2 r := grown_new h1 (grown_of_below h2 none) (fun b e => by cases e)
theorem own_apart {w : World} {B c g : Nat} {A : Option Addr} {xs : List Int} (h : Own w B A c xs) (hg : g < B) : A = none ∨ blk A ≠ some g := by
  rcases A with _ | a
  · exact .inl rfl
  · right
    intro e
    have := h.ge g e
    omega
/-- A row of numbers has been drawn. -/
def RowPost (w : World) (g : Nat) (M : Int) (m : Nat) (e : Ending) (w' : World) : Prop := ∃ A c xs, e = .returned (.slice A xs.length c) ∧ xs.length ≤ m ∧ Own w' w.heap.size A c xs ∧ CurS w' g M ∧ w.grownBy w' (some g)
end Go.Proofs.Ytnhclpajfejnoaa
