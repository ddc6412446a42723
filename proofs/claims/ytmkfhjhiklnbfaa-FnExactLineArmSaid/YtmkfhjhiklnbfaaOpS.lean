/- An arm stored into its box, as a single operation in an act that is not a literal. -/
import Derived.Test.YtmkfhjhiklnbfaaOpN
namespace Go.Proofs.Ytmkfhjhiklnbfaa
open Go.RowKit

section
variable {o : Oper} {a : Act} {w : World} {K : Act → World → Prop} {Q : Exit → Act → World → Prop}
theorem op_fill {x y : Operand} {g : Nat} {A1 A2 A3 : Option Addr} {n1 n2 n3 c1 c2 c3 : Nat} {m1 m2 m3 : Value} (hop : o.op = Op.store 26 x y) (hx : a.eval x = .pointer (some ⟨g, 0, none⟩)) (hy : a.eval y = .agg #[.slice A1 n1 c1, .slice A2 n2 c2, .slice A3 n3 c3]) (hd : o.dst = none)
    (f0 : w.cell? ⟨g, 0, none⟩ = some m1) (f1 : w.cell? ⟨g, 1, none⟩ = some m2) (f2 : w.cell? ⟨g, 2, none⟩ = some m3) (z0 : w.frozen? ⟨g, 0, none⟩ = false) (z1 : w.frozen? ⟨g, 1, none⟩ = false) (z2 : w.frozen? ⟨g, 2, none⟩ = false)
    (h : K a (((w.setCell ⟨g, 0, none⟩ (.slice A1 n1 c1)).setCell ⟨g, 1, none⟩ (.slice A2 n2 c2)).setCell ⟨g, 2, none⟩ (.slice A3 n3 c3))) : o.wp Try.prog a w K Q := by
  unfold Oper.wp
  simp only [execOp, hop]
  simp [hx, hy]
  go_simp
  simpa [Oper.upon, Act.put, hd] using h
end
end Go.Proofs.Ytmkfhjhiklnbfaa
