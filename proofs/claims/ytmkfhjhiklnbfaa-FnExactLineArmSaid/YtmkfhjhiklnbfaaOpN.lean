/- An arm built, its box made and filled, as single operations in an act that is not a literal. -/
import Derived.Test.YtmkfhjhiklnbfaaOpM
import Derived.Test.YtmkfhjhiklnbfaaMk
namespace Go.Proofs.Ytmkfhjhiklnbfaa
open Go.RowKit

section
variable {o : Oper} {a : Act} {w : World} {K : Act → World → Prop} {Q : Exit → Act → World → Prop}
theorem op_build3 {x y : Operand} {A1 A2 A3 : Option Addr} {n1 n2 n3 c1 c2 c3 : Nat} (hop : o.op = Op.build 26 #[(0, x), (1, y)]) (hx : a.eval x = .agg #[.slice A1 n1 c1, .slice A2 n2 c2]) (hy : a.eval y = .slice A3 n3 c3) (h : K (a.put o.dst (.agg #[.slice A1 n1 c1, .slice A2 n2 c2, .slice A3 n3 c3])) w) : o.wp Try.prog a w K Q := by
  refine op_to ?_ h
  simp only [execOp, hop]
  simp [hx, hy]
  go_simp
theorem op_box (hop : o.op = Op.alloc 26) (h : K (a.put o.dst (.pointer (some ⟨w.heap.size, 0, none⟩))) (w.alloc (.cells #[.slice none 0 0, .slice none 0 0, .slice none 0 0] 26))) : o.wp Try.prog a w K Q := by
  refine op_to ?_ h
  simp only [execOp, hop]
  go_simp
end
end Go.Proofs.Ytmkfhjhiklnbfaa
