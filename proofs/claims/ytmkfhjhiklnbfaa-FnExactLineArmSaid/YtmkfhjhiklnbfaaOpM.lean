/- Sums and trees as single operations in an act that is not a literal. -/
import Derived.Test.YtmkfhjhiklnbfaaOpL
namespace Go.Proofs.Ytmkfhjhiklnbfaa
open Go.RowKit

section
variable {o : Oper} {a : Act} {w : World} {K : Act → World → Prop} {Q : Exit → Act → World → Prop}
theorem op_add {x y : Operand} {i j : Int} (hop : o.op = Op.binOp BinOp.add 3 x y 3) (hx : a.eval x = .int .i64 i) (hy : a.eval y = .int .i64 j) (hw : IntKind.i64.wrap (i + j) = i + j) (h : K (a.put o.dst (.int .i64 (i + j))) w) : o.wp Try.prog a w K Q := by
  refine op_to ?_ h
  simp only [execOp, hop]
  simp [hx, hy]
  go_simp
theorem op_build2 {x y : Operand} {A1 A2 : Option Addr} {n1 n2 c1 c2 : Nat} (hop : o.op = Op.build 24 #[(0, x), (1, y)]) (hx : a.eval x = .slice A1 n1 c1) (hy : a.eval y = .slice A2 n2 c2) (h : K (a.put o.dst (.agg #[.slice A1 n1 c1, .slice A2 n2 c2])) w) : o.wp Try.prog a w K Q := by
  refine op_to ?_ h
  simp only [execOp, hop]
  simp [hx, hy]
  go_simp
end
end Go.Proofs.Ytmkfhjhiklnbfaa
