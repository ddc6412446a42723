/- Literal rows as single operations in an act that is not a literal. -/
import Derived.Test.YtmkfhjhiklnbfaaOpK
import Derived.Test.YtmkfhjhiklnbfaaTrB
namespace Go.Proofs.Ytmkfhjhiklnbfaa
open Go.RowKit

section
variable {o : Oper} {a : Act} {w : World} {K : Act → World → Prop} {Q : Exit → Act → World → Prop}
theorem op_lit0 (hop : o.op = Op.buildSlice 22 0 #[]) (h : K (a.put o.dst (.slice (some ⟨w.heap.size, 0, none⟩) 0 0)) (w.alloc (.cells #[] 3))) : o.wp Try.prog a w K Q := by
  refine op_to ?_ h
  simp only [execOp, hop]
  go_simp
theorem op_lit1 {x : Operand} {i : Int} (hop : o.op = Op.buildSlice 22 1 #[(0, x)]) (hx : a.eval x = .int .i64 i) (h : K (a.put o.dst (.slice (some ⟨w.heap.size, 0, none⟩) 1 1)) (w.alloc (.cells #[.int .i64 i] 3))) : o.wp Try.prog a w K Q := by
  refine op_to ?_ h
  simp only [execOp, hop]
  simp [hx]
  go_simp
end
end Go.Proofs.Ytmkfhjhiklnbfaa
