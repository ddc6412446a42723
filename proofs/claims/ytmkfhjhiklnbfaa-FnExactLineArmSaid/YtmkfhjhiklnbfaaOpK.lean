/- Single operations in an act that is not a literal: for regions that draw, by facts. -/
import Derived.Test.YtmkfhjhiklnbfaaInv2
namespace Go.Proofs.Ytmkfhjhiklnbfaa
open Go.RowKit

section
variable {P : Program} {o : Oper} {a : Act} {w : World} {K : Act → World → Prop} {Q : Exit → Act → World → Prop}

theorem eval_tmp {d : Nat} {u : Value} (h : a.tmps[d]? = some u) : a.eval (.tmp d) = u := by
  simp [Act.eval, h]
theorem op_val {v : Value} (hrun : (execOp a.eval o).run P w = .ok (.value v) w) (h : K (a.put o.dst v) w) : o.wp P a w K Q := by
  unfold Oper.wp
  simp [hrun]
  exact h
theorem op_move {x : Operand} {v : Value} (hop : o.op = .move x) (hv : a.eval x = v) (h : K (a.put o.dst v) w) : o.wp P a w K Q :=
  op_val (by simp [execOp, hop, hv]) h
theorem op_to {v : Value} {w' : World} (hrun : (execOp a.eval o).run P w = .ok (.value v) w') (h : K (a.put o.dst v) w') : o.wp P a w K Q := by
  unfold Oper.wp
  rw [hrun, Oper.upon_value]
  exact h
theorem op_call {f : FuncId} {args : Array Value} {R : Ending → World → Prop} (hrun : (execOp a.eval o).run P w = .ok (.enter f args) w) (hc : Calls P f args w R) (h : ∀ e w', R e w' → ∃ v, e = .returned v ∧ K (a.put o.dst v) w') : o.wp P a w K Q := by
  unfold Oper.wp
  rw [hrun, Oper.upon_enter]
  refine hc.mono ?_
  intro e w' he
  obtain ⟨v, rfl, hk⟩ := h e w' he
  exact hk
end
end Go.Proofs.Ytmkfhjhiklnbfaa
