/- Rows made, and calls, as single operations in an act that is not a literal. -/
import Derived.Test.YtmkfhjhiklnbfaaOpS
namespace Go.Proofs.Ytmkfhjhiklnbfaa
open Go.RowKit

section
variable {o : Oper} {a : Act} {Q : Exit → Act → World → Prop}
theorem op_makes {K : Act → World → Prop} (w : World) (l c : Operand) (hop : o.op = Op.makeSlice 22 l c) (kl kc : IntKind) (L C : Int) (n : Nat)
    (hl : a.eval l = .int kl L) (hc : a.eval c = .int kc C) (hL : L = (n : Int)) (hC : C = (n : Int)) (hn : n ≤ 16777216)
    (hK : ∀ w', Own w' w.heap.size (some ⟨w.heap.size, 0, none⟩) n (List.replicate n 0) → Below w.heap.size w w' → K (a.put o.dst (.slice (some ⟨w.heap.size, 0, none⟩) n n)) w') :
    o.wp Try.prog a w K Q := by
  obtain ⟨i0, hi, hz0, hz1, hz2⟩ := info_parts int_info
  obtain ⟨w', hrun, r1, r2⟩ := run_make_full (P := Try.prog) w w.heap.size 22 3 i0 _ 1 Try.underlying22 hi hz0 hz1 kl kc n (by rw [hz2]; omega) (by unfold maxLen; omega) (Nat.le_refl _)
  subst hL
  subst hC
  unfold Oper.wp
  simp [execOp, hop, hl, hc, hrun, Result.andThen]
  refine hK w' (own_of _ _ _ n _ _ (by simp) ?_) (below_of_grown r2)
  rw [← madeInts]
  exact r1
/-- A call of a function with one argument. -/
theorem op_call1 {K : Act → World → Prop} {w : World} {f : FuncId} {d : Nat} {v : Value} {ts : Array TypeId} {R : Ending → World → Prop} (hop : o.op = Op.call { callee := .value (.func f), args := #[.tmp d], argTypes := ts }) (hx : a.tmps[d]? = some v) (hf : (callFunc f #[v]).run Try.prog w = .ok (.enter f #[v]) w)
    (hc : Calls Try.prog f #[v] w R) (h : ∀ e w', R e w' → ∃ u, e = .returned u ∧ K (a.put o.dst u) w') : o.wp Try.prog a w K Q := by
  refine op_call ?_ hc h
  simp only [execOp, hop]
  simp []
  go_simp

end
end Go.Proofs.Ytmkfhjhiklnbfaa
