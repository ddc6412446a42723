/- Single operations in an act that is not a literal. -/
import Derived.Test.YtkpdldoiicfllaaInvA
import Derived.Test.YtkpdldoiicfllaaTrB
import Derived.Test.YtkpdldoiicfllaaMk
namespace Go.Proofs.Ytkpdldoiicfllaa
open Go.RowKit

section
variable {P : Program} {o : Oper} {a : Act} {w : World} {K : Act → World → Prop} {Q : Exit → Act → World → Prop}

theorem eval_tmp {d : Nat} {u : Value} (h : a.tmps[d]? = some u) : a.eval (.tmp d) = u := by
  simp [Act.eval, h]
theorem op_val {v : Value} (hrun : (execOp a.eval o).run P w = .ok (.value v) w) (h : K (a.put o.dst v) w) : o.wp P a w K Q := by
  unfold Oper.wp
  simp [hrun]
  exact h
theorem op_move {x : Operand} {v : Value} (hop : o.op = .move x) (hv : a.eval x = v) (h : K (a.put o.dst v) w) : o.wp P a w K Q :=
  op_val (by simp [execOp, hop, hv]) h
theorem op_to {v : Value} {w' : World} (hrun : (execOp a.eval o).run P w = .ok (.value v) w') (h : K (a.put o.dst v) w') : o.wp P a w K Q := by
  unfold Oper.wp
  rw [hrun, Oper.upon_value]
  exact h
theorem op_call {f : FuncId} {args : Array Value} {R : Ending → World → Prop} (hrun : (execOp a.eval o).run P w = .ok (.enter f args) w) (hc : Calls P f args w R) (h : ∀ e w', R e w' → ∃ v, e = .returned v ∧ K (a.put o.dst v) w') : o.wp P a w K Q := by
  unfold Oper.wp
  rw [hrun, Oper.upon_enter]
  refine hc.mono ?_
  intro e w' he
  obtain ⟨v, rfl, hk⟩ := h e w' he
  exact hk
end

section
variable {o : Oper} {a : Act} {w : World} {K : Act → World → Prop} {Q : Exit → Act → World → Prop}
theorem op_lit0 (hop : o.op = Op.buildSlice 31 0 #[]) (h : K (a.put o.dst (.slice (some ⟨w.heap.size, 0, none⟩) 0 0)) (w.alloc (.cells #[] 3))) : o.wp Try.prog a w K Q := by
  refine op_to ?_ h
  simp only [execOp, hop]
  go_simp
theorem op_lit1 {x : Operand} {i : Int} (hop : o.op = Op.buildSlice 31 1 #[(0, x)]) (hx : a.eval x = .int .i64 i) (h : K (a.put o.dst (.slice (some ⟨w.heap.size, 0, none⟩) 1 1)) (w.alloc (.cells #[.int .i64 i] 3))) : o.wp Try.prog a w K Q := by
  refine op_to ?_ h
  simp only [execOp, hop]
  simp [hx]
  go_simp
end

section
variable {o : Oper} {a : Act} {w : World} {K : Act → World → Prop} {Q : Exit → Act → World → Prop}
theorem op_add {x y : Operand} {i j : Int} (hop : o.op = Op.binOp BinOp.add 3 x y 3) (hx : a.eval x = .int .i64 i) (hy : a.eval y = .int .i64 j) (hw : IntKind.i64.wrap (i + j) = i + j) (h : K (a.put o.dst (.int .i64 (i + j))) w) : o.wp Try.prog a w K Q := by
  refine op_to ?_ h
  simp only [execOp, hop]
  simp [hx, hy]
  go_simp
theorem op_build2 {x y : Operand} {A1 A2 : Option Addr} {n1 n2 c1 c2 : Nat} (hop : o.op = Op.build 38 #[(0, x), (1, y)]) (hx : a.eval x = .slice A1 n1 c1) (hy : a.eval y = .slice A2 n2 c2) (h : K (a.put o.dst (.agg #[.slice A1 n1 c1, .slice A2 n2 c2])) w) : o.wp Try.prog a w K Q := by
  refine op_to ?_ h
  simp only [execOp, hop]
  simp [hx, hy]
  go_simp
end

section
variable {o : Oper} {a : Act} {w : World} {K : Act → World → Prop} {Q : Exit → Act → World → Prop}
theorem op_build3 {x y : Operand} {A1 A2 A3 : Option Addr} {n1 n2 n3 c1 c2 c3 : Nat} (hop : o.op = Op.build 40 #[(0, x), (1, y)]) (hx : a.eval x = .agg #[.slice A1 n1 c1, .slice A2 n2 c2]) (hy : a.eval y = .slice A3 n3 c3) (h : K (a.put o.dst (.agg #[.slice A1 n1 c1, .slice A2 n2 c2, .slice A3 n3 c3])) w) : o.wp Try.prog a w K Q := by
  refine op_to ?_ h
  simp only [execOp, hop]
  simp [hx, hy]
  go_simp
theorem op_box (hop : o.op = Op.alloc 40) (h : K (a.put o.dst (.pointer (some ⟨w.heap.size, 0, none⟩))) (w.alloc (.cells #[.slice none 0 0, .slice none 0 0, .slice none 0 0] 40))) : o.wp Try.prog a w K Q := by
  refine op_to ?_ h
  simp only [execOp, hop]
  go_simp
end

section
variable {o : Oper} {a : Act} {w : World} {K : Act → World → Prop} {Q : Exit → Act → World → Prop}
theorem op_fill {x y : Operand} {g : Nat} {A1 A2 A3 : Option Addr} {n1 n2 n3 c1 c2 c3 : Nat} {m1 m2 m3 : Value} (hop : o.op = Op.store 40 x y) (hx : a.eval x = .pointer (some ⟨g, 0, none⟩)) (hy : a.eval y = .agg #[.slice A1 n1 c1, .slice A2 n2 c2, .slice A3 n3 c3]) (hd : o.dst = none)
    (f0 : w.cell? ⟨g, 0, none⟩ = some m1) (f1 : w.cell? ⟨g, 1, none⟩ = some m2) (f2 : w.cell? ⟨g, 2, none⟩ = some m3) (z0 : w.frozen? ⟨g, 0, none⟩ = false) (z1 : w.frozen? ⟨g, 1, none⟩ = false) (z2 : w.frozen? ⟨g, 2, none⟩ = false)
    (h : K a (((w.setCell ⟨g, 0, none⟩ (.slice A1 n1 c1)).setCell ⟨g, 1, none⟩ (.slice A2 n2 c2)).setCell ⟨g, 2, none⟩ (.slice A3 n3 c3))) : o.wp Try.prog a w K Q := by
  unfold Oper.wp
  simp only [execOp, hop]
  simp [hx, hy]
  go_simp
  simpa [Oper.upon, Act.put, hd] using h
end

section
variable {o : Oper} {a : Act} {Q : Exit → Act → World → Prop}
theorem op_makes {K : Act → World → Prop} (w : World) (l c : Operand) (hop : o.op = Op.makeSlice 31 l c) (kl kc : IntKind) (L C : Int) (n : Nat)
    (hl : a.eval l = .int kl L) (hc : a.eval c = .int kc C) (hL : L = (n : Int)) (hC : C = (n : Int)) (hn : n ≤ 16777216)
    (hK : ∀ w', Own w' w.heap.size (some ⟨w.heap.size, 0, none⟩) n (List.replicate n 0) → Below w.heap.size w w' → K (a.put o.dst (.slice (some ⟨w.heap.size, 0, none⟩) n n)) w') :
    o.wp Try.prog a w K Q := by
  obtain ⟨i0, hi, hz0, hz1, hz2⟩ := info_parts int_info
  obtain ⟨w', hrun, r1, r2⟩ := run_make_full (P := Try.prog) w w.heap.size 31 3 i0 _ 1 Try.underlying31 hi hz0 hz1 kl kc n (by rw [hz2]; omega) (by unfold maxLen; omega) (Nat.le_refl _)
  subst hL
  subst hC
  unfold Oper.wp
  simp [execOp, hop, hl, hc, hrun, Result.andThen]
  refine hK w' (own_of _ _ _ n _ _ (by simp) ?_) (below_of_grown r2)
  rw [← madeInts]
  exact r1
/-- A call of a function with one argument. -/
theorem op_call1 {K : Act → World → Prop} {w : World} {f : FuncId} {d : Nat} {v : Value} {ts : Array TypeId} {R : Ending → World → Prop} (hop : o.op = Op.call { callee := .value (.func f), args := #[.tmp d], argTypes := ts }) (hx : a.tmps[d]? = some v) (hf : (callFunc f #[v]).run Try.prog w = .ok (.enter f #[v]) w)
    (hc : Calls Try.prog f #[v] w R) (h : ∀ e w', R e w' → ∃ u, e = .returned u ∧ K (a.put o.dst u) w') : o.wp Try.prog a w K Q := by
  refine op_call ?_ hc h
  simp only [execOp, hop]
  simp []
  go_simp

end

end Go.Proofs.Ytkpdldoiicfllaa
