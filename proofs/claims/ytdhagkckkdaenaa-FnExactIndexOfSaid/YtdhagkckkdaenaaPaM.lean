/- Rows of pairs made and set, for the arms' seats (PrM's and PrD's words). -/
import Derived.Test.YtdhagkckkdaenaaPairs
import Derived.Test.YtdhagkckkdaenaaBeW
namespace Go.Proofs.Ytdhagkckkdaenaa
open Go.RowKit

theorem madePairs (n : Nat) : (madeCells (Value.agg #[.int .i64 0, .int .i64 0]).cells (n * 2)).toList = pcells (List.replicate n (0, 0)) := by
  have hr : ∀ u ∈ pcells (List.replicate n (0, 0)), u = Value.int .i64 0 := by
    intro u hu
    simp only [pcells, List.mem_flatMap, List.mem_replicate, List.mem_cons, List.not_mem_nil, or_false] at hu
    obtain ⟨p, ⟨_, rfl⟩, rfl | rfl⟩ := hu <;> rfl
  apply List.ext_getElem
  · rw [pcells_length]; simp [madeCells]
  · intro i h1 h2
    rw [hr _ (List.getElem_mem h2)]
    have hz : (Value.agg #[.int .i64 0, .int .i64 0]).cells = #[.int .i64 0, .int .i64 0] := rfl
    simp only [madeCells, hz]
    have : i % 2 = 0 ∨ i % 2 = 1 := by omega
    rcases this with h | h <;> simp [h]
section
variable {o : Oper} {a : Act} {Q : Exit → Act → World → Prop}
theorem op_make_pairs {K : Act → World → Prop} (w : World) (l c : Operand) (hop : o.op = Op.makeSlice 43 l c) (kl kc : IntKind) (L C : Int) (n : Nat)
    (hl : a.eval l = .int kl L) (hc : a.eval c = .int kc C) (hL : L = (n : Int)) (hC : C = (n : Int)) (hn : n ≤ 16777216)
    (hK : ∀ w', OwnP w' w.heap.size (some ⟨w.heap.size, 0, none⟩) n (List.replicate n (0, 0)) → Below w.heap.size w w' → K (a.put o.dst (.slice (some ⟨w.heap.size, 0, none⟩) n n)) w') :
    o.wp Try.prog a w K Q := by
  obtain ⟨i0, hi, hz0, hz1, hz2⟩ := info_parts pair_info
  obtain ⟨w', hrun, r1, r2⟩ := run_make_full (P := Try.prog) w w.heap.size 43 28 i0 _ 2 Try.underlying43 hi hz0 hz1 kl kc n (by rw [hz2]; omega) (by unfold maxLen; omega) (Nat.le_refl _)
  subst hL
  subst hC
  unfold Oper.wp
  simp [execOp, hop, hl, hc, hrun, Result.andThen]
  refine hK w' ?_ (below_of_grown r2)
  unfold OwnP
  rw [← madePairs, List.length_replicate]
  exact r1
end
/-- A pair is stored. -/
theorem OwnP.set2 {w : World} {B g c : Nat} {ps : List (Int × Int)} (h : OwnP w B (some ⟨g, 0, none⟩) c ps) {k : Nat} (x y : Int) (hk : k < ps.length) :
    OwnP ((w.setCell ⟨g, k * 2, none⟩ (.int .i64 x)).setCell ⟨g, k * 2 + 1, none⟩ (.int .i64 y)) B (some ⟨g, 0, none⟩) c (ps.set k (x, y)) ∧ w.grownBy ((w.setCell ⟨g, k * 2, none⟩ (.int .i64 x)).setCell ⟨g, k * 2 + 1, none⟩ (.int .i64 y)) (some g) := by
  have h1 := h.set (j := 0) x hk (by decide)
  have h2 := h1.1.set (k := k) (j := 1) y (by rw [pset_length]; exact hk) (by decide)
  refine ⟨?_, h1.2.trans h2.2⟩
  have e : pset (pset ps k 0 x) k 1 y = ps.set k (x, y) := by
    unfold pset
    simp [pT, hk]
  rw [← e]
  exact h2.1
theorem OwnP.some2 {w : World} {B g c : Nat} {ps : List (Int × Int)} (h : OwnP w B (some ⟨g, 0, none⟩) c ps) {k : Nat} (hk : k < ps.length) : ∃ u v, w.cell? ⟨g, k * 2, none⟩ = some u ∧ w.cell? ⟨g, k * 2 + 1, none⟩ = some v := ⟨_, _, h.cells hk⟩
structure PrR (w wr : World) (go co : Nat) (out : List (Int × Int)) (x y z : Value) : Prop where
  o : OwnP wr (w.heap.size + 1) (some ⟨go, 0, none⟩) co out
  b : Bx3 wr w.heap.size x y z
  hb : Below w.heap.size w wr
theorem PrR.below {w wr w' : World} {go co : Nat} {out : List (Int × Int)} {x y z : Value} (R : PrR w wr go co out x y z) (h : Below wr.heap.size wr w') : PrR w w' go co out x y z := ⟨R.o.below h, R.b.below h, bUp R.hb h R.hb.size⟩
theorem PrR.lt {w wr : World} {go co : Nat} {out : List (Int × Int)} {x y z : Value} (R : PrR w wr go co out x y z) : go < wr.heap.size ∧ w.heap.size + 1 ≤ go ∧ w.heap.size < wr.heap.size := ⟨R.o.ltk go rfl, R.o.ge go rfl, R.b.2.2.2⟩
theorem PrR.set {w wr : World} {go co k : Nat} {out : List (Int × Int)} {x y z : Value} (R : PrR w wr go co out x y z) (s t : Int) (hk : k < out.length) : PrR w ((wr.setCell ⟨go, k * 2, none⟩ (.int .i64 s)).setCell ⟨go, k * 2 + 1, none⟩ (.int .i64 t)) go co (out.set k (s, t)) x y z := by
  have hge : w.heap.size + 1 ≤ go := R.o.ge go rfl
  have h2 := R.o.set2 s t hk
  exact ⟨h2.1, R.b.grown h2.2 (by omega), R.hb.grown h2.2 R.hb.size (fun j hj => by cases hj; omega)⟩
theorem PrR.other {w wr w' : World} {go co r : Nat} {out : List (Int × Int)} {x y z : Value} (R : PrR w wr go co out x y z) (hg : wr.grownBy w' (some r)) (hr : go < r) : PrR w w' go co out x y z := by
  have hl := R.lt
  exact ⟨R.o.grown hg (.inr (by simp [blk]; omega)), R.b.grown hg (by omega), R.hb.grown hg R.hb.size (fun j hj => by cases hj; omega)⟩
section
variable {ops : Array Oper} {rest : List Oper} {o : Oper} {a : Act} {Q : Exit → Act → World → Prop}
theorem wp_make_pairs (w : World) (H : Nat) (hH : w.heap.size = H) (hg : o.guard = none) (l c : Operand) (hop : o.op = Op.makeSlice 43 l c) (kl kc : IntKind) (L C : Int) (n : Nat)
    (hl : a.eval l = .int kl L) (hc : a.eval c = .int kc C) (hL : L = (n : Int)) (hC : C = (n : Int)) (hn : n ≤ 16777216)
    (hK : ∀ w', OwnP w' H (some ⟨H, 0, none⟩) n (List.replicate n (0, 0)) → Below w.heap.size w w' → wpList Try.prog ops Q rest (a.put o.dst (.slice (some ⟨H, 0, none⟩) n n)) w') :
    wpList Try.prog ops Q (o :: rest) a w := by
  subst hH
  exact wpList_plain hg fun _ h => op_make_pairs w l c hop kl kc L C n hl hc hL hC hn fun w' h1 h2 => h _ _ (hK w' h1 h2)
end
end Go.Proofs.Ytdhagkckkdaenaa
