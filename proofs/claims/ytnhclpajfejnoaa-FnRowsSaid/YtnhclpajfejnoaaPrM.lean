/- Rows of pairs made and set; prices' bounds. -/
import Derived.Test.YtnhclpajfejnoaaPrC
namespace Go.Proofs.Ytnhclpajfejnoaa
open Go.RowKit

theorem madePairs (n : Nat) : (madeCells (Value.agg #[.int .i64 0, .int .i64 0]).cells (n * 2)).toList = pcells (List.replicate n (0, 0)) := by
  have hr : ∀ u ∈ pcells (List.replicate n (0, 0)), u = Value.int .i64 0 := by
    intro u hu
    simp only [pcells, List.mem_flatMap, List.mem_replicate, List.mem_cons, List.not_mem_nil, or_false] at hu
    obtain ⟨p, ⟨_, rfl⟩, rfl | rfl⟩ := hu <;> rfl
  apply List.ext_getElem
  · rw [pcells_length]; simp [madeCells]
  · intro i h1 h2
    rw [hr _ (List.getElem_mem h2)]
    have hz : (Value.agg #[.int .i64 0, .int .i64 0]).cells = #[.int .i64 0, .int .i64 0] := rfl
    simp only [madeCells, hz]
    have : i % 2 = 0 ∨ i % 2 = 1 := by omega
    rcases this with h | h <;> simp [h]
section
variable {o : Oper} {a : Act} {Q : Exit → Act → World → Prop}
theorem op_make_pairs {K : Act → World → Prop} (w : World) (l c : Operand) (hop : o.op = Op.makeSlice 36 l c) (kl kc : IntKind) (L C : Int) (n : Nat)
    (hl : a.eval l = .int kl L) (hc : a.eval c = .int kc C) (hL : L = (n : Int)) (hC : C = (n : Int)) (hn : n ≤ 16777216)
    (hK : ∀ w', OwnP w' w.heap.size (some ⟨w.heap.size, 0, none⟩) n (List.replicate n (0, 0)) → Below w.heap.size w w' → K (a.put o.dst (.slice (some ⟨w.heap.size, 0, none⟩) n n)) w') :
    o.wp Try.prog a w K Q := by
  obtain ⟨i0, hi, hz0, hz1, hz2⟩ := info_parts pair_info
  obtain ⟨w', hrun, r1, r2⟩ := run_make_full (P := Try.prog) w w.heap.size 36 40 i0 _ 2 Try.underlying36 hi hz0 hz1 kl kc n (by rw [hz2]; omega) (by unfold maxLen; omega) (Nat.le_refl _)
  subst hL
  subst hC
  unfold Oper.wp
  simp [execOp, hop, hl, hc, hrun, Result.andThen]
  refine hK w' ?_ (below_of_grown r2)
  unfold OwnP
  rw [← madePairs, List.length_replicate]
  exact r1
end
/-- A pair is stored. -/
theorem OwnP.set2 {w : World} {B g c : Nat} {ps : List (Int × Int)} (h : OwnP w B (some ⟨g, 0, none⟩) c ps) {k : Nat} (x y : Int) (hk : k < ps.length) :
    OwnP ((w.setCell ⟨g, k * 2, none⟩ (.int .i64 x)).setCell ⟨g, k * 2 + 1, none⟩ (.int .i64 y)) B (some ⟨g, 0, none⟩) c (ps.set k (x, y)) ∧ w.grownBy ((w.setCell ⟨g, k * 2, none⟩ (.int .i64 x)).setCell ⟨g, k * 2 + 1, none⟩ (.int .i64 y)) (some g) := by
  have h1 := h.set (j := 0) x hk (by decide)
  have h2 := h1.1.set (k := k) (j := 1) y (by rw [pset_length]; exact hk) (by decide)
  refine ⟨?_, h1.2.trans h2.2⟩
  have e : pset (pset ps k 0 x) k 1 y = ps.set k (x, y) := by
    unfold pset
    simp [pT, hk]
  rw [← e]
  exact h2.1
theorem OwnP.some2 {w : World} {B g c : Nat} {ps : List (Int × Int)} (h : OwnP w B (some ⟨g, 0, none⟩) c ps) {k : Nat} (hk : k < ps.length) : ∃ u v, w.cell? ⟨g, k * 2, none⟩ = some u ∧ w.cell? ⟨g, k * 2 + 1, none⟩ = some v := ⟨_, _, h.cells hk⟩
theorem btX_bd {F : List Int} (hF : allB F 0 20 = true) {out : List (Int × Int)} {x y z : Nat} (hy : frP (nP out y) = true) (hz : frP (nP out z) = true) : -100000000000000000 ≤ btX F out x y z ∧ btX F out x y z ≤ 100000000000000000 := by
  have f := frP_iff.1 hy
  have g := frP_iff.1 hz
  rw [nP_pair] at f g
  simp only at f g
  have p1 := price_bd hF x
  have p2 := price_bd hF y
  have p3 := price_bd hF z
  have m1 := mulAbs2 (x := pT out y) (y := nth F z - nth F x) (A := 1000000000) (B := 20) f.1 (by omega) (by decide) (by decide)
  have m2 := mulAbs2 (x := pT out z) (y := nth F x - nth F y) (A := 1000000000) (B := 20) g.1 (by omega) (by decide) (by decide)
  have m3 := mulAbs2 (x := pT out y * (nth F z - nth F x)) (y := pB out z) (A := 20000000000) (B := 1000000) (by omega) (by omega) (by decide) (by decide)
  have m4 := mulAbs2 (x := pT out z * (nth F x - nth F y)) (y := pB out y) (A := 20000000000) (B := 1000000) (by omega) (by omega) (by decide) (by decide)
  unfold btX
  omega
theorem btY_bd {F : List Int} (hF : allB F 0 20 = true) {out : List (Int × Int)} {x y z : Nat} (h : nth F y < nth F z) (hy : frP (nP out y) = true) (hz : frP (nP out z) = true) : 0 < btY F out x y z ∧ btY F out x y z ≤ 100000000000000 := by
  have f := frP_iff.1 hy
  have g := frP_iff.1 hz
  rw [nP_pair] at f g
  simp only at f g
  have p2 := price_bd hF y
  have p3 := price_bd hF z
  have m1 := mul_bd (nth F z - nth F y) (pB out y) 20 1000000 (by omega) (by omega) (by omega) (by omega)
  have m2 := mul_bd ((nth F z - nth F y) * pB out y) (pB out z) 20000000 1000000 (by omega) (by omega) (by omega) (by omega)
  refine ⟨Int.mul_pos (Int.mul_pos (by omega) (by omega)) (by omega), ?_⟩
  unfold btY
  omega
/-- All prices at a node are small. -/
theorem chL_bd {P F : List Int} (hp : ParOk P) (hF : allB F 0 20 = true) {out : List (Int × Int)} {x : Nat} (hi : PrInv P (x + 1) out) : ∀ f ∈ chL P F out x, -4000000000000000000 ≤ f.1 ∧ f.1 ≤ 4000000000000000000 := by
  intro f hf
  have fr : ∀ a ∈ kids P (x : Int), frP (nP out a.toNat) = true := fun a ha => by
    have hk := kids_mem hp ha
    exact hi.fr _ (by omega) (.inl (by omega))
  obtain ⟨a, ha, ⟨_, rfl⟩ | ⟨b, hb, hs, rfl⟩⟩ := mem_chL.1 hf
  · have := (frP_iff.1 (fr a ha)).1
    omega
  · have h1 := btX_bd hF (x := x) (fr a ha) (fr b hb)
    have h2 := btY_bd hF (x := x) (show nth F a.toNat < nth F b.toNat by omega) (fr a ha) (fr b hb)
    have := cutT_bd (a := btX F out x a.toNat b.toNat) (b := btY F out x a.toNat b.toNat) h2.1 (M := 100000000000000000) (by omega) (by omega)
    show -4000000000000000000 ≤ cutT _ _ ∧ cutT _ _ ≤ 4000000000000000000
    omega
end Go.Proofs.Ytnhclpajfejnoaa
