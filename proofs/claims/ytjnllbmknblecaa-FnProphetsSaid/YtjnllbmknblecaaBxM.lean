/- Boxes of two cells: more words. Sums and products in the forms that walks want. -/
import Derived.Test.YtjnllbmknblecaaFracW
import Derived.Test.YtjnllbmknblecaaSSw
namespace Go.Proofs.Ytjnllbmknblecaa
open Go.RowKit

theorem Bx.cell0 {W : World} {g : Nat} {x y : Value} (h : Bx W g x y) : W.cell? ⟨g, 0, none⟩ = some x := h.1
theorem Bx.setO {W : World} {g : Nat} {x y : Value} (h : Bx W g x y) (p : Addr) (u : Value) (hp : p.block ≠ g) : Bx (W.setCell p u) g x y := by
  have hg := (grown_setCell W p u).block g h.2.2.2.2 (by simp; omega)
  exact ⟨(World.cell?_of_block (a := ⟨g, 0, none⟩) hg).trans h.1, (World.cell?_of_block (a := ⟨g, 1, none⟩) hg).trans h.2.1, (World.frozen?_of_block (a := ⟨g, 0, none⟩) hg).trans h.2.2.1,
    (World.frozen?_of_block (a := ⟨g, 1, none⟩) hg).trans h.2.2.2.1, by have := h.2.2.2.2; simpa [World.size_setCell] using this⟩
theorem Bx.set2 {W : World} {g : Nat} {x y : Value} (h : Bx W g x y) (x' y' : Value) : Bx ((W.setCell ⟨g, 0, none⟩ x').setCell ⟨g, 1, none⟩ y') g x' y' := by
  obtain ⟨h0, h1, h2, h3, h4⟩ := h
  refine ⟨by simp [go_sem, h0], by simp [go_sem, h1], by simp [go_sem, h2], by simp [go_sem, h3], by simpa [World.size_setCell] using h4⟩
theorem Bx.drew {W : World} {g : Nat} {x y : Value} (h : Bx W g x y) : Bx W.drew g x y := h
theorem gSet {a b : World} {g k : Nat} (h : a.grownBy b (some g)) (u : Value) : a.grownBy (b.setCell ⟨g, k, none⟩ u) (some g) := h.trans (grown_setCell b ⟨g, k, none⟩ u)
theorem gDrew {a b : World} {r : Option Nat} (h : a.grownBy b r) : a.grownBy b.drew r := ⟨h.os, h.tape, h.output, h.size, h.block⟩
theorem gBelow {a b c : World} {r : Option Nat} (h : a.grownBy b r) (hb : Below b.heap.size b c) : a.grownBy c r := h.trans (grown_of_below hb r)
theorem gCell {a b : World} {g : Nat} (h : a.grownBy b (some g)) {p : Addr} (hp : p.block < a.heap.size) (hn : p.block ≠ g) : b.cell? p = a.cell? p := World.cell?_of_block (h.block p.block hp (by simpa using hn))
theorem same_swap {P : Program} {f : FuncId} {args : Array Value} {w : World} {v : Value} (h : Calls P f args w fun e w' => e = .returned v ∧ w = w') : Calls P f args w fun e w' => e = .returned v ∧ w' = w :=
  h.mono fun _ _ ⟨he, hw⟩ => ⟨he, hw.symm⟩

theorem l2Times_is (a b c d X Y : Int) (h1 : gI a b = 1) (h2 : gI c d = 1) (ha : -30000000000 ≤ a) (ha2 : a ≤ 30000000000) (hb : 0 < b) (hb2 : b ≤ 30000000) (hc : -30000000 ≤ c) (hc2 : c ≤ 30000000) (hd : 0 < d) (hd2 : d ≤ 30000000)
    (hY : 0 < Y) (h : (a * c) * Y = X * (b * d)) (w : World) :
    Calls Try.prog 81 #[.agg #[.int .i64 a, .int .i64 b], .agg #[.int .i64 c, .int .i64 d]] w (Quietly w (.agg #[.int .i64 (cutT X Y), .int .i64 (cutB X Y)])) := by
  have := cut_congr (Int.mul_pos hb hd) hY h
  rw [← this.1, ← this.2]
  exact l2Times_c a b c d h1 h2 ha ha2 hb hb2 hc hc2 hd hd2 w
end Go.Proofs.Ytjnllbmknblecaa
