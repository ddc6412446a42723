/- Rows of truth values of the call's own; boxes of two cells, more. -/
import Derived.Test.YtnhclpajfejnoaaHol
import Derived.Test.YtnhclpajfejnoaaLaws
import Derived.Deep.DeepCutAuto
import Derived.StillTail
import Derived.StillTactics
import Derived.StillTailTactics
namespace Go.Proofs.Ytnhclpajfejnoaa
open Go.RowKit

def bools (bs : List Bool) : List Value := bs.map Value.bool
theorem bools_length (bs : List Bool) : (bools bs).length = bs.length := by simp [bools]
theorem bools_set (bs : List Bool) (k : Nat) (x : Bool) : (bools bs).set k (.bool x) = bools (bs.set k x) := by simp [bools, List.map_set]
def OwnB (w : World) (B : Nat) (A : Option Addr) (c : Nat) (bs : List Bool) : Prop := w.ownsRow B 4 1 (.slice A bs.length c) bs.length (bools bs)
/-- The truth value at a place. -/
def nthB (bs : List Bool) (k : Nat) : Bool := bs.getD k false
section
variable {w w' : World} {B : Nat} {A : Option Addr} {c : Nat} {bs : List Bool}
theorem OwnB.below (h : OwnB w B A c bs) (hb : Below w.heap.size w w') : OwnB w' B A c bs := row_below h hb
theorem OwnB.alloc (h : OwnB w B A c bs) (o : Obj) : OwnB (w.alloc o) B A c bs := World.ownsRow.alloc h o
theorem OwnB.drewN (h : OwnB w B A c bs) (n : Nat) : OwnB (w.drewN n) B A c bs := h
theorem OwnB.drew (h : OwnB w B A c bs) : OwnB w.drew B A c bs := h
theorem OwnB.mono {B' : Nat} (h : OwnB w B A c bs) (hB : B' ≤ B) : OwnB w B' A c bs := World.ownsRow.mono h hB
theorem OwnB.ltk (h : OwnB w B A c bs) : ∀ k, blk A = some k → B ≤ k ∧ k < w.heap.size := fun k e => World.ownsRow.lt h k (by rw [ownBlock_slice]; exact e)
theorem OwnB.grown {row : Option Nat} (h : OwnB w B A c bs) (hg : w.grownBy w' row) (hr : A = none ∨ blk A ≠ row) : OwnB w' B A c bs :=
  World.ownsRow.kept h hg (by rcases hr with h | h; · left; rw [ownBlock_slice, h]; rfl
                              · right; rw [ownBlock_slice]; exact h)
theorem OwnB.frozen {g : Nat} (h : OwnB w B (some ⟨g, 0, none⟩) c bs) (k : Nat) : w.frozen? ⟨g, k, none⟩ = false := World.ownsRow.frozenAt h k
theorem OwnB.cell {g : Nat} (h : OwnB w B (some ⟨g, 0, none⟩) c bs) {k : Nat} (hk : k < bs.length) : w.cell? ⟨g, k, none⟩ = some (.bool (nthB bs k)) := by
  have := World.ownsRow.cellAt h k (by omega)
  rw [this]
  simp [bools, nthB, hk]
theorem OwnB.set {g : Nat} (h : OwnB w B (some ⟨g, 0, none⟩) c bs) (k : Nat) (x : Bool) :
    OwnB (w.setCell ⟨g, k, none⟩ (.bool x)) B (some ⟨g, 0, none⟩) c (bs.set k x) ∧ w.grownBy (w.setCell ⟨g, k, none⟩ (.bool x)) (some g) := by
  have := World.ownsRow.stored h k (.bool x)
  refine ⟨?_, this.2⟩
  unfold OwnB
  rw [List.length_set, ← bools_set]
  exact this.1
end
theorem bool_info : (Try.prog.info? 4).map (fun i => (i.zero, i.size, i.bytes)) = some (some (.bool false), 1, 1) := by kernel_rfl
section
variable {ops : Array Oper} {rest : List Oper} {o : Oper} {a : Act} {Q : Exit → Act → World → Prop}
/-- 'make([]bool, n)'. -/
theorem wp_make_bools (w : World) (H : Nat) (hH : w.heap.size = H) (hg : o.guard = none) (l c : Operand) (hop : o.op = Op.makeSlice 118 l c) (kl kc : IntKind) (L C : Int) (n : Nat)
    (hl : a.eval l = .int kl L) (hc : a.eval c = .int kc C) (hL : L = (n : Int)) (hC : C = (n : Int)) (hn : n ≤ 16777216)
    (hK : ∀ w', OwnB w' H (some ⟨H, 0, none⟩) n (List.replicate n false) → Below w.heap.size w w' → wpList Try.prog ops Q rest (a.put o.dst (.slice (some ⟨H, 0, none⟩) n n)) w') :
    wpList Try.prog ops Q (o :: rest) a w := by
  subst hH
  obtain ⟨i0, hi, hz0, hz1, hz2⟩ := info_parts bool_info
  refine wpList_make_full w hg l c 118 hop w.heap.size 4 i0 _ 1 Try.underlying118 hi hz0 hz1 kl kc L C n hl hc hL hC (by rw [hz2]; omega) (by unfold maxLen; omega) (Nat.le_refl _) ?_
  intro w' hown hgr
  refine hK w' ?_ (below_of_grown hgr)
  have : (madeCells (Value.bool false).cells (n * 1)).toList = bools (List.replicate n false) := by simp [toList_madeCells_one, Value.cells, bools]
  rw [this] at hown
  simpa [OwnB] using hown
/-- 'make([]int, n)', the address by name. -/
theorem wp_make_intsH (w : World) (H : Nat) (hH : w.heap.size = H) (hg : o.guard = none) (l c : Operand) (hop : o.op = Op.makeSlice 24 l c) (kl kc : IntKind) (L C : Int) (n : Nat)
    (hl : a.eval l = .int kl L) (hc : a.eval c = .int kc C) (hL : L = (n : Int)) (hC : C = (n : Int)) (hn : n ≤ 16777216)
    (hK : ∀ w', Own w' H (some ⟨H, 0, none⟩) n (List.replicate n 0) → Below w.heap.size w w' → wpList Try.prog ops Q rest (a.put o.dst (.slice (some ⟨H, 0, none⟩) n n)) w') :
    wpList Try.prog ops Q (o :: rest) a w := by
  subst hH
  exact wp_make_ints w hg l c hop kl kc L C n hl hc hL hC hn hK
end
theorem Bx.grown {W W' : World} {g : Nat} {x y : Value} {row : Option Nat} (h : Bx W g x y) (hg : W.grownBy W' row) (hr : row ≠ some g) : Bx W' g x y := by
  have hk := hg.block g h.2.2.2.2 (fun e => hr e.symm)
  exact ⟨(World.cell?_of_block (a := ⟨g, 0, none⟩) hk).trans h.1, (World.cell?_of_block (a := ⟨g, 1, none⟩) hk).trans h.2.1, (World.frozen?_of_block (a := ⟨g, 0, none⟩) hk).trans h.2.2.1,
    (World.frozen?_of_block (a := ⟨g, 1, none⟩) hk).trans h.2.2.2.1, Nat.lt_of_lt_of_le h.2.2.2.2 hg.size⟩
theorem Own.lit0 (w : World) (H : Nat) (hH : w.heap.size = H) : Own (w.alloc (.cells #[] 3)) H (some ⟨H, 0, none⟩) 0 [] := by
  subst hH
  exact Own.lit w [] (by simp)
theorem add_nil (a : Addr) : a.add 0 = a := by unfold Addr.add; simp
theorem row_ne {w : World} {B g c : Nat} {A : Option Addr} {xs : List Int} (h : Own w B A c xs) (hg : g < B) : blk A ≠ some g := fun e => by
  have := h.ge g e
  omega
end Go.Proofs.Ytnhclpajfejnoaa
