/- Structs of three lists, a tree and one more (Market): the laws' own helpers on them: sizes, a copy, a comparison, marks. -/
import Derived.Test.YtnhclpajfejnoaaHol
namespace Go.Proofs.Ytnhclpajfejnoaa
open Go.RowKit

@[reducible] def trV (A1 : Option Addr) (n1 c1 : Nat) (A2 : Option Addr) (n2 c2 : Nat) : Value := .agg #[.slice A1 n1 c1, .slice A2 n2 c2]
@[reducible] def mkV (A1 : Option Addr) (n1 c1 : Nat) (A2 : Option Addr) (n2 c2 : Nat) (A3 : Option Addr) (n3 c3 : Nat) : Value := .agg #[.slice A1 n1 c1, .slice A2 n2 c2, .slice A3 n3 c3]
/-- Rows of the call's own, one behind the other. -/
structure OwnT (w : World) (B g1 g2 : Nat) (P W : List Int) : Prop where
  o1 : Own w B (some ⟨g1, 0, none⟩) P.length P
  o2 : Own w B (some ⟨g2, 0, none⟩) W.length W
  l1 : g1 < g2
structure OwnM (w : World) (B g1 g2 g3 : Nat) (P W F : List Int) : Prop where
  o1 : Own w B (some ⟨g1, 0, none⟩) P.length P
  o2 : Own w B (some ⟨g2, 0, none⟩) W.length W
  o3 : Own w B (some ⟨g3, 0, none⟩) F.length F
  l1 : g1 < g2
  l2 : g2 < g3
section
variable {w w' : World} {B g1 g2 g3 : Nat} {P W F : List Int}
theorem OwnT.below (h : OwnT w B g1 g2 P W) (hb : Below w.heap.size w w') : OwnT w' B g1 g2 P W := ⟨h.o1.below hb, h.o2.below hb, h.l1⟩
theorem OwnM.below (h : OwnM w B g1 g2 g3 P W F) (hb : Below w.heap.size w w') : OwnM w' B g1 g2 g3 P W F := ⟨h.o1.below hb, h.o2.below hb, h.o3.below hb, h.l1, h.l2⟩
theorem OwnM.drewN (h : OwnM w B g1 g2 g3 P W F) (n : Nat) : OwnM (w.drewN n) B g1 g2 g3 P W F := ⟨h.o1, h.o2, h.o3, h.l1, h.l2⟩
theorem OwnM.drew (h : OwnM w B g1 g2 g3 P W F) : OwnM w.drew B g1 g2 g3 P W F := ⟨h.o1, h.o2, h.o3, h.l1, h.l2⟩
theorem OwnM.alloc (h : OwnM w B g1 g2 g3 P W F) (o : Obj) : OwnM (w.alloc o) B g1 g2 g3 P W F := ⟨h.o1.alloc o, h.o2.alloc o, h.o3.alloc o, h.l1, h.l2⟩
theorem OwnM.mono {B' : Nat} (h : OwnM w B g1 g2 g3 P W F) (hB : B' ≤ B) : OwnM w B' g1 g2 g3 P W F := ⟨h.o1.mono hB, h.o2.mono hB, h.o3.mono hB, h.l1, h.l2⟩
theorem OwnM.lo (h : OwnM w B g1 g2 g3 P W F) : B ≤ g1 := (h.o1.lt _ rfl).1
theorem OwnM.hi (h : OwnM w B g1 g2 g3 P W F) : g3 < w.heap.size := (h.o3.lt _ rfl).2
theorem OwnM.holed {lo hi : Nat} (h : OwnM w B g1 g2 g3 P W F) (hh : Holed lo hi w w') (hB : hi ≤ B) : OwnM w' B g1 g2 g3 P W F := ⟨h.o1.holed hh hB, h.o2.holed hh hB, h.o3.holed hh hB, h.l1, h.l2⟩
theorem OwnM.holedLow {lo hi : Nat} (h : OwnM w B g1 g2 g3 P W F) (hh : Holed lo hi w w') (hB : g3 < lo) : OwnM w' B g1 g2 g3 P W F := by
  have := h.l1
  have := h.l2
  exact ⟨h.o1.holedLow hh (fun k hk => by simp [blk] at hk; omega), h.o2.holedLow hh (fun k hk => by simp [blk] at hk; omega), h.o3.holedLow hh (fun k hk => by simp [blk] at hk; omega), h.l1, h.l2⟩
theorem OwnM.grown {g : Nat} (h : OwnM w B g1 g2 g3 P W F) (hg : w.grownBy w' (some g)) (h1 : g < g1 ∨ g3 < g) : OwnM w' B g1 g2 g3 P W F := by
  have := h.l1
  have := h.l2
  exact ⟨h.o1.grown hg (.inr (by simp [blk]; omega)), h.o2.grown hg (.inr (by simp [blk]; omega)), h.o3.grown hg (.inr (by simp [blk]; omega)), h.l1, h.l2⟩
end
/-- The three lists of such a struct are read here. -/
structure RdM (w : World) (A1 : Option Addr) (P : List Int) (A2 : Option Addr) (W : List Int) (A3 : Option Addr) (F : List Int) : Prop where
  r1 : Rd w A1 (ints P)
  r2 : Rd w A2 (ints W)
  r3 : Rd w A3 (ints F)
  l1 : P.length ≤ 16777216
  l2 : W.length ≤ 16777216
  l3 : F.length ≤ 16777216
theorem RdM.below {w w' : World} {A1 A2 A3 : Option Addr} {P W F : List Int} (h : RdM w A1 P A2 W A3 F) {B : Nat} (hb : Below B w w') (hB : w.heap.size ≤ B) : RdM w' A1 P A2 W A3 F :=
  ⟨h.r1.below hb hB, h.r2.below hb hB, h.r3.below hb hB, h.l1, h.l2, h.l3⟩
theorem RdM.drewN {w : World} {A1 A2 A3 : Option Addr} {P W F : List Int} (h : RdM w A1 P A2 W A3 F) (n : Nat) : RdM (w.drewN n) A1 P A2 W A3 F := ⟨h.r1, h.r2, h.r3, h.l1, h.l2, h.l3⟩
/-- A box of three cells of the call's own. -/
def Bx3 (W : World) (g : Nat) (x y z : Value) : Prop :=
  W.cell? ⟨g, 0, none⟩ = some x ∧ W.cell? ⟨g, 1, none⟩ = some y ∧ W.cell? ⟨g, 2, none⟩ = some z ∧ g < W.heap.size
theorem Bx3.new (w : World) (x y z : Value) (t : TypeId) : Bx3 (w.alloc (.cells #[x, y, z] t)) w.heap.size x y z := ⟨by simp, by simp, by simp, by simp⟩
theorem Bx3.below {W W' : World} {g : Nat} {x y z : Value} (h : Bx3 W g x y z) (hb : Below W.heap.size W W') : Bx3 W' g x y z :=
  ⟨(hb.cell (p := ⟨g, 0, none⟩) h.2.2.2).trans h.1, (hb.cell (p := ⟨g, 1, none⟩) h.2.2.2).trans h.2.1, (hb.cell (p := ⟨g, 2, none⟩) h.2.2.2).trans h.2.2.1, Nat.lt_of_lt_of_le h.2.2.2 hb.size⟩
theorem Bx3.drewN {W : World} {g : Nat} {x y z : Value} (h : Bx3 W g x y z) (n : Nat) : Bx3 (W.drewN n) g x y z := h
theorem Bx3.alloc {W : World} {g : Nat} {x y z : Value} (h : Bx3 W g x y z) (o : Obj) : Bx3 (W.alloc o) g x y z := h.below ((Below.refl _ _).alloc (Nat.le_refl _) o)
theorem Bx3.holedLow {W W' : World} {g lo hi : Nat} {x y z : Value} (h : Bx3 W g x y z) (hh : Holed lo hi W W') (hl : g < lo) : Bx3 W' g x y z := by
  have hg := hh.block g h.2.2.2 (.inl hl)
  exact ⟨(World.cell?_of_block (a := ⟨g, 0, none⟩) hg).trans h.1, (World.cell?_of_block (a := ⟨g, 1, none⟩) hg).trans h.2.1, (World.cell?_of_block (a := ⟨g, 2, none⟩) hg).trans h.2.2.1, Nat.lt_of_lt_of_le h.2.2.2 hh.size⟩
theorem Bx3.grown {W W' : World} {g r : Nat} {x y z : Value} (h : Bx3 W g x y z) (hh : W.grownBy W' (some r)) (hl : g ≠ r) : Bx3 W' g x y z := by
  have hg := hh.block g h.2.2.2 (by simp; omega)
  exact ⟨(World.cell?_of_block (a := ⟨g, 0, none⟩) hg).trans h.1, (World.cell?_of_block (a := ⟨g, 1, none⟩) hg).trans h.2.1, (World.cell?_of_block (a := ⟨g, 2, none⟩) hg).trans h.2.2.1, Nat.lt_of_lt_of_le h.2.2.2 hh.size⟩

theorem Bx3.grownR {W W' : World} {g : Nat} {x y z : Value} {row : Option Nat} (h : Bx3 W g x y z) (hh : W.grownBy W' row) (hl : row ≠ some g) : Bx3 W' g x y z := by
  have hg := hh.block g h.2.2.2 (fun e => hl e.symm)
  exact ⟨(World.cell?_of_block (a := ⟨g, 0, none⟩) hg).trans h.1, (World.cell?_of_block (a := ⟨g, 1, none⟩) hg).trans h.2.1, (World.cell?_of_block (a := ⟨g, 2, none⟩) hg).trans h.2.2.1, Nat.lt_of_lt_of_le h.2.2.2 hh.size⟩

end Go.Proofs.Ytnhclpajfejnoaa
