/- A line's rows in their box: what each step leaves. No program stands here. -/
import Derived.Test.YtmkfhjhiklnbfaaInv4
import Derived.Test.YtmkfhjhiklnbfaaOpT
import Derived.Test.YtmkfhjhiklnbfaaCopy
import Derived.Test.YtmkfhjhiklnbfaaLaL
import Derived.Test.YtmkfhjhiklnbfaaArI
import Derived.Test.YtmkfhjhiklnbfaaBut
namespace Go.Proofs.Ytmkfhjhiklnbfaa
open Go.RowKit

/-- A line's rows, apart, in a box. -/
structure LaB (w : World) (B g k n m : Nat) (A1 : Option Addr) (c1 : Nat) (A2 : Option Addr) (c2 : Nat) (A3 : Option Addr) (c3 : Nat) (P W F : List Int) : Prop where
  bx : Bf3 w g (.slice A1 k c1) (.slice A2 n c2) (.slice A3 m c3)
  o1 : Own w B A1 c1 P
  o2 : Own w B A2 c2 W
  o3 : Own w B A3 c3 F
  d12 : A1 = none ∨ blk A1 ≠ blk A2
  d13 : A1 = none ∨ blk A1 ≠ blk A3
  d23 : A2 = none ∨ blk A2 ≠ blk A3
  g1 : blk A1 ≠ some g
  g2 : blk A2 ≠ some g
  g3 : blk A3 ≠ some g
  hg : B ≤ g
section
variable {w w' : World} {B g k n m c1 c2 c3 c4 : Nat} {A1 A2 A3 A4 : Option Addr} {P W F X : List Int}
theorem blk_none {A : Option Addr} (h : blk A = none) : A = none := by
  cases A with
  | none => rfl
  | some a => cases h
theorem ne_grown (hn : blk A4 = blk A1 ∨ ∃ r, blk A4 = some r ∧ w.heap.size ≤ r) (hd : A1 = none ∨ blk A1 ≠ blk A2) (o : Own w B A2 c2 W) : A4 = none ∨ blk A4 ≠ blk A2 := by
  rcases hn with h | ⟨r, h, hr⟩
  · rcases hd with rfl | hd
    · exact .inl (blk_none h)
    · exact .inr (by rw [h]; exact hd)
  · right
    rw [h]
    intro e
    have := o.ltk r e.symm
    omega
theorem LaB.below (L : LaB w B g k n m A1 c1 A2 c2 A3 c3 P W F) (hb : Below w.heap.size w w') : LaB w' B g k n m A1 c1 A2 c2 A3 c3 P W F :=
  ⟨L.bx.below hb, L.o1.below hb, L.o2.below hb, L.o3.below hb, L.d12, L.d13, L.d23, L.g1, L.g2, L.g3, L.hg⟩
theorem Bf3.below' {g B : Nat} {x y z : Value} (h : Bf3 w g x y z) (hb : Below B w w') (hg : g < B) : Bf3 w' g x y z := h.same (hb.block g hg) hb.size
/-- Another box, below, has been filled. -/
theorem LaB.other (L : LaB w B g k n m A1 c1 A2 c2 A3 c3 P W F) (d : Nat) (hd : d < B) (x y z : Value) : LaB (((w.setCell ⟨d, 0, none⟩ x).setCell ⟨d, 1, none⟩ y).setCell ⟨d, 2, none⟩ z) B g k n m A1 c1 A2 c2 A3 c3 P W F := by
  have hb : ∀ j, j ≠ d → (((w.setCell ⟨d, 0, none⟩ x).setCell ⟨d, 1, none⟩ y).setCell ⟨d, 2, none⟩ z).heap[j]? = w.heap[j]? := fun j hj => by
    rw [Below.heap_setCell _ _ _ _ hj, Below.heap_setCell _ _ _ _ hj, Below.heap_setCell _ _ _ _ hj]
  have hs : w.heap.size ≤ (((w.setCell ⟨d, 0, none⟩ x).setCell ⟨d, 1, none⟩ y).setCell ⟨d, 2, none⟩ z).heap.size := by simp [World.size_setCell]
  have hg := L.hg
  exact ⟨L.bx.same (hb g (by omega)) hs, L.o1.fill (row_ne L.o1 hd), L.o2.fill (row_ne L.o2 hd), L.o3.fill (row_ne L.o3 hd), L.d12, L.d13, L.d23, L.g1, L.g2, L.g3, L.hg⟩
/-- The first row has grown, and its new place has been stored. -/
theorem LaB.push (L : LaB w B g k n m A1 c1 A2 c2 A3 c3 P W F) (o : Own w' B A4 c4 X) (hg : w.grownBy w' (blk A1)) (hn : blk A4 = blk A1 ∨ ∃ r, blk A4 = some r ∧ w.heap.size ≤ r) (l : Nat) :
    LaB (w'.setCell ⟨g, 0, none⟩ (.slice A4 l c4)) B g l n m A4 c4 A2 c2 A3 c3 X W F ∧ Bf3 w' g (.slice A1 k c1) (.slice A2 n c2) (.slice A3 m c3) := by
  have b' := L.bx.grown hg L.g1
  have n1 : blk A4 ≠ some g := by
    rcases hn with h | ⟨r, h, hr⟩
    · rw [h]; exact L.g1
    · rw [h]
      have := L.bx.2.2.2.2.2.2
      simp
      omega
  have k2 : A2 = none ∨ blk A2 ≠ blk A1 := by
    rcases L.d12 with rfl | h
    · cases A2 with
      | none => exact .inl rfl
      | some a => exact .inr (by simp [blk])
    · exact .inr (Ne.symm h)
  have k3 : A3 = none ∨ blk A3 ≠ blk A1 := by
    rcases L.d13 with rfl | h
    · cases A3 with
      | none => exact .inl rfl
      | some a => exact .inr (by simp [blk])
    · exact .inr (Ne.symm h)
  refine ⟨⟨?_, o.setOther _ _ (.inr n1), (L.o2.grown hg k2).setOther _ _ (.inr L.g2), (L.o3.grown hg k3).setOther _ _ (.inr L.g3), ne_grown hn L.d12 L.o2, ne_grown hn L.d13 L.o3, L.d23, n1, L.g2, L.g3, L.hg⟩, b'⟩
  obtain ⟨h0, h1, h2, z0, z1, z2, hz⟩ := b'
  exact ⟨by simp [go_sem, h0], by simp [go_sem, h1], by simp [go_sem, h2], by simp [go_sem, z0], by simp [go_sem, z1], by simp [go_sem, z2], by simpa [World.size_setCell] using hz⟩
/-- A number of the second row has been set. -/
theorem LaB.mark {r : Nat} (L : LaB w B g k n m A1 c1 (some ⟨r, 0, none⟩) c2 A3 c3 P W F) (j : Nat) (x : Int) :
    LaB (w.setCell ⟨r, j, none⟩ (.int .i64 x)) B g k n m A1 c1 (some ⟨r, 0, none⟩) c2 A3 c3 P (W.set j x) F := by
  have hs := L.o2.set j x
  have k3 : A3 = none ∨ blk A3 ≠ some r := by
    rcases L.d23 with h | h
    · cases h
    · exact .inr (Ne.symm h)
  exact ⟨L.bx.grown hs.2 (fun e => L.g2 e), L.o1.grown hs.2 L.d12, hs.1, L.o3.grown hs.2 k3, L.d12, L.d13, L.d23, L.g1, L.g2, L.g3, L.hg⟩
end
/-- It answers an arm of rows of its own, apart, and ok. -/
def GivesArm (w : World) (P W F : List Int) (ok : Bool) (e : Ending) (w' : World) : Prop :=
  ∃ A1 c1 A2 c2 A3 c3, e = .returned (.tuple #[mkV A1 P.length c1 A2 W.length c2 A3 F.length c3, .bool ok]) ∧ Own w' w.heap.size A1 c1 P ∧ Own w' w.heap.size A2 c2 W ∧ Own w' w.heap.size A3 c3 F ∧
    (A1 = none ∨ blk A1 ≠ blk A2) ∧ (A1 = none ∨ blk A1 ≠ blk A3) ∧ (A2 = none ∨ blk A2 ≠ blk A3) ∧ Below w.heap.size w w'
def lineB (c : List Int) : Bool := decide (c.length ≤ 4) && allB c (-99) 99
def laP (c : List Int) : List Int := if lineB c then lnP (c.length + 1) else []
def laW (c : List Int) : List Int := if lineB c then lnW c.length else []
def laN (c : List Int) : List Int := if lineB c then c ++ [0] else []
theorem lineB_len {c : List Int} (h : ¬ c.length ≤ 4) : lineB c = false := by simp [lineB, h]
theorem lineB_all {c : List Int} (h : allB c (-99) 99 = false) : lineB c = false := by simp [lineB, h]
theorem lineB_yes {c : List Int} (h : c.length ≤ 4) (h' : allB c (-99) 99 = true) : lineB c = true := by simp [lineB, h, h']
theorem gives_no {c : List Int} {w w' : World} {e : Ending} (h : lineB c = false) (he : e = .returned (.tuple #[mkV none 0 0 none 0 0 none 0 0, .bool false])) (hb : Below w.heap.size w w') : GivesArm w (laP c) (laW c) (laN c) (lineB c) e w' := by
  simp only [laP, laW, laN, h]
  exact ⟨none, 0, none, 0, none, 0, he, Own.nil _ _, Own.nil _ _, Own.nil _ _, .inl rfl, .inl rfl, .inl rfl, hb⟩
theorem gives_yes {c : List Int} {w w' : World} {e : Ending} {B g c1 c2 c3 : Nat} {A1 A2 A3 : Option Addr} (h : lineB c = true) (L : LaB w' B g (c.length + 1) (c.length + 1) (c.length + 1) A1 c1 A2 c2 A3 c3 (lnP (c.length + 1)) (lnW c.length) (c ++ [0])) (hB : w.heap.size ≤ B)
    (he : e = .returned (.tuple #[mkV A1 (c.length + 1) c1 A2 (c.length + 1) c2 A3 (c.length + 1) c3, .bool true])) (hb : Below w.heap.size w w') : GivesArm w (laP c) (laW c) (laN c) (lineB c) e w' := by
  simp only [laP, laW, laN, h, if_true]
  refine ⟨A1, c1, A2, c2, A3, c3, ?_, L.o1.mono hB, L.o2.mono hB, L.o3.mono hB, L.d12, L.d13, L.d23, hb⟩
  rw [he, lnP_length, lnW_length, List.length_append]
  rfl
end Go.Proofs.Ytmkfhjhiklnbfaa
