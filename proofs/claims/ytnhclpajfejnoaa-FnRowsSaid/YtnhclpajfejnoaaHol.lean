/- More words on memory: stores to other rows, blocks between two bounds; a size. -/
import Derived.Test.YtnhclpajfejnoaaInts
namespace Go.Proofs.Ytnhclpajfejnoaa
open Go.RowKit

theorem grown_setCell (w : World) (p : Addr) (u : Value) : w.grownBy (w.setCell p u) (some p.block) :=
  ⟨rfl, rfl, rfl, by simp [World.setCell], fun k hk hne => Below.heap_setCell _ _ _ _ (by simpa using hne)⟩
theorem Own.setOther {w : World} {B : Nat} {A : Option Addr} {c : Nat} {xs : List Int} (h : Own w B A c xs) (p : Addr) (u : Value) (hp : A = none ∨ blk A ≠ some p.block) : Own (w.setCell p u) B A c xs :=
  h.grown (grown_setCell w p u) hp
theorem rdUp {w : World} {A : Option Addr} {xs : List Value} (ha : Rd w A xs) (o : Obj) : Rd (w.alloc o) A xs := ha.below ((Below.refl w.heap.size w).alloc (Nat.le_refl _) o) (Nat.le_refl _)
theorem row_below {w w' : World} {B e s n c : Nat} {A : Option Addr} {cs : List Value} (h : w.ownsRow B e s (.slice A n c) n cs) (hb : Below w.heap.size w w') : w'.ownsRow B e s (.slice A n c) n cs := by
  cases hA : (Value.slice A n c).ownBlock with
  | none => exact World.ownsRow.kept h (grown_of_below hb none) (.inl hA)
  | some g => exact World.ownsRow.kept h (grown_of_below hb none) (.inr (by rw [hA]; simp))
theorem row_lt {w : World} {B e s n c g : Nat} {cs : List Value} (h : w.ownsRow B e s (.slice (some ⟨g, 0, none⟩) n c) n cs) : B ≤ g ∧ g < w.heap.size := World.ownsRow.lt h g rfl
theorem Own.ltk {w : World} {B : Nat} {A : Option Addr} {c : Nat} {xs : List Int} (h : Own w B A c xs) : ∀ k, blk A = some k → k < w.heap.size := fun k e => (World.ownsRow.lt h k (by rw [ownBlock_slice]; exact e)).2
/-- Outside of the blocks from lo on and below hi, w' is as w was. -/
structure Holed (lo hi : Nat) (w w' : World) : Prop where
  os : w'.os = w.os
  tape : w'.tape = w.tape
  output : w'.output = w.output
  size : w.heap.size ≤ w'.heap.size
  block : ∀ k, k < w.heap.size → (k < lo ∨ hi ≤ k) → w'.heap[k]? = w.heap[k]?
theorem Holed.refl (lo hi : Nat) (w : World) : Holed lo hi w w := ⟨rfl, rfl, rfl, Nat.le_refl _, fun _ _ _ => rfl⟩
theorem Holed.grown {lo hi g : Nat} {w a b : World} (h : Holed lo hi w a) (hg : a.grownBy b (some g)) (h1 : lo ≤ g) (h2 : g < hi) : Holed lo hi w b :=
  ⟨hg.os.trans h.os, hg.tape.trans h.tape, hg.output.trans h.output, Nat.le_trans h.size hg.size, fun k hk hx =>
    (hg.block k (Nat.lt_of_lt_of_le hk h.size) (by simp; omega)).trans (h.block k hk hx)⟩
theorem Holed.below {lo hi B : Nat} {w w' a : World} (h : Holed lo hi w w') (hb : Below B a w) (h1 : B ≤ lo) (h2 : B ≤ w.heap.size) : Below B a w' :=
  ⟨h.os.trans hb.os, h.tape.trans hb.tape, h.output.trans hb.output, Nat.le_trans hb.size h.size, fun k hk => (h.block k (by omega) (.inl (by omega))).trans (hb.block k hk)⟩
theorem Own.same {w w' : World} {B : Nat} {A : Option Addr} {c : Nat} {xs : List Int} (h : Own w B A c xs) (hs : ∀ k, blk A = some k → w'.heap[k]? = w.heap[k]?) : Own w' B A c xs := by
  refine ⟨h.1, ?_⟩
  rcases h.2 with h | ⟨g, cap, cur, hv, hb, hg, hx⟩
  · exact .inl h
  · refine .inr ⟨g, cap, cur, hv, hb, ?_, hx⟩
    rw [hs g (by injection hv with hA; rw [hA]; rfl)]
    exact hg
theorem Own.holed {w w' : World} {B lo hi : Nat} {A : Option Addr} {c : Nat} {xs : List Int} (h : Own w B A c xs) (hh : Holed lo hi w w') (hB : hi ≤ B) : Own w' B A c xs :=
  h.same fun k hk => hh.block k (by have := World.ownsRow.lt h k (by rw [ownBlock_slice]; exact hk); exact this.2) (.inr (Nat.le_trans hB (h.ge k hk)))
theorem Own.holedLow {w w' : World} {B lo hi : Nat} {A : Option Addr} {c : Nat} {xs : List Int} (h : Own w B A c xs) (hh : Holed lo hi w w') (hB : ∀ k, blk A = some k → k < lo) : Own w' B A c xs :=
  h.same fun k hk => hh.block k (by have := World.ownsRow.lt h k (by rw [ownBlock_slice]; exact hk); exact this.2) (.inl (hB k hk))

end Go.Proofs.Ytnhclpajfejnoaa
