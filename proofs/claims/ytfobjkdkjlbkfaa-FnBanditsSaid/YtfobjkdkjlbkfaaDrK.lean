/- The draw of a market. (Written by gen_drk.py.) -/
import Derived.Test.YtfobjkdkjlbkfaaDrT
import Derived.Test.YtfobjkdkjlbkfaaTrA
import Derived.Deep.DeepCutAuto
import Derived.Deep.CutRange
namespace Go.Proofs.Ytfobjkdkjlbkfaa
open Go.RowKit

/-- A box of three cells that may be turned. -/
structure Bz (W : World) (g : Nat) (x y z : Value) : Prop where
  b : Bx3 W g x y z
  f0 : W.frozen? ⟨g, 0, none⟩ = false
  f1 : W.frozen? ⟨g, 1, none⟩ = false
  f2 : W.frozen? ⟨g, 2, none⟩ = false
theorem Bz.new (w : World) (x y z : Value) (t : TypeId) : Bz (w.alloc (.cells #[x, y, z] t)) w.heap.size x y z := by
  have h : (w.alloc (.cells #[x, y, z] t)).heap[w.heap.size]? = some (.cells #[x, y, z] t (0, 0)) := heap_alloc_new w _
  exact ⟨Bx3.new w x y z t, frozen_of_row _ _ 0 _ _ h, frozen_of_row _ _ 1 _ _ h, frozen_of_row _ _ 2 _ _ h⟩
theorem Bz.below {W W' : World} {g : Nat} {x y z : Value} (h : Bz W g x y z) (hb : Below W.heap.size W W') : Bz W' g x y z :=
  ⟨h.b.below hb, (hb.frozen (p := ⟨g, 0, none⟩) h.b.2.2.2).trans h.f0, (hb.frozen (p := ⟨g, 1, none⟩) h.b.2.2.2).trans h.f1, (hb.frozen (p := ⟨g, 2, none⟩) h.b.2.2.2).trans h.f2⟩
theorem Bz.drewN {W : World} {g : Nat} {x y z : Value} (h : Bz W g x y z) (n : Nat) : Bz (W.drewN n) g x y z := ⟨h.b.drewN n, h.f0, h.f1, h.f2⟩
theorem Bz.dr {W W' : World} {g : Nat} {x y z : Value} (h : Bz W g x y z) (hd : Dr W W') : Bz W' g x y z := by
  obtain ⟨n, rfl⟩ := hd
  exact h.drewN n
theorem Bz.s0 {W : World} {g : Nat} {x y z : Value} (h : Bz W g x y z) (u : Value) : Bz (W.setCell ⟨g, 0, none⟩ u) g u y z := by
  obtain ⟨⟨b0, b1, b2, b3⟩, h0, h1, h2⟩ := h
  exact ⟨⟨by simp [go_sem, b0], by simp [go_sem, b1], by simp [go_sem, b2], by simpa [World.size_setCell] using b3⟩, by simp [go_sem, h0], by simp [go_sem, h1], by simp [go_sem, h2]⟩
theorem Bz.s1 {W : World} {g : Nat} {x y z : Value} (h : Bz W g x y z) (u : Value) : Bz (W.setCell ⟨g, 1, none⟩ u) g x u z := by
  obtain ⟨⟨b0, b1, b2, b3⟩, h0, h1, h2⟩ := h
  exact ⟨⟨by simp [go_sem, b0], by simp [go_sem, b1], by simp [go_sem, b2], by simpa [World.size_setCell] using b3⟩, by simp [go_sem, h0], by simp [go_sem, h1], by simp [go_sem, h2]⟩
theorem Bz.s2 {W : World} {g : Nat} {x y z : Value} (h : Bz W g x y z) (u : Value) : Bz (W.setCell ⟨g, 2, none⟩ u) g x y u := by
  obtain ⟨⟨b0, b1, b2, b3⟩, h0, h1, h2⟩ := h
  exact ⟨⟨by simp [go_sem, b0], by simp [go_sem, b1], by simp [go_sem, b2], by simpa [World.size_setCell] using b3⟩, by simp [go_sem, h0], by simp [go_sem, h1], by simp [go_sem, h2]⟩
theorem Bz.below1 {W W' : World} {g r : Nat} {x y z : Value} (h : Bz W g x y z) (hg : W.grownBy W' (some r)) (hr : g ≠ r) : Bz W' g x y z := by
  have hk := hg.block g h.b.2.2.2 (by simp; omega)
  exact ⟨h.b.grown hg hr, (World.frozen?_of_block (a := ⟨g, 0, none⟩) hk).trans h.f0, (World.frozen?_of_block (a := ⟨g, 1, none⟩) hk).trans h.f1, (World.frozen?_of_block (a := ⟨g, 2, none⟩) hk).trans h.f2⟩
theorem Bz.grownR {W W' : World} {g : Nat} {x y z : Value} {row : Option Nat} (h : Bz W g x y z) (hg : W.grownBy W' row) (hr : row ≠ some g) : Bz W' g x y z := by
  have hk := hg.block g h.b.2.2.2 (fun e => hr e.symm)
  exact ⟨h.b.grownR hg hr, (World.frozen?_of_block (a := ⟨g, 0, none⟩) hk).trans h.f0, (World.frozen?_of_block (a := ⟨g, 1, none⟩) hk).trans h.f1, (World.frozen?_of_block (a := ⟨g, 2, none⟩) hk).trans h.f2⟩
/-- A market being drawn: its box at gm, the result's box at gr, the cursor at g. -/
structure MkD (w0 w : World) (g gr gm : Nat) (N : Int) (A1 : Option Addr) (c1 : Nat) (P : List Int) (A2 : Option Addr) (c2 : Nat) (W : List Int) (A3 : Option Addr) (c3 : Nat) (F : List Int) : Prop where
  bx : Bz w gm (.slice A1 P.length c1) (.slice A2 W.length c2) (.slice A3 F.length c3)
  br : Bz w gr (.slice none 0 0) (.slice none 0 0) (.slice none 0 0)
  o1 : Own w w0.heap.size A1 c1 P
  o2 : Own w w0.heap.size A2 c2 W
  o3 : Own w w0.heap.size A3 c3 F
  n1 : ∀ b, blk A1 = some b → b ≠ gm ∧ b ≠ gr
  n2 : ∀ b, blk A2 = some b → b ≠ gm ∧ b ≠ gr
  n3 : ∀ b, blk A3 = some b → b ≠ gm ∧ b ≠ gr ∧ blk A1 ≠ some b ∧ blk A2 ≠ some b
  cur : CurS w g N
  g0 : g < w0.heap.size
  t0 : w0.heap.size ≤ gm ∧ w0.heap.size ≤ gr ∧ gr ≠ gm
  gr_ : w0.grownBy w (some g)
theorem ne_blk {A : Option Addr} {q : Nat} (h : ∀ b, blk A = some b → b ≠ q) : A = none ∨ blk A ≠ some q := by
  rcases A with _ | a
  · exact .inl rfl
  · right; intro e; exact h q e rfl
theorem ne_row {A B : Option Addr} (h : ∀ b, blk B = some b → blk A ≠ some b) : A = none ∨ blk A ≠ blk B := by
  rcases A with _ | a
  · exact .inl rfl
  · right; intro e; exact h a.block e.symm rfl
section
variable {w0 w w' : World} {g gr gm : Nat} {N M : Int} {A1 A2 A3 : Option Addr} {c1 c2 c3 : Nat} {P W F : List Int}
theorem MkD.cur_ (h : MkD w0 w g gr gm N A1 c1 P A2 c2 W A3 c3 F) (hk : w.grownBy w' (some g)) (hc : CurS w' g M) : MkD w0 w' g gr gm M A1 c1 P A2 c2 W A3 c3 F :=
  ⟨h.bx.grownR hk (by intro e; injection e with e; have := h.t0; have := h.g0; omega), h.br.grownR hk (by intro e; injection e with e; have := h.t0; have := h.g0; omega), h.o1.grown hk (own_apart h.o1 h.g0), h.o2.grown hk (own_apart h.o2 h.g0), h.o3.grown hk (own_apart h.o3 h.g0), h.n1, h.n2, h.n3, hc, h.g0, h.t0, h.gr_.trans hk⟩
theorem MkD.below (h : MkD w0 w g gr gm N A1 c1 P A2 c2 W A3 c3 F) (hb : Below w.heap.size w w') : MkD w0 w' g gr gm N A1 c1 P A2 c2 W A3 c3 F :=
  ⟨h.bx.below hb, h.br.below hb, h.o1.below hb, h.o2.below hb, h.o3.below hb, h.n1, h.n2, h.n3, h.cur.below hb, h.g0, h.t0, grown_low h.gr_ hb⟩
theorem MkD.mono (h : MkD w0 w g gr gm N A1 c1 P A2 c2 W A3 c3 F) (hN : N ≤ M) : MkD w0 w g gr gm M A1 c1 P A2 c2 W A3 c3 F := ⟨h.bx, h.br, h.o1, h.o2, h.o3, h.n1, h.n2, h.n3, h.cur.mono hN, h.g0, h.t0, h.gr_⟩
theorem MkD.drew (h : MkD w0 w g gr gm N A1 c1 P A2 c2 W A3 c3 F) : MkD w0 w.drew g gr gm N A1 c1 P A2 c2 W A3 c3 F :=
  h.cur_ ⟨rfl, rfl, rfl, Nat.le_refl _, fun _ _ _ => rfl⟩ (h.cur.drewN 1)
theorem MkD.push3 (h : MkD w0 w g gr gm N A1 c1 P A2 c2 W A3 c3 F) {A3' : Option Addr} {c3' : Nat} {y : Int} (o : Own w' w0.heap.size A3' c3' (F ++ [y])) (gw : w.grownBy w' (blk A3)) (t : blk A3' = blk A3 ∨ ∃ r, blk A3' = some r ∧ w.heap.size ≤ r) :
    MkD w0 (w'.setCell ⟨gm, 2, none⟩ (.slice A3' (F.length + 1) c3')) g gr gm N A1 c1 P A2 c2 W A3' c3' (F ++ [y]) := by
  have k1 := fun b e => (h.o1.ltk b e)
  have k2 := fun b e => (h.o2.ltk b e)
  have n3' : ∀ b, blk A3' = some b → b ≠ gm ∧ b ≠ gr ∧ blk A1 ≠ some b ∧ blk A2 ≠ some b := fun b e => by
    rcases t with t | ⟨r, t, hr⟩
    · exact h.n3 b (by rw [← t]; exact e)
    · rw [t] at e
      injection e with e
      subst e
      exact ⟨by have := h.bx.b.2.2.2; omega, by have := h.br.b.2.2.2; omega, fun e => by have := k1 r e; omega, fun e => by have := k2 r e; omega⟩
  have gs : w'.grownBy (w'.setCell ⟨gm, 2, none⟩ (.slice A3' (F.length + 1) c3')) (some gm) := grown_setCell w' ⟨gm, 2, none⟩ _
  have b1 := h.bx.grownR gw (fun e => (h.n3 gm e).1 rfl)
  have b2 := h.br.grownR gw (fun e => (h.n3 gr e).2.1 rfl)
  have o1 := h.o1.grown gw (ne_row fun b e => (h.n3 b e).2.2.1)
  have o2 := h.o2.grown gw (ne_row fun b e => (h.n3 b e).2.2.2)
  refine ⟨?_, b2.grownR gs (by intro e; injection e with e; exact h.t0.2.2 e.symm), o1.grown gs (ne_blk fun b e => (h.n1 b e).1), o2.grown gs (ne_blk fun b e => (h.n2 b e).1), o.grown gs (ne_blk fun b e => (n3' b e).1), h.n1, h.n2, n3', ?_, h.g0, h.t0, ?_⟩
  · rw [List.length_append]
    exact b1.s2 _
  · exact (h.cur.grown gw (fun b e => by have := h.o3.ge b e; have := h.g0; omega)).grown gs (fun b e => by injection e with e; have := h.t0; have := h.g0; omega)
  · exact grown_new (grown_new h.gr_ gw (fun b e => h.o3.ge b e)) gs (fun b e => by injection e with e; have := h.t0; omega)
theorem MkD.set3 {a3 : Nat} (h : MkD w0 w g gr gm N A1 c1 P A2 c2 W (some ⟨a3, 0, none⟩) c3 F) (k : Nat) (y : Int) : MkD w0 (w.setCell ⟨a3, k, none⟩ (.int .i64 y)) g gr gm N A1 c1 P A2 c2 W (some ⟨a3, 0, none⟩) c3 (F.set k y) := by
  have o := h.o3.set k y
  have n := h.n3 a3 rfl
  have hl := h.o3.ge a3 rfl
  exact ⟨by rw [List.length_set]; exact h.bx.grownR o.2 (by intro e; injection e with e; exact n.1 e), h.br.grownR o.2 (by intro e; injection e with e; exact n.2.1 e), h.o1.grown o.2 (.inr n.2.2.1), h.o2.grown o.2 (.inr n.2.2.2), o.1, h.n1, h.n2, h.n3, h.cur.grown o.2 (fun b e => by injection e with e; have := h.g0; omega), h.g0, h.t0, grown_new h.gr_ o.2 (fun b e => by injection e with e; omega)⟩
/-- A market has been drawn: rows of the call's own. -/
def MarketDrawn (w : World) (g : Nat) (M : Int) (e : Ending) (w' : World) : Prop := ∃ A1 c1 P A2 c2 W A3 c3 F, e = .returned (mkV A1 P.length c1 A2 W.length c2 A3 F.length c3) ∧ P.length ≤ 60 ∧ W.length ≤ 60 ∧ F.length ≤ 60 ∧
  Own w' w.heap.size A1 c1 P ∧ Own w' w.heap.size A2 c2 W ∧ Own w' w.heap.size A3 c3 F ∧ CurS w' g M ∧ w.grownBy w' (some g)
theorem MkD.fin (h : MkD w0 w g gr gm N A1 c1 P A2 c2 W A3 c3 F) (hN : N ≤ M) (h1 : P.length ≤ 60) (h2 : W.length ≤ 60) (h3 : F.length ≤ 60) (u x z : Value) :
    MarketDrawn w0 g M (.returned (mkV A1 P.length c1 A2 W.length c2 A3 F.length c3)) (((w.setCell ⟨gr, 0, none⟩ u).setCell ⟨gr, 1, none⟩ x).setCell ⟨gr, 2, none⟩ z) := by
  have gs : w.grownBy (((w.setCell ⟨gr, 0, none⟩ u).setCell ⟨gr, 1, none⟩ x).setCell ⟨gr, 2, none⟩ z) (some gr) := ((grown_setCell w ⟨gr, 0, none⟩ _).trans (grown_setCell _ ⟨gr, 1, none⟩ _)).trans (grown_setCell _ ⟨gr, 2, none⟩ _)
  exact ⟨A1, c1, P, A2, c2, W, A3, c3, F, rfl, h1, h2, h3, h.o1.grown gs (ne_blk fun b e => (h.n1 b e).2), h.o2.grown gs (ne_blk fun b e => (h.n2 b e).2), h.o3.grown gs (ne_blk fun b e => (h.n3 b e).2.1), (h.cur.mono hN).grown gs (fun b e => by injection e with e; have := h.t0; have := h.g0; omega), grown_new h.gr_ gs (fun b e => by injection e with e; have := h.t0; omega)⟩
end
theorem allB_snoc {F : List Int} {y lo hi : Int} (h : allB F lo hi = true) (h1 : lo ≤ y) (h2 : y ≤ hi) : allB (F ++ [y]) lo hi = true := by
  unfold allB at *
  rw [List.all_append, h]
  simp [inB, h1, h2]
theorem allB_set {F : List Int} {y lo hi : Int} {k : Nat} (h : allB F lo hi = true) (h1 : lo ≤ y) (h2 : y ≤ hi) : allB (F.set k y) lo hi = true := by
  refine List.all_eq_true.2 fun x hx => ?_
  rcases List.mem_or_eq_of_mem_set hx with hx | rfl
  · exact List.all_eq_true.1 h x hx
  · exact inB_iff.2 ⟨h1, h2⟩
/-- The code from region k on: a piece of a body. -/
def firstIs (k : Nat) : Code → Bool
  | .region id _ _ => id == k
  | .seq a _ => firstIs k a
  | _ => false
def restFrom (k : Nat) : Code → Option Code
  | .seq a b => if firstIs k a then some (.seq a b) else
    match restFrom k a with
    | some c => some c
    | none => restFrom k b
  | .cond _ a b =>
    match restFrom k a with
    | some c => some c
    | none => restFrom k b
  | .block _ c => restFrom k c
  | .scope c => restFrom k c
  | .loop c => restFrom k c
  | _ => none
end Go.Proofs.Ytfobjkdkjlbkfaa
