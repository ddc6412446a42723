/- The draw of a tree. (Written by gen_drt.py.) -/
import Derived.Test.YtnhclpajfejnoaaDrB
import Derived.Test.YtnhclpajfejnoaaTrA
import Derived.Test.YtnhclpajfejnoaaScal
import Derived.Deep.DeepCutAuto
import Derived.Deep.CutRange
namespace Go.Proofs.Ytnhclpajfejnoaa
open Go.RowKit

def leI (a b : Int) : Int := if a < b then a else b
theorem l1Lst_c (a b : Int) (w : World) : Calls Try.prog 110 #[.int .i64 a, .int .i64 b] w fun e w' => e = .returned (.int .i64 (leI a b)) ∧ w = w' := by
  unfold leI
  by_cases h : a < b
  · rw [if_pos h]
    go_enter Try.func110, Try.ntmps110
    go_wp2
    go_ret
    exact ⟨rfl, rfl⟩
  · rw [if_neg h]
    go_enter Try.func110, Try.ntmps110
    go_wp2
    go_ret
    exact ⟨rfl, rfl⟩
theorem leI_bd {a b lo hi : Int} (h1 : lo ≤ a) (h2 : lo ≤ b) (h3 : a ≤ hi ∨ b ≤ hi) : lo ≤ leI a b ∧ leI a b ≤ hi := by
  unfold leI
  split <;> omega
theorem Bx.grownR {w w' : World} {g : Nat} {x y : Value} {row : Option Nat} (h : Bx w g x y) (hg : w.grownBy w' row) (hr : row ≠ some g) : Bx w' g x y := by
  have hb := hg.block g h.2.2.2.2 (fun e => hr e.symm)
  exact ⟨(World.cell?_of_block (a := ⟨g, 0, none⟩) hb).trans h.1, (World.cell?_of_block (a := ⟨g, 1, none⟩) hb).trans h.2.1, (World.frozen?_of_block (a := ⟨g, 0, none⟩) hb).trans h.2.2.1, (World.frozen?_of_block (a := ⟨g, 1, none⟩) hb).trans h.2.2.2.1, Nat.lt_of_lt_of_le h.2.2.2.2 hg.size⟩
theorem Bx.set0 {w : World} {g : Nat} {x y : Value} (h : Bx w g x y) (u : Value) : Bx (w.setCell ⟨g, 0, none⟩ u) g u y := by
  obtain ⟨h0, h1, h2, h3, h4⟩ := h
  exact ⟨by simp [go_sem, h0], by simp [go_sem, h1], by simp [go_sem, h2], by simp [go_sem, h3], by simpa [World.size_setCell] using h4⟩
theorem Bx.set1 {w : World} {g : Nat} {x y : Value} (h : Bx w g x y) (u : Value) : Bx (w.setCell ⟨g, 1, none⟩ u) g x u := by
  obtain ⟨h0, h1, h2, h3, h4⟩ := h
  exact ⟨by simp [go_sem, h0], by simp [go_sem, h1], by simp [go_sem, h2], by simp [go_sem, h3], by simpa [World.size_setCell] using h4⟩
/-- A tree being drawn: its box at gt, the result's box at gr, the cursor at g. -/
structure TrD (w0 w : World) (g gr gt : Nat) (N : Int) (A1 : Option Addr) (c1 : Nat) (P : List Int) (A2 : Option Addr) (c2 : Nat) (W : List Int) : Prop where
  bx : Bx w gt (.slice A1 P.length c1) (.slice A2 W.length c2)
  br : Bx w gr (.slice none 0 0) (.slice none 0 0)
  o1 : Own w w0.heap.size A1 c1 P
  o2 : Own w w0.heap.size A2 c2 W
  n1 : ∀ b, blk A1 = some b → b ≠ gt ∧ b ≠ gr ∧ blk A2 ≠ some b
  n2 : ∀ b, blk A2 = some b → b ≠ gt ∧ b ≠ gr
  cur : CurS w g N
  g0 : g < w0.heap.size
  t0 : w0.heap.size ≤ gt ∧ w0.heap.size ≤ gr ∧ gr ≠ gt
  gr_ : w0.grownBy w (some g)
section
variable {w0 w w' : World} {g gr gt : Nat} {N M : Int} {A1 A2 : Option Addr} {c1 c2 : Nat} {P W : List Int}
theorem TrD.cur_ (h : TrD w0 w g gr gt N A1 c1 P A2 c2 W) (hk : w.grownBy w' (some g)) (hc : CurS w' g M) : TrD w0 w' g gr gt M A1 c1 P A2 c2 W :=
  ⟨h.bx.grownR hk (by intro e; injection e with e; have := h.t0; have := h.g0; omega), h.br.grownR hk (by intro e; injection e with e; have := h.t0; have := h.g0; omega), h.o1.grown hk (own_apart h.o1 h.g0), h.o2.grown hk (own_apart h.o2 h.g0), h.n1, h.n2, hc, h.g0, h.t0, h.gr_.trans hk⟩
theorem TrD.below (h : TrD w0 w g gr gt N A1 c1 P A2 c2 W) (hb : Below w.heap.size w w') : TrD w0 w' g gr gt N A1 c1 P A2 c2 W :=
  ⟨h.bx.below hb, h.br.below hb, h.o1.below hb, h.o2.below hb, h.n1, h.n2, h.cur.below hb, h.g0, h.t0, grown_low h.gr_ hb⟩
theorem TrD.mono (h : TrD w0 w g gr gt N A1 c1 P A2 c2 W) (hN : N ≤ M) : TrD w0 w g gr gt M A1 c1 P A2 c2 W := ⟨h.bx, h.br, h.o1, h.o2, h.n1, h.n2, h.cur.mono hN, h.g0, h.t0, h.gr_⟩
theorem TrD.push1 (h : TrD w0 w g gr gt N A1 c1 P A2 c2 W) {A1' : Option Addr} {c1' : Nat} {y : Int} (o : Own w' w0.heap.size A1' c1' (P ++ [y])) (gw : w.grownBy w' (blk A1)) (t : blk A1' = blk A1 ∨ ∃ r, blk A1' = some r ∧ w.heap.size ≤ r) :
    TrD w0 (w'.setCell ⟨gt, 0, none⟩ (.slice A1' (P.length + 1) c1')) g gr gt N A1' c1' (P ++ [y]) A2 c2 W := by
  have hk2 := fun b e => (h.o2.ltk b e)
  have n1' : ∀ b, blk A1' = some b → b ≠ gt ∧ b ≠ gr ∧ blk A2 ≠ some b := fun b e => by
    rcases t with t | ⟨r, t, hr⟩
    · exact h.n1 b (by rw [← t]; exact e)
    · rw [t] at e
      injection e with e
      subst e
      refine ⟨by have := h.bx.2.2.2.2; omega, by have := h.br.2.2.2.2; omega, fun e => by have := hk2 r e; omega⟩
  have gs : w'.grownBy (w'.setCell ⟨gt, 0, none⟩ (.slice A1' (P.length + 1) c1')) (some gt) := grown_setCell w' ⟨gt, 0, none⟩ _
  have b1 := h.bx.grownR gw (fun e => (h.n1 gt e).1 rfl)
  have b2 := h.br.grownR gw (fun e => (h.n1 gr e).2.1 rfl)
  have o2 := h.o2.grown gw (by
    rcases A2 with _ | a
    · exact .inl rfl
    · right; intro e; exact (h.n1 a.block e.symm).2.2 rfl)
  have ne : ∀ {A : Option Addr}, (∀ b, blk A = some b → b ≠ gt) → A = none ∨ blk A ≠ some gt := fun {A} hA => by
    rcases A with _ | a
    · exact .inl rfl
    · right; intro e; exact hA gt e rfl
  refine ⟨?_, b2.grownR gs (by intro e; injection e with e; exact h.t0.2.2 e.symm), o.grown gs (ne fun b e => (n1' b e).1), o2.grown gs (ne fun b e => (h.n2 b e).1), n1', h.n2, ?_, h.g0, h.t0, ?_⟩
  · rw [List.length_append]
    exact b1.set0 _
  · exact (h.cur.grown gw (fun b e => by have := h.o1.ge b e; have := h.g0; omega)).grown gs (fun b e => by injection e with e; have := h.t0; have := h.g0; omega)
  · exact grown_new (grown_new h.gr_ gw (fun b e => h.o1.ge b e)) gs (fun b e => by injection e with e; have := h.t0; omega)
theorem TrD.push2 (h : TrD w0 w g gr gt N A1 c1 P A2 c2 W) {A2' : Option Addr} {c2' : Nat} {y : Int} (o : Own w' w0.heap.size A2' c2' (W ++ [y])) (gw : w.grownBy w' (blk A2)) (t : blk A2' = blk A2 ∨ ∃ r, blk A2' = some r ∧ w.heap.size ≤ r) :
    TrD w0 (w'.setCell ⟨gt, 1, none⟩ (.slice A2' (W.length + 1) c2')) g gr gt N A1 c1 P A2' c2' (W ++ [y]) := by
  have hk1 := fun b e => (h.o1.ltk b e)
  have n2' : ∀ b, blk A2' = some b → b ≠ gt ∧ b ≠ gr := fun b e => by
    rcases t with t | ⟨r, t, hr⟩
    · exact h.n2 b (by rw [← t]; exact e)
    · rw [t] at e
      injection e with e
      subst e
      exact ⟨by have := h.bx.2.2.2.2; omega, by have := h.br.2.2.2.2; omega⟩
  have n1' : ∀ b, blk A1 = some b → b ≠ gt ∧ b ≠ gr ∧ blk A2' ≠ some b := fun b e => by
    refine ⟨(h.n1 b e).1, (h.n1 b e).2.1, fun e2 => ?_⟩
    rcases t with t | ⟨r, t, hr⟩
    · exact (h.n1 b e).2.2 (by rw [← t]; exact e2)
    · rw [t] at e2
      injection e2 with e2
      have := hk1 b e
      omega
  have gs : w'.grownBy (w'.setCell ⟨gt, 1, none⟩ (.slice A2' (W.length + 1) c2')) (some gt) := grown_setCell w' ⟨gt, 1, none⟩ _
  have b1 := h.bx.grownR gw (fun e => (h.n2 gt e).1 rfl)
  have b2 := h.br.grownR gw (fun e => (h.n2 gr e).2 rfl)
  have o1 := h.o1.grown gw (by
    rcases A1 with _ | a
    · exact .inl rfl
    · right; intro e; exact (h.n1 a.block rfl).2.2 e.symm)
  have ne : ∀ {A : Option Addr}, (∀ b, blk A = some b → b ≠ gt) → A = none ∨ blk A ≠ some gt := fun {A} hA => by
    rcases A with _ | a
    · exact .inl rfl
    · right; intro e; exact hA gt e rfl
  refine ⟨?_, b2.grownR gs (by intro e; injection e with e; exact h.t0.2.2 e.symm), o1.grown gs (ne fun b e => (n1' b e).1), o.grown gs (ne fun b e => (n2' b e).1), n1', n2', ?_, h.g0, h.t0, ?_⟩
  · rw [List.length_append]
    exact b1.set1 _
  · exact (h.cur.grown gw (fun b e => by have := h.o2.ge b e; have := h.g0; omega)).grown gs (fun b e => by injection e with e; have := h.t0; have := h.g0; omega)
  · exact grown_new (grown_new h.gr_ gw (fun b e => h.o2.ge b e)) gs (fun b e => by injection e with e; have := h.t0; omega)
theorem TrD.set1 {a1 : Nat} (h : TrD w0 w g gr gt N (some ⟨a1, 0, none⟩) c1 P A2 c2 W) (k : Nat) (y : Int) : TrD w0 (w.setCell ⟨a1, k, none⟩ (.int .i64 y)) g gr gt N (some ⟨a1, 0, none⟩) c1 (P.set k y) A2 c2 W := by
  have o := h.o1.set k y
  have n := h.n1 a1 rfl
  have hl := h.o1.ge a1 rfl
  refine ⟨by rw [List.length_set]; exact h.bx.grownR o.2 (by intro e; injection e with e; exact n.1 e), h.br.grownR o.2 (by intro e; injection e with e; exact n.2.1 e), o.1, h.o2.grown o.2 (by
    rcases A2 with _ | a
    · exact .inl rfl
    · right; exact n.2.2), h.n1, h.n2, h.cur.grown o.2 (fun b e => by injection e with e; have := h.g0; omega), h.g0, h.t0, grown_new h.gr_ o.2 (fun b e => by injection e with e; omega)⟩
theorem TrD.set2 {a2 : Nat} (h : TrD w0 w g gr gt N A1 c1 P (some ⟨a2, 0, none⟩) c2 W) (k : Nat) (y : Int) : TrD w0 (w.setCell ⟨a2, k, none⟩ (.int .i64 y)) g gr gt N A1 c1 P (some ⟨a2, 0, none⟩) c2 (W.set k y) := by
  have o := h.o2.set k y
  have n := h.n2 a2 rfl
  have hl := h.o2.ge a2 rfl
  refine ⟨by rw [List.length_set]; exact h.bx.grownR o.2 (by intro e; injection e with e; exact n.1 e), h.br.grownR o.2 (by intro e; injection e with e; exact n.2 e), h.o1.grown o.2 (by
    rcases A1 with _ | a
    · exact .inl rfl
    · right; intro e; injection e with e; exact (h.n1 a.block rfl).2.2 (by have e : a.block = a2 := e; rw [e]; rfl)), o.1, h.n1, h.n2, h.cur.grown o.2 (fun b e => by injection e with e; have := h.g0; omega), h.g0, h.t0, grown_new h.gr_ o.2 (fun b e => by injection e with e; omega)⟩
end
theorem ParOk.push {P : List Int} {y : Int} (h : ParOk P) (h1 : 1 ≤ P.length) (h2 : 0 ≤ y) (h3 : y ≤ (P.length : Int) - 1) : ParOk (P ++ [y]) := by
  refine ⟨by rw [nth_app_l (by omega)]; exact h.zero, fun x hx hl => ?_⟩
  rcases Nat.lt_or_ge x P.length with hx2 | hx2
  · rw [nth_app_l hx2]
    exact h.up x hx hx2
  · have e : x = P.length := by simp at hl; omega
    rw [nth_app_r P y x e, e]
    exact ⟨h2, h3⟩
/-- A tree has been drawn: rows of the call's own. -/
def TreeDrawn (w : World) (g : Nat) (M : Int) (e : Ending) (w' : World) : Prop := ∃ A1 c1 P A2 c2 W, e = .returned (trV A1 P.length c1 A2 W.length c2) ∧ P.length ≤ 40 ∧ W.length ≤ 60 ∧ Own w' w.heap.size A1 c1 P ∧ Own w' w.heap.size A2 c2 W ∧ CurS w' g M ∧ w.grownBy w' (some g)
theorem TrD.fin {w0 w : World} {g gr gt : Nat} {N M : Int} {A1 A2 : Option Addr} {c1 c2 : Nat} {P W : List Int} (h : TrD w0 w g gr gt N A1 c1 P A2 c2 W) (hN : N ≤ M) (h1 : P.length ≤ 40) (h2 : W.length ≤ 60) (u x : Value) :
    TreeDrawn w0 g M (.returned (trV A1 P.length c1 A2 W.length c2)) ((w.setCell ⟨gr, 0, none⟩ u).setCell ⟨gr, 1, none⟩ x) := by
  have gs : w.grownBy ((w.setCell ⟨gr, 0, none⟩ u).setCell ⟨gr, 1, none⟩ x) (some gr) := (grown_setCell w ⟨gr, 0, none⟩ _).trans (grown_setCell _ ⟨gr, 1, none⟩ _)
  have ne : ∀ {A : Option Addr}, (∀ b, blk A = some b → b ≠ gr) → A = none ∨ blk A ≠ some gr := fun {A} hA => by
    rcases A with _ | a
    · exact .inl rfl
    · right; intro e; exact hA gr e rfl
  exact ⟨A1, c1, P, A2, c2, W, rfl, h1, h2, h.o1.grown gs (ne fun b e => (h.n1 b e).2.1), h.o2.grown gs (ne fun b e => (h.n2 b e).2), (h.cur.mono hN).grown gs (fun b e => by injection e with e; have := h.t0; have := h.g0; omega), grown_new h.gr_ gs (fun b e => by injection e with e; have := h.t0; omega)⟩
theorem TrD.fin0 {w0 w : World} {g gr gt : Nat} {N M : Int} {A1 A2 : Option Addr} {c1 c2 : Nat} {P W : List Int} (h : TrD w0 w g gr gt N A1 c1 P A2 c2 W) (hN : N ≤ M) (u x : Value) :
    TreeDrawn w0 g M (.returned (trV none 0 0 none 0 0)) ((w.setCell ⟨gr, 0, none⟩ u).setCell ⟨gr, 1, none⟩ x) := by
  have gs : w.grownBy ((w.setCell ⟨gr, 0, none⟩ u).setCell ⟨gr, 1, none⟩ x) (some gr) := (grown_setCell w ⟨gr, 0, none⟩ _).trans (grown_setCell _ ⟨gr, 1, none⟩ _)
  exact ⟨none, 0, [], none, 0, [], rfl, by simp, by simp, Own.nil _ _, Own.nil _ _, (h.cur.mono hN).grown gs (fun b e => by injection e with e; have := h.t0; have := h.g0; omega), grown_new h.gr_ gs (fun b e => by injection e with e; have := h.t0; omega)⟩
set_option maxRecDepth 20000 in
set_option maxHeartbeats 8000000 in
theorem someTree_c (g : Nat) (N most : Int) (w : World) (h : CurS w g N) (hN : N ≤ 800000) (hm1 : 1 ≤ most) (hm2 : most ≤ 24) :
    Calls Try.prog 123 #[.pointer (some ⟨g, 0, none⟩), .int .i64 most] w (TreeDrawn w g (N + 300)) := by
  have hgw : g < w.heap.size := by
    obtain ⟨_, _, _, _, _, h⟩ := h
    exact h.lt
  have B0 := (((Bx.new w (.slice none 0 0) (.slice none 0 0) 26).alloc (.cells (ints [-1]).toArray 3)).alloc (.cells #[] 3)).alloc (.cells (ints [5, 7, 4, 10, 3, 2, 1, 15, 24]).toArray 3)
  have O1 := (((Own.lit (w.alloc (.cells #[.slice none 0 0, .slice none 0 0] 26)) [-1] (by decide)).alloc (.cells #[] 3)).alloc (.cells (ints [5, 7, 4, 10, 3, 2, 1, 15, 24]).toArray 3)).mono (B' := w.heap.size) (by simp)
  have O2 := ((Own.lit ((w.alloc (.cells #[.slice none 0 0, .slice none 0 0] 26)).alloc (.cells (ints [-1]).toArray 3)) [] (by decide)).alloc (.cells (ints [5, 7, 4, 10, 3, 2, 1, 15, 24]).toArray 3)).mono (B' := w.heap.size) (by simp; omega)
  have R0 := (Own.lit (((w.alloc (.cells #[.slice none 0 0, .slice none 0 0] 26)).alloc (.cells (ints [-1]).toArray 3)).alloc (.cells #[] 3)) [5, 7, 4, 10, 3, 2, 1, 15, 24] (by decide)).rd
  have b0 : Below w.heap.size w ((((w.alloc (.cells #[.slice none 0 0, .slice none 0 0] 26)).alloc (.cells (ints [-1]).toArray 3)).alloc (.cells #[] 3)).alloc (.cells (ints [5, 7, 4, 10, 3, 2, 1, 15, 24]).toArray 3)) := ((((Below.refl _ _).alloc (Nat.le_refl _) _).alloc (by simp) _).alloc (by simp; omega) _).alloc (by simp; omega) _
  simp only [World.size_alloc] at O1 O2 R0
  go_enter Try.func123, Try.ntmps123
  go_wp2_with fail
  refine (among_c g N _ [5, 7, 4, 10, 3, 2, 1, 15, 24] _ _ _ (h.below b0) (by omega) R0 (fun ad e => by injection e with e; rw [← e]; simp; omega) rfl (by decide) (by decide)).mono ?_
  rintro e w2 ⟨v, rfl, ⟨k, hk, rfl⟩, hc, hg⟩
  have nb := allB_nth (xs := [5, 7, 4, 10, 3, 2, 1, 15, 24]) (lo := 1) (hi := 24) (by decide) hk
  have B2 := B0.grownR hg (by intro e; injection e with e; omega)
  have O12 := O1.grown hg (own_apart O1 hgw)
  have O22 := O2.grown hg (own_apart O2 hgw)
  have G2 : w.grownBy w2 (some g) := (grown_of_below b0 (some g)).trans hg
  generalize nth [5, 7, 4, 10, 3, 2, 1, 15, 24] k = y at *
  clear hk R0 b0 hg h B0 O1 O2
  go_wp2_with fail
  refine (l1Lst_c y most w2).mono ?_
  rintro e w' ⟨rfl, rfl⟩
  obtain ⟨n, hn⟩ : ∃ n : Nat, leI y most = (n : Int) := ⟨(leI y most).toNat, by have := leI_bd (a := y) (b := most) (lo := 1) (hi := most) nb.1 hm1 (.inr (Int.le_refl _)); omega⟩
  have hn1 : 1 ≤ n ∧ n ≤ 24 := by have := leI_bd (a := y) (b := most) (lo := 1) (hi := most) nb.1 hm1 (.inr (Int.le_refl _)); omega
  rw [hn]
  clear hn nb hm1 hm2
  go_wp2_with fail
  refine (one_c g _ 2 _ hc (by omega) (by omega)).mono ?_
  rintro e w3 ⟨v, rfl, ⟨wide, rfl⟩, hc3, hg3⟩
  have B3 := B2.grownR hg3 (by intro e; injection e with e; omega)
  have O13 := O12.grown hg3 (own_apart O12 hgw)
  have O23 := O22.grown hg3 (own_apart O22 hgw)
  have G3 := G2.trans hg3
  have l3 := B3.2.2.2.2
  have a1l : w.heap.size + 1 < w3.heap.size := O13.ltk _ rfl
  have a2l : w.heap.size + 1 + 1 < w3.heap.size := O23.ltk _ rfl
  have bl : Below w3.heap.size w3 (w3.alloc (.cells #[.slice (some ⟨w.heap.size + 1, 0, none⟩) 1 1, .slice (some ⟨w.heap.size + 1 + 1, 0, none⟩) 0 0] 26)) := (Below.refl _ _).alloc (Nat.le_refl _) _
  have m1 : ∀ b, blk (some ⟨w.heap.size + 1, 0, none⟩) = some b → b ≠ w3.heap.size ∧ b ≠ w.heap.size ∧ blk (some ⟨w.heap.size + 1 + 1, 0, none⟩) ≠ some b := fun b e => by
    have e : w.heap.size + 1 = b := Option.some.inj e
    refine ⟨by omega, by omega, fun e2 => ?_⟩
    have e2 : w.heap.size + 1 + 1 = b := Option.some.inj e2
    omega
  have m2 : ∀ b, blk (some ⟨w.heap.size + 1 + 1, 0, none⟩) = some b → b ≠ w3.heap.size ∧ b ≠ w.heap.size := fun b e => by
    have e : w.heap.size + 1 + 1 = b := Option.some.inj e
    exact ⟨by omega, by omega⟩
  have T0 : TrD w (w3.alloc (.cells #[.slice (some ⟨w.heap.size + 1, 0, none⟩) 1 1, .slice (some ⟨w.heap.size + 1 + 1, 0, none⟩) 0 0] 26)) g w.heap.size w3.heap.size (N + 2 + 2) (some ⟨w.heap.size + 1, 0, none⟩) 1 [-1] (some ⟨w.heap.size + 1 + 1, 0, none⟩) 0 [] :=
    ⟨Bx.new _ _ _ _, B3.alloc _, O13.alloc _, O23.alloc _, m1, m2, hc3.below bl, hgw, ⟨by omega, Nat.le_refl _, by omega⟩, grown_low G3 bl⟩
  have hp0 : ParOk [-1] := ⟨rfl, fun x h1 h2 => by simp at h2; omega⟩
  clear B2 B3 O12 O13 O22 O23 G2 G3 hg3 hc3 hc bl m1 m2
  obtain ⟨gt, hgt⟩ : ∃ gt, gt = w3.heap.size := ⟨_, rfl⟩
  go_wp2_with fail
  rw [← hgt] at T0 ⊢
  have T1 := Lib.hid T0
  clear T0 hgt l3 a1l a2l
  go_loopw [8] (fun i wr => ∃ (k : Nat) (A1 : Option Addr) (c1 : Nat) (P : List Int), i = .int .i64 (k : Int) ∧ 1 ≤ k ∧ k ≤ n ∧ P.length = k ∧ ParOk P ∧ TrD w wr g w.heap.size gt (N + 2 + 2 + 2 * (k : Int)) A1 c1 P (some ⟨w.heap.size + 1 + 1, 0, none⟩) 0 []) (fun i _ => n - (intOf i).toNat)
  case atStart => exact ⟨1, _, _, [-1], rfl, by omega, by omega, rfl, hp0, T1.out.mono (by omega)⟩
  case round =>
    clear T1 hp0
    obtain ⟨v, rfl⟩ : ∃ v : World, v = wr := ⟨_, rfl⟩
    obtain ⟨k, A1, c1, P, rfl, hk1, hkn, hP, hpo, T⟩ := hrel
    replace T := Lib.hid T
    have HP := Lib.hid hP
    have HPO := Lib.hid hpo
    clear hP hpo
    by_cases hlt : k < n
    · go_wp2_with fail
      refine (pick_c g _ (k : Int) _ T.out.cur (by omega) (by omega)).mono ?_
      rintro e v2 ⟨u, rfl, ⟨x, rfl, hx0, hx1⟩, hc2, hg2⟩
      have T2 := Lib.hid (T.out.cur_ hg2 hc2)
      have hxk : x ≤ (k : Int) - 1 := by omega
      clear hc2 hg2 T hx1
      cases wide
      · have hw1 : IntKind.i64.wrap ((k : Int) - 1) = (k : Int) - 1 := IntWalk.i64_in _ (by omega)
        have hle := leI_bd (a := x) (b := (k : Int) - 1) (lo := 0) (hi := (k : Int) - 1) hx0 (by omega) (.inr (Int.le_refl _))
        go_upto_region 8 with fail
        have qb := T2.out.bx.1
        have hd1 : Below v2.heap.size v2 v2.drew := Below.drew (Below.refl _ _)
        have SK1 : Hid (∀ w', Below v2.heap.size v2 w' → w'.cell? ⟨gt, 0, none⟩ = some (.slice A1 P.length c1)) := Lib.hid fun w' HV => (HV.cell (cell_lt qb)).trans qb
        clear qb
        have hS1_0 := SK1.out _ hd1
        refine tamed_region (S := fun w' => w'.cell? ⟨gt, 0, none⟩ = some (.slice A1 P.length c1)) (fun k => k == 9) (by kernel_rfl) ?_
        refine tame0 (k := 0) ?_ rfl (by kernel_rfl) (by kernel_rfl) (by kernel_rfl) (fun _ _ _ h => h) (by kernel_rfl) (fun v => ?_) ?_
        rotate_left
        · (go_simp; all_goals rfl)
        simp only [Act.put, List.setIfInBounds_toArray]
        refine tameT (k := 1) ?_ rfl (by kernel_rfl) (by kernel_rfl) (by kernel_rfl) (by kernel_rfl) (by kernel_rfl) (fun _ _ _ h => h) (by kernel_rfl) hS1_0 (fun v hv => ?_) ?_
        rotate_left
        · (obtain k1 := hv; go_simp; all_goals rfl)
        simp only [Act.put]
        refine tame0 (k := 2) ?_ rfl (by kernel_rfl) (by kernel_rfl) (by kernel_rfl) (fun _ _ _ h => h) (by kernel_rfl) (fun v => ?_) ?_
        rotate_left
        · (go_simp; all_goals rfl)
        simp only [Act.put]
        refine tame0 (k := 3) ?_ rfl (by kernel_rfl) (by kernel_rfl) (by kernel_rfl) (fun _ _ _ h => h) (by kernel_rfl) (fun v => ?_) ?_
        rotate_left
        · (go_simp; all_goals rfl)
        simp only [Act.put]
        refine tame0 (k := 4) ?_ rfl (by kernel_rfl) (by kernel_rfl) (by kernel_rfl) (fun _ _ _ h => h) (by kernel_rfl) (fun v => ?_) ?_
        rotate_left
        · (go_simp; all_goals rfl)
        simp only [Act.put]
        have hS1_0v := Lib.hid hS1_0
        clear hS1_0
        refine tame_one (k := 5) (by kernel_rfl) rfl (by kernel_rfl) ?_
        go_simp
        refine (l1Lst_c _ _ _).mono ?_
        rintro e w' ⟨rfl, rfl⟩
        refine ⟨by first | exact hS1_0v | exact Hid.out hS1_0v, ?_⟩
        refine tame_one (k := 6) (by kernel_rfl) rfl (by kernel_rfl) ?_
        go_simp
        have Hal : Below v2.heap.size v2 (v2.alloc (.cells #[.int .i64 (leI x ((k : Int) - 1))] 3)) := (Below.refl _ _).alloc (Nat.le_refl _) _
        refine ⟨SK1.out _ Hal, ?_⟩
        refine tame_one (k := 7) (by kernel_rfl) rfl (by kernel_rfl) ?_
        refine op_append_ints _ (.tmp 40) (.tmp 45) rfl w.heap.size A1 P.length c1 P rfl rfl (T2.out.o1.alloc _).drew (some ⟨v2.heap.size, 0, none⟩) 1 1 [leI x ((k : Int) - 1)] rfl rfl (Rd.box v2 _ _).drew (by rw [HP.out]; simp; omega) (by have := T2.out.gr_.size; simp; omega) ?_
        intro A5 c5 w5 o5 g5 b5
        have gw : v2.grownBy w5 (blk A1) := grown_of_alloc_drew g5
        have kb := T2.out.bx.grownR gw (fun e => (T2.out.n1 gt e).1 rfl)
        have T5 := Lib.hid (T2.out.push1 o5 gw (by
          rcases b5 with t | t
          · exact .inl t
          · exact .inr ⟨_, t, by simp⟩))
        obtain ⟨f0, f1, f2, f3, f4⟩ := kb
        clear o5 g5 b5 gw
        refine ⟨fun _ => f0, ?_⟩
        simp only [Act.put]
        refine tame0 (k := 8) ?_ rfl (by kernel_rfl) (by kernel_rfl) (by kernel_rfl) (fun _ _ _ h => h) (by kernel_rfl) (fun v => ?_) ?_
        rotate_left
        · (go_simp; all_goals rfl)
        simp only [Act.put]
        refine tame_one (k := 9) (by kernel_rfl) rfl (by kernel_rfl) ?_
        go_simp
        try (refine ⟨fun h => absurd h (by decide), ?_⟩)
        refine tame_end (by kernel_rfl) ?_
        clear hd1 SK1
        go_wp2_with fail
        go_roundw
        case rel => exact ⟨k + 1, A5, c5, P ++ [leI x ((k : Int) - 1)], by go_num, by omega, by omega, by rw [List.length_append, HP.out]; rfl, HPO.out.push (by rw [HP.out]; exact hk1) hle.1 (by rw [HP.out]; exact hle.2), T5.out.mono (by omega)⟩
        case measure => simp [intOf] <;> omega
      · have hw1 : IntKind.i64.wrap ((k : Int) - 1) = (k : Int) - 1 := IntWalk.i64_in _ (by omega)
        have hw2 : IntKind.i64.wrap (x - 2) = x - 2 := IntWalk.i64_in _ (by omega)
        go_wp2_with fail
        refine (l1Most_c (x - 2) 0 v2).mono ?_
        rintro e w' ⟨rfl, rfl⟩
        have m1 := mxI_bd (a := x - 2) (b := 0) (lo := -2) (hi := (k : Int) - 1) (by omega) (by omega) (by omega) (by omega)
        have m2 : 0 ≤ mxI (x - 2) 0 := by unfold mxI; split <;> omega
        generalize mxI (x - 2) 0 = z at *
        go_wp2_with fail
        refine (l1Most_c (((k : Int) - 1) / 2) z v2).mono ?_
        rintro e w' ⟨rfl, rfl⟩
        have m3 := mxI_bd (a := ((k : Int) - 1) / 2) (b := z) (lo := 0) (hi := (k : Int) - 1) (by omega) (by omega) (by omega) (by omega)
        generalize mxI (((k : Int) - 1) / 2) z = q at *
        have hle := leI_bd (a := q) (b := (k : Int) - 1) (lo := 0) (hi := (k : Int) - 1) m3.1 (by omega) (.inr (Int.le_refl _))
        go_upto_region 8 with fail
        have qb := T2.out.bx.1
        have hd2 : Below v2.heap.size v2 v2.drew := Below.drew (Below.refl _ _)
        have SK2 : Hid (∀ w', Below v2.heap.size v2 w' → w'.cell? ⟨gt, 0, none⟩ = some (.slice A1 P.length c1)) := Lib.hid fun w' HV => (HV.cell (cell_lt qb)).trans qb
        clear qb
        have hS2_0 := SK2.out _ hd2
        refine tamed_region (S := fun w' => w'.cell? ⟨gt, 0, none⟩ = some (.slice A1 P.length c1)) (fun k => k == 9) (by kernel_rfl) ?_
        refine tame0 (k := 0) ?_ rfl (by kernel_rfl) (by kernel_rfl) (by kernel_rfl) (fun _ _ _ h => h) (by kernel_rfl) (fun v => ?_) ?_
        rotate_left
        · (go_simp; all_goals rfl)
        simp only [Act.put, List.setIfInBounds_toArray]
        refine tameT (k := 1) ?_ rfl (by kernel_rfl) (by kernel_rfl) (by kernel_rfl) (by kernel_rfl) (by kernel_rfl) (fun _ _ _ h => h) (by kernel_rfl) hS2_0 (fun v hv => ?_) ?_
        rotate_left
        · (obtain k1 := hv; go_simp; all_goals rfl)
        simp only [Act.put]
        refine tame0 (k := 2) ?_ rfl (by kernel_rfl) (by kernel_rfl) (by kernel_rfl) (fun _ _ _ h => h) (by kernel_rfl) (fun v => ?_) ?_
        rotate_left
        · (go_simp; all_goals rfl)
        simp only [Act.put]
        refine tame0 (k := 3) ?_ rfl (by kernel_rfl) (by kernel_rfl) (by kernel_rfl) (fun _ _ _ h => h) (by kernel_rfl) (fun v => ?_) ?_
        rotate_left
        · (go_simp; all_goals rfl)
        simp only [Act.put]
        refine tame0 (k := 4) ?_ rfl (by kernel_rfl) (by kernel_rfl) (by kernel_rfl) (fun _ _ _ h => h) (by kernel_rfl) (fun v => ?_) ?_
        rotate_left
        · (go_simp; all_goals rfl)
        simp only [Act.put]
        have hS2_0v := Lib.hid hS2_0
        clear hS2_0
        refine tame_one (k := 5) (by kernel_rfl) rfl (by kernel_rfl) ?_
        go_simp
        refine (l1Lst_c _ _ _).mono ?_
        rintro e w' ⟨rfl, rfl⟩
        refine ⟨by first | exact hS2_0v | exact Hid.out hS2_0v, ?_⟩
        refine tame_one (k := 6) (by kernel_rfl) rfl (by kernel_rfl) ?_
        go_simp
        have Hal : Below v2.heap.size v2 (v2.alloc (.cells #[.int .i64 (leI q ((k : Int) - 1))] 3)) := (Below.refl _ _).alloc (Nat.le_refl _) _
        refine ⟨SK2.out _ Hal, ?_⟩
        refine tame_one (k := 7) (by kernel_rfl) rfl (by kernel_rfl) ?_
        refine op_append_ints _ (.tmp 40) (.tmp 45) rfl w.heap.size A1 P.length c1 P rfl rfl (T2.out.o1.alloc _).drew (some ⟨v2.heap.size, 0, none⟩) 1 1 [leI q ((k : Int) - 1)] rfl rfl (Rd.box v2 _ _).drew (by rw [HP.out]; simp; omega) (by have := T2.out.gr_.size; simp; omega) ?_
        intro A5 c5 w5 o5 g5 b5
        have gw : v2.grownBy w5 (blk A1) := grown_of_alloc_drew g5
        have kb := T2.out.bx.grownR gw (fun e => (T2.out.n1 gt e).1 rfl)
        have T5 := Lib.hid (T2.out.push1 o5 gw (by
          rcases b5 with t | t
          · exact .inl t
          · exact .inr ⟨_, t, by simp⟩))
        obtain ⟨f0, f1, f2, f3, f4⟩ := kb
        clear o5 g5 b5 gw
        refine ⟨fun _ => f0, ?_⟩
        simp only [Act.put]
        refine tame0 (k := 8) ?_ rfl (by kernel_rfl) (by kernel_rfl) (by kernel_rfl) (fun _ _ _ h => h) (by kernel_rfl) (fun v => ?_) ?_
        rotate_left
        · (go_simp; all_goals rfl)
        simp only [Act.put]
        refine tame_one (k := 9) (by kernel_rfl) rfl (by kernel_rfl) ?_
        go_simp
        try (refine ⟨fun h => absurd h (by decide), ?_⟩)
        refine tame_end (by kernel_rfl) ?_
        clear hd2 SK2
        go_wp2_with fail
        go_roundw
        case rel => exact ⟨k + 1, A5, c5, P ++ [leI q ((k : Int) - 1)], by go_num, by omega, by omega, by rw [List.length_append, HP.out]; rfl, HPO.out.push (by rw [HP.out]; exact hk1) hle.1 (by rw [HP.out]; exact hle.2), T5.out.mono (by omega)⟩
        case measure => simp [intOf] <;> omega
    · obtain rfl : k = n := by omega
      go_wp2_with fail
      go_loopw [10] (fun i wr => ∃ (j : Nat) (A2 : Option Addr) (c2 : Nat) (W : List Int), i = .int .i64 (j : Int) ∧ j ≤ k ∧ W.length = j ∧ TrD w wr g w.heap.size gt (N + 60 + 2 * (j : Int)) A1 c1 P A2 c2 W) (fun i _ => k - (intOf i).toNat)
      case atStart => exact ⟨0, _, 0, [], rfl, by omega, rfl, T.out.mono (by omega)⟩
      case round =>
        clear T
        obtain ⟨v, rfl⟩ : ∃ v : World, v = wr := ⟨_, rfl⟩
        obtain ⟨j, A2, c2, W, rfl, hj, hW, T⟩ := hrel
        replace T := Lib.hid T
        have HWL := Lib.hid hW
        have qb := T.out.bx.1
        have qb2 := T.out.bx.2.1
        clear hW
        by_cases hjk : j < k
        · go_wp2_with fail
          refine (l2Kids_c A1 P c1 A2 W.length c2 j v T.out.o1.rd HPO.out (by rw [HP.out]; exact hjk) (by rw [HP.out]; omega)).mono ?_
          rintro e v2 ⟨A9, c9, rfl, o9, b9⟩
          have T2 := Lib.hid (T.out.below b9)
          have qc := T2.out.bx.1
          have qc2 := T2.out.bx.2.1
          have qc4 := T2.out.bx.2.2.2.1
          clear o9 b9 T qb qb2
          by_cases h0 : (kids P (j : Int)).length = 0
          · have h0' : ((kids P (j : Int)).length : Int) = 0 := by omega
            have R0 := (Own.lit v2 [1, 1, 2, 3, 5, 20] (by decide)).rd
            have bl : Below v2.heap.size v2 (v2.alloc (.cells (ints [1, 1, 2, 3, 5, 20]).toArray 3)) := (Below.refl _ _).alloc (Nat.le_refl _) _
            have hgv := T2.out.gr_.size
            go_wp2_with fail
            refine (among_c g _ _ [1, 1, 2, 3, 5, 20] _ _ _ (T2.out.cur.below bl) (by omega) R0 (fun ad e => by injection e with e; rw [← e]; simp; omega) rfl (by decide) (by decide)).mono ?_
            rintro e v3 ⟨u, rfl, ⟨q, hq, rfl⟩, hc3, hg3⟩
            have T3 := Lib.hid ((T2.out.below bl).cur_ hg3 hc3)
            have qd := T3.out.bx.1
            have qd2 := T3.out.bx.2.1
            generalize nth [1, 1, 2, 3, 5, 20] q = y at *
            clear hq hc3 hg3 R0 bl T2 qc qc2 qc4 hgv
            go_wp2_with (at_builtin; refine wp_append1 v3 y _ rfl _ _ rfl w.heap.size A2 W.length c2 W rfl rfl T3.out.o2 rfl (by have := HWL.out; omega) (by have := T3.out.gr_.size; omega) ?_; intro A5 c5 w5 o5 g5 b5; have kb := T3.out.bx.grownR g5 (fun e => (T3.out.n2 gt e).1 rfl); have T5 := Lib.hid (T3.out.push2 o5 g5 b5); obtain ⟨f0, f1, f2, f3, f4⟩ := kb; clear o5 g5 b5)
            go_roundw
            case rel => exact ⟨j + 1, A5, c5, W ++ [y], by go_num, by omega, by rw [List.length_append, HWL.out]; rfl, T5.out.mono (by omega)⟩
            case measure => simp [intOf] <;> omega
          · have h0' : ¬ ((kids P (j : Int)).length : Int) = 0 := by omega
            go_wp2_with (at_builtin; refine wp_append1 v2 0 _ rfl _ _ rfl w.heap.size A2 W.length c2 W rfl rfl T2.out.o2 rfl (by have := HWL.out; omega) (by have := T2.out.gr_.size; omega) ?_; intro A5 c5 w5 o5 g5 b5; have kb := T2.out.bx.grownR g5 (fun e => (T2.out.n2 gt e).1 rfl); have T5 := Lib.hid (T2.out.push2 o5 g5 b5); obtain ⟨f0, f1, f2, f3, f4⟩ := kb; clear o5 g5 b5)
            go_roundw
            case rel => exact ⟨j + 1, A5, c5, W ++ [0], by go_num, by omega, by rw [List.length_append, HWL.out]; rfl, T5.out.mono (by omega)⟩
            case measure => simp [intOf] <;> omega
        · obtain rfl : j = k := by omega
          go_wp2_with fail
          refine (pick_c g _ (j : Int) _ T.out.cur (by omega) (by omega)).mono ?_
          rintro e v5 ⟨u, rfl, ⟨x, rfl, hx0, hx1⟩, hc5, hg5⟩
          have T5 := Lib.hid (T.out.cur_ hg5 hc5)
          obtain ⟨x, rfl⟩ : ∃ x' : Nat, x = (x' : Int) := ⟨x.toNat, by omega⟩
          have hxj : x < j := by omega
          clear hc5 hg5 T qb qb2 hx0 hx1
          go_wp2_with fail
          refine (pick_c g _ 50 _ T5.out.cur (by omega) (by omega)).mono ?_
          rintro e v6 ⟨u, rfl, ⟨q, rfl, hq0, hq1⟩, hc6, hg6⟩
          have T6 := Lib.hid (T5.out.cur_ hg6 hc6)
          clear hc6 hg6 T5
          by_cases q0 : q = 0
          · subst q0
            obtain ⟨ga, rfl, _, _⟩ := T6.out.o1.form (by rw [HP.out]; omega)
            have hxl : x < P.length := by rw [HP.out]; exact hxj
            have ix : (x : Int) < (P.length : Int) := by omega
            go_upto_region 19 with fail
            have qb := T6.out.bx.1
            have R0 := (Own.lit v6 [-1, (x : Int), -2, 4611686018427387904] (by simp)).rd
            have bl : Below v6.heap.size v6 (v6.alloc (.cells (ints [-1, (x : Int), -2, 4611686018427387904]).toArray 3)) := (Below.refl _ _).alloc (Nat.le_refl _) _
            have TB := T6.out.below bl
            have TA := Lib.hid (TB.cur_ (w' := (v6.alloc (.cells (ints [-1, (x : Int), -2, 4611686018427387904]).toArray 3)).drew) ⟨rfl, rfl, rfl, Nat.le_refl _, fun _ _ _ => rfl⟩ (TB.cur.drewN 1))
            clear TB
            have hd4 : Below v6.heap.size v6 v6.drew := Below.drew (Below.refl _ _)
            have SK4 : Hid (∀ w', Below v6.heap.size v6 w' → w'.cell? ⟨gt, 0, none⟩ = some (.slice (some ⟨ga, 0, none⟩) P.length c1)) := Lib.hid fun w' HV => (HV.cell (cell_lt qb)).trans qb
            clear qb
            have hS4_0 := SK4.out _ hd4
            refine tamed_region (S := fun w' => w'.cell? ⟨gt, 0, none⟩ = some (.slice (some ⟨ga, 0, none⟩) P.length c1)) (fun k => k == 8) (by kernel_rfl) ?_
            refine tame0 (k := 0) ?_ rfl (by kernel_rfl) (by kernel_rfl) (by kernel_rfl) (fun _ _ _ h => h) (by kernel_rfl) (fun v => ?_) ?_
            rotate_left
            · (go_simp; all_goals rfl)
            simp only [Act.put, List.setIfInBounds_toArray]
            refine tameT (k := 1) ?_ rfl (by kernel_rfl) (by kernel_rfl) (by kernel_rfl) (by kernel_rfl) (by kernel_rfl) (fun _ _ _ h => h) (by kernel_rfl) hS4_0 (fun v hv => ?_) ?_
            rotate_left
            · (obtain k1 := hv; go_simp; all_goals rfl)
            simp only [Act.put]
            refine tame0 (k := 2) ?_ rfl (by kernel_rfl) (by kernel_rfl) (by kernel_rfl) (fun _ _ _ h => h) (by kernel_rfl) (fun v => ?_) ?_
            rotate_left
            · (go_simp; all_goals rfl)
            simp only [Act.put]
            refine tame0 (k := 3) ?_ rfl (by kernel_rfl) (by kernel_rfl) (by kernel_rfl) (fun _ _ _ h => h) (by kernel_rfl) (fun v => ?_) ?_
            rotate_left
            · (go_simp; all_goals rfl)
            simp only [Act.put]
            refine tame0 (k := 4) ?_ rfl (by kernel_rfl) (by kernel_rfl) (by kernel_rfl) (fun _ _ _ h => h) (by kernel_rfl) (fun v => ?_) ?_
            rotate_left
            · (go_simp; all_goals rfl)
            simp only [Act.put]
            refine tame_one (k := 5) (by kernel_rfl) rfl (by kernel_rfl) ?_
            go_simp
            refine ⟨SK4.out _ bl, ?_⟩
            refine tame_one (k := 6) (by kernel_rfl) rfl (by kernel_rfl) ?_
            go_simp
            refine (among_c g _ _ [-1, (x : Int), -2, 4611686018427387904] _ _ _ TA.out.cur (by omega) R0.drew (fun ad e => by injection e with e; have := T6.out.gr_.size; rw [← e]; simp; omega) rfl (by simp) (by simp)).mono ?_
            rintro e v7 ⟨u, rfl, ⟨q, hq, rfl⟩, hc7, hg7⟩
            have T7 := Lib.hid (TA.out.cur_ hg7 hc7)
            have QD := Lib.hid T7.out.bx.1
            generalize nth [-1, (x : Int), -2, 4611686018427387904] q = y at *
            clear hq hc7 hg7 R0 bl TA
            refine ⟨QD.out, ?_⟩
            refine tame_one (k := 7) (by kernel_rfl) rfl (by kernel_rfl) ?_
            go_simp
            refine ⟨QD.out, ?_⟩
            have fz := T7.out.o1.frozen x
            have qx := T7.out.o1.cellN hxl
            have T8 := Lib.hid (T7.out.set1 x y)
            refine tame_one (k := 8) (by kernel_rfl) rfl (by kernel_rfl) ?_
            go_simp
            try (refine ⟨fun h => absurd h (by decide), ?_⟩)
            refine tame_end (by kernel_rfl) ?_
            clear hd4 SK4 QD fz qx
            have k0 := T8.out.bx.1
            have k1 := T8.out.bx.2.1
            have k2 := T8.out.br.1
            have k3 := T8.out.br.2.1
            have k4 := T8.out.br.2.2.1
            have k5 := T8.out.br.2.2.2.1
            go_wp2_with fail
            have F := T8.out.fin (M := N + 300) (by omega) (by rw [List.length_set, HP.out]; omega) (by rw [HWL.out]; omega) (.slice (some ⟨ga, 0, none⟩) P.length c1) (.slice A2 W.length c2)
            rw [List.length_set] at F
            exact bodyPost_ret (v := trV (some ⟨ga, 0, none⟩) P.length c1 A2 W.length c2) (by simp [results, Try.results123, go_sem, k2, k3]) rfl F
          · by_cases q1 : q = 1
            · subst q1
              obtain ⟨ga, rfl, _, _⟩ := T6.out.o2.form (by rw [HWL.out]; omega)
              have hxl : x < W.length := by rw [HWL.out]; exact hxj
              have ix : (x : Int) < (W.length : Int) := by omega
              go_upto_region 21 with fail
              have qb := T6.out.bx.2.1
              have R0 := (Own.lit v6 [0, 1, 21, -1] (by simp)).rd
              have bl : Below v6.heap.size v6 (v6.alloc (.cells (ints [0, 1, 21, -1]).toArray 3)) := (Below.refl _ _).alloc (Nat.le_refl _) _
              have TB := T6.out.below bl
              have TA := Lib.hid (TB.cur_ (w' := (v6.alloc (.cells (ints [0, 1, 21, -1]).toArray 3)).drew) ⟨rfl, rfl, rfl, Nat.le_refl _, fun _ _ _ => rfl⟩ (TB.cur.drewN 1))
              clear TB
              have hd3 : Below v6.heap.size v6 v6.drew := Below.drew (Below.refl _ _)
              have SK3 : Hid (∀ w', Below v6.heap.size v6 w' → w'.cell? ⟨gt, 1, none⟩ = some (.slice (some ⟨ga, 0, none⟩) W.length c2)) := Lib.hid fun w' HV => (HV.cell (cell_lt qb)).trans qb
              clear qb
              have hS3_0 := SK3.out _ hd3
              refine tamed_region (S := fun w' => w'.cell? ⟨gt, 1, none⟩ = some (.slice (some ⟨ga, 0, none⟩) W.length c2)) (fun k => k == 7) (by kernel_rfl) ?_
              refine tame0 (k := 0) ?_ rfl (by kernel_rfl) (by kernel_rfl) (by kernel_rfl) (fun _ _ _ h => h) (by kernel_rfl) (fun v => ?_) ?_
              rotate_left
              · (go_simp; all_goals rfl)
              simp only [Act.put, List.setIfInBounds_toArray]
              refine tameT (k := 1) ?_ rfl (by kernel_rfl) (by kernel_rfl) (by kernel_rfl) (by kernel_rfl) (by kernel_rfl) (fun _ _ _ h => h) (by kernel_rfl) hS3_0 (fun v hv => ?_) ?_
              rotate_left
              · (obtain k1 := hv; go_simp; all_goals rfl)
              simp only [Act.put]
              refine tame0 (k := 2) ?_ rfl (by kernel_rfl) (by kernel_rfl) (by kernel_rfl) (fun _ _ _ h => h) (by kernel_rfl) (fun v => ?_) ?_
              rotate_left
              · (go_simp; all_goals rfl)
              simp only [Act.put]
              refine tame0 (k := 3) ?_ rfl (by kernel_rfl) (by kernel_rfl) (by kernel_rfl) (fun _ _ _ h => h) (by kernel_rfl) (fun v => ?_) ?_
              rotate_left
              · (go_simp; all_goals rfl)
              simp only [Act.put]
              refine tame_one (k := 4) (by kernel_rfl) rfl (by kernel_rfl) ?_
              go_simp
              refine ⟨SK3.out _ bl, ?_⟩
              refine tame_one (k := 5) (by kernel_rfl) rfl (by kernel_rfl) ?_
              go_simp
              refine (among_c g _ _ [0, 1, 21, -1] _ _ _ TA.out.cur (by omega) R0.drew (fun ad e => by injection e with e; have := T6.out.gr_.size; rw [← e]; simp; omega) rfl (by simp) (by simp)).mono ?_
              rintro e v7 ⟨u, rfl, ⟨q, hq, rfl⟩, hc7, hg7⟩
              have T7 := Lib.hid (TA.out.cur_ hg7 hc7)
              have QD := Lib.hid T7.out.bx.2.1
              generalize nth [0, 1, 21, -1] q = y at *
              clear hq hc7 hg7 R0 bl TA
              refine ⟨QD.out, ?_⟩
              refine tame_one (k := 6) (by kernel_rfl) rfl (by kernel_rfl) ?_
              go_simp
              refine ⟨QD.out, ?_⟩
              have fz := T7.out.o2.frozen x
              have qx := T7.out.o2.cellN hxl
              have T8 := Lib.hid (T7.out.set2 x y)
              refine tame_one (k := 7) (by kernel_rfl) rfl (by kernel_rfl) ?_
              go_simp
              try (refine ⟨fun h => absurd h (by decide), ?_⟩)
              refine tame_end (by kernel_rfl) ?_
              clear hd3 SK3 QD fz qx
              have k0 := T8.out.bx.1
              have k1 := T8.out.bx.2.1
              have k2 := T8.out.br.1
              have k3 := T8.out.br.2.1
              have k4 := T8.out.br.2.2.1
              have k5 := T8.out.br.2.2.2.1
              go_wp2_with fail
              have F := T8.out.fin (M := N + 300) (by omega) (by rw [HP.out]; omega) (by rw [List.length_set, HWL.out]; omega) (.slice A1 P.length c1) (.slice (some ⟨ga, 0, none⟩) W.length c2)
              rw [List.length_set] at F
              exact bodyPost_ret (v := trV A1 P.length c1 (some ⟨ga, 0, none⟩) W.length c2) (by simp [results, Try.results123, go_sem, k2, k3]) rfl F
            · by_cases q2 : q = 2
              · subst q2
                have k0 := T6.out.bx.1
                have k1 := T6.out.bx.2.1
                have k2 := T6.out.br.1
                have k3 := T6.out.br.2.1
                have k4 := T6.out.br.2.2.1
                have k5 := T6.out.br.2.2.2.1
                go_wp2_with (at_builtin; refine wp_append1 v6 1 _ rfl _ _ rfl w.heap.size A2 W.length c2 W rfl rfl T6.out.o2 rfl (by have := HWL.out; omega) (by have := T6.out.gr_.size; omega) ?_; intro A5 c5 w5 o5 g5 b5; have kb := T6.out.bx.grownR g5 (fun e => (T6.out.n2 gt e).1 rfl); have kr := T6.out.br.grownR g5 (fun e => (T6.out.n2 _ e).2 rfl); have T7 := Lib.hid (T6.out.push2 o5 g5 b5); obtain ⟨f0, f1, f2, f3, f4⟩ := kb; clear o5 g5 b5 k0 k1 k2 k3 k4 k5 kr; have k0 := T7.out.bx.1; have k1 := T7.out.bx.2.1; have k2 := T7.out.br.1; have k3 := T7.out.br.2.1; have k4 := T7.out.br.2.2.1; have k5 := T7.out.br.2.2.2.1; rw [List.length_append] at k1)
                have F := T7.out.fin (M := N + 300) (by omega) (by rw [HP.out]; omega) (by rw [List.length_append, HWL.out]; simp; omega) (.slice A1 P.length c1) (.slice A5 (W.length + 1) c5)
                rw [List.length_append] at F
                exact bodyPost_ret (v := trV A1 P.length c1 A5 (W.length + 1) c5) (by simp [results, Try.results123, go_sem, k2, k3]) rfl F
              · by_cases q3 : q = 3
                · subst q3
                  have T7 := T6.out.mono (M := N + 250) (by omega)
                  go_wp2_with fail
                  go_loopw [102] (fun _ wr => ∃ (A1 : Option Addr) (c1 : Nat) (P : List Int) (A2 : Option Addr) (c2 : Nat) (W : List Int), P.length ≤ 25 ∧ W.length = P.length ∧ TrD w wr g w.heap.size gt (N + 250) A1 c1 P A2 c2 W) (fun _ wr => match wr.cell? ⟨gt, 0, none⟩ with | some (.slice _ n _) => 25 - n | _ => 0)
                  case atStart => exact ⟨A1, c1, P, A2, c2, W, by rw [HP.out]; omega, by rw [HP.out, HWL.out], T7⟩
                  case round =>
                    clear T7 T6 HP HPO HWL
                    obtain ⟨v, rfl⟩ : ∃ v : World, v = wr := ⟨_, rfl⟩
                    obtain ⟨A1, c1, P, A2, c2, W, hP, hW, T⟩ := hrel
                    replace T := Lib.hid T
                    have HP := Lib.hid hP
                    have HWL := Lib.hid hW
                    clear hP hW
                    by_cases hl : P.length < 25
                    · have il : (P.length : Int) < 25 := by omega
                      have MB := Lib.hid T.out.bx.1
                      clear hl
                      have k0 := T.out.bx.1
                      have k1 := T.out.bx.2.1
                      have k2 := T.out.br.1
                      have k3 := T.out.br.2.1
                      have k4 := T.out.br.2.2.1
                      have k5 := T.out.br.2.2.2.1
                      go_wp2_with (first
                        | (at_builtin; refine wp_append1 v 0 _ rfl (.tmp 105) (.tmp 106) rfl w.heap.size A1 P.length c1 P rfl rfl T.out.o1 rfl (by omega) (by have := T.out.gr_.size; omega) ?_; intro A5 c5 w5 o5 g5 b5; have kb := T.out.bx.grownR g5 (fun e => (T.out.n1 gt e).1 rfl); have T7 := Lib.hid (T.out.push1 o5 g5 b5); obtain ⟨f0, f1, f2, f3, f4⟩ := kb; clear o5 g5 b5 k0 k1 k2 k3 k4 k5; have k0 := T7.out.bx.1; have k1 := T7.out.bx.2.1; have k4 := T7.out.bx.2.2.1; have k5 := T7.out.bx.2.2.2.1; rw [List.length_append] at k0)
                        | (at_builtin; have RB := Rd.box (w5.setCell ⟨gt, 0, none⟩ (.slice A5 (P.length + 1) c5)) 1 3; rw [World.size_setCell] at RB; refine wp_append_ints _ rfl (.tmp 110) (.tmp 111) rfl w.heap.size A2 W.length c2 W rfl rfl (T7.out.o2.alloc _) (some ⟨w5.heap.size, 0, none⟩) 1 1 [1] rfl rfl RB (by rw [HWL.out]; simp; omega) (by have := T7.out.gr_.size; simp at this ⊢; omega) ?_; intro A6 c6 w6 o6 g7 b7; clear RB; have g6 := grown_of_alloc g7; have b6 : blk A6 = blk A2 ∨ ∃ r, blk A6 = some r ∧ (w5.setCell ⟨gt, 0, none⟩ (.slice A5 (P.length + 1) c5)).heap.size ≤ r := b7.imp id (fun t => ⟨_, t, by simp⟩); have kb := T7.out.bx.grownR g6 (fun e => (T7.out.n2 gt e).1 rfl); have T8 := Lib.hid (T7.out.push2 o6 g6 b6); obtain ⟨e0, e1, e2, e3, e4⟩ := kb; clear o6 g6 b6 g7 b7))
                      go_roundw
                      case rel => exact ⟨A5, c5, P ++ [0], A6, c6, W ++ [1], by simp; omega, by simp; exact HWL.out, T8.out⟩
                      case measure =>
                        have m1 := T8.out.bx.1
                        rw [List.length_append] at m1
                        rw [m1, MB.out]
                        simp
                        omega
                    · have il : ¬ (P.length : Int) < 25 := by omega
                      have k0 := T.out.bx.1
                      have k1 := T.out.bx.2.1
                      have k2 := T.out.br.1
                      have k3 := T.out.br.2.1
                      have k4 := T.out.br.2.2.1
                      have k5 := T.out.br.2.2.2.1
                      go_wp2_with fail
                      have F := T.out.fin (M := N + 300) (by omega) (by have := HP.out; omega) (by have := HP.out; rw [HWL.out]; omega) (.slice A1 P.length c1) (.slice A2 W.length c2)
                      exact bodyPost_ret (v := trV A1 P.length c1 A2 W.length c2) (by simp [results, Try.results123, go_sem, k2, k3]) rfl F
                · by_cases q4 : q = 4
                  · subst q4
                    have k0 := T6.out.bx.1
                    have k1 := T6.out.bx.2.1
                    have k2 := T6.out.br.1
                    have k3 := T6.out.br.2.1
                    have k4 := T6.out.br.2.2.1
                    have k5 := T6.out.br.2.2.2.1
                    go_wp2_with fail
                    have F := T6.out.fin0 (M := N + 300) (by omega) (.slice none 0 0) (.slice none 0 0)
                    exact bodyPost_ret (v := trV none 0 0 none 0 0) (by simp [results, Try.results123, go_sem, k2, k3]) rfl F
                  · have h0 : (q == 0) = false := by simp [q0]
                    have h1 : (q == 1) = false := by simp [q1]
                    have h2 : (q == 2) = false := by simp [q2]
                    have h3 : (q == 3) = false := by simp [q3]
                    have h4 : (q == 4) = false := by simp [q4]
                    have k0 := T6.out.bx.1
                    have k1 := T6.out.bx.2.1
                    have k2 := T6.out.br.1
                    have k3 := T6.out.br.2.1
                    have k4 := T6.out.br.2.2.1
                    have k5 := T6.out.br.2.2.2.1
                    go_wp2_with fail
                    have F := T6.out.fin (M := N + 300) (by omega) (by rw [HP.out]; omega) (by rw [HWL.out]; omega) (.slice A1 P.length c1) (.slice A2 W.length c2)
                    exact bodyPost_ret (v := trV A1 P.length c1 A2 W.length c2) (by simp [results, Try.results123, go_sem, k2, k3]) rfl F
end Go.Proofs.Ytnhclpajfejnoaa
