/- The draws of an arm with a discount and a number, or a set. (Written by gen_drl.py.) -/
import Derived.Test.YtfobjkdkjlbkfaaDrA
import Derived.Test.YtfobjkdkjlbkfaaByt
namespace Go.Proofs.Ytfobjkdkjlbkfaa
open Go.RowKit

theorem below_two {w w1 w2 : World} {o : Obj} {o2 : Obj} (h1 : w1 = (w.alloc o2).alloc o) (h : w1.grownBy w2 (some (w.heap.size + 1))) : Below w.heap.size w w2 := by
  subst h1
  exact (((Below.refl _ _).alloc (Nat.le_refl _) o2).alloc (by simp) o).grown h (by simp; omega) (fun b e => by injection e with e; omega)
theorem set3_gr (w : World) (g : Nat) (x y z : Value) : w.grownBy (((w.setCell ⟨g, 0, none⟩ x).setCell ⟨g, 1, none⟩ y).setCell ⟨g, 2, none⟩ z) (some g) := ((grown_setCell w ⟨g, 0, none⟩ _).trans (grown_setCell _ ⟨g, 1, none⟩ _)).trans (grown_setCell _ ⟨g, 2, none⟩ _)
/-- An arm and three numbers have been drawn. -/
def MkNNNDrawn (w : World) (e : Ending) (w' : World) : Prop := ∃ A1 c1 P A2 c2 W A3 c3 F, ∃ a b k : Int, e = .returned (.tuple #[mkV A1 P.length c1 A2 W.length c2 A3 F.length c3, .int .i64 a, .int .i64 b, .int .i64 k]) ∧ P.length ≤ 60 ∧ W.length ≤ 60 ∧ F.length ≤ 60 ∧ RdM w' A1 P A2 W A3 F ∧ Below w.heap.size w w'
/-- An arm, two numbers and a row have been drawn. -/
def MkNNRDrawn (w : World) (e : Ending) (w' : World) : Prop := ∃ A1 c1 P A2 c2 W A3 c3 F, ∃ a b : Int, ∃ A4 c4 S, e = .returned (.tuple #[mkV A1 P.length c1 A2 W.length c2 A3 F.length c3, .int .i64 a, .int .i64 b, .slice A4 S.length c4]) ∧ P.length ≤ 60 ∧ W.length ≤ 60 ∧ F.length ≤ 60 ∧ S.length ≤ 60 ∧ RdM w' A1 P A2 W A3 F ∧ Rd w' A4 (ints S) ∧ Below w.heap.size w w'
/-- An arm is drawn and goes on: its box at gm, the result's box at gr, the cursor at g. -/
structure PlD (w0 w : World) (g gr gm : Nat) (N : Int) (A1 : Option Addr) (c1 : Nat) (P : List Int) (A2 : Option Addr) (c2 : Nat) (W : List Int) (A3 : Option Addr) (c3 : Nat) (F : List Int) (A4 : Option Addr) (c4 : Nat) (S : List Int) : Prop where
  bx : Bx3 w gm (.slice A1 P.length c1) (.slice A2 W.length c2) (.slice A3 F.length c3)
  br : Bz w gr (.slice none 0 0) (.slice none 0 0) (.slice none 0 0)
  o1 : Own w w0.heap.size A1 c1 P
  o2 : Own w w0.heap.size A2 c2 W
  o3 : Own w w0.heap.size A3 c3 F
  o4 : Own w w0.heap.size A4 c4 S
  n4 : ∀ b, blk A4 = some b → b ≠ gm ∧ blk A1 ≠ some b ∧ blk A2 ≠ some b ∧ blk A3 ≠ some b
  cur : CurS w g N
  g0 : g < w0.heap.size ∧ gr < w0.heap.size ∧ gr ≠ g ∧ w0.heap.size ≤ gm
  gr_ : w0.grownBy w (some g)
section
variable {w0 w w' : World} {g gr gm : Nat} {N M : Int} {A1 A2 A3 A4 : Option Addr} {c1 c2 c3 c4 : Nat} {P W F S : List Int}
theorem PlD.cur_ (h : PlD w0 w g gr gm N A1 c1 P A2 c2 W A3 c3 F A4 c4 S) (hk : w.grownBy w' (some g)) (hc : CurS w' g M) : PlD w0 w' g gr gm M A1 c1 P A2 c2 W A3 c3 F A4 c4 S :=
  ⟨h.bx.grownR hk (by intro e; injection e with e; have := h.g0; omega), h.br.grownR hk (by intro e; injection e with e; have := h.g0; omega), h.o1.grown hk (own_apart h.o1 h.g0.1), h.o2.grown hk (own_apart h.o2 h.g0.1), h.o3.grown hk (own_apart h.o3 h.g0.1), h.o4.grown hk (own_apart h.o4 h.g0.1), h.n4, hc, h.g0, h.gr_.trans hk⟩
theorem PlD.below (h : PlD w0 w g gr gm N A1 c1 P A2 c2 W A3 c3 F A4 c4 S) (hb : Below w.heap.size w w') : PlD w0 w' g gr gm N A1 c1 P A2 c2 W A3 c3 F A4 c4 S :=
  ⟨h.bx.below hb, h.br.below hb, h.o1.below hb, h.o2.below hb, h.o3.below hb, h.o4.below hb, h.n4, h.cur.below hb, h.g0, grown_low h.gr_ hb⟩
theorem PlD.mono (h : PlD w0 w g gr gm N A1 c1 P A2 c2 W A3 c3 F A4 c4 S) (hN : N ≤ M) : PlD w0 w g gr gm M A1 c1 P A2 c2 W A3 c3 F A4 c4 S := ⟨h.bx, h.br, h.o1, h.o2, h.o3, h.o4, h.n4, h.cur.mono hN, h.g0, h.gr_⟩
theorem PlD.drew (h : PlD w0 w g gr gm N A1 c1 P A2 c2 W A3 c3 F A4 c4 S) : PlD w0 w.drew g gr gm N A1 c1 P A2 c2 W A3 c3 F A4 c4 S :=
  h.cur_ ⟨rfl, rfl, rfl, Nat.le_refl _, fun _ _ _ => rfl⟩ (h.cur.drewN 1)
theorem PlD.push4 (h : PlD w0 w g gr gm N A1 c1 P A2 c2 W A3 c3 F A4 c4 S) {A4' : Option Addr} {c4' : Nat} {y : Int} (o : Own w' w0.heap.size A4' c4' (S ++ [y])) (gw : w.grownBy w' (blk A4)) (t : blk A4' = blk A4 ∨ ∃ r, blk A4' = some r ∧ w.heap.size ≤ r) :
    PlD w0 w' g gr gm N A1 c1 P A2 c2 W A3 c3 F A4' c4' (S ++ [y]) := by
  have n4' : ∀ b, blk A4' = some b → b ≠ gm ∧ blk A1 ≠ some b ∧ blk A2 ≠ some b ∧ blk A3 ≠ some b := fun b e => by
    rcases t with t | ⟨r, t, hr⟩
    · exact h.n4 b (by rw [← t]; exact e)
    · rw [t] at e
      injection e with e
      subst e
      exact ⟨by have := h.bx.2.2.2; omega, fun e => by have := h.o1.ltk r e; omega, fun e => by have := h.o2.ltk r e; omega, fun e => by have := h.o3.ltk r e; omega⟩
  exact ⟨h.bx.grownR gw (fun e => (h.n4 gm e).1 rfl), h.br.grownR gw (fun e => by have := h.o4.ge gr e; have := h.g0; omega), h.o1.grown gw (ne_row fun b e => (h.n4 b e).2.1), h.o2.grown gw (ne_row fun b e => (h.n4 b e).2.2.1), h.o3.grown gw (ne_row fun b e => (h.n4 b e).2.2.2), o, n4', h.cur.grown gw (fun b e => by have := h.o4.ge b e; have := h.g0; omega), h.g0, grown_new h.gr_ gw (fun b e => h.o4.ge b e)⟩
end
set_option maxRecDepth 20000 in
set_option maxHeartbeats 2000000 in
theorem drawFe_c (A : Option Addr) (bs : List Int) (c : Nat) (w : World) (hr : Rd w A (u8s bs)) (hb : ByOk bs) (hl : bs.length ≤ 65537) :
    Calls Try.prog 15 #[.slice A bs.length c] w (MkNNNDrawn w) := by
  have B0 := (Bz.new w (.slice none 0 0) (.slice none 0 0) (.slice none 0 0) 28).below ((Below.refl _ _).alloc (Nat.le_refl _) (.cells #[.slice A bs.length c, .int .i64 0, .int .u64 0] 59))
  have hC := CurS.new (w.alloc (.cells #[.slice none 0 0, .slice none 0 0, .slice none 0 0] 28)) A bs c 59 (hr.alloc _) hb (by omega)
  rw [World.size_alloc] at hC
  go_enter Try.func15, Try.ntmps15
  go_wp2_with fail
  refine (arm_c _ _ 9 _ hC (by omega) (by decide) (by decide)).mono ?_
  rintro e w2 ⟨A1, c1, P, A2, c2, W, A3, c3, F, rfl, hP, hW, hF, o1, o2, o3, hc, hg⟩
  have B2 := B0.grownR hg (by intro e; injection e with e; omega)
  have bl : Below w2.heap.size w2 (w2.alloc (.cells #[.slice A1 P.length c1, .slice A2 W.length c2, .slice A3 F.length c3] 28)) := (Below.refl _ _).alloc (Nat.le_refl _) _
  have bx := Bx3.new w2 (.slice A1 P.length c1) (.slice A2 W.length c2) (.slice A3 F.length c3) 28
  have hz := hg.size
  simp only [World.size_alloc] at hz o1 o2 o3
  have T0 : PlD ((w.alloc (.cells #[.slice none 0 0, .slice none 0 0, .slice none 0 0] 28)).alloc (.cells #[.slice A bs.length c, .int .i64 0, .int .u64 0] 59)) (w2.alloc (.cells #[.slice A1 P.length c1, .slice A2 W.length c2, .slice A3 F.length c3] 28)) (w.heap.size + 1) w.heap.size w2.heap.size (0 + 3000) A1 c1 P A2 c2 W A3 c3 F none 0 [] :=
    ⟨bx, B2.below bl, by simp only [World.size_alloc]; exact o1.below bl, by simp only [World.size_alloc]; exact o2.below bl, by simp only [World.size_alloc]; exact o3.below bl, Own.nil _ _, fun b e => (by cases e), hc.below bl, by simp only [World.size_alloc]; omega, grown_low hg bl⟩
  obtain ⟨w1, hw1⟩ : ∃ w1, w1 = (w.alloc (.cells #[.slice none 0 0, .slice none 0 0, .slice none 0 0] 28)).alloc (.cells #[.slice A bs.length c, .int .i64 0, .int .u64 0] 59) := ⟨_, rfl⟩
  have hz1 : w1.heap.size = w.heap.size + 2 := by rw [hw1]; simp
  rw [← hw1] at T0
  have HW1 := Lib.hid hw1
  have HZ1 := Lib.hid hz1
  clear hC B0 B2 bl bx hc hg o1 o2 o3 hw1 hr hb hl
  obtain ⟨gm, hgm⟩ : ∃ gm, gm = w2.heap.size := ⟨_, rfl⟩
  obtain ⟨g, hgg⟩ : ∃ g, g = w.heap.size + 1 := ⟨_, rfl⟩
  go_wp2_with fail
  rw [← hgm, ← hgg] at T0 ⊢
  have T := Lib.hid T0
  have HG := Lib.hid hgg
  clear T0 hgm hz hgg hz1
  refine (discount_c g _ _ T.out.cur (by omega)).mono ?_
  rintro e w4 ⟨a, b, rfl, hc4, hg4⟩
  have T4 := Lib.hid (T.out.cur_ hg4 hc4)
  clear T hc4 hg4
  go_upto_region 4 with fail
  obtain ⟨k0, k1, k2, k3⟩ := T4.out.bx
  have TD := Lib.hid T4.out.drew
  have HZ := Lib.hid T4.out.gr_.size
  have R0 := (Own.lit w4.drew [0, 1, 3, 5, -2, 8, 99, -99, 100, -100] (by decide)).rd
  have T5 := Lib.hid (TD.out.below (w' := (w4.drew.alloc (.cells (ints [0, 1, 3, 5, -2, 8, 99, -99, 100, -100]).toArray 3))) ((Below.refl _ _).alloc (Nat.le_refl _) (.cells (ints [0, 1, 3, 5, -2, 8, 99, -99, 100, -100]).toArray 3)))
  have hd1 : Below w4.heap.size w4 w4.drew := Below.drew (Below.refl _ _)
  have SK1 : Hid (∀ w', Below w4.heap.size w4 w' → w'.cell? ⟨gm, 0, none⟩ = some (.slice A1 P.length c1) ∧ w'.cell? ⟨gm, 1, none⟩ = some (.slice A2 W.length c2) ∧ w'.cell? ⟨gm, 2, none⟩ = some (.slice A3 F.length c3)) := Lib.hid fun w' HV => ⟨(HV.cell (cell_lt k0)).trans k0, (HV.cell (cell_lt k1)).trans k1, (HV.cell (cell_lt k2)).trans k2⟩
  clear k0 k1 k2 k3
  have hS1_0 := SK1.out _ hd1
  refine tamed_region (S := fun w' => w'.cell? ⟨gm, 0, none⟩ = some (.slice A1 P.length c1) ∧ w'.cell? ⟨gm, 1, none⟩ = some (.slice A2 W.length c2) ∧ w'.cell? ⟨gm, 2, none⟩ = some (.slice A3 F.length c3)) (fun k => k == 6 || k == 7 || k == 8 || k == 9) (by kernel_rfl) ?_
  refine tameT (k := 0) ?_ rfl (by kernel_rfl) (by kernel_rfl) (by kernel_rfl) (by kernel_rfl) (by kernel_rfl) (fun _ _ _ h => h) (by kernel_rfl) hS1_0 (fun v hv => ?_) ?_
  rotate_left
  · (obtain ⟨k1, k2, k3⟩ := hv; go_simp; all_goals rfl)
  simp only [Act.put, List.setIfInBounds_toArray]
  refine tame0 (k := 1) ?_ rfl (by kernel_rfl) (by kernel_rfl) (by kernel_rfl) (fun _ _ _ h => h) (by kernel_rfl) (fun v => ?_) ?_
  rotate_left
  · (go_simp; all_goals rfl)
  simp only [Act.put]
  refine tame0 (k := 2) ?_ rfl (by kernel_rfl) (by kernel_rfl) (by kernel_rfl) (fun _ _ _ h => h) (by kernel_rfl) (fun v => ?_) ?_
  rotate_left
  · (go_simp; all_goals rfl)
  simp only [Act.put]
  refine tame0 (k := 3) ?_ rfl (by kernel_rfl) (by kernel_rfl) (by kernel_rfl) (fun _ _ _ h => h) (by kernel_rfl) (fun v => ?_) ?_
  rotate_left
  · (go_simp; all_goals rfl)
  simp only [Act.put]
  refine tame_one (k := 4) (by kernel_rfl) rfl (by kernel_rfl) ?_
  go_simp
  refine ⟨⟨T5.out.bx.1, T5.out.bx.2.1, T5.out.bx.2.2.1⟩, ?_⟩
  refine tame_one (k := 5) (by kernel_rfl) rfl (by kernel_rfl) ?_
  go_simp
  refine (among_c g _ _ [0, 1, 3, 5, -2, 8, 99, -99, 100, -100] _ _ _ T5.out.cur (by omega) R0 (fun ad e => by injection e with e; have := T4.out.g0; have := HZ.out; rw [← e]; show w4.heap.size ≠ g; omega) rfl (by decide) (by decide)).mono ?_
  rintro e w6 ⟨u, rfl, ⟨q, hq, rfl⟩, hc6, hg6⟩
  have T6 := Lib.hid (T5.out.cur_ hg6 hc6)
  generalize nth [0, 1, 3, 5, -2, 8, 99, -99, 100, -100] q = k at *
  clear hq hc6 hg6 R0 T5 TD T4
  have QE := Lib.hid T6.out.bx
  obtain ⟨⟨r0, r1, r2, r3⟩, r4, r5, r6⟩ := T6.out.br
  refine ⟨⟨QE.out.1, QE.out.2.1, QE.out.2.2.1⟩, ?_⟩
  refine tame_one (k := 6) (by kernel_rfl) rfl (by kernel_rfl) ?_
  go_simp
  try (refine ⟨fun h => absurd h (by decide), ?_⟩)
  refine tame_one (k := 7) (by kernel_rfl) rfl (by kernel_rfl) ?_
  go_simp
  try (refine ⟨fun h => absurd h (by decide), ?_⟩)
  refine tame_one (k := 8) (by kernel_rfl) rfl (by kernel_rfl) ?_
  go_simp
  try (refine ⟨fun h => absurd h (by decide), ?_⟩)
  refine tame_one (k := 9) (by kernel_rfl) rfl (by kernel_rfl) ?_
  go_simp
  try (refine ⟨fun h => absurd h (by decide), ?_⟩)
  refine tame_end (by kernel_rfl) ?_
  clear QE hd1 SK1
  have gs := set3_gr w6 w.heap.size (.slice A1 P.length c1) (.slice A2 W.length c2) (.slice A3 F.length c3)
  have HB := below_two HW1.out (by rw [← HG.out]; exact T6.out.gr_)
  have HB2 := HB.grown gs HB.size (fun b e => by injection e with e; omega)
  have R1 := (T6.out.o1.grown gs (own_apart T6.out.o1 T6.out.g0.2.1)).rd
  have R2 := (T6.out.o2.grown gs (own_apart T6.out.o2 T6.out.g0.2.1)).rd
  have R3 := (T6.out.o3.grown gs (own_apart T6.out.o3 T6.out.g0.2.1)).rd
  go_wp2_with fail
  exact bodyPost_ret (v := .tuple #[mkV A1 P.length c1 A2 W.length c2 A3 F.length c3, .int .i64 a, .int .i64 b, .int .i64 k]) (by simp [results, Try.results15, go_sem, r0, r1, r2]) rfl ⟨A1, c1, P, A2, c2, W, A3, c3, F, a, b, k, rfl, hP, hW, hF, ⟨R1, R2, R3, by omega, by omega, by omega⟩, HB2⟩
set_option maxRecDepth 20000 in
set_option maxHeartbeats 2000000 in
theorem drawLv_c (A : Option Addr) (bs : List Int) (c : Nat) (w : World) (hr : Rd w A (u8s bs)) (hb : ByOk bs) (hl : bs.length ≤ 65537) :
    Calls Try.prog 18 #[.slice A bs.length c] w (MkNNNDrawn w) := by
  have B0 := (Bz.new w (.slice none 0 0) (.slice none 0 0) (.slice none 0 0) 28).below ((Below.refl _ _).alloc (Nat.le_refl _) (.cells #[.slice A bs.length c, .int .i64 0, .int .u64 0] 59))
  have hC := CurS.new (w.alloc (.cells #[.slice none 0 0, .slice none 0 0, .slice none 0 0] 28)) A bs c 59 (hr.alloc _) hb (by omega)
  rw [World.size_alloc] at hC
  go_enter Try.func18, Try.ntmps18
  go_wp2_with fail
  refine (arm_c _ _ 9 _ hC (by omega) (by decide) (by decide)).mono ?_
  rintro e w2 ⟨A1, c1, P, A2, c2, W, A3, c3, F, rfl, hP, hW, hF, o1, o2, o3, hc, hg⟩
  have B2 := B0.grownR hg (by intro e; injection e with e; omega)
  have bl : Below w2.heap.size w2 (w2.alloc (.cells #[.slice A1 P.length c1, .slice A2 W.length c2, .slice A3 F.length c3] 28)) := (Below.refl _ _).alloc (Nat.le_refl _) _
  have bx := Bx3.new w2 (.slice A1 P.length c1) (.slice A2 W.length c2) (.slice A3 F.length c3) 28
  have hz := hg.size
  simp only [World.size_alloc] at hz o1 o2 o3
  have T0 : PlD ((w.alloc (.cells #[.slice none 0 0, .slice none 0 0, .slice none 0 0] 28)).alloc (.cells #[.slice A bs.length c, .int .i64 0, .int .u64 0] 59)) (w2.alloc (.cells #[.slice A1 P.length c1, .slice A2 W.length c2, .slice A3 F.length c3] 28)) (w.heap.size + 1) w.heap.size w2.heap.size (0 + 3000) A1 c1 P A2 c2 W A3 c3 F none 0 [] :=
    ⟨bx, B2.below bl, by simp only [World.size_alloc]; exact o1.below bl, by simp only [World.size_alloc]; exact o2.below bl, by simp only [World.size_alloc]; exact o3.below bl, Own.nil _ _, fun b e => (by cases e), hc.below bl, by simp only [World.size_alloc]; omega, grown_low hg bl⟩
  obtain ⟨w1, hw1⟩ : ∃ w1, w1 = (w.alloc (.cells #[.slice none 0 0, .slice none 0 0, .slice none 0 0] 28)).alloc (.cells #[.slice A bs.length c, .int .i64 0, .int .u64 0] 59) := ⟨_, rfl⟩
  have hz1 : w1.heap.size = w.heap.size + 2 := by rw [hw1]; simp
  rw [← hw1] at T0
  have HW1 := Lib.hid hw1
  have HZ1 := Lib.hid hz1
  clear hC B0 B2 bl bx hc hg o1 o2 o3 hw1 hr hb hl
  obtain ⟨gm, hgm⟩ : ∃ gm, gm = w2.heap.size := ⟨_, rfl⟩
  obtain ⟨g, hgg⟩ : ∃ g, g = w.heap.size + 1 := ⟨_, rfl⟩
  go_wp2_with fail
  rw [← hgm, ← hgg] at T0 ⊢
  have T := Lib.hid T0
  have HG := Lib.hid hgg
  clear T0 hgm hz hgg hz1
  refine (discount_c g _ _ T.out.cur (by omega)).mono ?_
  rintro e w4 ⟨a, b, rfl, hc4, hg4⟩
  have T4 := Lib.hid (T.out.cur_ hg4 hc4)
  clear T hc4 hg4
  go_upto_region 4 with fail
  obtain ⟨k0, k1, k2, k3⟩ := T4.out.bx
  have TD := Lib.hid T4.out.drew
  have HZ := Lib.hid T4.out.gr_.size
  have R0 := (Own.lit w4.drew [0, 1, 3, 8, -5, 20, 99, -99, 100, -100] (by decide)).rd
  have T5 := Lib.hid (TD.out.below (w' := (w4.drew.alloc (.cells (ints [0, 1, 3, 8, -5, 20, 99, -99, 100, -100]).toArray 3))) ((Below.refl _ _).alloc (Nat.le_refl _) (.cells (ints [0, 1, 3, 8, -5, 20, 99, -99, 100, -100]).toArray 3)))
  have hd2 : Below w4.heap.size w4 w4.drew := Below.drew (Below.refl _ _)
  have SK2 : Hid (∀ w', Below w4.heap.size w4 w' → w'.cell? ⟨gm, 0, none⟩ = some (.slice A1 P.length c1) ∧ w'.cell? ⟨gm, 1, none⟩ = some (.slice A2 W.length c2) ∧ w'.cell? ⟨gm, 2, none⟩ = some (.slice A3 F.length c3)) := Lib.hid fun w' HV => ⟨(HV.cell (cell_lt k0)).trans k0, (HV.cell (cell_lt k1)).trans k1, (HV.cell (cell_lt k2)).trans k2⟩
  clear k0 k1 k2 k3
  have hS2_0 := SK2.out _ hd2
  refine tamed_region (S := fun w' => w'.cell? ⟨gm, 0, none⟩ = some (.slice A1 P.length c1) ∧ w'.cell? ⟨gm, 1, none⟩ = some (.slice A2 W.length c2) ∧ w'.cell? ⟨gm, 2, none⟩ = some (.slice A3 F.length c3)) (fun k => k == 6 || k == 7 || k == 8 || k == 9) (by kernel_rfl) ?_
  refine tameT (k := 0) ?_ rfl (by kernel_rfl) (by kernel_rfl) (by kernel_rfl) (by kernel_rfl) (by kernel_rfl) (fun _ _ _ h => h) (by kernel_rfl) hS2_0 (fun v hv => ?_) ?_
  rotate_left
  · (obtain ⟨k1, k2, k3⟩ := hv; go_simp; all_goals rfl)
  simp only [Act.put, List.setIfInBounds_toArray]
  refine tame0 (k := 1) ?_ rfl (by kernel_rfl) (by kernel_rfl) (by kernel_rfl) (fun _ _ _ h => h) (by kernel_rfl) (fun v => ?_) ?_
  rotate_left
  · (go_simp; all_goals rfl)
  simp only [Act.put]
  refine tame0 (k := 2) ?_ rfl (by kernel_rfl) (by kernel_rfl) (by kernel_rfl) (fun _ _ _ h => h) (by kernel_rfl) (fun v => ?_) ?_
  rotate_left
  · (go_simp; all_goals rfl)
  simp only [Act.put]
  refine tame0 (k := 3) ?_ rfl (by kernel_rfl) (by kernel_rfl) (by kernel_rfl) (fun _ _ _ h => h) (by kernel_rfl) (fun v => ?_) ?_
  rotate_left
  · (go_simp; all_goals rfl)
  simp only [Act.put]
  refine tame_one (k := 4) (by kernel_rfl) rfl (by kernel_rfl) ?_
  go_simp
  refine ⟨⟨T5.out.bx.1, T5.out.bx.2.1, T5.out.bx.2.2.1⟩, ?_⟩
  refine tame_one (k := 5) (by kernel_rfl) rfl (by kernel_rfl) ?_
  go_simp
  refine (among_c g _ _ [0, 1, 3, 8, -5, 20, 99, -99, 100, -100] _ _ _ T5.out.cur (by omega) R0 (fun ad e => by injection e with e; have := T4.out.g0; have := HZ.out; rw [← e]; show w4.heap.size ≠ g; omega) rfl (by decide) (by decide)).mono ?_
  rintro e w6 ⟨u, rfl, ⟨q, hq, rfl⟩, hc6, hg6⟩
  have T6 := Lib.hid (T5.out.cur_ hg6 hc6)
  generalize nth [0, 1, 3, 8, -5, 20, 99, -99, 100, -100] q = k at *
  clear hq hc6 hg6 R0 T5 TD T4
  have QE := Lib.hid T6.out.bx
  obtain ⟨⟨r0, r1, r2, r3⟩, r4, r5, r6⟩ := T6.out.br
  refine ⟨⟨QE.out.1, QE.out.2.1, QE.out.2.2.1⟩, ?_⟩
  refine tame_one (k := 6) (by kernel_rfl) rfl (by kernel_rfl) ?_
  go_simp
  try (refine ⟨fun h => absurd h (by decide), ?_⟩)
  refine tame_one (k := 7) (by kernel_rfl) rfl (by kernel_rfl) ?_
  go_simp
  try (refine ⟨fun h => absurd h (by decide), ?_⟩)
  refine tame_one (k := 8) (by kernel_rfl) rfl (by kernel_rfl) ?_
  go_simp
  try (refine ⟨fun h => absurd h (by decide), ?_⟩)
  refine tame_one (k := 9) (by kernel_rfl) rfl (by kernel_rfl) ?_
  go_simp
  try (refine ⟨fun h => absurd h (by decide), ?_⟩)
  refine tame_end (by kernel_rfl) ?_
  clear QE hd2 SK2
  have gs := set3_gr w6 w.heap.size (.slice A1 P.length c1) (.slice A2 W.length c2) (.slice A3 F.length c3)
  have HB := below_two HW1.out (by rw [← HG.out]; exact T6.out.gr_)
  have HB2 := HB.grown gs HB.size (fun b e => by injection e with e; omega)
  have R1 := (T6.out.o1.grown gs (own_apart T6.out.o1 T6.out.g0.2.1)).rd
  have R2 := (T6.out.o2.grown gs (own_apart T6.out.o2 T6.out.g0.2.1)).rd
  have R3 := (T6.out.o3.grown gs (own_apart T6.out.o3 T6.out.g0.2.1)).rd
  go_wp2_with fail
  exact bodyPost_ret (v := .tuple #[mkV A1 P.length c1 A2 W.length c2 A3 F.length c3, .int .i64 a, .int .i64 b, .int .i64 k]) (by simp [results, Try.results18, go_sem, r0, r1, r2]) rfl ⟨A1, c1, P, A2, c2, W, A3, c3, F, a, b, k, rfl, hP, hW, hF, ⟨R1, R2, R3, by omega, by omega, by omega⟩, HB2⟩
def BoolPost (w : World) (e : Ending) (w' : World) : Prop := ∃ v, e = .returned v ∧ IsBool v ∧ w = w'
set_option maxRecDepth 20000 in
theorem l1Has_c (A : Option Addr) (xs : List Int) (c : Nat) (n : Int) (w : World) (ha : Rd w A (ints xs)) (hl : xs.length ≤ 16777216) :
    Calls Try.prog 44 #[.slice A xs.length c, .int .i64 n] w (BoolPost w) := by
  go_enter Try.func44, Try.ntmps44
  go_wp2
  go_loop [5] (fun i => ∃ k : Nat, k ≤ xs.length ∧ i = .int .i64 k) (fun i => xs.length - (intOf i).toNat)
  case atStart => exact ⟨0, by omega, rfl⟩
  case round =>
    obtain ⟨k, hk, rfl⟩ := hrel
    by_cases hlt : k < xs.length
    · obtain ⟨a, rfl, hca⟩ := ha.intN hlt
      by_cases hx : nth xs k = n
      · rw [hx] at hca
        go_wp2_with fail
        go_ret
        exact ⟨_, rfl, ⟨_, rfl⟩, rfl⟩
      · have hx' : (nth xs k == n) = false := by simpa using hx
        go_wp2_with fail
        go_round
        case rel => exact ⟨k + 1, by omega, by go_num⟩
        case measure => simp [intOf] <;> omega
    · go_wp2
      go_ret
      exact ⟨_, rfl, ⟨_, rfl⟩, rfl⟩
def IsNumA (v : Value) : Prop := ∃ x : Int, v = .int .i64 x
set_option maxRecDepth 20000 in
set_option maxHeartbeats 1000000 in
theorem nodeOf_c (g : Nat) (N : Int) (w : World) (h : CurS w g N) (hN : N ≤ 900000) (A1 : Option Addr) (n1 c1 : Nat) (A2 : Option Addr) (n2 c2 : Nat) (hn : n1 ≤ 60) :
    Calls Try.prog 46 #[.pointer (some ⟨g, 0, none⟩), trV A1 n1 c1 A2 n2 c2] w (CurPost w g (N + 4) IsNumA) := by
  have hgw : g < w.heap.size := by
    obtain ⟨_, _, _, _, _, h⟩ := h
    exact h.lt
  have b1 : Below w.heap.size w (w.alloc (.cells #[.slice A1 n1 c1, .slice A2 n2 c2] 26)) := (Below.refl _ _).alloc (Nat.le_refl _) _
  have bx := Bx.new w (.slice A1 n1 c1) (.slice A2 n2 c2) 26
  have h1 := h.below b1
  obtain ⟨k0, k1, k2, k3, k4⟩ := id bx
  go_enter Try.func46, Try.ntmps46
  by_cases hz : n1 = 0
  · have hz' : ((n1 : Int) == 0) = true := by simp [hz]
    have R0 := (Own.lit (w.alloc (.cells #[.slice A1 n1 c1, .slice A2 n2 c2] 26)) [-1, 0, (n1 : Int), 4611686018427387904] (by simp)).rd
    rw [World.size_alloc] at R0
    have b2 : Below (w.alloc (.cells #[.slice A1 n1 c1, .slice A2 n2 c2] 26)).heap.size (w.alloc (.cells #[.slice A1 n1 c1, .slice A2 n2 c2] 26)) ((w.alloc (.cells #[.slice A1 n1 c1, .slice A2 n2 c2] 26)).alloc (.cells (ints [-1, 0, (n1 : Int), 4611686018427387904]).toArray 3)) := (Below.refl _ _).alloc (Nat.le_refl _) _
    clear hz
    go_wp2_with fail
    refine (among_c g _ _ [-1, 0, (n1 : Int), 4611686018427387904] _ _ _ (h1.below b2) (by omega) R0 (fun ad e => by injection e with e; rw [← e]; simp; omega) rfl (by simp) (by simp)).mono ?_
    rintro e w3 ⟨u, rfl, ⟨q, hq, rfl⟩, hc3, hg3⟩
    go_wp2_with fail
    go_ret
    exact ⟨_, rfl, ⟨_, rfl⟩, hc3.mono (by omega), (grown_low (grown_of_below b1 (some g)) b2).trans hg3⟩
  · have hz' : ((n1 : Int) == 0) = false := by simp; omega
    go_wp2_with fail
    refine (one_c g _ 24 _ h1 (by omega) (by omega)).mono ?_
    rintro e w2 ⟨u, rfl, ⟨b, rfl⟩, hc, hg⟩
    have G2 : w.grownBy w2 (some g) := (grown_of_below b1 (some g)).trans hg
    have bx2 := bx.grownR hg (by intro e; injection e with e; omega)
    have hs2 := hg.size
    simp only [World.size_alloc] at hs2
    clear k0 k1 k2 k3 k4 bx h h1 b1 hg
    obtain ⟨k0, k1, k2, k3, k4⟩ := id bx2
    cases b
    · go_wp2_with fail
      refine (pick_c g _ (n1 : Int) _ hc (by omega) (by omega)).mono ?_
      rintro e w3 ⟨u, rfl, ⟨x, rfl, hx0, hx1⟩, hc3, hg3⟩
      go_wp2_with fail
      go_ret
      exact ⟨_, rfl, ⟨_, rfl⟩, hc3.mono (by omega), G2.trans hg3⟩
    · have R0 := (Own.lit w2 [-1, 0, (n1 : Int), 4611686018427387904] (by simp)).rd
      have b2 : Below w2.heap.size w2 (w2.alloc (.cells (ints [-1, 0, (n1 : Int), 4611686018427387904]).toArray 3)) := (Below.refl _ _).alloc (Nat.le_refl _) _
      go_wp2_with fail
      refine (among_c g _ _ [-1, 0, (n1 : Int), 4611686018427387904] _ _ _ (hc.below b2) (by omega) R0 (fun ad e => by injection e with e; rw [← e]; show w2.heap.size ≠ g; omega) rfl (by simp) (by simp)).mono ?_
      rintro e w3 ⟨u, rfl, ⟨q, hq, rfl⟩, hc3, hg3⟩
      go_wp2_with fail
      go_ret
      exact ⟨_, rfl, ⟨_, rfl⟩, hc3.mono (by omega), (grown_low G2 b2).trans hg3⟩
noncomputable def pg11 : Code := ((Try.f6.body.bind (restFrom 11)).getD .skip)
noncomputable def pg9 : Code := ((Try.f6.body.bind (restFrom 9)).getD .skip)
set_option maxRecDepth 20000 in
set_option maxHeartbeats 2000000 in
theorem pgTail2 {w w0 w1 : World} {g gr gm : Nat} {N : Int} {A1 A2 A3 A4 : Option Addr} {c1 c2 c3 c4 : Nat} {P W F S : List Int} (a b : Int) (T0 : PlD w0 w1 g gr gm N A1 c1 P A2 c2 W A3 c3 F A4 c4 S) (hP : P.length ≤ 60) (hW : W.length ≤ 60) (hF : F.length ≤ 60) (hS : S.length ≤ 60) (hgr : gr = w.heap.size) (HB : ∀ w', w0.grownBy w' (some g) → Below w.heap.size w w') (u0 u1 u3 u4 u5 u6 u11 u12 u13 u14 u15 u16 u17 u18 u19 u20 u21 u22 u23 u24 u25 u26 u27 u28 u29 u30 u31 u32 u33 u34 u35 u36 u37 u38 u39 u40 u41 u42 u43 u44 u45 u46 u47 u48 u49 u50 u51 u52 u53 u54 u55 u56 u57 u58 u59 u60 u61 u62 u63 u64 u65 u66 u67 u68 u69 u70 u71 u72 u73 u74 u75 u76 u77 u78 u79 u80 u81 u82 u83 u84 u85 : Value) :
    Code.wp Try.prog pg11 (bodyPost Try.prog Try.f6 (MkNNRDrawn w)) ⟨#[u0, u1, .pointer (some ⟨gr, 0, none⟩), u3, u4, u5, u6, .pointer (some ⟨gm, 0, none⟩), .slice A4 S.length c4, .int .i64 a, .int .i64 b, u11, u12, u13, u14, u15, u16, u17, u18, u19, u20, u21, u22, u23, u24, u25, u26, u27, u28, u29, u30, u31, u32, u33, u34, u35, u36, u37, u38, u39, u40, u41, u42, u43, u44, u45, u46, u47, u48, u49, u50, u51, u52, u53, u54, u55, u56, u57, u58, u59, u60, u61, u62, u63, u64, u65, u66, u67, u68, u69, u70, u71, u72, u73, u74, u75, u76, u77, u78, u79, u80, u81, u82, u83, u84, u85], []⟩ w1 := by
  conv => arg 2; whnf
  have T := Lib.hid T0
  have HG := Lib.hid hgr
  clear T0 hgr
  obtain ⟨⟨r0, r1, r2, r3⟩, r4, r5, r6⟩ := T.out.br
  obtain ⟨k0, k1, k2, k3⟩ := T.out.bx
  go_wp2_with fail
  have gs := set3_gr w1 gr (.slice A1 P.length c1) (.slice A2 W.length c2) (.slice A3 F.length c3)
  have HB1 := HB _ T.out.gr_
  have HB2 := HB1.grown gs HB1.size (fun b e => by injection e with e; have := HG.out; omega)
  have R1 := (T.out.o1.grown gs (own_apart T.out.o1 T.out.g0.2.1)).rd
  have R2 := (T.out.o2.grown gs (own_apart T.out.o2 T.out.g0.2.1)).rd
  have R3 := (T.out.o3.grown gs (own_apart T.out.o3 T.out.g0.2.1)).rd
  have R4 := (T.out.o4.grown gs (own_apart T.out.o4 T.out.g0.2.1)).rd
  exact bodyPost_ret (v := .tuple #[mkV A1 P.length c1 A2 W.length c2 A3 F.length c3, .int .i64 a, .int .i64 b, .slice A4 S.length c4]) (by simp [results, Try.results6, go_sem, r0, r1, r2]) rfl ⟨A1, c1, P, A2, c2, W, A3, c3, F, a, b, A4, c4, S, rfl, hP, hW, hF, hS, ⟨R1, R2, R3, by omega, by omega, by omega⟩, R4, HB2⟩
set_option maxRecDepth 20000 in
set_option maxHeartbeats 2000000 in
theorem pgTail {w w0 w1 : World} {g gr gm : Nat} {N : Int} {A1 A2 A3 A4 : Option Addr} {c1 c2 c3 c4 : Nat} {P W F S : List Int} (a b : Int) (T0 : PlD w0 w1 g gr gm N A1 c1 P A2 c2 W A3 c3 F A4 c4 S) (hN : N ≤ 800000) (hP : P.length ≤ 60) (hW : W.length ≤ 60) (hF : F.length ≤ 60) (hS : S.length ≤ 59) (hgr : gr = w.heap.size) (HB : ∀ w', w0.grownBy w' (some g) → Below w.heap.size w w') (u0 u1 u3 u4 u5 u11 u12 u13 u14 u15 u16 u17 u18 u19 u20 u21 u22 u23 u24 u25 u26 u27 u28 u29 u30 u31 u32 u33 u34 u35 u36 u37 u38 u39 u40 u41 u42 u43 u44 u45 u46 u47 u48 u49 u50 u51 u52 u53 u54 u55 u56 u57 u58 u59 u60 u61 u62 u63 u64 u65 u66 u67 u68 u69 u70 u71 u72 u73 u74 u75 u76 u77 u78 u79 u80 u81 u82 u83 u84 u85 : Value) :
    Code.wp Try.prog pg9 (bodyPost Try.prog Try.f6 (MkNNRDrawn w)) ⟨#[u0, u1, .pointer (some ⟨gr, 0, none⟩), u3, u4, u5, .pointer (some ⟨g, 0, none⟩), .pointer (some ⟨gm, 0, none⟩), .slice A4 S.length c4, .int .i64 a, .int .i64 b, u11, u12, u13, u14, u15, u16, u17, u18, u19, u20, u21, u22, u23, u24, u25, u26, u27, u28, u29, u30, u31, u32, u33, u34, u35, u36, u37, u38, u39, u40, u41, u42, u43, u44, u45, u46, u47, u48, u49, u50, u51, u52, u53, u54, u55, u56, u57, u58, u59, u60, u61, u62, u63, u64, u65, u66, u67, u68, u69, u70, u71, u72, u73, u74, u75, u76, u77, u78, u79, u80, u81, u82, u83, u84, u85], []⟩ w1 := by
  conv => arg 2; whnf
  have T := Lib.hid T0
  have HG := Lib.hid hgr
  clear T0 hgr
  go_upto_region 9 with fail
  rename_i K1 hK1 K0 hK0
  replace hK1 := Lib.hid hK1
  go_wp2_with fail
  refine (one_c g _ 12 _ T.out.cur (by omega) (by omega)).mono ?_
  rintro e v2 ⟨u, rfl, ⟨bb, rfl⟩, hc2, hg2⟩
  have T2 := Lib.hid (T.out.cur_ hg2 hc2)
  clear hc2 hg2 T
  cases bb
  · go_wp2_with fail
    refine hK1.out _ _ ?_
    exact pgTail2 a b T2.out hP hW hF (by omega) HG.out HB _ _ _ _ _ _ _ _ _ _ _ _ _ _ _ _ _ _ _ _ _ _ _ _ _ _ _ _ _ _ _ _ _ _ _ _ _ _ _ _ _ _ _ _ _ _ _ _ _ _ _ _ _ _ _ _ _ _ _ _ _ _ _ _ _ _ _ _ _ _ _ _ _ _ _ _ _ _ _ _ _
  · have k0 := T2.out.bx.1
    have k1 := T2.out.bx.2.1
    go_wp2_with fail
    refine (nodeOf_c g _ _ T2.out.cur (by omega) A1 P.length c1 A2 W.length c2 hP).mono ?_
    rintro e v3 ⟨u, rfl, ⟨y, rfl⟩, hc3, hg3⟩
    have T3 := Lib.hid (T2.out.cur_ hg3 hc3)
    clear hc3 hg3 T2 k0 k1
    go_wp2_with (at_builtin; refine wp_append1 v3 y _ rfl _ _ rfl w0.heap.size A4 S.length c4 S rfl rfl T3.out.o4 rfl (by omega) (by have := T3.out.gr_.size; omega) ?_; intro A5 c5 v5 o5 g5 b5; have T5 := Lib.hid (T3.out.push4 o5 g5 b5); clear o5 g5 b5)
    refine hK1.out _ _ ?_
    have e : S.length + 1 = (S ++ [y]).length := by simp
    rw [e]
    exact pgTail2 a b T5.out hP hW hF (by simp; omega) HG.out HB _ _ _ _ _ _ _ _ _ _ _ _ _ _ _ _ _ _ _ _ _ _ _ _ _ _ _ _ _ _ _ _ _ _ _ _ _ _ _ _ _ _ _ _ _ _ _ _ _ _ _ _ _ _ _ _ _ _ _ _ _ _ _ _ _ _ _ _ _ _ _ _ _ _ _ _ _ _ _ _ _
set_option maxRecDepth 20000 in
set_option maxHeartbeats 4000000 in
theorem drawPg_c (A : Option Addr) (bs : List Int) (c : Nat) (w : World) (hr : Rd w A (u8s bs)) (hb : ByOk bs) (hl : bs.length ≤ 65537) :
    Calls Try.prog 6 #[.slice A bs.length c] w (MkNNRDrawn w) := by
  have B0 := (Bz.new w (.slice none 0 0) (.slice none 0 0) (.slice none 0 0) 28).below ((Below.refl _ _).alloc (Nat.le_refl _) (.cells #[.slice A bs.length c, .int .i64 0, .int .u64 0] 59))
  have hC := CurS.new (w.alloc (.cells #[.slice none 0 0, .slice none 0 0, .slice none 0 0] 28)) A bs c 59 (hr.alloc _) hb (by omega)
  rw [World.size_alloc] at hC
  go_enter Try.func6, Try.ntmps6
  go_wp2_with fail
  refine (arm_c _ _ 9 _ hC (by omega) (by decide) (by decide)).mono ?_
  rintro e w2 ⟨A1, c1, P, A2, c2, W, A3, c3, F, rfl, hP, hW, hF, o1, o2, o3, hc, hg⟩
  have B2 := B0.grownR hg (by intro e; injection e with e; omega)
  have bl : Below w2.heap.size w2 ((w2.alloc (.cells #[] 3)).alloc (.cells #[.slice A1 P.length c1, .slice A2 W.length c2, .slice A3 F.length c3] 28)) := ((Below.refl _ _).alloc (Nat.le_refl _) _).alloc (by simp) _
  have bx := Bx3.new (w2.alloc (.cells #[] 3)) (.slice A1 P.length c1) (.slice A2 W.length c2) (.slice A3 F.length c3) 28
  have hz := hg.size
  have o4 := (Own.lit0 w2 w2.heap.size rfl).alloc (.cells #[.slice A1 P.length c1, .slice A2 W.length c2, .slice A3 F.length c3] 28)
  simp only [World.size_alloc] at hz o1 o2 o3 bx
  have T0 : PlD ((w.alloc (.cells #[.slice none 0 0, .slice none 0 0, .slice none 0 0] 28)).alloc (.cells #[.slice A bs.length c, .int .i64 0, .int .u64 0] 59)) ((w2.alloc (.cells #[] 3)).alloc (.cells #[.slice A1 P.length c1, .slice A2 W.length c2, .slice A3 F.length c3] 28)) (w.heap.size + 1) w.heap.size (w2.heap.size + 1) (0 + 3000) A1 c1 P A2 c2 W A3 c3 F (some ⟨w2.heap.size, 0, none⟩) 0 [] :=
    ⟨bx, B2.below bl, by simp only [World.size_alloc]; exact o1.below bl, by simp only [World.size_alloc]; exact o2.below bl, by simp only [World.size_alloc]; exact o3.below bl, by simp only [World.size_alloc]; exact o4.mono (by omega), fun b e => by
      have e : w2.heap.size = b := Option.some.inj e
      exact ⟨by omega, fun e => by have := o1.ltk b e; omega, fun e => by have := o2.ltk b e; omega, fun e => by have := o3.ltk b e; omega⟩, hc.below bl, by simp only [World.size_alloc]; omega, grown_low hg bl⟩
  obtain ⟨w1, hw1⟩ : ∃ w1, w1 = (w.alloc (.cells #[.slice none 0 0, .slice none 0 0, .slice none 0 0] 28)).alloc (.cells #[.slice A bs.length c, .int .i64 0, .int .u64 0] 59) := ⟨_, rfl⟩
  rw [← hw1] at T0
  have HW1 := Lib.hid hw1
  clear hC B0 B2 bl bx hc hg o1 o2 o3 o4 hw1 hr hb hl
  obtain ⟨gm, hgm⟩ : ∃ gm, gm = w2.heap.size + 1 := ⟨_, rfl⟩
  obtain ⟨g, hgg⟩ : ∃ g, g = w.heap.size + 1 := ⟨_, rfl⟩
  go_wp2_with fail
  rw [← hgm, ← hgg] at T0 ⊢
  have T := Lib.hid T0
  have HG := Lib.hid hgg
  have HB : Hid (∀ w', w1.grownBy w' (some g) → Below w.heap.size w w') := Lib.hid fun w' h => below_two HW1.out (by rw [← HG.out]; exact h)
  clear T0 hgm hz hgg HW1 HG
  refine (discount_c g _ _ T.out.cur (by omega)).mono ?_
  rintro e w4 ⟨a, b, rfl, hc4, hg4⟩
  have T4 := Lib.hid (T.out.cur_ hg4 hc4)
  clear T hc4 hg4
  go_wp2_with fail
  rename_i K1 hK1
  replace hK1 := Lib.hid hK1
  obtain ⟨N0, hN0⟩ : ∃ N0 : Int, N0 = 0 + 3000 + 10 := ⟨_, rfl⟩
  rw [← hN0] at T4
  go_loopw [8, 11] (fun s i wr => ∃ (x : Nat) (A4 : Option Addr) (c4 : Nat) (S : List Int), i = .int .i64 (x : Int) ∧ s = .slice A4 S.length c4 ∧ x ≤ 24 ∧ x ≤ W.length ∧ x ≤ P.length ∧ S.length ≤ x ∧ PlD w1 wr g w.heap.size gm (N0 + 2 * (x : Int)) A1 c1 P A2 c2 W A3 c3 F A4 c4 S) (fun _ i _ => 24 - (intOf i).toNat)
  case atStart => exact ⟨0, _, 0, [], rfl, rfl, by omega, by omega, by omega, by simp, T4.out.mono (by omega)⟩
  case round =>
    clear T4
    obtain ⟨v, rfl⟩ : ∃ v : World, v = wr := ⟨_, rfl⟩
    obtain ⟨x, A4, c4, S, rfl, rfl, hx24, hxW, hxP, hS, T⟩ := hrel
    replace T := Lib.hid T
    have k0 := T.out.bx.1
    have k1 := T.out.bx.2.1
    have HVZ := Lib.hid T.out.gr_.size
    by_cases h1 : x < W.length
    · have i1 : (x : Int) < (W.length : Int) := by omega
      by_cases h2 : x < P.length
      · have i2 : (x : Int) < (P.length : Int) := by omega
        by_cases h3 : (x : Int) < 24
        · obtain ⟨a2, rfl, _, _⟩ := T.out.o2.form (by omega)
          obtain ⟨a1, rfl, _, _⟩ := T.out.o1.form (by omega)
          have q2 := T.out.o2.cellN h1
          have q1 := T.out.o1.cellN h2
          by_cases hx0 : x = 0
          · subst hx0
            have HSL := Lib.hid hS
            go_wp2_with (at_builtin; refine wp_append1 v (0) _ rfl _ _ rfl w1.heap.size A4 S.length c4 S rfl rfl T.out.o4 rfl (by have := HSL.out; omega) (by have := T.out.gr_.size; omega) ?_; intro A5 c5 v5 o5 g5 b5; have T5 := Lib.hid (T.out.push4 o5 g5 b5); clear o5 g5 b5)
            go_roundw
            case rel => exact ⟨0 + 1, A5, c5, S ++ [0], by first | go_num | rfl, by rw [List.length_append]; rfl, by omega, by omega, by omega, by simp only [List.length_append, List.length_cons, List.length_nil]; have := HSL.out; omega, T5.out.mono (by omega)⟩
            case measure => simp [intOf] <;> omega
          · have hx0' : ((x : Int) == 0) = false := by simp; omega
            by_cases hw : nth W x = 0
            · rw [hw] at q2
              go_wp2_with fail
              refine (l1Has_c A4 S c4 _ _ T.out.o4.rd (by omega)).mono ?_
              rintro e w' ⟨u, rfl, ⟨bb, rfl⟩, rfl⟩
              cases bb
              · go_wp2_with fail
                go_roundw
                case rel => exact ⟨x + 1, A4, c4, S, by go_num, rfl, by omega, by omega, by omega, by omega, T.out.mono (by omega)⟩
                case measure => simp [intOf] <;> omega
              · go_wp2_with fail
                refine (one_c g _ 3 _ T.out.cur (by omega) (by omega)).mono ?_
                rintro e v2 ⟨u, rfl, ⟨bb, rfl⟩, hc2, hg2⟩
                have T2 := Lib.hid (T.out.cur_ hg2 hc2)
                clear hc2 hg2 T k0 k1 q1 q2
                cases bb
                · have HSL := Lib.hid hS
                  go_wp2_with (at_builtin; refine wp_append1 v2 ((x : Int)) _ rfl _ _ rfl w1.heap.size A4 S.length c4 S rfl rfl T2.out.o4 rfl (by have := HSL.out; omega) (by have := T2.out.gr_.size; omega) ?_; intro A5 c5 v5 o5 g5 b5; have T5 := Lib.hid (T2.out.push4 o5 g5 b5); clear o5 g5 b5)
                  go_roundw
                  case rel => exact ⟨x + 1, A5, c5, S ++ [(x : Int)], by first | go_num | rfl, by rw [List.length_append]; rfl, by omega, by omega, by omega, by simp only [List.length_append, List.length_cons, List.length_nil]; have := HSL.out; omega, T5.out.mono (by omega)⟩
                  case measure => simp [intOf] <;> omega
                · go_wp2_with fail
                  go_roundw
                  case rel => exact ⟨x + 1, A4, c4, S, by go_num, rfl, by omega, by omega, by omega, by omega, T2.out.mono (by omega)⟩
                  case measure => simp [intOf] <;> omega
            · have hw' : (nth W x == 0) = false := by simpa using hw
              go_wp2_with fail
              go_roundw
              case rel => exact ⟨x + 1, A4, c4, S, by go_num, rfl, by omega, by omega, by omega, by omega, T.out.mono (by omega)⟩
              case measure => simp [intOf] <;> omega
        · go_wp2_with fail
          refine hK1.out _ _ ?_
          exact pgTail a b T.out (by omega) hP hW hF (by omega) rfl HB.out _ _ _ _ _ _ _ _ _ _ _ _ _ _ _ _ _ _ _ _ _ _ _ _ _ _ _ _ _ _ _ _ _ _ _ _ _ _ _ _ _ _ _ _ _ _ _ _ _ _ _ _ _ _ _ _ _ _ _ _ _ _ _ _ _ _ _ _ _ _ _ _ _ _ _ _ _ _ _ _
      · have i2 : ¬ (x : Int) < (P.length : Int) := by omega
        go_wp2_with fail
        refine hK1.out _ _ ?_
        exact pgTail a b T.out (by omega) hP hW hF (by omega) rfl HB.out _ _ _ _ _ _ _ _ _ _ _ _ _ _ _ _ _ _ _ _ _ _ _ _ _ _ _ _ _ _ _ _ _ _ _ _ _ _ _ _ _ _ _ _ _ _ _ _ _ _ _ _ _ _ _ _ _ _ _ _ _ _ _ _ _ _ _ _ _ _ _ _ _ _ _ _ _ _ _ _
    · have i1 : ¬ (x : Int) < (W.length : Int) := by omega
      go_wp2_with fail
      refine hK1.out _ _ ?_
      exact pgTail a b T.out (by omega) hP hW hF (by omega) rfl HB.out _ _ _ _ _ _ _ _ _ _ _ _ _ _ _ _ _ _ _ _ _ _ _ _ _ _ _ _ _ _ _ _ _ _ _ _ _ _ _ _ _ _ _ _ _ _ _ _ _ _ _ _ _ _ _ _ _ _ _ _ _ _ _ _ _ _ _ _ _ _ _ _ _ _ _ _ _ _ _ _
end Go.Proofs.Ytfobjkdkjlbkfaa
