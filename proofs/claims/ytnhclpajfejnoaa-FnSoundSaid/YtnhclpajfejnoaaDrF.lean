/- The draw of a market with weights. (Written by gen_drf.py.) -/
import Derived.Test.YtnhclpajfejnoaaRmA
import Derived.Test.YtnhclpajfejnoaaDrM
namespace Go.Proofs.Ytnhclpajfejnoaa
open Go.RowKit

theorem below_two {w w1 w2 : World} {o : Obj} {o2 : Obj} (h1 : w1 = (w.alloc o2).alloc o) (h : w1.grownBy w2 (some (w.heap.size + 1))) : Below w.heap.size w w2 := by
  subst h1
  exact (((Below.refl _ _).alloc (Nat.le_refl _) o2).alloc (by simp) o).grown h (by simp; omega) (fun b e => by injection e with e; omega)
theorem set3_gr (w : World) (g : Nat) (x y z : Value) : w.grownBy (((w.setCell ⟨g, 0, none⟩ x).setCell ⟨g, 1, none⟩ y).setCell ⟨g, 2, none⟩ z) (some g) := ((grown_setCell w ⟨g, 0, none⟩ _).trans (grown_setCell _ ⟨g, 1, none⟩ _)).trans (grown_setCell _ ⟨g, 2, none⟩ _)
/-- An arm is drawn and goes on: its box at gm, the result's box at gr, the cursor at g. -/
structure PlD (w0 w : World) (g gr gm : Nat) (N : Int) (A1 : Option Addr) (c1 : Nat) (P : List Int) (A2 : Option Addr) (c2 : Nat) (W : List Int) (A3 : Option Addr) (c3 : Nat) (F : List Int) (A4 : Option Addr) (c4 : Nat) (S : List Int) : Prop where
  bx : Bx3 w gm (.slice A1 P.length c1) (.slice A2 W.length c2) (.slice A3 F.length c3)
  br : Bz w gr (.slice none 0 0) (.slice none 0 0) (.slice none 0 0)
  o1 : Own w w0.heap.size A1 c1 P
  o2 : Own w w0.heap.size A2 c2 W
  o3 : Own w w0.heap.size A3 c3 F
  o4 : Own w w0.heap.size A4 c4 S
  n4 : ∀ b, blk A4 = some b → b ≠ gm ∧ blk A1 ≠ some b ∧ blk A2 ≠ some b ∧ blk A3 ≠ some b
  cur : CurS w g N
  g0 : g < w0.heap.size ∧ gr < w0.heap.size ∧ gr ≠ g ∧ w0.heap.size ≤ gm
  gr_ : w0.grownBy w (some g)
section
variable {w0 w w' : World} {g gr gm : Nat} {N M : Int} {A1 A2 A3 A4 : Option Addr} {c1 c2 c3 c4 : Nat} {P W F S : List Int}
theorem PlD.cur_ (h : PlD w0 w g gr gm N A1 c1 P A2 c2 W A3 c3 F A4 c4 S) (hk : w.grownBy w' (some g)) (hc : CurS w' g M) : PlD w0 w' g gr gm M A1 c1 P A2 c2 W A3 c3 F A4 c4 S :=
  ⟨h.bx.grownR hk (by intro e; injection e with e; have := h.g0; omega), h.br.grownR hk (by intro e; injection e with e; have := h.g0; omega), h.o1.grown hk (own_apart h.o1 h.g0.1), h.o2.grown hk (own_apart h.o2 h.g0.1), h.o3.grown hk (own_apart h.o3 h.g0.1), h.o4.grown hk (own_apart h.o4 h.g0.1), h.n4, hc, h.g0, h.gr_.trans hk⟩
theorem PlD.below (h : PlD w0 w g gr gm N A1 c1 P A2 c2 W A3 c3 F A4 c4 S) (hb : Below w.heap.size w w') : PlD w0 w' g gr gm N A1 c1 P A2 c2 W A3 c3 F A4 c4 S :=
  ⟨h.bx.below hb, h.br.below hb, h.o1.below hb, h.o2.below hb, h.o3.below hb, h.o4.below hb, h.n4, h.cur.below hb, h.g0, grown_low h.gr_ hb⟩
theorem PlD.mono (h : PlD w0 w g gr gm N A1 c1 P A2 c2 W A3 c3 F A4 c4 S) (hN : N ≤ M) : PlD w0 w g gr gm M A1 c1 P A2 c2 W A3 c3 F A4 c4 S := ⟨h.bx, h.br, h.o1, h.o2, h.o3, h.o4, h.n4, h.cur.mono hN, h.g0, h.gr_⟩
theorem PlD.drew (h : PlD w0 w g gr gm N A1 c1 P A2 c2 W A3 c3 F A4 c4 S) : PlD w0 w.drew g gr gm N A1 c1 P A2 c2 W A3 c3 F A4 c4 S :=
  h.cur_ ⟨rfl, rfl, rfl, Nat.le_refl _, fun _ _ _ => rfl⟩ (h.cur.drewN 1)
theorem PlD.push4 (h : PlD w0 w g gr gm N A1 c1 P A2 c2 W A3 c3 F A4 c4 S) {A4' : Option Addr} {c4' : Nat} {y : Int} (o : Own w' w0.heap.size A4' c4' (S ++ [y])) (gw : w.grownBy w' (blk A4)) (t : blk A4' = blk A4 ∨ ∃ r, blk A4' = some r ∧ w.heap.size ≤ r) :
    PlD w0 w' g gr gm N A1 c1 P A2 c2 W A3 c3 F A4' c4' (S ++ [y]) := by
  have n4' : ∀ b, blk A4' = some b → b ≠ gm ∧ blk A1 ≠ some b ∧ blk A2 ≠ some b ∧ blk A3 ≠ some b := fun b e => by
    rcases t with t | ⟨r, t, hr⟩
    · exact h.n4 b (by rw [← t]; exact e)
    · rw [t] at e
      injection e with e
      subst e
      exact ⟨by have := h.bx.2.2.2; omega, fun e => by have := h.o1.ltk r e; omega, fun e => by have := h.o2.ltk r e; omega, fun e => by have := h.o3.ltk r e; omega⟩
  exact ⟨h.bx.grownR gw (fun e => (h.n4 gm e).1 rfl), h.br.grownR gw (fun e => by have := h.o4.ge gr e; have := h.g0; omega), h.o1.grown gw (ne_row fun b e => (h.n4 b e).2.1), h.o2.grown gw (ne_row fun b e => (h.n4 b e).2.2.1), h.o3.grown gw (ne_row fun b e => (h.n4 b e).2.2.2), o, n4', h.cur.grown gw (fun b e => by have := h.o4.ge b e; have := h.g0; omega), h.g0, grown_new h.gr_ gw (fun b e => h.o4.ge b e)⟩
end
section
variable {w0 w w' : World} {g gr gm : Nat} {N M : Int} {A1 A2 A3 A4 : Option Addr} {c1 c2 c3 c4 : Nat} {P W F S : List Int}
theorem PlD.set4 {a4 : Nat} (h : PlD w0 w g gr gm N A1 c1 P A2 c2 W A3 c3 F (some ⟨a4, 0, none⟩) c4 S) (k : Nat) (y : Int) : PlD w0 (w.setCell ⟨a4, k, none⟩ (.int .i64 y)) g gr gm N A1 c1 P A2 c2 W A3 c3 F (some ⟨a4, 0, none⟩) c4 (S.set k y) := by
  have o := h.o4.set k y
  have n := h.n4 a4 rfl
  have hl := h.o4.ge a4 rfl
  exact ⟨h.bx.grownR o.2 (by intro e; injection e with e; exact n.1 e), h.br.grownR o.2 (by intro e; injection e with e; have := h.g0; omega), h.o1.grown o.2 (.inr n.2.1), h.o2.grown o.2 (.inr n.2.2.1), h.o3.grown o.2 (.inr n.2.2.2), o.1, h.n4, h.cur.grown o.2 (fun b e => by injection e with e; have := h.g0; omega), h.g0, grown_new h.gr_ o.2 (fun b e => by injection e with e; omega)⟩
/-- The end: the market and its row are told. -/
theorem PlD.out (h : PlD w0 w' g gr gm N A1 c1 P A2 c2 W A3 c3 F A4 c4 S) (hP : P.length ≤ 60) (hW : W.length ≤ 60) (hF : F.length ≤ 60) (hS : S.length ≤ 60) (hgr : gr = w.heap.size) (HB : ∀ w', w0.grownBy w' (some g) → Below w.heap.size w w') :
    MkRDrawn w (.returned (.tuple #[mkV A1 P.length c1 A2 W.length c2 A3 F.length c3, .slice A4 S.length c4])) (((w'.setCell ⟨gr, 0, none⟩ (.slice A1 P.length c1)).setCell ⟨gr, 1, none⟩ (.slice A2 W.length c2)).setCell ⟨gr, 2, none⟩ (.slice A3 F.length c3)) := by
  have gs := set3_gr w' gr (.slice A1 P.length c1) (.slice A2 W.length c2) (.slice A3 F.length c3)
  have HB1 := HB _ h.gr_
  have HB2 := HB1.grown gs HB1.size (fun b e => by injection e with e; omega)
  have R1 := (h.o1.grown gs (own_apart h.o1 h.g0.2.1)).rd
  have R2 := (h.o2.grown gs (own_apart h.o2 h.g0.2.1)).rd
  have R3 := (h.o3.grown gs (own_apart h.o3 h.g0.2.1)).rd
  have R4 := (h.o4.grown gs (own_apart h.o4 h.g0.2.1)).rd
  exact ⟨A1, c1, P, A2, c2, W, A3, c3, F, A4, c4, S, rfl, hP, hW, hF, hS, ⟨R1, R2, R3, by omega, by omega, by omega⟩, R4, HB2⟩
end
theorem ends_pos {P W : List Int} (h : TreeOk P W) : 0 < (endL P).length := by
  rcases Nat.eq_zero_or_pos (endL P).length with h0 | h0
  · exfalso
    have : ∀ n x, P.length ≤ x + n → x < P.length → endB P x = true → False := fun n x _ hx he => by
      obtain ⟨i, hi, _⟩ := end_idx hx he
      omega
    have n1 := h.n1
    cases he : endB P (P.length - 1) with
    | true => exact this P.length _ (by omega) (by omega) he
    | false =>
      obtain ⟨z, hz⟩ := List.exists_mem_of_ne_nil (kids P ((P.length - 1 : Nat) : Int)) (fun h' => by rw [(kids_nil _).1 h'] at he; cases he)
      obtain ⟨j, hj, hpj, rfl⟩ := mem_kidTo.1 hz
      have hj0 : 0 < j := by
        rcases Nat.eq_zero_or_pos j with rfl | h'
        · have := h.par.zero; omega
        · exact h'
      have := h.par.up j hj0 hj
      omega
  · exact h0
theorem rm_ok {n u d p : Int} (h : rmB n u d p = true) : TreeOk (rmVP n u d p) (rmVW n u d p) ∧ (rmVP n u d p).length ≤ 15 ∧ (rmVW n u d p).length ≤ 15 ∧ (rmVF n u d p).length ≤ 15 := by
  have hn : n.toNat ≤ 3 := by
    simp only [rmB, Bool.and_eq_true, decide_eq_true_eq] at h
    omega
  have h8 := pow_up hn
  have e8 : (2 : Nat) ^ 3 = 8 := rfl
  have hk : rmK n.toNat ≤ 15 := by unfold rmK; omega
  rw [(rm_yes h).1, (rm_yes h).2.1, (rm_yes h).2.2, ownW_len, rmP_len, rmF_len]
  exact ⟨treeB_iff.1 (rm_tree hn), hk, hk, hk⟩
theorem rm_len (n u d p : Int) : (rmVP n u d p).length ≤ 15 ∧ (rmVW n u d p).length ≤ 15 ∧ (rmVF n u d p).length ≤ 15 := by
  cases h : rmB n u d p with
  | true => exact (rm_ok h).2
  | false => rw [(rm_no h).1, (rm_no h).2.1, (rm_no h).2.2]; simp

set_option maxRecDepth 20000 in
set_option maxHeartbeats 8000000 in
theorem drawFw_c (A : Option Addr) (bs : List Int) (c : Nat) (w : World) (hr : Rd w A (u8s bs)) (hb : ByOk bs) (hl : bs.length ≤ 65537) :
    Calls Try.prog 30 #[.slice A bs.length c] w (MkRDrawn w) := by
  have B0 := (Bz.new w (.slice none 0 0) (.slice none 0 0) (.slice none 0 0) 28).below ((Below.refl _ _).alloc (Nat.le_refl _) (.cells #[.slice A bs.length c, .int .i64 0, .int .u64 0] 75))
  have hC := CurS.new (w.alloc (.cells #[.slice none 0 0, .slice none 0 0, .slice none 0 0] 28)) A bs c 75 (hr.alloc _) hb (by omega)
  rw [World.size_alloc] at hC
  obtain ⟨w1, hw1⟩ : ∃ w1, w1 = (w.alloc (.cells #[.slice none 0 0, .slice none 0 0, .slice none 0 0] 28)).alloc (.cells #[.slice A bs.length c, .int .i64 0, .int .u64 0] 75) := ⟨_, rfl⟩
  have hz1 : w1.heap.size = w.heap.size + 2 := by rw [hw1]; simp
  obtain ⟨g, hgg⟩ : ∃ g, g = w.heap.size + 1 := ⟨_, rfl⟩
  have HB : Hid (∀ w', w1.grownBy w' (some g) → Below w.heap.size w w') := Lib.hid fun w' h => below_two hw1 (by rw [← hgg]; exact h)
  rw [← hw1] at B0 hC
  rw [← hgg] at hC
  have HW1 := Lib.hid hw1
  have HG := Lib.hid hgg
  have HZ1 := Lib.hid hz1
  clear hw1 hgg hz1 hr hb hl
  go_enter Try.func30, Try.ntmps30
  go_wp2_with fail
  rw [← HW1.out, ← HG.out]
  refine (pick_c g 0 3 w1 hC (by omega) (by omega)).mono ?_
  rintro e w2 ⟨u, rfl, ⟨y, rfl, hy0, hy1⟩, hc2, hg2⟩
  have e1 : IntKind.i64.wrap (1 + y) = 1 + y := IntWalk.i64_in _ (by omega)
  have B2 := B0.grownR hg2 (by intro e; injection e with e; have := HG.out; omega)
  have hz2 := hg2.size
  clear hC B0
  go_wp2_with fail
  refine (specRm_c (1 + y) 2 2 8 w2).mono ?_
  rintro e w3 ⟨A1, c1, A2, c2, A3, c3, rfl, o1, o2, o3, b3⟩
  have rl := rm_len (1 + y) 2 2 8
  have rk := fun h => (rm_ok (n := 1 + y) (u := 2) (d := 2) (p := 8) h).1
  generalize rmVP (1 + y) 2 2 8 = P at *
  generalize rmVW (1 + y) 2 2 8 = W at *
  generalize rmVF (1 + y) 2 2 8 = F at *
  generalize rmB (1 + y) 2 2 8 = t at *
  obtain ⟨lP, lW, lF⟩ := rl
  have RK := Lib.hid rk
  have bl : Below w3.heap.size w3 (w3.alloc (.cells #[.slice A1 P.length c1, .slice A2 W.length c2, .slice A3 F.length c3] 28)) := (Below.refl _ _).alloc (Nat.le_refl _) _
  have bx := Bx3.new w3 (.slice A1 P.length c1) (.slice A2 W.length c2) (.slice A3 F.length c3) 28
  have z3 := b3.size
  have T0 : PlD w1 (w3.alloc (.cells #[.slice A1 P.length c1, .slice A2 W.length c2, .slice A3 F.length c3] 28)) g w.heap.size w3.heap.size (0 + 2) A1 c1 P A2 c2 W A3 c3 F none 0 [] :=
    ⟨bx, (B2.below b3).below bl, (o1.mono hz2).below bl, (o2.mono hz2).below bl, (o3.mono hz2).below bl, Own.nil _ _, fun b e => (by cases e), (hc2.below b3).below bl, ⟨by have := HG.out; have := HZ1.out; omega, by have := HZ1.out; omega, by have := HG.out; omega, by omega⟩, grown_low (grown_low hg2 b3) bl⟩
  clear rk bl bx o1 o2 o3 b3 B2 hc2 hg2 e1 hy0 hy1
  obtain ⟨gm, hgm⟩ : ∃ gm, gm = w3.heap.size := ⟨_, rfl⟩
  go_upto_region 3 with fail
  rw [← hgm] at T0 ⊢
  generalize w3.alloc (.cells #[.slice A1 P.length c1, .slice A2 W.length c2, .slice A3 F.length c3] 28) = v3 at *
  have T := Lib.hid T0
  clear T0 hgm z3 hz2
  cases t
  · go_wp2_with fail
    refine (market_c g _ _ T.out.cur (by omega)).mono ?_
    rintro e y1 ⟨B1, d1, Q, B2, d2, V, B3, d3, G, rfl, hQ, hV, hG, q1, q2, q3, hc1, hg1⟩
    have zz := T.out.gr_.size
    have g0 := T.out.g0
    have zy := hg1.size
    have br1 := T.out.br.grownR hg1 (by intro e; injection e with e; omega)
    have bl1 : Below y1.heap.size y1 ((y1.alloc (.cells #[] 3)).alloc (.cells #[.slice B1 Q.length d1, .slice B2 V.length d2, .slice B3 G.length d3] 28)) := ((Below.refl _ _).alloc (Nat.le_refl _) _).alloc (by simp) _
    have bx1 := Bx3.new (y1.alloc (.cells #[] 3)) (.slice B1 Q.length d1) (.slice B2 V.length d2) (.slice B3 G.length d3) 28
    rw [World.size_alloc] at bx1
    have o4 := ((Own.lit0 y1 y1.heap.size rfl).mono (B' := w1.heap.size) (by omega)).alloc (.cells #[.slice B1 Q.length d1, .slice B2 V.length d2, .slice B3 G.length d3] 28)
    have U0 : PlD w1 ((y1.alloc (.cells #[] 3)).alloc (.cells #[.slice B1 Q.length d1, .slice B2 V.length d2, .slice B3 G.length d3] 28)) g w.heap.size (y1.heap.size + 1) (0 + 2 + 3000) B1 d1 Q B2 d2 V B3 d3 G (some ⟨y1.heap.size, 0, none⟩) 0 [] :=
      ⟨bx1, br1.below bl1, (q1.mono zz).below bl1, (q2.mono zz).below bl1, (q3.mono zz).below bl1, o4, fun b e => by
        have e : y1.heap.size = b := Option.some.inj e
        exact ⟨by omega, fun e => by have := q1.ltk b e; omega, fun e => by have := q2.ltk b e; omega, fun e => by have := q3.ltk b e; omega⟩, hc1.below bl1, ⟨g0.1, g0.2.1, g0.2.2.1, by omega⟩, grown_low (T.out.gr_.trans hg1) bl1⟩
    obtain ⟨gn, hgn⟩ : ∃ gn, gn = y1.heap.size + 1 := ⟨_, rfl⟩
    clear T g0 zy br1 bl1 bx1 o4 q1 q2 q3 hc1 hg1
    go_upto_region 14 with fail
    rw [← hgn] at U0 ⊢
    obtain ⟨z0, hz0⟩ : ∃ z0, z0 = (y1.alloc (.cells #[] 3)).alloc (.cells #[.slice B1 Q.length d1, .slice B2 V.length d2, .slice B3 G.length d3] 28) := ⟨_, rfl⟩
    rw [← hz0] at U0 ⊢
    obtain ⟨a0, ha0⟩ : ∃ a0 : Option Addr, a0 = some ⟨y1.heap.size, 0, none⟩ := ⟨_, rfl⟩
    rw [← ha0] at U0 ⊢
    have U := Lib.hid U0
    clear U0 hgn hz0 ha0 zz
    have k0 := U.out.bx.1
    have k1 := U.out.bx.2.1
    have CG := l2Good_c B1 Q d1 B2 V d2 z0 U.out.o1.rd U.out.o2.rd (by omega) (by omega)
    cases hgd : treeB Q V
    · rw [hgd] at CG
      clear hgd
      go_wp2_with fail
      refine CG.mono ?_
      rintro e z1 ⟨rfl, b1⟩
      have U1 := Lib.hid (U.out.below b1)
      clear CG b1 U k0 k1
      go_wp2_with fail
      go_loopw [10, 12] (fun s i wr => ∃ (k : Nat) (A4 : Option Addr) (c4 : Nat) (S : List Int), i = .int .i64 (k : Int) ∧ s = .slice A4 S.length c4 ∧ S.length = k ∧ k ≤ 2 ∧ PlD w1 wr g w.heap.size gn (0 + 2 + 3000 + 2 * (k : Int)) B1 d1 Q B2 d2 V B3 d3 G A4 c4 S) (fun _ i _ => 2 - (intOf i).toNat)
      case atStart => exact ⟨0, a0, 0, [], rfl, rfl, rfl, by omega, U1.out.mono (by omega)⟩
      case round =>
        clear U1
        obtain ⟨v, rfl⟩ : ∃ v : World, v = wr := ⟨_, rfl⟩
        obtain ⟨k, A4, c4, S, rfl, rfl, hS, hk, T⟩ := hrel
        replace T := Lib.hid T
        have HS := Lib.hid hS
        clear hS
        by_cases hlt : k < 2
        · have ik : (k : Int) < 2 := by omega
          go_wp2_with fail
          refine (pick_c g _ 4 _ T.out.cur (by omega) (by omega)).mono ?_
          rintro e v6 ⟨u, rfl, ⟨y, rfl, hy0, hy1⟩, hc6, hg6⟩
          have e1 : IntKind.i64.wrap (1 + y) = 1 + y := IntWalk.i64_in _ (by omega)
          have T6 := Lib.hid (T.out.cur_ hg6 hc6)
          clear hc6 hg6 T
          go_wp2_with (at_builtin; refine wp_append1 v6 (1 + y) _ rfl _ _ rfl w1.heap.size A4 S.length c4 S rfl rfl T6.out.o4 rfl (by have := HS.out; omega) (by have := T6.out.gr_.size; omega) ?_; intro A5 c5 v7 o7 g7 b7; have T7 := Lib.hid (T6.out.push4 o7 g7 b7); clear o7 g7 b7)
          go_roundw
          case rel => exact ⟨k + 1, A5, c5, S ++ [1 + y], by go_num, by rw [List.length_append]; rfl, by rw [List.length_append, HS.out]; rfl, by omega, T7.out.mono (by omega)⟩
          case measure => simp [intOf] <;> omega
        · have ik : ¬ (k : Int) < 2 := by omega
          obtain ⟨⟨r0, r1, r2, r3⟩, r4, r5, r6⟩ := T.out.br
          obtain ⟨k0, k1, k2, k3⟩ := T.out.bx
          go_wp2_with fail
          exact bodyPost_ret (v := .tuple #[mkV B1 Q.length d1 B2 V.length d2 B3 G.length d3, .slice A4 S.length c4]) (by simp [results, Try.results30, go_sem, r0, r1, r2]) rfl (PlD.out T.out (by omega) (by omega) (by omega) (by have := HS.out; omega) rfl HB.out)
    · rw [hgd] at CG
      have hTQ := treeB_iff.1 hgd
      have hQ24 : Q.length ≤ 24 := hTQ.n2
      have HQP := Lib.hid hTQ.par
      have hE : (endL Q).length ≤ 24 := Nat.le_trans (enTo_len Q Q.length) hQ24
      clear hgd hTQ
      go_wp2_with fail
      refine CG.mono ?_
      rintro e z1 ⟨rfl, b1⟩
      have U1 := Lib.hid (U.out.below b1)
      clear CG b1 U k0 k1
      have k0 := U1.out.bx.1
      have k1 := U1.out.bx.2.1
      go_wp2_with fail
      refine (l2Ends_c B1 Q d1 B2 V.length d2 _ U1.out.o1.rd HQP.out hQ24).mono ?_
      rintro e z2 ⟨Ae, ce, rfl, oe, b2⟩
      have U2 := Lib.hid (U1.out.below b2)
      clear b2 oe U1 k0 k1
      generalize (endL Q).length = nn at *
      go_wp2_with fail
      go_loopw [10, 12] (fun s i wr => ∃ (k : Nat) (A4 : Option Addr) (c4 : Nat) (S : List Int), i = .int .i64 (k : Int) ∧ s = .slice A4 S.length c4 ∧ S.length = k ∧ k ≤ nn ∧ PlD w1 wr g w.heap.size gn (0 + 2 + 3000 + 2 * (k : Int)) B1 d1 Q B2 d2 V B3 d3 G A4 c4 S) (fun _ i _ => nn - (intOf i).toNat)
      case atStart => exact ⟨0, a0, 0, [], rfl, rfl, rfl, by omega, U2.out.mono (by omega)⟩
      case round =>
        clear U2
        obtain ⟨v, rfl⟩ : ∃ v : World, v = wr := ⟨_, rfl⟩
        obtain ⟨k, A4, c4, S, rfl, rfl, hS, hk, T⟩ := hrel
        replace T := Lib.hid T
        have HS := Lib.hid hS
        clear hS
        by_cases hlt : k < nn
        · have ik : (k : Int) < (nn : Int) := by omega
          go_wp2_with fail
          refine (pick_c g _ 4 _ T.out.cur (by omega) (by omega)).mono ?_
          rintro e v6 ⟨u, rfl, ⟨y, rfl, hy0, hy1⟩, hc6, hg6⟩
          have e1 : IntKind.i64.wrap (1 + y) = 1 + y := IntWalk.i64_in _ (by omega)
          have T6 := Lib.hid (T.out.cur_ hg6 hc6)
          clear hc6 hg6 T
          go_wp2_with (at_builtin; refine wp_append1 v6 (1 + y) _ rfl _ _ rfl w1.heap.size A4 S.length c4 S rfl rfl T6.out.o4 rfl (by have := HS.out; omega) (by have := T6.out.gr_.size; omega) ?_; intro A5 c5 v7 o7 g7 b7; have T7 := Lib.hid (T6.out.push4 o7 g7 b7); clear o7 g7 b7)
          go_roundw
          case rel => exact ⟨k + 1, A5, c5, S ++ [1 + y], by go_num, by rw [List.length_append]; rfl, by rw [List.length_append, HS.out]; rfl, by omega, T7.out.mono (by omega)⟩
          case measure => simp [intOf] <;> omega
        · have ik : ¬ (k : Int) < (nn : Int) := by omega
          obtain ⟨⟨r0, r1, r2, r3⟩, r4, r5, r6⟩ := T.out.br
          obtain ⟨k0, k1, k2, k3⟩ := T.out.bx
          go_wp2_with fail
          exact bodyPost_ret (v := .tuple #[mkV B1 Q.length d1 B2 V.length d2 B3 G.length d3, .slice A4 S.length c4]) (by simp [results, Try.results30, go_sem, r0, r1, r2]) rfl (PlD.out T.out (by omega) (by omega) (by omega) (by have := HS.out; omega) rfl HB.out)
  go_wp2_with fail
  refine (one_c g _ 2 _ T.out.cur (by omega) (by omega)).mono ?_
  rintro e v4 ⟨u, rfl, ⟨b, rfl⟩, hc4, hg4⟩
  have T4 := Lib.hid (T.out.cur_ hg4 hc4)
  have hT := RK.out (by first | rfl | trivial)
  have HPar := Lib.hid hT.par
  have hP24 : P.length ≤ 24 := hT.n2
  have HE0 := Lib.hid (ends_pos hT)
  have hE24 : (endL P).length ≤ 24 := Nat.le_trans (enTo_len P P.length) hT.n2
  clear hc4 hg4 T hT RK
  cases b
  · have T := T4
    clear T4
    go_wp2_with fail
    refine (market_c g _ _ T.out.cur (by omega)).mono ?_
    rintro e y1 ⟨B1, d1, Q, B2, d2, V, B3, d3, G, rfl, hQ, hV, hG, q1, q2, q3, hc1, hg1⟩
    have zz := T.out.gr_.size
    have g0 := T.out.g0
    have zy := hg1.size
    have br1 := T.out.br.grownR hg1 (by intro e; injection e with e; omega)
    have bl1 : Below y1.heap.size y1 ((y1.alloc (.cells #[] 3)).alloc (.cells #[.slice B1 Q.length d1, .slice B2 V.length d2, .slice B3 G.length d3] 28)) := ((Below.refl _ _).alloc (Nat.le_refl _) _).alloc (by simp) _
    have bx1 := Bx3.new (y1.alloc (.cells #[] 3)) (.slice B1 Q.length d1) (.slice B2 V.length d2) (.slice B3 G.length d3) 28
    rw [World.size_alloc] at bx1
    have o4 := ((Own.lit0 y1 y1.heap.size rfl).mono (B' := w1.heap.size) (by omega)).alloc (.cells #[.slice B1 Q.length d1, .slice B2 V.length d2, .slice B3 G.length d3] 28)
    have U0 : PlD w1 ((y1.alloc (.cells #[] 3)).alloc (.cells #[.slice B1 Q.length d1, .slice B2 V.length d2, .slice B3 G.length d3] 28)) g w.heap.size (y1.heap.size + 1) (0 + 2 + 2 + 3000) B1 d1 Q B2 d2 V B3 d3 G (some ⟨y1.heap.size, 0, none⟩) 0 [] :=
      ⟨bx1, br1.below bl1, (q1.mono zz).below bl1, (q2.mono zz).below bl1, (q3.mono zz).below bl1, o4, fun b e => by
        have e : y1.heap.size = b := Option.some.inj e
        exact ⟨by omega, fun e => by have := q1.ltk b e; omega, fun e => by have := q2.ltk b e; omega, fun e => by have := q3.ltk b e; omega⟩, hc1.below bl1, ⟨g0.1, g0.2.1, g0.2.2.1, by omega⟩, grown_low (T.out.gr_.trans hg1) bl1⟩
    obtain ⟨gn, hgn⟩ : ∃ gn, gn = y1.heap.size + 1 := ⟨_, rfl⟩
    clear T g0 zy br1 bl1 bx1 o4 q1 q2 q3 hc1 hg1
    go_upto_region 14 with fail
    rw [← hgn] at U0 ⊢
    obtain ⟨z0, hz0⟩ : ∃ z0, z0 = (y1.alloc (.cells #[] 3)).alloc (.cells #[.slice B1 Q.length d1, .slice B2 V.length d2, .slice B3 G.length d3] 28) := ⟨_, rfl⟩
    rw [← hz0] at U0 ⊢
    obtain ⟨a0, ha0⟩ : ∃ a0 : Option Addr, a0 = some ⟨y1.heap.size, 0, none⟩ := ⟨_, rfl⟩
    rw [← ha0] at U0 ⊢
    have U := Lib.hid U0
    clear U0 hgn hz0 ha0 zz
    have k0 := U.out.bx.1
    have k1 := U.out.bx.2.1
    have CG := l2Good_c B1 Q d1 B2 V d2 z0 U.out.o1.rd U.out.o2.rd (by omega) (by omega)
    cases hgd : treeB Q V
    · rw [hgd] at CG
      clear hgd
      go_wp2_with fail
      refine CG.mono ?_
      rintro e z1 ⟨rfl, b1⟩
      have U1 := Lib.hid (U.out.below b1)
      clear CG b1 U k0 k1
      go_wp2_with fail
      go_loopw [10, 12] (fun s i wr => ∃ (k : Nat) (A4 : Option Addr) (c4 : Nat) (S : List Int), i = .int .i64 (k : Int) ∧ s = .slice A4 S.length c4 ∧ S.length = k ∧ k ≤ 2 ∧ PlD w1 wr g w.heap.size gn (0 + 2 + 2 + 3000 + 2 * (k : Int)) B1 d1 Q B2 d2 V B3 d3 G A4 c4 S) (fun _ i _ => 2 - (intOf i).toNat)
      case atStart => exact ⟨0, a0, 0, [], rfl, rfl, rfl, by omega, U1.out.mono (by omega)⟩
      case round =>
        clear U1
        obtain ⟨v, rfl⟩ : ∃ v : World, v = wr := ⟨_, rfl⟩
        obtain ⟨k, A4, c4, S, rfl, rfl, hS, hk, T⟩ := hrel
        replace T := Lib.hid T
        have HS := Lib.hid hS
        clear hS
        by_cases hlt : k < 2
        · have ik : (k : Int) < 2 := by omega
          go_wp2_with fail
          refine (pick_c g _ 4 _ T.out.cur (by omega) (by omega)).mono ?_
          rintro e v6 ⟨u, rfl, ⟨y, rfl, hy0, hy1⟩, hc6, hg6⟩
          have e1 : IntKind.i64.wrap (1 + y) = 1 + y := IntWalk.i64_in _ (by omega)
          have T6 := Lib.hid (T.out.cur_ hg6 hc6)
          clear hc6 hg6 T
          go_wp2_with (at_builtin; refine wp_append1 v6 (1 + y) _ rfl _ _ rfl w1.heap.size A4 S.length c4 S rfl rfl T6.out.o4 rfl (by have := HS.out; omega) (by have := T6.out.gr_.size; omega) ?_; intro A5 c5 v7 o7 g7 b7; have T7 := Lib.hid (T6.out.push4 o7 g7 b7); clear o7 g7 b7)
          go_roundw
          case rel => exact ⟨k + 1, A5, c5, S ++ [1 + y], by go_num, by rw [List.length_append]; rfl, by rw [List.length_append, HS.out]; rfl, by omega, T7.out.mono (by omega)⟩
          case measure => simp [intOf] <;> omega
        · have ik : ¬ (k : Int) < 2 := by omega
          obtain ⟨⟨r0, r1, r2, r3⟩, r4, r5, r6⟩ := T.out.br
          obtain ⟨k0, k1, k2, k3⟩ := T.out.bx
          go_wp2_with fail
          exact bodyPost_ret (v := .tuple #[mkV B1 Q.length d1 B2 V.length d2 B3 G.length d3, .slice A4 S.length c4]) (by simp [results, Try.results30, go_sem, r0, r1, r2]) rfl (PlD.out T.out (by omega) (by omega) (by omega) (by have := HS.out; omega) rfl HB.out)
    · rw [hgd] at CG
      have hTQ := treeB_iff.1 hgd
      have hQ24 : Q.length ≤ 24 := hTQ.n2
      have HQP := Lib.hid hTQ.par
      have hE : (endL Q).length ≤ 24 := Nat.le_trans (enTo_len Q Q.length) hQ24
      clear hgd hTQ
      go_wp2_with fail
      refine CG.mono ?_
      rintro e z1 ⟨rfl, b1⟩
      have U1 := Lib.hid (U.out.below b1)
      clear CG b1 U k0 k1
      have k0 := U1.out.bx.1
      have k1 := U1.out.bx.2.1
      go_wp2_with fail
      refine (l2Ends_c B1 Q d1 B2 V.length d2 _ U1.out.o1.rd HQP.out hQ24).mono ?_
      rintro e z2 ⟨Ae, ce, rfl, oe, b2⟩
      have U2 := Lib.hid (U1.out.below b2)
      clear b2 oe U1 k0 k1
      generalize (endL Q).length = nn at *
      go_wp2_with fail
      go_loopw [10, 12] (fun s i wr => ∃ (k : Nat) (A4 : Option Addr) (c4 : Nat) (S : List Int), i = .int .i64 (k : Int) ∧ s = .slice A4 S.length c4 ∧ S.length = k ∧ k ≤ nn ∧ PlD w1 wr g w.heap.size gn (0 + 2 + 2 + 3000 + 2 * (k : Int)) B1 d1 Q B2 d2 V B3 d3 G A4 c4 S) (fun _ i _ => nn - (intOf i).toNat)
      case atStart => exact ⟨0, a0, 0, [], rfl, rfl, rfl, by omega, U2.out.mono (by omega)⟩
      case round =>
        clear U2
        obtain ⟨v, rfl⟩ : ∃ v : World, v = wr := ⟨_, rfl⟩
        obtain ⟨k, A4, c4, S, rfl, rfl, hS, hk, T⟩ := hrel
        replace T := Lib.hid T
        have HS := Lib.hid hS
        clear hS
        by_cases hlt : k < nn
        · have ik : (k : Int) < (nn : Int) := by omega
          go_wp2_with fail
          refine (pick_c g _ 4 _ T.out.cur (by omega) (by omega)).mono ?_
          rintro e v6 ⟨u, rfl, ⟨y, rfl, hy0, hy1⟩, hc6, hg6⟩
          have e1 : IntKind.i64.wrap (1 + y) = 1 + y := IntWalk.i64_in _ (by omega)
          have T6 := Lib.hid (T.out.cur_ hg6 hc6)
          clear hc6 hg6 T
          go_wp2_with (at_builtin; refine wp_append1 v6 (1 + y) _ rfl _ _ rfl w1.heap.size A4 S.length c4 S rfl rfl T6.out.o4 rfl (by have := HS.out; omega) (by have := T6.out.gr_.size; omega) ?_; intro A5 c5 v7 o7 g7 b7; have T7 := Lib.hid (T6.out.push4 o7 g7 b7); clear o7 g7 b7)
          go_roundw
          case rel => exact ⟨k + 1, A5, c5, S ++ [1 + y], by go_num, by rw [List.length_append]; rfl, by rw [List.length_append, HS.out]; rfl, by omega, T7.out.mono (by omega)⟩
          case measure => simp [intOf] <;> omega
        · have ik : ¬ (k : Int) < (nn : Int) := by omega
          obtain ⟨⟨r0, r1, r2, r3⟩, r4, r5, r6⟩ := T.out.br
          obtain ⟨k0, k1, k2, k3⟩ := T.out.bx
          go_wp2_with fail
          exact bodyPost_ret (v := .tuple #[mkV B1 Q.length d1 B2 V.length d2 B3 G.length d3, .slice A4 S.length c4]) (by simp [results, Try.results30, go_sem, r0, r1, r2]) rfl (PlD.out T.out (by omega) (by omega) (by omega) (by have := HS.out; omega) rfl HB.out)
  · have o0 := (Own.lit0 v4 v4.heap.size rfl).mono (B' := w1.heap.size) T4.out.gr_.size
    have bl0 : Below v4.heap.size v4 (v4.alloc (.cells #[] 3)) := (Below.refl _ _).alloc (Nat.le_refl _) _
    have hz4 : Hid (w1.heap.size ≤ v4.heap.size) := Lib.hid T4.out.gr_.size
    have T5 : PlD w1 (v4.alloc (.cells #[] 3)) g w.heap.size gm (0 + 2 + 2) A1 c1 P A2 c2 W A3 c3 F (some ⟨v4.heap.size, 0, none⟩) 0 [] := by
      have B := T4.out.below bl0
      refine ⟨B.bx, B.br, B.o1, B.o2, B.o3, o0, fun b e => ?_, B.cur, B.g0, B.gr_⟩
      have e : v4.heap.size = b := Option.some.inj e
      have k1 := T4.out.bx.2.2.2
      exact ⟨by omega, fun e => by have := T4.out.o1.ltk b e; omega, fun e => by have := T4.out.o2.ltk b e; omega, fun e => by have := T4.out.o3.ltk b e; omega⟩
    have T := Lib.hid T5
    clear T4 T5 o0 bl0
    go_wp2_with fail
    go_loopw [7, 8] (fun s i wr => ∃ (k : Nat) (A4 : Option Addr) (c4 : Nat) (S : List Int), i = .int .i64 (k : Int) ∧ s = .slice A4 S.length c4 ∧ S.length = k ∧ k ≤ (endL P).length ∧ PlD w1 wr g w.heap.size gm (0 + 2 + 2) A1 c1 P A2 c2 W A3 c3 F A4 c4 S) (fun _ i _ => (endL P).length - (intOf i).toNat)
    case atStart => exact ⟨0, _, 0, [], rfl, rfl, rfl, by omega, T.out⟩
    case round =>
      clear T
      obtain ⟨v, rfl⟩ : ∃ v : World, v = wr := ⟨_, rfl⟩
      obtain ⟨k, A4, c4, S, rfl, rfl, hS, hk, T⟩ := hrel
      replace T := Lib.hid T
      have HS := Lib.hid hS
      clear hS
      have k0 := T.out.bx.1
      have k1 := T.out.bx.2.1
      go_wp2_with fail
      refine (l2Ends_c A1 P c1 A2 W.length c2 _ T.out.o1.rd HPar.out hP24).mono ?_
      rintro e v6 ⟨Ae, ce, rfl, oe, b6⟩
      have T6 := Lib.hid (T.out.below b6)
      clear b6 oe T k0 k1
      by_cases hlt : k < (endL P).length
      · have ik : (k : Int) < ((endL P).length : Int) := by omega
        go_wp2_with (at_builtin; refine wp_append1 v6 3 _ rfl _ _ rfl w1.heap.size A4 S.length c4 S rfl rfl T6.out.o4 rfl (by have := HS.out; omega) (by have := T6.out.gr_.size; omega) ?_; intro A5 c5 v7 o7 g7 b7; have T7 := Lib.hid (T6.out.push4 o7 g7 b7); clear o7 g7 b7)
        go_roundw
        case rel => exact ⟨k + 1, A5, c5, S ++ [3], by go_num, by rw [List.length_append]; rfl, by rw [List.length_append, HS.out]; rfl, by omega, T7.out⟩
        case measure => simp [intOf] <;> omega
      · obtain rfl : k = (endL P).length := by omega
        have ik : ¬ ((endL P).length : Int) < ((endL P).length : Int) := by omega
        go_wp2_with fail
        refine (one_c g _ 4 _ T6.out.cur (by omega) (by omega)).mono ?_
        rintro e v7 ⟨u, rfl, ⟨b, rfl⟩, hc7, hg7⟩
        have T7 := Lib.hid (T6.out.cur_ hg7 hc7)
        clear hc7 hg7 T6
        cases b
        · obtain ⟨⟨r0, r1, r2, r3⟩, r4, r5, r6⟩ := T7.out.br
          obtain ⟨k0, k1, k2, k3⟩ := T7.out.bx
          go_wp2_with fail
          exact bodyPost_ret (v := .tuple #[mkV A1 P.length c1 A2 W.length c2 A3 F.length c3, .slice A4 S.length c4]) (by simp [results, Try.results30, go_sem, r0, r1, r2]) rfl (PlD.out T7.out (by omega) (by omega) (by omega) (by have := HS.out; omega) rfl HB.out)
        · have hS0 : 0 < S.length := by rw [HS.out]; exact HE0.out
          have iS : (0 : Int) < (S.length : Int) := by omega
          obtain ⟨a4, rfl, _, _⟩ := T7.out.o4.form hS0
          have R0 := (Own.lit v7 [1, 0, 20, 21] (by decide)).rd
          have bl7 : Below v7.heap.size v7 (v7.alloc (.cells (ints [1, 0, 20, 21]).toArray 3)) := (Below.refl _ _).alloc (Nat.le_refl _) _
          have HV7 := Lib.hid T7.out.gr_.size
          have T8 := Lib.hid (T7.out.below bl7)
          clear T7
          go_wp2_with fail
          refine (among_c g _ _ [1, 0, 20, 21] _ _ _ T8.out.cur (by omega) R0 (fun ad e => by injection e with e; have := T8.out.g0; have := HV7.out; rw [← e]; show v7.heap.size ≠ g; omega) rfl (by decide) (by decide)).mono ?_
          rintro e v9 ⟨u, rfl, ⟨q, hq, rfl⟩, hc9, hg9⟩
          have T9 := Lib.hid (T8.out.cur_ hg9 hc9)
          generalize nth [1, 0, 20, 21] q = z at *
          clear hq hc9 hg9 R0 bl7 T8
          have fz := T9.out.o4.frozen 0
          have qx := T9.out.o4.cellN hS0
          have T10 := Lib.hid (T9.out.set4 0 z)
          obtain ⟨⟨r0, r1, r2, r3⟩, r4, r5, r6⟩ := T10.out.br
          obtain ⟨k0, k1, k2, k3⟩ := T10.out.bx
          go_wp2_with fail
          have R := PlD.out T10.out (by omega) (by omega) (by omega) (by rw [List.length_set]; have := HS.out; omega) rfl HB.out
          rw [List.length_set] at R
          exact bodyPost_ret (v := .tuple #[mkV A1 P.length c1 A2 W.length c2 A3 F.length c3, .slice (some ⟨a4, 0, none⟩) S.length c4]) (by simp [results, Try.results30, go_sem, r0, r1, r2]) rfl R
end Go.Proofs.Ytnhclpajfejnoaa
