/- Draws of markets with claims, holdings, starts. -/
import Derived.Test.YtnhclpajfejnoaaDrK
import Derived.Test.YtnhclpajfejnoaaByt
import Derived.Test.YtnhclpajfejnoaaWoM
namespace Go.Proofs.Ytnhclpajfejnoaa
open Go.RowKit

theorem below_box6 {w w1 w2 : World} {o : Obj} {o2 : Obj} (h1 : w1 = (w.alloc o2).alloc o) (h : w1.grownBy w2 (some (w.heap.size + 1))) : Below w.heap.size w w2 := by
  subst h1
  exact (((Below.refl _ _).alloc (Nat.le_refl _) o2).alloc (by simp) o).grown h (by simp; omega) (fun b e => by injection e with e; omega)
/-- A market and a number have been drawn. -/
def MkNDrawn (w : World) (e : Ending) (w' : World) : Prop := ∃ A1 c1 P A2 c2 W A3 c3 F, ∃ k : Int, e = .returned (.tuple #[mkV A1 P.length c1 A2 W.length c2 A3 F.length c3, .int .i64 k]) ∧ P.length ≤ 60 ∧ W.length ≤ 60 ∧ F.length ≤ 60 ∧ RdM w' A1 P A2 W A3 F ∧ Below w.heap.size w w'
set_option maxRecDepth 20000 in
set_option maxHeartbeats 1000000 in
theorem drawCa_c (A : Option Addr) (bs : List Int) (c : Nat) (w : World) (hr : Rd w A (u8s bs)) (hb : ByOk bs) (hl : bs.length ≤ 65537) :
    Calls Try.prog 8 #[.slice A bs.length c] w (MkNDrawn w) := by
  have B0 := (Bz.new w (.slice none 0 0) (.slice none 0 0) (.slice none 0 0) 28).below ((Below.refl _ _).alloc (Nat.le_refl _) (.cells #[.slice A bs.length c, .int .i64 0, .int .u64 0] 75))
  have hC := CurS.new (w.alloc (.cells #[.slice none 0 0, .slice none 0 0, .slice none 0 0] 28)) A bs c 75 (hr.alloc _) hb (by omega)
  rw [World.size_alloc] at hC
  go_enter Try.func8, Try.ntmps8
  go_wp2_with fail
  refine (market_c _ _ _ hC (by omega)).mono ?_
  rintro e w2 ⟨A1, c1, P, A2, c2, W, A3, c3, F, rfl, hP, hW, hF, o1, o2, o3, hc, hg⟩
  have B2 := B0.grownR hg (by intro e; injection e with e; omega)
  have R0 := (Own.lit w2 [5, 3, 8, 0, 20, 21, -1, 10] (by decide)).rd
  have bl : Below w2.heap.size w2 (w2.alloc (.cells (ints [5, 3, 8, 0, 20, 21, -1, 10]).toArray 3)) := (Below.refl _ _).alloc (Nat.le_refl _) _
  have hz := hg.size
  simp only [World.size_alloc] at hz o1 o2 o3
  go_wp2_with fail
  refine (among_c _ _ _ [5, 3, 8, 0, 20, 21, -1, 10] _ _ _ (hc.below bl) (by omega) R0 (fun ad e => by injection e with e; rw [← e]; show w2.heap.size ≠ _; omega) rfl (by decide) (by decide)).mono ?_
  rintro e w3 ⟨u, rfl, ⟨q, hq, rfl⟩, hc3, hg3⟩
  have hg2 : (((w.alloc (.cells #[.slice none 0 0, .slice none 0 0, .slice none 0 0] 28)).alloc (.cells #[.slice A bs.length c, .int .i64 0, .int .u64 0] 75))).grownBy w3 (some (w.heap.size + 1)) := (grown_low hg bl).trans hg3
  have B3 := (B2.below bl).grownR hg3 (by intro e; injection e with e; omega)
  have p1 := ((o1.below bl).grown hg3 (own_apart (o1.below bl) (by omega)))
  have p2 := ((o2.below bl).grown hg3 (own_apart (o2.below bl) (by omega)))
  have p3 := ((o3.below bl).grown hg3 (own_apart (o3.below bl) (by omega)))
  have HB := below_box6 rfl hg2
  have gs : w3.grownBy (((w3.setCell ⟨w.heap.size, 0, none⟩ (.slice A1 P.length c1)).setCell ⟨w.heap.size, 1, none⟩ (.slice A2 W.length c2)).setCell ⟨w.heap.size, 2, none⟩ (.slice A3 F.length c3)) (some w.heap.size) := ((grown_setCell w3 ⟨w.heap.size, 0, none⟩ _).trans (grown_setCell _ ⟨w.heap.size, 1, none⟩ _)).trans (grown_setCell _ ⟨w.heap.size, 2, none⟩ _)
  have HB2 := HB.grown gs HB.size (fun b e => by injection e with e; omega)
  have R1 := (p1.grown gs (own_apart p1 (by omega))).rd
  have R2 := (p2.grown gs (own_apart p2 (by omega))).rd
  have R3 := (p3.grown gs (own_apart p3 (by omega))).rd
  obtain ⟨⟨k0, k1, k2, k3⟩, k4, k5, k6⟩ := id B3
  generalize nth [5, 3, 8, 0, 20, 21, -1, 10] q = k at *
  clear hC B0 B2 R0 hc hc3 hg hg3 hg2 gs p1 p2 p3 o1 o2 o3 hq
  go_wp2_with fail
  exact bodyPost_ret (v := .tuple #[mkV A1 P.length c1 A2 W.length c2 A3 F.length c3, .int .i64 k]) (by simp [results, Try.results8, go_sem, k0, k1, k2]) rfl ⟨A1, c1, P, A2, c2, W, A3, c3, F, k, rfl, hP, hW, hF, ⟨R1, R2, R3, by omega, by omega, by omega⟩, HB2⟩

def IsNumM (v : Value) : Prop := ∃ x : Int, v = .int .i64 x
set_option maxRecDepth 20000 in
set_option maxHeartbeats 1000000 in
theorem start_c (g : Nat) (N : Int) (w : World) (h : CurS w g N) (hN : N ≤ 900000) :
    Calls Try.prog 90 #[.pointer (some ⟨g, 0, none⟩)] w (CurPost w g (N + 4) IsNumM) := by
  have hgw : g < w.heap.size := by
    obtain ⟨_, _, _, _, _, h⟩ := h
    exact h.lt
  go_enter Try.func90, Try.ntmps90
  go_wp2_with fail
  refine (one_c g _ 24 _ h (by omega) (by omega)).mono ?_
  rintro e w2 ⟨u, rfl, ⟨b, rfl⟩, hc, hg⟩
  cases b
  · go_wp2_with fail
    refine (pick_c g _ 30 _ hc (by omega) (by omega)).mono ?_
    rintro e w3 ⟨u, rfl, ⟨x, rfl, hx0, hx1⟩, hc3, hg3⟩
    have e1 : IntKind.i64.wrap (x - 5) = x - 5 := IntWalk.i64_in _ (by omega)
    go_wp2_with fail
    go_ret
    exact ⟨_, rfl, ⟨_, rfl⟩, hc3.mono (by omega), hg.trans hg3⟩
  · have R0 := (Own.lit w2 [999, -999, 1000, -1000] (by decide)).rd
    have bl : Below w2.heap.size w2 (w2.alloc (.cells (ints [999, -999, 1000, -1000]).toArray 3)) := (Below.refl _ _).alloc (Nat.le_refl _) _
    have hz := hg.size
    go_wp2_with fail
    refine (among_c g _ _ [999, -999, 1000, -1000] _ _ _ (hc.below bl) (by omega) R0 (fun ad e => by injection e with e; rw [← e]; show w2.heap.size ≠ g; omega) rfl (by decide) (by decide)).mono ?_
    rintro e w3 ⟨u, rfl, ⟨q, hq, rfl⟩, hc3, hg3⟩
    go_wp2_with fail
    go_ret
    exact ⟨_, rfl, ⟨_, rfl⟩, hc3.mono (by omega), (grown_low hg bl).trans hg3⟩
theorem Rd.cur {w w' : World} {g : Nat} {A : Option Addr} {cs : List Value} (h : Rd w A cs) (hk : w.grownBy w' (some g)) (hA : ∀ ad, A = some ad → ad.block ≠ g) : Rd w' A cs :=
  h.grown hk fun ad e e2 => hA ad e (by injection e2)
set_option maxRecDepth 20000 in
set_option maxHeartbeats 4000000 in
theorem holdings_c (g : Nat) (N : Int) (w : World) (h : CurS w g N) (hN : N ≤ 900000) (A1 : Option Addr) (n1 c1 : Nat) (A2 : Option Addr) (W : List Int) (c2 : Nat) (A3 : Option Addr) (n3 c3 : Nat) (r2 : Rd w A2 (ints W)) (_hW : W.length ≤ 60) (hA : ∀ ad, A2 = some ad → ad.block ≠ g) :
    Calls Try.prog 91 #[.pointer (some ⟨g, 0, none⟩), mkV A1 n1 c1 A2 W.length c2 A3 n3 c3] w (RowPost w g (N + 100) 24) := by
  have hgw : g < w.heap.size := by
    obtain ⟨_, _, _, _, _, h⟩ := h
    exact h.lt
  have b0 : Below w.heap.size w ((w.alloc (.cells #[.slice A1 n1 c1, .slice A2 W.length c2, .slice A3 n3 c3] 28)).alloc (.cells #[] 3)) := ((Below.refl _ _).alloc (Nat.le_refl _) _).alloc (by simp) _
  have bx := (Bx3.new w (.slice A1 n1 c1) (.slice A2 W.length c2) (.slice A3 n3 c3) 28).alloc (.cells #[] 3)
  have o0 := (Own.lit (w.alloc (.cells #[.slice A1 n1 c1, .slice A2 W.length c2, .slice A3 n3 c3] 28)) [] (by decide)).mono (B' := w.heap.size + 1) (by simp)
  simp only [World.size_alloc] at o0
  have G0 : w.grownBy ((w.alloc (.cells #[.slice A1 n1 c1, .slice A2 W.length c2, .slice A3 n3 c3] 28)).alloc (.cells #[] 3)) (some g) := grown_of_below b0 _
  have hc0 := h.below b0
  go_enter Try.func91, Try.ntmps91
  go_wp2_with fail
  go_loopw [5, 6] (fun o q wr => ∃ (A : Option Addr) (c : Nat) (xs : List Int), q = .int .i64 (xs.length : Int) ∧ o = .slice A xs.length c ∧ xs.length ≤ 24 ∧ xs.length ≤ W.length ∧ Own wr (w.heap.size + 1) A c xs ∧ CurS wr g (N + 2 * (xs.length : Int)) ∧ w.grownBy wr (some g) ∧ Bx3 wr w.heap.size (.slice A1 n1 c1) (.slice A2 W.length c2) (.slice A3 n3 c3)) (fun _ q _ => 24 - (intOf q).toNat)
  case atStart => exact ⟨_, 0, [], rfl, rfl, by simp, by simp, o0, hc0.mono (by simp), G0, bx⟩
  case round =>
    clear o0 hc0 G0 bx b0 h
    obtain ⟨v, rfl⟩ : ∃ v : World, v = wr := ⟨_, rfl⟩
    obtain ⟨A, c, xs, rfl, rfl, hx24, hxW, o, hc, hgr, bx⟩ := hrel
    have hgv := hgr.size
    have hbl := bx.2.2.2
    obtain ⟨k0, k1, k2, k3⟩ := id bx
    have fin : ∀ (v2 : World) (y : Int), v.grownBy v2 (some g) → CurS v2 g (N + 2 * (xs.length : Int) + 2) → True := fun _ _ _ _ => trivial
    clear fin
    by_cases hlt : xs.length < W.length
    · by_cases hl24 : xs.length < 24
      · have i1 : (xs.length : Int) < (W.length : Int) := by omega
        have i2 : (xs.length : Int) < 24 := by omega
        obtain ⟨ad, rfl, q1⟩ := (r2.cur hgr hA).intN hlt
        by_cases hz : nth W xs.length = 0
        · rw [hz] at q1
          go_wp2_with fail
          refine (pick_c g _ 7 _ hc (by omega) (by omega)).mono ?_
          rintro e v2 ⟨u, rfl, ⟨x, rfl, hx0, hx1⟩, hc2, hg2⟩
          have e1 : IntKind.i64.wrap (x - 3) = x - 3 := IntWalk.i64_in _ (by omega)
          have o2 := o.grown hg2 (own_apart o (by omega))
          have hgr2 := hgr.trans hg2
          have hgv2 := hgr2.size
          have bx2 := bx.grown hg2 (by omega)
          clear hc o hgr k0 k1 k2 k3 q1 bx hx0 hx1 hbl
          go_wp2_with (at_builtin; refine wp_append1 v2 (x - 3) _ rfl _ _ rfl (w.heap.size + 1) A xs.length c xs rfl rfl o2 rfl (by omega) bx2.2.2.2 ?_; intro A5 c5 v5 o5 g5 b5)
          go_roundw
          case rel => exact ⟨A5, c5, xs ++ [x - 3], by simp, by simp, by simp; omega, by simp; omega, o5, (hc2.grown g5 (fun b e => by have := o2.ge b e; omega)).mono (by simp; omega), grown_new hgr2 g5 (fun b e => by have := o2.ge b e; omega), bx2.grownR g5 (fun e => by have := o2.ge w.heap.size e; omega)⟩
          case measure => simp [intOf] <;> omega
        · have hz' : (nth W xs.length == 0) = false := by simpa using hz
          generalize nth W xs.length = z at *
          go_wp2_with (at_builtin; refine wp_append1 v 0 _ rfl _ _ rfl (w.heap.size + 1) A xs.length c xs rfl rfl o rfl (by omega) hbl ?_; intro A5 c5 v5 o5 g5 b5)
          go_roundw
          case rel => exact ⟨A5, c5, xs ++ [0], by simp, by simp, by simp; omega, by simp; omega, o5, (hc.grown g5 (fun b e => by have := o.ge b e; omega)).mono (by simp; omega), grown_new hgr g5 (fun b e => by have := o.ge b e; omega), bx.grownR g5 (fun e => by have := o.ge w.heap.size e; omega)⟩
          case measure => simp [intOf] <;> omega
      · have i1 : (xs.length : Int) < (W.length : Int) := by omega
        have i2 : ¬ (xs.length : Int) < 24 := by omega
        by_cases h0 : 0 < xs.length
        · have j0 : (0 : Int) < (xs.length : Int) := by omega
          obtain ⟨ga, rfl, hga, _⟩ := o.form h0
          go_wp2_with fail
          refine (one_c g _ 20 _ hc (by omega) (by omega)).mono ?_
          rintro e v2 ⟨u, rfl, ⟨b, rfl⟩, hc2, hg2⟩
          have o2 := o.grown hg2 (own_apart o (by omega))
          have hgr2 := hgr.trans hg2
          clear hc o hgr hg2 k0 k1 k2 k3
          cases b
          · go_wp2_with fail
            go_ret
            exact ⟨_, c, xs, rfl, hx24, o2.mono (by omega), hc2.mono (by omega), hgr2⟩
          · go_wp2_with fail
            refine (pick_c g _ (xs.length : Int) _ hc2 (by omega) (by omega)).mono ?_
            rintro e v3 ⟨u, rfl, ⟨x, rfl, hx0, hx1⟩, hc3, hg3⟩
            have o3 := o2.grown hg3 (own_apart o2 (by omega))
            have hgr3 := hgr2.trans hg3
            have hgv3 := hgr3.size
            obtain ⟨x, rfl⟩ : ∃ x' : Nat, x = (x' : Int) := ⟨x.toNat, by omega⟩
            have hxl : x < xs.length := by omega
            have ixl : (x : Int) < (xs.length : Int) := by omega
            have R0 := (Own.lit v3 [1, 99, 100, -99, -100] (by decide)).rd
            have bl : Below v3.heap.size v3 (v3.alloc (.cells (ints [1, 99, 100, -99, -100]).toArray 3)) := (Below.refl _ _).alloc (Nat.le_refl _) _
            clear hc2 hg3 hgr2 o2 hx0 hx1
            go_wp2_with fail
            refine (among_c g _ _ [1, 99, 100, -99, -100] _ _ _ (hc3.below bl) (by omega) R0 (fun ad e => by injection e with e; rw [← e]; show v3.heap.size ≠ g; omega) rfl (by decide) (by decide)).mono ?_
            rintro e v4 ⟨u, rfl, ⟨q, hq, rfl⟩, hc4, hg4⟩
            have o4 := (o3.below bl).grown hg4 (own_apart (o3.below bl) (by omega))
            have hgr4 := (grown_low hgr3 bl).trans hg4
            generalize nth [1, 99, 100, -99, -100] q = y at *
            have qy := o4.cellN hxl
            have fz := o4.frozen x
            have st := o4.set x y
            have hc5 := hc4.grown st.2 (fun b e => by injection e with e; omega)
            have hgr5 := grown_new hgr4 st.2 (fun b e => by injection e with e; omega)
            clear o4 hc4 hgr4 R0 bl hc3 hgr3 o3 hg4 hq
            go_wp2_with fail
            go_ret
            exact ⟨_, c, xs.set x y, by rw [List.length_set] <;> rfl, by rw [List.length_set]; exact hx24, st.1.mono (by omega), hc5.mono (by omega), hgr5⟩
        · omega
    · have i1 : ¬ (xs.length : Int) < (W.length : Int) := by omega
      by_cases h0 : 0 < xs.length
      · have j0 : (0 : Int) < (xs.length : Int) := by omega
        obtain ⟨ga, rfl, hga, _⟩ := o.form h0
        go_wp2_with fail
        refine (one_c g _ 20 _ hc (by omega) (by omega)).mono ?_
        rintro e v2 ⟨u, rfl, ⟨b, rfl⟩, hc2, hg2⟩
        have o2 := o.grown hg2 (own_apart o (by omega))
        have hgr2 := hgr.trans hg2
        clear hc o hgr hg2 k0 k1 k2 k3
        cases b
        · go_wp2_with fail
          go_ret
          exact ⟨_, c, xs, rfl, hx24, o2.mono (by omega), hc2.mono (by omega), hgr2⟩
        · go_wp2_with fail
          refine (pick_c g _ (xs.length : Int) _ hc2 (by omega) (by omega)).mono ?_
          rintro e v3 ⟨u, rfl, ⟨x, rfl, hx0, hx1⟩, hc3, hg3⟩
          have o3 := o2.grown hg3 (own_apart o2 (by omega))
          have hgr3 := hgr2.trans hg3
          have hgv3 := hgr3.size
          obtain ⟨x, rfl⟩ : ∃ x' : Nat, x = (x' : Int) := ⟨x.toNat, by omega⟩
          have hxl : x < xs.length := by omega
          have ixl : (x : Int) < (xs.length : Int) := by omega
          have R0 := (Own.lit v3 [1, 99, 100, -99, -100] (by decide)).rd
          have bl : Below v3.heap.size v3 (v3.alloc (.cells (ints [1, 99, 100, -99, -100]).toArray 3)) := (Below.refl _ _).alloc (Nat.le_refl _) _
          clear hc2 hg3 hgr2 o2 hx0 hx1
          go_wp2_with fail
          refine (among_c g _ _ [1, 99, 100, -99, -100] _ _ _ (hc3.below bl) (by omega) R0 (fun ad e => by injection e with e; rw [← e]; show v3.heap.size ≠ g; omega) rfl (by decide) (by decide)).mono ?_
          rintro e v4 ⟨u, rfl, ⟨q, hq, rfl⟩, hc4, hg4⟩
          have o4 := (o3.below bl).grown hg4 (own_apart (o3.below bl) (by omega))
          have hgr4 := (grown_low hgr3 bl).trans hg4
          generalize nth [1, 99, 100, -99, -100] q = y at *
          have qy := o4.cellN hxl
          have fz := o4.frozen x
          have st := o4.set x y
          have hc5 := hc4.grown st.2 (fun b e => by injection e with e; omega)
          have hgr5 := grown_new hgr4 st.2 (fun b e => by injection e with e; omega)
          clear o4 hc4 hgr4 R0 bl hc3 hgr3 o3 hg4 hq
          go_wp2_with fail
          go_ret
          exact ⟨_, c, xs.set x y, by rw [List.length_set] <;> rfl, by rw [List.length_set]; exact hx24, st.1.mono (by omega), hc5.mono (by omega), hgr5⟩
      · have j0 : ¬ (0 : Int) < (xs.length : Int) := by omega
        go_wp2_with fail
        go_ret
        exact ⟨A, c, xs, rfl, hx24, o.mono (by omega), hc.mono (by omega), hgr⟩
noncomputable def cl4 : Code := ((Try.f118.body.bind (restFrom 4)).getD .skip)
set_option maxRecDepth 20000 in
set_option maxHeartbeats 4000000 in
theorem clTail {w0 w : World} {g : Nat} {N : Int} (n : Nat) (hn : n ≤ 24) (hN : N ≤ 900000) {A : Option Addr} {c : Nat} (o0 : Own w (w0.heap.size + 1) A c []) (hc0 : CurS w g N) (G0 : w0.grownBy w (some g)) (hgw : g < w0.heap.size) (hz0 : w0.heap.size + 1 ≤ w.heap.size) (u1 u2 u3 u4 u7 u8 u9 u10 u11 u12 u13 u14 u15 u16 u17 u18 u19 u20 u21 u22 u23 u24 u25 u26 u27 u28 u29 u30 u31 u32 u33 u34 u35 u36 u37 u38 u39 u40 u41 u42 u43 u44 u45 u46 : Value) :
    Code.wp Try.prog cl4 (bodyPost Try.prog Try.f118 (RowPost w0 g (N + 90) 25)) ⟨#[.pointer (some ⟨g, 0, none⟩), u1, u2, u3, u4, .slice A 0 c, .int .i64 (n : Int), u7, u8, u9, u10, u11, u12, u13, u14, u15, u16, u17, u18, u19, u20, u21, u22, u23, u24, u25, u26, u27, u28, u29, u30, u31, u32, u33, u34, u35, u36, u37, u38, u39, u40, u41, u42, u43, u44, u45, u46], []⟩ w := by
  conv => arg 2; whnf
  go_wp2_with fail
  go_loopw [5, 7] (fun o q wr => ∃ (A : Option Addr) (c j : Nat) (xs : List Int), q = .int .i64 (j : Int) ∧ o = .slice A j c ∧ xs.length = j ∧ j ≤ n ∧ Own wr (w0.heap.size + 1) A c xs ∧ CurS wr g (N + 2 * (j : Int)) ∧ w0.grownBy wr (some g) ∧ w0.heap.size + 1 ≤ wr.heap.size) (fun _ q _ => n - (intOf q).toNat)
  case atStart => exact ⟨A, c, 0, [], rfl, rfl, rfl, by omega, o0, hc0.mono (by simp), G0, hz0⟩
  case round =>
    clear o0 hc0 G0 hz0
    obtain ⟨v, rfl⟩ : ∃ v : World, v = wr := ⟨_, rfl⟩
    obtain ⟨A, c, j, xs, rfl, rfl, hxl, hj, o, hc, hgr, hz⟩ := hrel
    have HXL := Lib.hid hxl
    clear hxl
    by_cases hlt : j < n
    · go_wp2_with fail
      refine (pick_c g _ 21 _ hc (by omega) (by omega)).mono ?_
      rintro e v2 ⟨u, rfl, ⟨x, rfl, hx0, hx1⟩, hc2, hg2⟩
      have e1 : IntKind.i64.wrap (x - 8) = x - 8 := IntWalk.i64_in _ (by omega)
      have o2 := o.grown hg2 (own_apart o (by omega))
      have hgr2 := hgr.trans hg2
      have hz2 := Nat.le_trans hz hg2.size
      clear hc o hgr hx0 hx1 hz hg2
      go_wp2_with (at_builtin; refine wp_append1 v2 (x - 8) _ rfl _ _ rfl (w0.heap.size + 1) A j c xs rfl HXL.out.symm o2 rfl (by rw [HXL.out]; omega) hz2 ?_; intro A5 c5 v5 o5 g5 b5)
      go_roundw
      case rel => exact ⟨A5, c5, j + 1, xs ++ [x - 8], by go_num, rfl, by rw [List.length_append, HXL.out]; rfl, by omega, o5, (hc2.grown g5 (fun b e => by have := o2.ge b e; omega)).mono (by omega), grown_new hgr2 g5 (fun b e => by have := o2.ge b e; omega), Nat.le_trans hz2 g5.size⟩
      case measure => simp [intOf] <;> omega
    · obtain rfl : j = n := by omega
      by_cases h0 : 0 < j
      · have i0 : (0 : Int) < (j : Int) := by omega
        obtain ⟨ga, rfl, hga, _⟩ := o.form (by rw [HXL.out]; exact h0)
        go_wp2_with fail
        refine (one_c g _ 30 _ hc (by omega) (by omega)).mono ?_
        rintro e v2 ⟨u, rfl, ⟨b, rfl⟩, hc2, hg2⟩
        have o2 := o.grown hg2 (own_apart o (by omega))
        have hgr2 := hgr.trans hg2
        have hz2 := Nat.le_trans hz hg2.size
        clear hc o hgr hg2 hz
        cases b
        · go_wp2_with fail
          refine (one_c g _ 40 _ hc2 (by omega) (by omega)).mono ?_
          rintro e x2 ⟨u, rfl, ⟨b, rfl⟩, jc, jg⟩
          have jo := o2.grown jg (own_apart o2 (by omega))
          have jgr := hgr2.trans jg
          have jz := jgr.size
          cases b
          · go_wp2_with fail
            go_ret
            exact ⟨_, c, xs, by first | rfl | (rw [HXL.out] <;> rfl), by rw [HXL.out]; omega, jo.mono (by omega), jc.mono (by omega), jgr⟩
          · go_wp2_with (at_builtin; refine wp_append1 x2 1 _ rfl _ _ rfl w0.heap.size (some ⟨ga, 0, none⟩) _ c xs rfl HXL.out.symm (jo.mono (by omega)) rfl (by rw [HXL.out]; omega) jz ?_; intro A5 c5 v5 o5 g5 b5)
            go_ret
            exact ⟨A5, c5, xs ++ [1], by rw [List.length_append, HXL.out] <;> rfl, by rw [List.length_append, HXL.out]; simp; omega, o5, (jc.grown g5 (fun b e => by have := jo.ge b e; omega)).mono (by omega), grown_new jgr g5 (fun b e => by have := jo.ge b e; omega)⟩
        · go_wp2_with fail
          refine (pick_c g _ (j : Int) _ hc2 (by omega) (by omega)).mono ?_
          rintro e v3 ⟨u, rfl, ⟨x, rfl, hx0, hx1⟩, hc3, hg3⟩
          have o3 := o2.grown hg3 (own_apart o2 (by omega))
          have hgr3 := hgr2.trans hg3
          have hz3 := Nat.le_trans hz2 hg3.size
          obtain ⟨x, rfl⟩ : ∃ x' : Nat, x = (x' : Int) := ⟨x.toNat, by omega⟩
          have hxj : x < j := by omega
          have hxl : x < xs.length := by rw [HXL.out]; exact hxj
          have ixl : (x : Int) < (j : Int) := by omega
          have R0 := (Own.lit v3 [99, -99, 100, -100] (by decide)).rd
          have bl : Below v3.heap.size v3 (v3.alloc (.cells (ints [99, -99, 100, -100]).toArray 3)) := (Below.refl _ _).alloc (Nat.le_refl _) _
          clear hc2 hg3 hgr2 o2 hx0 hx1
          go_wp2_with fail
          refine (among_c g _ _ [99, -99, 100, -100] _ _ _ (hc3.below bl) (by omega) R0 (fun ad e => by injection e with e; rw [← e]; show v3.heap.size ≠ g; omega) rfl (by decide) (by decide)).mono ?_
          rintro e v4 ⟨u, rfl, ⟨q, hq, rfl⟩, hc4, hg4⟩
          have o4 := (o3.below bl).grown hg4 (own_apart (o3.below bl) (by omega))
          have hgr4 := (grown_low hgr3 bl).trans hg4
          generalize nth [99, -99, 100, -100] q = y at *
          have qy := o4.cellN hxl
          have fz := o4.frozen x
          have st := o4.set x y
          have hc5 := hc4.grown st.2 (fun b e => by injection e with e; omega)
          have hgr5 := grown_new hgr4 st.2 (fun b e => by injection e with e; omega)
          have o5 := st.1
          have HXL : Hid ((xs.set x y).length = j) := Lib.hid (by rw [List.length_set]; exact HXL.out)
          clear o4 hc4 hgr4 R0 bl hc3 hgr3 o3 hg4 hq hxl st
          go_wp2_with fail
          refine (one_c g _ 40 _ hc5 (by omega) (by omega)).mono ?_
          rintro e x2 ⟨u, rfl, ⟨b, rfl⟩, jc, jg⟩
          have jo := o5.grown jg (own_apart o5 (by omega))
          have jgr := hgr5.trans jg
          have jz := jgr.size
          cases b
          · go_wp2_with fail
            go_ret
            exact ⟨_, c, (xs.set x y), by first | rfl | (rw [HXL.out] <;> rfl), by rw [HXL.out]; omega, jo.mono (by omega), jc.mono (by omega), jgr⟩
          · go_wp2_with (at_builtin; refine wp_append1 x2 1 _ rfl _ _ rfl w0.heap.size (some ⟨ga, 0, none⟩) _ c (xs.set x y) rfl HXL.out.symm (jo.mono (by omega)) rfl (by rw [HXL.out]; omega) jz ?_; intro A5 c5 v5 o5 g5 b5)
            go_ret
            exact ⟨A5, c5, (xs.set x y) ++ [1], by rw [List.length_append, HXL.out] <;> rfl, by rw [List.length_append, HXL.out]; simp; omega, o5, (jc.grown g5 (fun b e => by have := jo.ge b e; omega)).mono (by omega), grown_new jgr g5 (fun b e => by have := jo.ge b e; omega)⟩
      · have i0 : ¬ (0 : Int) < (j : Int) := by omega
        go_wp2_with fail
        refine (one_c g _ 40 _ hc (by omega) (by omega)).mono ?_
        rintro e x2 ⟨u, rfl, ⟨b, rfl⟩, jc, jg⟩
        have jo := o.grown jg (own_apart o (by omega))
        have jgr := hgr.trans jg
        have jz := jgr.size
        cases b
        · go_wp2_with fail
          go_ret
          exact ⟨_, c, xs, by first | rfl | (rw [HXL.out] <;> rfl), by rw [HXL.out]; omega, jo.mono (by omega), jc.mono (by omega), jgr⟩
        · go_wp2_with (at_builtin; refine wp_append1 x2 1 _ rfl _ _ rfl w0.heap.size A _ c xs rfl HXL.out.symm (jo.mono (by omega)) rfl (by rw [HXL.out]; omega) jz ?_; intro A5 c5 v5 o5 g5 b5)
          go_ret
          exact ⟨A5, c5, xs ++ [1], by rw [List.length_append, HXL.out] <;> rfl, by rw [List.length_append, HXL.out]; simp; omega, o5, (jc.grown g5 (fun b e => by have := jo.ge b e; omega)).mono (by omega), grown_new jgr g5 (fun b e => by have := jo.ge b e; omega)⟩
set_option maxRecDepth 20000 in
set_option maxHeartbeats 4000000 in
theorem claims_c (g : Nat) (N : Int) (w : World) (h : CurS w g N) (hN : N ≤ 900000) (A1 : Option Addr) (P : List Int) (c1 : Nat) (A2 : Option Addr) (W : List Int) (c2 : Nat) (A3 : Option Addr) (n3 c3 : Nat) (r1 : Rd w A1 (ints P)) (r2 : Rd w A2 (ints W)) (hP : P.length ≤ 60) (hW : W.length ≤ 60) :
    Calls Try.prog 118 #[.pointer (some ⟨g, 0, none⟩), mkV A1 P.length c1 A2 W.length c2 A3 n3 c3] w (RowPost w g (N + 90) 25) := by
  have hgw : g < w.heap.size := by
    obtain ⟨_, _, _, _, _, h⟩ := h
    exact h.lt
  have b0 : Below w.heap.size w ((w.alloc (.cells #[.slice A1 P.length c1, .slice A2 W.length c2, .slice A3 n3 c3] 28)).alloc (.cells #[] 3)) := ((Below.refl _ _).alloc (Nat.le_refl _) _).alloc (by simp) _
  have bx := (Bx3.new w (.slice A1 P.length c1) (.slice A2 W.length c2) (.slice A3 n3 c3) 28).alloc (.cells #[] 3)
  have o0 := (Own.lit (w.alloc (.cells #[.slice A1 P.length c1, .slice A2 W.length c2, .slice A3 n3 c3] 28)) [] (by decide)).mono (B' := w.heap.size + 1) (by simp)
  simp only [World.size_alloc] at o0
  have G0 : w.grownBy ((w.alloc (.cells #[.slice A1 P.length c1, .slice A2 W.length c2, .slice A3 n3 c3] 28)).alloc (.cells #[] 3)) (some g) := grown_of_below b0 _
  have hc0 := h.below b0
  have r1b := r1.below b0 (Nat.le_refl _)
  have r2b := r2.below b0 (Nat.le_refl _)
  obtain ⟨k0, k1, k2, k3⟩ := id bx
  go_enter Try.func118, Try.ntmps118
  go_upto_region 2 with fail
  rename_i K1 hK1 K0 hK0
  replace hK1 := Lib.hid hK1
  have CG := l2Good_c A1 P c1 A2 W c2 _ r1b r2b (by omega) (by omega)
  cases ht : treeB P W
  · rw [ht] at CG
    go_wp2_with fail
    refine CG.mono ?_
    rintro e w2 ⟨rfl, b2⟩
    have b3 := b0.trans (b2.mono (by simp; omega))
    go_wp2_with fail
    refine hK1.out _ _ ?_
    exact (clTail 3 (by decide) (by omega) (o0.below b2) (h.below b3) (grown_of_below b3 _) hgw (by have := b2.size; simp at this; omega) _ _ _ _ _ _ _ _ _ _ _ _ _ _ _ _ _ _ _ _ _ _ _ _ _ _ _ _ _ _ _ _ _ _ _ _ _ _ _ _ _ _ _ _)
  · have T := treeB_iff.1 ht
    have HL : (endL P).length ≤ 24 := Nat.le_trans (enTo_len P P.length) T.n2
    rw [ht] at CG
    go_wp2_with fail
    refine CG.mono ?_
    rintro e w2 ⟨rfl, b2⟩
    have b3 := b0.trans (b2.mono (by simp; omega))
    have o2 := o0.below b2
    have bx2 := bx.below b2
    clear k0 k1 k2 k3
    obtain ⟨k0, k1, k2, k3⟩ := id bx2
    go_wp2_with fail
    refine (l2Ends_c A1 P c1 A2 W.length c2 _ (r1.below b3 (Nat.le_refl _)) T.par T.n2).mono ?_
    rintro e w4 ⟨Ae, ce, rfl, oe, b4⟩
    have b5 := b3.trans (b4.mono b3.size)
    go_wp2_with fail
    refine hK1.out _ _ ?_
    exact clTail _ HL (by omega) (o2.below b4) (h.below b5) (grown_of_below b5 _) hgw (by have := b2.size; have := b4.size; simp at *; omega) _ _ _ _ _ _ _ _ _ _ _ _ _ _ _ _ _ _ _ _ _ _ _ _ _ _ _ _ _ _ _ _ _ _ _ _ _ _ _ _ _ _ _ _

/-- A market has been drawn. -/
def Mk1Drawn (w : World) (e : Ending) (w' : World) : Prop := ∃ A1 c1 P A2 c2 W A3 c3 F, e = .returned (mkV A1 P.length c1 A2 W.length c2 A3 F.length c3) ∧ P.length ≤ 60 ∧ W.length ≤ 60 ∧ F.length ≤ 60 ∧ Own w' w.heap.size A1 c1 P ∧ Own w' w.heap.size A2 c2 W ∧ Own w' w.heap.size A3 c3 F ∧ Below w.heap.size w w'
/-- A market and a row of numbers. -/
def MkRDrawn (w : World) (e : Ending) (w' : World) : Prop := ∃ A1 c1 P A2 c2 W A3 c3 F A4 c4 X, e = .returned (.tuple #[mkV A1 P.length c1 A2 W.length c2 A3 F.length c3, .slice A4 X.length c4]) ∧ P.length ≤ 60 ∧ W.length ≤ 60 ∧ F.length ≤ 60 ∧ X.length ≤ 60 ∧ RdM w' A1 P A2 W A3 F ∧ Rd w' A4 (ints X) ∧ Below w.heap.size w w'
/-- A market, a number and a row of numbers. -/
def MkNRDrawn (w : World) (e : Ending) (w' : World) : Prop := ∃ A1 c1 P A2 c2 W A3 c3 F, ∃ s : Int, ∃ A4 c4 X, e = .returned (.tuple #[mkV A1 P.length c1 A2 W.length c2 A3 F.length c3, .int .i64 s, .slice A4 X.length c4]) ∧ P.length ≤ 60 ∧ W.length ≤ 60 ∧ F.length ≤ 60 ∧ X.length ≤ 60 ∧ RdM w' A1 P A2 W A3 F ∧ Rd w' A4 (ints X) ∧ Below w.heap.size w w'
theorem set3_grown (w : World) (g : Nat) (x y z : Value) : w.grownBy (((w.setCell ⟨g, 0, none⟩ x).setCell ⟨g, 1, none⟩ y).setCell ⟨g, 2, none⟩ z) (some g) := ((grown_setCell w ⟨g, 0, none⟩ _).trans (grown_setCell _ ⟨g, 1, none⟩ _)).trans (grown_setCell _ ⟨g, 2, none⟩ _)
set_option maxRecDepth 20000 in
set_option maxHeartbeats 1000000 in
theorem drawMk_c (A : Option Addr) (bs : List Int) (c : Nat) (w : World) (hr : Rd w A (u8s bs)) (hb : ByOk bs) (hl : bs.length ≤ 65537) :
    Calls Try.prog 75 #[.slice A bs.length c] w (Mk1Drawn w) := by
  have B0 := (Bz.new w (.slice none 0 0) (.slice none 0 0) (.slice none 0 0) 28).below ((Below.refl _ _).alloc (Nat.le_refl _) (.cells #[.slice A bs.length c, .int .i64 0, .int .u64 0] 75))
  have hC := CurS.new (w.alloc (.cells #[.slice none 0 0, .slice none 0 0, .slice none 0 0] 28)) A bs c 75 (hr.alloc _) hb (by omega)
  rw [World.size_alloc] at hC
  go_enter Try.func75, Try.ntmps75
  go_wp2_with fail
  refine (market_c _ _ _ hC (by omega)).mono ?_
  rintro e w2 ⟨A1, c1, P, A2, c2, W, A3, c3, F, rfl, hP, hW, hF, o1, o2, o3, hc, hg⟩
  have B2 := B0.grownR hg (by intro e; injection e with e; omega)
  have HB := below_box6 rfl hg
  simp only [World.size_alloc] at o1 o2 o3
  have gs := set3_grown w2 w.heap.size (.slice A1 P.length c1) (.slice A2 W.length c2) (.slice A3 F.length c3)
  have HB2 := HB.grown gs HB.size (fun b e => by injection e with e; omega)
  have R1 := (o1.grown gs (own_apart o1 (by omega))).mono (B' := w.heap.size) (by omega)
  have R2 := (o2.grown gs (own_apart o2 (by omega))).mono (B' := w.heap.size) (by omega)
  have R3 := (o3.grown gs (own_apart o3 (by omega))).mono (B' := w.heap.size) (by omega)
  obtain ⟨⟨k0, k1, k2, k3⟩, k4, k5, k6⟩ := id B2
  clear hC B0 B2 hc hg gs o1 o2 o3
  go_wp2_with fail
  exact bodyPost_ret (v := mkV A1 P.length c1 A2 W.length c2 A3 F.length c3) (by simp [results, Try.results75, go_sem, k0, k1, k2]) rfl ⟨A1, c1, P, A2, c2, W, A3, c3, F, rfl, hP, hW, hF, R1, R2, R3, HB2⟩
set_option maxRecDepth 20000 in
set_option maxHeartbeats 1000000 in
theorem drawFg_c (A : Option Addr) (bs : List Int) (c : Nat) (w : World) (hr : Rd w A (u8s bs)) (hb : ByOk bs) (hl : bs.length ≤ 65537) :
    Calls Try.prog 23 #[.slice A bs.length c] w (Mk1Drawn w) := by
  have B0 := Bz.new w (.slice none 0 0) (.slice none 0 0) (.slice none 0 0) 28
  have b0 : Below w.heap.size w (w.alloc (.cells #[.slice none 0 0, .slice none 0 0, .slice none 0 0] 28)) := (Below.refl _ _).alloc (Nat.le_refl _) _
  go_enter Try.func23, Try.ntmps23
  go_wp2_with fail
  refine (drawMk_c A bs c _ (hr.below b0 (Nat.le_refl _)) hb hl).mono ?_
  rintro e w2 ⟨A1, c1, P, A2, c2, W, A3, c3, F, rfl, hP, hW, hF, o1, o2, o3, b2⟩
  simp only [World.size_alloc] at o1 o2 o3
  have B2 := B0.below b2
  have HB := bUp b0 b2 b0.size
  have gs := set3_grown w2 w.heap.size (.slice A1 P.length c1) (.slice A2 W.length c2) (.slice A3 F.length c3)
  have HB2 := HB.grown gs HB.size (fun b e => by injection e with e; omega)
  have R1 := (o1.grown gs (own_apart o1 (by omega))).mono (B' := w.heap.size) (by omega)
  have R2 := (o2.grown gs (own_apart o2 (by omega))).mono (B' := w.heap.size) (by omega)
  have R3 := (o3.grown gs (own_apart o3 (by omega))).mono (B' := w.heap.size) (by omega)
  obtain ⟨⟨k0, k1, k2, k3⟩, k4, k5, k6⟩ := id B2
  clear B0 B2 gs o1 o2 o3
  go_wp2_with fail
  exact bodyPost_ret (v := mkV A1 P.length c1 A2 W.length c2 A3 F.length c3) (by simp [results, Try.results23, go_sem, k0, k1, k2]) rfl ⟨A1, c1, P, A2, c2, W, A3, c3, F, rfl, hP, hW, hF, R1, R2, R3, HB2⟩
set_option maxRecDepth 20000 in
set_option maxHeartbeats 2000000 in
theorem drawUp_c (A : Option Addr) (bs : List Int) (c : Nat) (w : World) (hr : Rd w A (u8s bs)) (hb : ByOk bs) (hl : bs.length ≤ 65537) :
    Calls Try.prog 55 #[.slice A bs.length c] w (MkRDrawn w) := by
  have B0 := (Bz.new w (.slice none 0 0) (.slice none 0 0) (.slice none 0 0) 28).below ((Below.refl _ _).alloc (Nat.le_refl _) (.cells #[.slice A bs.length c, .int .i64 0, .int .u64 0] 75))
  have hC := CurS.new (w.alloc (.cells #[.slice none 0 0, .slice none 0 0, .slice none 0 0] 28)) A bs c 75 (hr.alloc _) hb (by omega)
  rw [World.size_alloc] at hC
  go_enter Try.func55, Try.ntmps55
  go_wp2_with fail
  refine (market_c _ _ _ hC (by omega)).mono ?_
  rintro e w2 ⟨A1, c1, P, A2, c2, W, A3, c3, F, rfl, hP, hW, hF, o1, o2, o3, hc, hg⟩
  have B2 := B0.grownR hg (by intro e; injection e with e; omega)
  have HZ : w.heap.size + 2 ≤ w2.heap.size := by have := hg.size; simp at this; omega
  simp only [World.size_alloc] at o1 o2 o3
  have bl : Below w2.heap.size w2 (w2.alloc (.cells #[.slice A1 P.length c1, .slice A2 W.length c2, .slice A3 F.length c3] 28)) := (Below.refl _ _).alloc (Nat.le_refl _) _
  have BB := Bx3.new w2 (.slice A1 P.length c1) (.slice A2 W.length c2) (.slice A3 F.length c3) 28
  have B3 := B2.below bl
  have hc3 := hc.below bl
  have p1 := o1.below bl
  have p2 := o2.below bl
  have p3 := o3.below bl
  have hg3 : ((w.alloc (.cells #[.slice none 0 0, .slice none 0 0, .slice none 0 0] 28)).alloc (.cells #[.slice A bs.length c, .int .i64 0, .int .u64 0] 75)).grownBy (w2.alloc (.cells #[.slice A1 P.length c1, .slice A2 W.length c2, .slice A3 F.length c3] 28)) (some (w.heap.size + 1)) := grown_low hg bl
  clear hC B0 B2 hc hg o1 o2 o3 bl hr hb hl
  go_upto_region 3 with fail
  obtain ⟨gm, hgm⟩ : ∃ gm, gm = w2.heap.size := ⟨_, rfl⟩
  rw [← hgm] at BB ⊢
  have hgm2 : w.heap.size + 2 ≤ gm := by omega
  generalize w2.alloc (.cells #[.slice A1 P.length c1, .slice A2 W.length c2, .slice A3 F.length c3] 28) = v at *
  clear hgm HZ
  have q0 := BB.1
  have q1 := BB.2.1
  have q2 := BB.2.2.1
  have hv := BB.2.2.2
  have hd1 : Below v.heap.size v v.drew := Below.drew (Below.refl _ _)
  have SK1 : Hid (∀ w', Below v.heap.size v w' → w'.cell? ⟨gm, 0, none⟩ = some (.slice A1 P.length c1) ∧ w'.cell? ⟨gm, 1, none⟩ = some (.slice A2 W.length c2) ∧ w'.cell? ⟨gm, 2, none⟩ = some (.slice A3 F.length c3)) := Lib.hid fun w' HV => ⟨(HV.cell (cell_lt q0)).trans q0, (HV.cell (cell_lt q1)).trans q1, (HV.cell (cell_lt q2)).trans q2⟩
  clear q0 q1 q2
  have hS1_0 := SK1.out _ hd1
  refine tamed_region (S := fun w' => w'.cell? ⟨gm, 0, none⟩ = some (.slice A1 P.length c1) ∧ w'.cell? ⟨gm, 1, none⟩ = some (.slice A2 W.length c2) ∧ w'.cell? ⟨gm, 2, none⟩ = some (.slice A3 F.length c3)) (fun k => k == 4 || k == 5) (by kernel_rfl) ?_
  refine tameT (k := 0) ?_ rfl (by kernel_rfl) (by kernel_rfl) (by kernel_rfl) (by kernel_rfl) (by kernel_rfl) (fun _ _ _ h => h) (by kernel_rfl) hS1_0 (fun v hv => ?_) ?_
  rotate_left
  · (obtain ⟨k1, k2, k3⟩ := hv; go_simp; all_goals rfl)
  simp only [Act.put, List.setIfInBounds_toArray]
  refine tame0 (k := 1) ?_ rfl (by kernel_rfl) (by kernel_rfl) (by kernel_rfl) (fun _ _ _ h => h) (by kernel_rfl) (fun v => ?_) ?_
  rotate_left
  · (go_simp; all_goals rfl)
  simp only [Act.put]
  refine tameT (k := 2) ?_ rfl (by kernel_rfl) (by kernel_rfl) (by kernel_rfl) (by kernel_rfl) (by kernel_rfl) (fun _ _ _ h => h) (by kernel_rfl) hS1_0 (fun v hv => ?_) ?_
  rotate_left
  · (obtain ⟨k1, k2, k3⟩ := hv; go_simp; all_goals rfl)
  simp only [Act.put]
  refine tame_one (k := 3) (by kernel_rfl) rfl (by kernel_rfl) ?_
  go_simp
  refine (claims_c (w.heap.size + 1) _ v.drew (hc3.drewN 1) (by omega) A1 P c1 A2 W c2 A3 F.length c3 p1.rd p2.rd (by omega) (by omega)).mono ?_
  rintro e v2 ⟨A4, c4, X, rfl, hX, ox, hc4, hg4⟩
  have BB0 : Bx3 v.drew gm (.slice A1 P.length c1) (.slice A2 W.length c2) (.slice A3 F.length c3) := BB
  have BBv2 := (BB0.grown hg4 (by omega) : Bx3 v2 gm _ _ _)
  have QSv2 := Lib.hid (⟨BBv2.1, BBv2.2.1, BBv2.2.2.1⟩ : v2.cell? ⟨gm, 0, none⟩ = some (.slice A1 P.length c1) ∧ v2.cell? ⟨gm, 1, none⟩ = some (.slice A2 W.length c2) ∧ v2.cell? ⟨gm, 2, none⟩ = some (.slice A3 F.length c3))
  refine ⟨QSv2.out, ?_⟩
  have P1 : Own v2 (w.heap.size + 1 + 1) A1 c1 P := Own.grown (w := v.drew) p1 hg4 (own_apart p1 (by omega))
  have P2 : Own v2 (w.heap.size + 1 + 1) A2 c2 W := Own.grown (w := v.drew) p2 hg4 (own_apart p2 (by omega))
  have P3 : Own v2 (w.heap.size + 1 + 1) A3 c3 F := Own.grown (w := v.drew) p3 hg4 (own_apart p3 (by omega))
  have B4 : Bz v2 w.heap.size (.slice none 0 0) (.slice none 0 0) (.slice none 0 0) := Bz.grownR (W := v.drew) ⟨B3.b, B3.f0, B3.f1, B3.f2⟩ hg4 (by intro e; injection e with e; omega)
  have hg5 : ((w.alloc (.cells #[.slice none 0 0, .slice none 0 0, .slice none 0 0] 28)).alloc (.cells #[.slice A bs.length c, .int .i64 0, .int .u64 0] 75)).grownBy v2 (some (w.heap.size + 1)) := World.grownBy.trans (World.grownBy.trans hg3 (⟨rfl, rfl, rfl, Nat.le_refl _, fun _ _ _ => rfl⟩ : v.grownBy v.drew (some (w.heap.size + 1)))) hg4
  have HB := below_box6 rfl hg5
  have gs := set3_grown v2 w.heap.size (.slice A1 P.length c1) (.slice A2 W.length c2) (.slice A3 F.length c3)
  have HB2 := HB.grown gs HB.size (fun b e => by injection e with e; omega)
  have R1 := (P1.grown gs (own_apart P1 (by omega))).rd
  have R2 := (P2.grown gs (own_apart P2 (by omega))).rd
  have R3 := (P3.grown gs (own_apart P3 (by omega))).rd
  have hvz : w.heap.size < v.drew.heap.size := by have := hg3.size; simp at this; show w.heap.size < v.heap.size; omega
  have R4 := (ox.grown gs (own_apart ox hvz)).rd
  obtain ⟨⟨k0, k1, k2, k3⟩, k4, k5, k6⟩ := id B4
  clear gs P1 P2 P3 ox hg5 hg4 hc4 B4 B3
  refine tame_one (k := 4) (by kernel_rfl) rfl (by kernel_rfl) ?_
  go_simp
  try (refine ⟨fun h => absurd h (by decide), ?_⟩)
  refine tame_one (k := 5) (by kernel_rfl) rfl (by kernel_rfl) ?_
  go_simp
  try (refine ⟨fun h => absurd h (by decide), ?_⟩)
  refine tame_end (by kernel_rfl) ?_
  go_wp2_with fail
  exact bodyPost_ret (v := .tuple #[mkV A1 P.length c1 A2 W.length c2 A3 F.length c3, .slice A4 X.length c4]) (by simp [results, Try.results55, go_sem, k0, k1, k2]) rfl ⟨A1, c1, P, A2, c2, W, A3, c3, F, A4, c4, X, rfl, hP, hW, hF, by omega, ⟨R1, R2, R3, by omega, by omega, by omega⟩, R4, HB2⟩
set_option maxRecDepth 20000 in
set_option maxHeartbeats 2000000 in
theorem drawWh_c (A : Option Addr) (bs : List Int) (c : Nat) (w : World) (hr : Rd w A (u8s bs)) (hb : ByOk bs) (hl : bs.length ≤ 65537) :
    Calls Try.prog 33 #[.slice A bs.length c] w (MkNRDrawn w) := by
  have B0 := (Bz.new w (.slice none 0 0) (.slice none 0 0) (.slice none 0 0) 28).below ((Below.refl _ _).alloc (Nat.le_refl _) (.cells #[.slice A bs.length c, .int .i64 0, .int .u64 0] 75))
  have hC := CurS.new (w.alloc (.cells #[.slice none 0 0, .slice none 0 0, .slice none 0 0] 28)) A bs c 75 (hr.alloc _) hb (by omega)
  rw [World.size_alloc] at hC
  go_enter Try.func33, Try.ntmps33
  go_wp2_with fail
  refine (market_c _ _ _ hC (by omega)).mono ?_
  rintro e w2 ⟨A1, c1, P, A2, c2, W, A3, c3, F, rfl, hP, hW, hF, o1, o2, o3, hc, hg⟩
  have B2 := B0.grownR hg (by intro e; injection e with e; omega)
  have HZ : w.heap.size + 2 ≤ w2.heap.size := by have := hg.size; simp at this; omega
  simp only [World.size_alloc] at o1 o2 o3
  have bl : Below w2.heap.size w2 (w2.alloc (.cells #[.slice A1 P.length c1, .slice A2 W.length c2, .slice A3 F.length c3] 28)) := (Below.refl _ _).alloc (Nat.le_refl _) _
  have BB := Bx3.new w2 (.slice A1 P.length c1) (.slice A2 W.length c2) (.slice A3 F.length c3) 28
  have B3 := B2.below bl
  have hc3 := hc.below bl
  have p1 := o1.below bl
  have p2 := o2.below bl
  have p3 := o3.below bl
  have hg3 : ((w.alloc (.cells #[.slice none 0 0, .slice none 0 0, .slice none 0 0] 28)).alloc (.cells #[.slice A bs.length c, .int .i64 0, .int .u64 0] 75)).grownBy (w2.alloc (.cells #[.slice A1 P.length c1, .slice A2 W.length c2, .slice A3 F.length c3] 28)) (some (w.heap.size + 1)) := grown_low hg bl
  clear hC B0 B2 hc hg o1 o2 o3 bl hr hb hl
  go_upto_region 3 with fail
  obtain ⟨gm, hgm⟩ : ∃ gm, gm = w2.heap.size := ⟨_, rfl⟩
  rw [← hgm] at BB ⊢
  have hgm2 : w.heap.size + 2 ≤ gm := by omega
  generalize w2.alloc (.cells #[.slice A1 P.length c1, .slice A2 W.length c2, .slice A3 F.length c3] 28) = v at *
  clear hgm HZ
  have q0 := BB.1
  have q1 := BB.2.1
  have q2 := BB.2.2.1
  have hv := BB.2.2.2
  have hd2 : Below v.heap.size v v.drew := Below.drew (Below.refl _ _)
  have SK2 : Hid (∀ w', Below v.heap.size v w' → w'.cell? ⟨gm, 0, none⟩ = some (.slice A1 P.length c1) ∧ w'.cell? ⟨gm, 1, none⟩ = some (.slice A2 W.length c2) ∧ w'.cell? ⟨gm, 2, none⟩ = some (.slice A3 F.length c3)) := Lib.hid fun w' HV => ⟨(HV.cell (cell_lt q0)).trans q0, (HV.cell (cell_lt q1)).trans q1, (HV.cell (cell_lt q2)).trans q2⟩
  clear q0 q1 q2
  have hS2_0 := SK2.out _ hd2
  refine tamed_region (S := fun w' => w'.cell? ⟨gm, 0, none⟩ = some (.slice A1 P.length c1) ∧ w'.cell? ⟨gm, 1, none⟩ = some (.slice A2 W.length c2) ∧ w'.cell? ⟨gm, 2, none⟩ = some (.slice A3 F.length c3)) (fun k => k == 6 || k == 7 || k == 8) (by kernel_rfl) ?_
  refine tameT (k := 0) ?_ rfl (by kernel_rfl) (by kernel_rfl) (by kernel_rfl) (by kernel_rfl) (by kernel_rfl) (fun _ _ _ h => h) (by kernel_rfl) hS2_0 (fun v hv => ?_) ?_
  rotate_left
  · (obtain ⟨k1, k2, k3⟩ := hv; go_simp; all_goals rfl)
  simp only [Act.put, List.setIfInBounds_toArray]
  refine tame0 (k := 1) ?_ rfl (by kernel_rfl) (by kernel_rfl) (by kernel_rfl) (fun _ _ _ h => h) (by kernel_rfl) (fun v => ?_) ?_
  rotate_left
  · (go_simp; all_goals rfl)
  simp only [Act.put]
  refine tame0 (k := 3) ?_ rfl (by kernel_rfl) (by kernel_rfl) (by kernel_rfl) (fun _ _ _ h => h) (by kernel_rfl) (fun v => ?_) ?_
  rotate_left
  · (go_simp; all_goals rfl)
  simp only [Act.put]
  refine tameT (k := 4) ?_ rfl (by kernel_rfl) (by kernel_rfl) (by kernel_rfl) (by kernel_rfl) (by kernel_rfl) (fun _ _ _ h => h) (by kernel_rfl) hS2_0 (fun v hv => ?_) ?_
  rotate_left
  · (obtain ⟨k1, k2, k3⟩ := hv; go_simp; all_goals rfl)
  simp only [Act.put]
  refine tame_one (k := 2) (by kernel_rfl) rfl (by kernel_rfl) ?_
  go_simp
  refine (start_c (w.heap.size + 1) _ v.drew (hc3.drewN 1) (by omega)).mono ?_
  rintro e v1 ⟨u, rfl, ⟨s, rfl⟩, hc1, hg1⟩
  have BB0 : Bx3 v.drew gm (.slice A1 P.length c1) (.slice A2 W.length c2) (.slice A3 F.length c3) := BB
  have BBv1 := (BB0.grown hg1 (by omega) : Bx3 v1 gm _ _ _)
  have QSv1 := Lib.hid (⟨BBv1.1, BBv1.2.1, BBv1.2.2.1⟩ : v1.cell? ⟨gm, 0, none⟩ = some (.slice A1 P.length c1) ∧ v1.cell? ⟨gm, 1, none⟩ = some (.slice A2 W.length c2) ∧ v1.cell? ⟨gm, 2, none⟩ = some (.slice A3 F.length c3))
  refine ⟨QSv1.out, ?_⟩
  have p2' : Own v1 (w.heap.size + 1 + 1) A2 c2 W := Own.grown (w := v.drew) p2 hg1 (own_apart p2 (by omega))
  refine tame_one (k := 5) (by kernel_rfl) rfl (by kernel_rfl) ?_
  go_simp
  refine (holdings_c (w.heap.size + 1) _ v1 hc1 (by omega) A1 P.length c1 A2 W c2 A3 F.length c3 p2'.rd (by omega) (fun ad e => by have := (p2'.lt ad e).1; omega)).mono ?_
  rintro e v2 ⟨A4, c4, X, rfl, hX, ox, hc4, hg2⟩
  have hg4 : v.drew.grownBy v2 (some (w.heap.size + 1)) := hg1.trans hg2
  have BBv2 := (BB0.grown hg4 (by omega) : Bx3 v2 gm _ _ _)
  have QSv2 := Lib.hid (⟨BBv2.1, BBv2.2.1, BBv2.2.2.1⟩ : v2.cell? ⟨gm, 0, none⟩ = some (.slice A1 P.length c1) ∧ v2.cell? ⟨gm, 1, none⟩ = some (.slice A2 W.length c2) ∧ v2.cell? ⟨gm, 2, none⟩ = some (.slice A3 F.length c3))
  refine ⟨QSv2.out, ?_⟩
  have P1 : Own v2 (w.heap.size + 1 + 1) A1 c1 P := Own.grown (w := v.drew) p1 hg4 (own_apart p1 (by omega))
  have P2 : Own v2 (w.heap.size + 1 + 1) A2 c2 W := Own.grown (w := v.drew) p2 hg4 (own_apart p2 (by omega))
  have P3 : Own v2 (w.heap.size + 1 + 1) A3 c3 F := Own.grown (w := v.drew) p3 hg4 (own_apart p3 (by omega))
  have B4 : Bz v2 w.heap.size (.slice none 0 0) (.slice none 0 0) (.slice none 0 0) := Bz.grownR (W := v.drew) ⟨B3.b, B3.f0, B3.f1, B3.f2⟩ hg4 (by intro e; injection e with e; omega)
  have hg5 : ((w.alloc (.cells #[.slice none 0 0, .slice none 0 0, .slice none 0 0] 28)).alloc (.cells #[.slice A bs.length c, .int .i64 0, .int .u64 0] 75)).grownBy v2 (some (w.heap.size + 1)) := World.grownBy.trans (World.grownBy.trans hg3 (⟨rfl, rfl, rfl, Nat.le_refl _, fun _ _ _ => rfl⟩ : v.grownBy v.drew (some (w.heap.size + 1)))) hg4
  have HB := below_box6 rfl hg5
  have gs := set3_grown v2 w.heap.size (.slice A1 P.length c1) (.slice A2 W.length c2) (.slice A3 F.length c3)
  have HB2 := HB.grown gs HB.size (fun b e => by injection e with e; omega)
  have R1 := (P1.grown gs (own_apart P1 (by omega))).rd
  have R2 := (P2.grown gs (own_apart P2 (by omega))).rd
  have R3 := (P3.grown gs (own_apart P3 (by omega))).rd
  have hvz : w.heap.size < v1.heap.size := by have := hg3.size; simp at this; have h2 : v.heap.size ≤ v1.heap.size := hg1.size; omega
  have R4 := (ox.grown gs (own_apart ox hvz)).rd
  obtain ⟨⟨k0, k1, k2, k3⟩, k4, k5, k6⟩ := id B4
  clear gs P1 P2 P3 ox hg5 hg4 hc4 B4 B3
  refine tame_one (k := 6) (by kernel_rfl) rfl (by kernel_rfl) ?_
  go_simp
  try (refine ⟨fun h => absurd h (by decide), ?_⟩)
  refine tame_one (k := 7) (by kernel_rfl) rfl (by kernel_rfl) ?_
  go_simp
  try (refine ⟨fun h => absurd h (by decide), ?_⟩)
  refine tame_one (k := 8) (by kernel_rfl) rfl (by kernel_rfl) ?_
  go_simp
  try (refine ⟨fun h => absurd h (by decide), ?_⟩)
  refine tame_end (by kernel_rfl) ?_
  go_wp2_with fail
  exact bodyPost_ret (v := .tuple #[mkV A1 P.length c1 A2 W.length c2 A3 F.length c3, .int .i64 s, .slice A4 X.length c4]) (by simp [results, Try.results33, go_sem, k0, k1, k2]) rfl ⟨A1, c1, P, A2, c2, W, A3, c3, F, s, A4, c4, X, rfl, hP, hW, hF, by omega, ⟨R1, R2, R3, by omega, by omega, by omega⟩, R4, HB2⟩

/-- While it is being drawn: the market's box at gm, the result's at gr. -/
structure TrX (w0 w : World) (g gr gm : Nat) (N : Int) (A1 : Option Addr) (c1 : Nat) (P : List Int) (A2 : Option Addr) (c2 : Nat) (W : List Int) (A3 : Option Addr) (c3 : Nat) (F : List Int) : Prop where
  bx : Bx3 w gm (.slice A1 P.length c1) (.slice A2 W.length c2) (.slice A3 F.length c3)
  br : Bz w gr (.slice none 0 0) (.slice none 0 0) (.slice none 0 0)
  o1 : Own w (gr + 1) A1 c1 P
  o2 : Own w (gr + 1) A2 c2 W
  o3 : Own w (gr + 1) A3 c3 F
  cur : CurS w g N
  g0 : g < w0.heap.size
  t0 : w0.heap.size ≤ gr ∧ gr < gm
  gr_ : w0.grownBy w (some g)
section
variable {w0 w w' : World} {g gr gm : Nat} {N M : Int} {A1 A2 A3 : Option Addr} {c1 c2 c3 : Nat} {P W F : List Int}
theorem TrX.cur_ (h : TrX w0 w g gr gm N A1 c1 P A2 c2 W A3 c3 F) (hk : w.grownBy w' (some g)) (hc : CurS w' g M) : TrX w0 w' g gr gm M A1 c1 P A2 c2 W A3 c3 F := by
  have := h.t0
  have := h.g0
  exact ⟨h.bx.grown hk (by omega), h.br.grownR hk (by intro e; injection e with e; omega), h.o1.grown hk (own_apart h.o1 (by omega)), h.o2.grown hk (own_apart h.o2 (by omega)), h.o3.grown hk (own_apart h.o3 (by omega)), hc, h.g0, h.t0, h.gr_.trans hk⟩
theorem TrX.below (h : TrX w0 w g gr gm N A1 c1 P A2 c2 W A3 c3 F) (hb : Below w.heap.size w w') : TrX w0 w' g gr gm N A1 c1 P A2 c2 W A3 c3 F :=
  ⟨h.bx.below hb, h.br.below hb, h.o1.below hb, h.o2.below hb, h.o3.below hb, h.cur.below hb, h.g0, h.t0, grown_low h.gr_ hb⟩
theorem TrX.drew (h : TrX w0 w g gr gm N A1 c1 P A2 c2 W A3 c3 F) : TrX w0 w.drew g gr gm N A1 c1 P A2 c2 W A3 c3 F :=
  h.cur_ ⟨rfl, rfl, rfl, Nat.le_refl _, fun _ _ _ => rfl⟩ (h.cur.drewN 1)
/-- Another row, that lies behind all of these, is written. -/
theorem TrX.row (h : TrX w0 w g gr gm N A1 c1 P A2 c2 W A3 c3 F) {row : Option Nat} (hk : w.grownBy w' row) (hr : ∀ b, row = some b → gm < b ∧ blk A1 ≠ some b ∧ blk A2 ≠ some b ∧ blk A3 ≠ some b) : TrX w0 w' g gr gm N A1 c1 P A2 c2 W A3 c3 F := by
  have := h.t0
  have := h.g0
  have ne : ∀ {A : Option Addr}, (∀ b, row = some b → blk A ≠ some b) → A = none ∨ blk A ≠ row := fun {A} hA => by
    rcases A with _ | a
    · exact .inl rfl
    · right; intro e; exact hA a.block e.symm rfl
  exact ⟨h.bx.grownR hk (fun e => by have := (hr gm e).1; omega), h.br.grownR hk (fun e => by have := (hr gr e).1; omega), h.o1.grown hk (ne fun b e => (hr b e).2.1), h.o2.grown hk (ne fun b e => (hr b e).2.2.1), h.o3.grown hk (ne fun b e => (hr b e).2.2.2),
    h.cur.grown hk (fun b e => by have := (hr b e).1; omega), h.g0, h.t0, grown_new h.gr_ hk (fun b e => by have := (hr b e).1; omega)⟩
end
/-- A market, a number and two rows of numbers. -/
def TradedDrawn (w : World) (g : Nat) (M : Int) (e : Ending) (w' : World) : Prop := ∃ A1 c1 P A2 c2 W A3 c3 F, ∃ s : Int, ∃ A4 c4 H A5 c5 X, e = .returned (.tuple #[mkV A1 P.length c1 A2 W.length c2 A3 F.length c3, .int .i64 s, .slice A4 H.length c4, .slice A5 X.length c5]) ∧ P.length ≤ 60 ∧ W.length ≤ 60 ∧ F.length ≤ 60 ∧ H.length ≤ 60 ∧ X.length ≤ 60 ∧
  Own w' w.heap.size A1 c1 P ∧ Own w' w.heap.size A2 c2 W ∧ Own w' w.heap.size A3 c3 F ∧ Own w' w.heap.size A4 c4 H ∧ Own w' w.heap.size A5 c5 X ∧ CurS w' g M ∧ w.grownBy w' (some g)
noncomputable def tr12 : Code := ((Try.f113.body.bind (restFrom 12)).getD .skip)
set_option maxRecDepth 20000 in
set_option maxHeartbeats 4000000 in
theorem trTail {w0 w : World} {g gr gm : Nat} {N M : Int} {A1 A2 A3 A4 A5 : Option Addr} {c1 c2 c3 c4 c5 : Nat} {P W F H X : List Int} (s : Int) (T : TrX w0 w g gr gm N A1 c1 P A2 c2 W A3 c3 F) (o4 : Own w (gr + 1) A4 c4 H) (o5 : Own w (gr + 1) A5 c5 X) (hM : N ≤ M) (hP : P.length ≤ 60) (hW : W.length ≤ 60) (hF : F.length ≤ 60) (hH : H.length ≤ 60) (hX : X.length ≤ 60) (u1 u3 u4 u5 u10 u11 u12 u13 u14 u15 u16 u17 u18 u19 u20 u21 u22 u23 u24 u25 u26 u27 u28 u29 u30 u31 u32 u33 u34 u35 u36 u37 u38 u39 u40 u41 u42 u43 u44 u45 u46 u47 u48 u49 u50 u51 u52 u53 u54 u55 u56 u57 u58 u59 u60 u61 u62 u63 u64 u65 u66 u67 u68 u69 : Value) :
    Code.wp Try.prog tr12 (bodyPost Try.prog Try.f113 (TradedDrawn w0 g M)) ⟨#[.pointer (some ⟨g, 0, none⟩), u1, .pointer (some ⟨gr, 0, none⟩), u3, u4, u5, .pointer (some ⟨gm, 0, none⟩), .int .i64 s, .slice A4 H.length c4, .slice A5 X.length c5, u10, u11, u12, u13, u14, u15, u16, u17, u18, u19, u20, u21, u22, u23, u24, u25, u26, u27, u28, u29, u30, u31, u32, u33, u34, u35, u36, u37, u38, u39, u40, u41, u42, u43, u44, u45, u46, u47, u48, u49, u50, u51, u52, u53, u54, u55, u56, u57, u58, u59, u60, u61, u62, u63, u64, u65, u66, u67, u68, u69], []⟩ w := by
  conv => arg 2; whnf
  obtain ⟨⟨k0, k1, k2, k3⟩, k4, k5, k6⟩ := id T.br
  obtain ⟨j0, j1, j2, j3⟩ := id T.bx
  have ht := T.t0
  have hg := T.g0
  have gs := set3_grown w gr (.slice A1 P.length c1) (.slice A2 W.length c2) (.slice A3 F.length c3)
  have p1 := (T.o1.grown gs (own_apart T.o1 (by omega))).mono (B' := w0.heap.size) (by omega)
  have p2 := (T.o2.grown gs (own_apart T.o2 (by omega))).mono (B' := w0.heap.size) (by omega)
  have p3 := (T.o3.grown gs (own_apart T.o3 (by omega))).mono (B' := w0.heap.size) (by omega)
  have p4 := (o4.grown gs (own_apart o4 (by omega))).mono (B' := w0.heap.size) (by omega)
  have p5 := (o5.grown gs (own_apart o5 (by omega))).mono (B' := w0.heap.size) (by omega)
  have hc := (T.cur.grown gs (fun b e => by injection e with e; omega)).mono hM
  have hgr := grown_new T.gr_ gs (fun b e => by injection e with e; omega)
  clear gs T o4 o5
  go_wp2_with fail
  exact bodyPost_ret (v := .tuple #[mkV A1 P.length c1 A2 W.length c2 A3 F.length c3, .int .i64 s, .slice A4 H.length c4, .slice A5 X.length c5]) (by simp [results, Try.results113, go_sem, k0, k1, k2]) rfl ⟨A1, c1, P, A2, c2, W, A3, c3, F, s, A4, c4, H, A5, c5, X, rfl, hP, hW, hF, hH, hX, p1, p2, p3, p4, p5, hc, hgr⟩
set_option maxRecDepth 20000 in
set_option maxHeartbeats 4000000 in
theorem traded_c (g : Nat) (N : Int) (w : World) (h : CurS w g N) (hN : N ≤ 600000) :
    Calls Try.prog 113 #[.pointer (some ⟨g, 0, none⟩)] w (TradedDrawn w g (N + 4000)) := by
  have hgw : g < w.heap.size := by
    obtain ⟨_, _, _, _, _, h⟩ := h
    exact h.lt
  have B0 := Bz.new w (.slice none 0 0) (.slice none 0 0) (.slice none 0 0) 28
  have b0 : Below w.heap.size w (w.alloc (.cells #[.slice none 0 0, .slice none 0 0, .slice none 0 0] 28)) := (Below.refl _ _).alloc (Nat.le_refl _) _
  go_enter Try.func113, Try.ntmps113
  go_wp2_with fail
  refine (market_c g N _ (h.below b0) (by omega)).mono ?_
  rintro e w2 ⟨A1, c1, P, A2, c2, W, A3, c3, F, rfl, hP, hW, hF, o1, o2, o3, hc, hg⟩
  have B2 := B0.grownR hg (by intro e; injection e with e; omega)
  have l2 := B2.b.2.2.2
  simp only [World.size_alloc] at o1 o2 o3
  have bl : Below w2.heap.size w2 (w2.alloc (.cells #[.slice A1 P.length c1, .slice A2 W.length c2, .slice A3 F.length c3] 28)) := (Below.refl _ _).alloc (Nat.le_refl _) _
  have T0 : TrX w (w2.alloc (.cells #[.slice A1 P.length c1, .slice A2 W.length c2, .slice A3 F.length c3] 28)) g w.heap.size w2.heap.size (N + 3000) A1 c1 P A2 c2 W A3 c3 F :=
    ⟨Bx3.new _ _ _ _ _, B2.below bl, o1.below bl, o2.below bl, o3.below bl, hc.below bl, hgw, ⟨Nat.le_refl _, l2⟩, grown_low ((grown_of_below b0 (some g)).trans hg) bl⟩
  clear B0 b0 B2 o1 o2 o3 hc hg bl h
  go_upto_region 2 with fail
  obtain ⟨gm, hgm⟩ : ∃ gm, gm = w2.heap.size := ⟨_, rfl⟩
  rw [← hgm] at T0 ⊢
  generalize w2.alloc (.cells #[.slice A1 P.length c1, .slice A2 W.length c2, .slice A3 F.length c3] 28) = v at *
  have T := Lib.hid T0
  clear T0 hgm l2
  have q0 := T.out.bx.1
  have q1 := T.out.bx.2.1
  have q2 := T.out.bx.2.2.1
  have hd1 : Below v.heap.size v v.drew := Below.drew (Below.refl _ _)
  have SK1 : Hid (∀ w', Below v.heap.size v w' → w'.cell? ⟨gm, 0, none⟩ = some (.slice A1 P.length c1) ∧ w'.cell? ⟨gm, 1, none⟩ = some (.slice A2 W.length c2) ∧ w'.cell? ⟨gm, 2, none⟩ = some (.slice A3 F.length c3)) := Lib.hid fun w' HV => ⟨(HV.cell (cell_lt q0)).trans q0, (HV.cell (cell_lt q1)).trans q1, (HV.cell (cell_lt q2)).trans q2⟩
  clear q0 q1 q2
  have hS1_0 := SK1.out _ hd1
  refine tamed_region (S := fun w' => w'.cell? ⟨gm, 0, none⟩ = some (.slice A1 P.length c1) ∧ w'.cell? ⟨gm, 1, none⟩ = some (.slice A2 W.length c2) ∧ w'.cell? ⟨gm, 2, none⟩ = some (.slice A3 F.length c3)) (fun _ => false) (by kernel_rfl) ?_
  refine tame0 (k := 0) ?_ rfl (by kernel_rfl) (by kernel_rfl) (by kernel_rfl) (fun _ _ _ h => h) (by kernel_rfl) (fun v => ?_) ?_
  rotate_left
  · (go_simp; all_goals rfl)
  simp only [Act.put, List.setIfInBounds_toArray]
  refine tame0 (k := 2) ?_ rfl (by kernel_rfl) (by kernel_rfl) (by kernel_rfl) (fun _ _ _ h => h) (by kernel_rfl) (fun v => ?_) ?_
  rotate_left
  · (go_simp; all_goals rfl)
  simp only [Act.put]
  refine tame (k := 3) ?_ rfl (by kernel_rfl) (by kernel_rfl) (by kernel_rfl) (by kernel_rfl) (fun _ _ _ h => h) (by kernel_rfl) hS1_0 (fun v hv => ?_) ?_
  rotate_left
  · (obtain ⟨k1, k2, k3⟩ := hv; go_simp; all_goals rfl)
  simp only [Act.put]
  refine tame0 (k := 5) ?_ rfl (by kernel_rfl) (by kernel_rfl) (by kernel_rfl) (fun _ _ _ h => h) (by kernel_rfl) (fun v => ?_) ?_
  rotate_left
  · (go_simp; all_goals rfl)
  simp only [Act.put]
  refine tame (k := 6) ?_ rfl (by kernel_rfl) (by kernel_rfl) (by kernel_rfl) (by kernel_rfl) (fun _ _ _ h => h) (by kernel_rfl) hS1_0 (fun v hv => ?_) ?_
  rotate_left
  · (obtain ⟨k1, k2, k3⟩ := hv; go_simp; all_goals rfl)
  simp only [Act.put]
  refine tame_one (k := 1) (by kernel_rfl) rfl (by kernel_rfl) ?_
  go_simp
  refine (start_c g _ v.drew T.out.drew.cur (by omega)).mono ?_
  rintro e v1 ⟨u, rfl, ⟨s, rfl⟩, hc1, hg1⟩
  have T1 := Lib.hid (T.out.drew.cur_ hg1 hc1)
  have QS1 := Lib.hid (⟨T1.out.bx.1, T1.out.bx.2.1, T1.out.bx.2.2.1⟩ : v1.cell? ⟨gm, 0, none⟩ = some (.slice A1 P.length c1) ∧ v1.cell? ⟨gm, 1, none⟩ = some (.slice A2 W.length c2) ∧ v1.cell? ⟨gm, 2, none⟩ = some (.slice A3 F.length c3))
  refine ⟨QS1.out, ?_⟩
  refine tame_one (k := 4) (by kernel_rfl) rfl (by kernel_rfl) ?_
  go_simp
  refine (holdings_c g _ v1 hc1 (by omega) A1 P.length c1 A2 W c2 A3 F.length c3 T1.out.o2.rd hW (fun ad e => by have := (T1.out.o2.lt ad e).1; omega)).mono ?_
  rintro e v2 ⟨A4, c4, H, rfl, hH, o4, hc2, hg2⟩
  have T2 := Lib.hid (T1.out.cur_ hg2 hc2)
  have o4' := Lib.hid (o4.mono (B' := w.heap.size + 1) (by have := T1.out.br.b.2.2.2; omega))
  have QS2 := Lib.hid (⟨T2.out.bx.1, T2.out.bx.2.1, T2.out.bx.2.2.1⟩ : v2.cell? ⟨gm, 0, none⟩ = some (.slice A1 P.length c1) ∧ v2.cell? ⟨gm, 1, none⟩ = some (.slice A2 W.length c2) ∧ v2.cell? ⟨gm, 2, none⟩ = some (.slice A3 F.length c3))
  refine ⟨QS2.out, ?_⟩
  refine tame_one (k := 7) (by kernel_rfl) rfl (by kernel_rfl) ?_
  go_simp
  refine (claims_c g _ v2 hc2 (by omega) A1 P c1 A2 W c2 A3 F.length c3 T2.out.o1.rd T2.out.o2.rd hP hW).mono ?_
  rintro e v3 ⟨A5, c5, X, rfl, hX, o5, hc3, hg3⟩
  have T3 := Lib.hid (T2.out.cur_ hg3 hc3)
  have O4 := Lib.hid (o4'.out.grown hg3 (own_apart o4'.out (by omega)))
  have O5 := Lib.hid (o5.mono (B' := w.heap.size + 1) (by have := T2.out.br.b.2.2.2; omega))
  clear hc1 hg1 hc2 hg2 hc3 hg3 o4 o4' o5 T1 T2 QS1 QS2
  have QS3 := Lib.hid (⟨T3.out.bx.1, T3.out.bx.2.1, T3.out.bx.2.2.1⟩ : v3.cell? ⟨gm, 0, none⟩ = some (.slice A1 P.length c1) ∧ v3.cell? ⟨gm, 1, none⟩ = some (.slice A2 W.length c2) ∧ v3.cell? ⟨gm, 2, none⟩ = some (.slice A3 F.length c3))
  refine ⟨QS3.out, ?_⟩
  refine tame_one (k := 8) (by kernel_rfl) rfl (by kernel_rfl) ?_
  go_simp
  refine ⟨QS3.out, ?_⟩
  refine tame_one (k := 9) (by kernel_rfl) rfl (by kernel_rfl) ?_
  go_simp
  refine ⟨QS3.out, ?_⟩
  refine tame_one (k := 10) (by kernel_rfl) rfl (by kernel_rfl) ?_
  go_simp
  refine ⟨QS3.out, ?_⟩
  refine tame_end (by kernel_rfl) ?_
  clear QS3 hd1 SK1 T
  have j0 := T3.out.bx.1
  have j1 := T3.out.bx.2.1
  have j2 := T3.out.bx.2.2.1
  have CH := l6Holds_c A1 P c1 A2 W c2 A3 F c3 s A4 H c4 v3 ⟨T3.out.o1.rd, T3.out.o2.rd, T3.out.o3.rd, by omega, by omega, by omega⟩ O4.out.rd (by omega)
  go_upto_region 3 with fail
  rename_i K1 hK1 K0 hK0
  replace hK1 := Lib.hid hK1
  cases hq : hlB P W F H s
  · rw [hq] at CH
    go_wp2_with fail
    refine CH.mono ?_
    rintro e v4 ⟨rfl, b4⟩
    have T4 := T3.out.below b4
    go_wp2_with fail
    refine hK1.out _ _ ?_
    exact trTail s T4 (O4.out.below b4) (O5.out.below b4) (by omega) hP hW hF (by omega) (by omega) _ _ _ _ _ _ _ _ _ _ _ _ _ _ _ _ _ _ _ _ _ _ _ _ _ _ _ _ _ _ _ _ _ _ _ _ _ _ _ _ _ _ _ _ _ _ _ _ _ _ _ _ _ _ _ _ _ _ _ _ _ _ _ _
  · rw [hq] at CH
    have HQ := Lib.hid hq
    have HY := Lib.hid (hlB_yes hq)
    clear hq
    go_wp2_with fail
    refine CH.mono ?_
    rintro e v4 ⟨rfl, b4⟩
    have T4 := Lib.hid (T3.out.below b4)
    have O44 := Lib.hid (O4.out.below b4)
    have O54 := Lib.hid (O5.out.below b4)
    clear T3 O4 O5 b4 CH j0 j1 j2
    go_wp2_with fail
    refine (one_c g _ 3 _ T4.out.cur (by omega) (by omega)).mono ?_
    rintro e v5 ⟨u, rfl, ⟨b, rfl⟩, hc5, hg5⟩
    have T5 := Lib.hid (T4.out.cur_ hg5 hc5)
    have O45 := Lib.hid (O44.out.grown hg5 (own_apart O44.out (by omega)))
    have O55 := Lib.hid (O54.out.grown hg5 (own_apart O54.out (by omega)))
    clear T4 O44 O54 hc5 hg5
    cases b
    · have htl := HY.out.1.n2
      have htl1 := HY.out.1.n1
      go_upto_region 4 with fail
      have q0 := T5.out.bx.1
      have q1 := T5.out.bx.2.1
      have q2 := T5.out.bx.2.2.1
      have hd2 : Below v5.heap.size v5 v5.drew := Below.drew (Below.refl _ _)
      have SK2 : Hid (∀ w', Below v5.heap.size v5 w' → w'.cell? ⟨gm, 0, none⟩ = some (.slice A1 P.length c1) ∧ w'.cell? ⟨gm, 1, none⟩ = some (.slice A2 W.length c2) ∧ w'.cell? ⟨gm, 2, none⟩ = some (.slice A3 F.length c3)) := Lib.hid fun w' HV => ⟨(HV.cell (cell_lt q0)).trans q0, (HV.cell (cell_lt q1)).trans q1, (HV.cell (cell_lt q2)).trans q2⟩
      clear q0 q1 q2
      have hS2_0 := SK2.out _ hd2
      refine tamed_region (S := fun w' => w'.cell? ⟨gm, 0, none⟩ = some (.slice A1 P.length c1) ∧ w'.cell? ⟨gm, 1, none⟩ = some (.slice A2 W.length c2) ∧ w'.cell? ⟨gm, 2, none⟩ = some (.slice A3 F.length c3)) (fun _ => false) (by kernel_rfl) ?_
      refine tame (k := 0) ?_ rfl (by kernel_rfl) (by kernel_rfl) (by kernel_rfl) (by kernel_rfl) (fun _ _ _ h => h) (by kernel_rfl) hS2_0 (fun v hv => ?_) ?_
      rotate_left
      · (obtain ⟨k1, k2, k3⟩ := hv; go_simp; all_goals rfl)
      simp only [Act.put, List.setIfInBounds_toArray]
      refine tame0 (k := 1) ?_ rfl (by kernel_rfl) (by kernel_rfl) (by kernel_rfl) (fun _ _ _ h => h) (by kernel_rfl) (fun v => ?_) ?_
      rotate_left
      · (go_simp; all_goals rfl)
      simp only [Act.put]
      refine tame0 (k := 2) ?_ rfl (by kernel_rfl) (by kernel_rfl) (by kernel_rfl) (fun _ _ _ h => h) (by kernel_rfl) (fun v => ?_) ?_
      rotate_left
      · (go_simp; all_goals rfl)
      simp only [Act.put]
      refine tame0 (k := 4) ?_ rfl (by kernel_rfl) (by kernel_rfl) (by kernel_rfl) (fun _ _ _ h => h) (by kernel_rfl) (fun v => ?_) ?_
      rotate_left
      · (go_simp; all_goals rfl)
      simp only [Act.put]
      refine tame (k := 5) ?_ rfl (by kernel_rfl) (by kernel_rfl) (by kernel_rfl) (by kernel_rfl) (fun _ _ _ h => h) (by kernel_rfl) hS2_0 (fun v hv => ?_) ?_
      rotate_left
      · (obtain ⟨k1, k2, k3⟩ := hv; go_simp; all_goals rfl)
      simp only [Act.put]
      refine tame_one (k := 3) (by kernel_rfl) rfl (by kernel_rfl) ?_
      go_simp
      refine (l6Wealth_c A1 P c1 A2 W c2 A3 F c3 s A4 H c4 v5.drew ⟨T5.out.o1.rd, T5.out.o2.rd, T5.out.o3.rd, by omega, by omega, by omega⟩ O45.out.rd HQ.out).mono ?_
      rintro e v6 ⟨Aw, cw, rfl, ow, b6⟩
      have T6 := Lib.hid (T5.out.drew.below b6)
      have O46 := Lib.hid (Own.below (w := v5.drew) O45.out b6)
      have hd2_1 := bUp hd2 b6 (Nat.le_refl _)
      have hS2_1 := Lib.hid (SK2.out _ hd2_1)
      refine ⟨by first | exact hS2_1 | exact Hid.out hS2_1, ?_⟩
      refine tame_one (k := 6) (by kernel_rfl) rfl (by kernel_rfl) ?_
      go_simp
      refine (l2Ends_c A1 P c1 A2 W.length c2 v6 T6.out.o1.rd HY.out.1.par htl).mono ?_
      rintro e v7 ⟨Ae, ce, rfl, oe, b7⟩
      have T7 := Lib.hid (T6.out.below b7)
      have O47 := Lib.hid (O46.out.below b7)
      have OW := Lib.hid (ow.below b7)
      have OE := Lib.hid oe
      have HGM := Lib.hid T7.out.bx.2.2.2
      have hd2_2 := bUp hd2_1 b7 hd2_1.size
      have hS2_2 := Lib.hid (SK2.out _ hd2_2)
      refine ⟨by first | exact hS2_2 | exact Hid.out hS2_2, ?_⟩
      refine tame_one (k := 7) (by kernel_rfl) rfl (by kernel_rfl) ?_
      go_simp
      refine ⟨by first | exact hS2_2 | exact Hid.out hS2_2, ?_⟩
      refine tame_one (k := 8) (by kernel_rfl) rfl (by kernel_rfl) ?_
      go_simp
      refine ⟨by first | exact hS2_2 | exact Hid.out hS2_2, ?_⟩
      refine tame_end (by kernel_rfl) ?_
      clear hd2_2 SK2 b6 b7 T5 T6 O45 O46 O55 ow oe
      have hen : (endL P).length ≤ 24 := Nat.le_trans (enTo_len P P.length) htl
      have o7 := Own.lit v7 [] (by decide)
      have b7 : Below v7.heap.size v7 (v7.alloc (.cells #[] 3)) := (Below.refl _ _).alloc (Nat.le_refl _) _
      have HWB := Lib.hid (fun i => wlL_bd (P := P) HY.out.2.2.1 HY.out.2.2.2.2.2 HY.out.2.2.2.1 (P.length - 1) i)
      have HWL : Hid ((wl P F H s).length = P.length) := Lib.hid (by rw [wl, wlL_length]; omega)
      go_wp2_with fail
      go_loopw [9, 12] (fun o q wr => ∃ (A : Option Addr) (c i : Nat) (xs : List Int), q = .int .i64 (i : Int) ∧ o = .slice A i c ∧ xs.length = i ∧ i ≤ (endL P).length ∧ (∀ k, k < i → -60000 ≤ nth xs k ∧ nth xs k ≤ 60000) ∧ Own wr v7.heap.size A c xs ∧ Below v7.heap.size v7 wr) (fun _ q _ => (endL P).length - (intOf q).toNat)
      case atStart => exact ⟨_, 0, 0, [], rfl, rfl, rfl, by omega, fun k hk => by omega, o7, b7⟩
      case round =>
        clear o7 b7
        obtain ⟨y, rfl⟩ : ∃ y : World, y = wr := ⟨_, rfl⟩
        obtain ⟨A, c, i, xs, rfl, rfl, hxl, hi, hbd, o, hb⟩ := hrel
        have HXL := Lib.hid hxl
        have HBD := Lib.hid hbd
        clear hxl hbd
        by_cases hlt : i < (endL P).length
        · obtain ⟨x, hx, _, hex⟩ := endL_nth hlt
          obtain ⟨ae, rfl, q1⟩ := (OE.out.rd.below hb (Nat.le_refl _)).intN hlt
          rw [hex] at q1
          obtain ⟨aw, rfl, q2⟩ := (OW.out.rd.below hb (Nat.le_refl _)).intN (k := x) (by rw [HWL.out]; exact hx)
          have hwb : -60000 ≤ nth (wl P F H s) x ∧ nth (wl P F H s) x ≤ 60000 := by have := HWB.out x; unfold wl; omega
          have ix : (x : Int) < (P.length : Int) := by omega
          have hgv := hb.size
          rw [HWL.out]
          clear hex
          generalize nth (wl P F H s) x = z at *
          go_wp2_with (at_builtin; refine wp_append1 y z _ rfl _ _ rfl v7.heap.size A i c xs rfl HXL.out.symm o rfl (by rw [HXL.out]; omega) hgv ?_; intro A8 c8 y8 o8 g8 b8)
          go_roundw
          case rel => exact ⟨A8, c8, i + 1, xs ++ [z], by go_num, rfl, by rw [List.length_append, HXL.out]; rfl, by omega, fun k hk => by
            rcases Nat.lt_or_ge k i with h' | h'
            · rw [nth_app_l (by rw [HXL.out]; exact h')]; exact HBD.out k h'
            · rw [nth_app_r xs z k (by rw [HXL.out]; omega)]; exact hwb, o8, hb.grown g8 hb.size (fun b e => o.ge b e)⟩
          case measure => simp [intOf] <;> omega
        · obtain rfl : i = (endL P).length := by omega
          have hep : 0 < (endL P).length := by
            have he : endB P (P.length - 1) = true := by
              cases hh : endB P (P.length - 1)
              · obtain ⟨a, ha⟩ := List.exists_mem_of_ne_nil _ (show kids P ((P.length - 1 : Nat) : Int) ≠ [] from fun h => by rw [(kids_nil (P.length - 1)).1 h] at hh; cases hh)
                have := kids_mem HY.out.1.par ha
                omega
              · rfl
            obtain ⟨i, hi, _⟩ := end_idx (x := P.length - 1) (by omega) he
            omega
          have T8 := Lib.hid (T7.out.below hb)
          have O48 := Lib.hid (O47.out.below hb)
          have hg7 : w.heap.size + 1 ≤ v7.heap.size := by have := T7.out.br.b.2.2.2; omega
          have N1 := Lib.hid (fun b e => T7.out.o1.ltk b e)
          have N2 := Lib.hid (fun b e => T7.out.o2.ltk b e)
          have N3 := Lib.hid (fun b e => T7.out.o3.ltk b e)
          have N4 := Lib.hid (fun b e => O47.out.ltk b e)
          clear T7 O47 OE OW
          go_wp2_with fail
          refine (one_c g _ 2 _ T8.out.cur (by omega) (by omega)).mono ?_
          rintro e v9 ⟨u, rfl, ⟨b, rfl⟩, hc9, hg9⟩
          have T9 := Lib.hid (T8.out.cur_ hg9 hc9)
          have O49 := Lib.hid (O48.out.grown hg9 (own_apart O48.out (by omega)))
          have o9 := Lib.hid (o.grown hg9 (own_apart o (by omega)))
          have hgm9 : gm < v7.heap.size := HGM.out
          clear T8 O48 hc9 hg9 o
          cases b
          · go_wp2_with fail
            refine hK1.out _ _ ?_
            rw [← HXL.out]
            exact trTail s T9.out O49.out (o9.out.mono hg7) (by omega) hP hW hF (by omega) (by rw [HXL.out]; omega) _ _ _ _ _ _ _ _ _ _ _ _ _ _ _ _ _ _ _ _ _ _ _ _ _ _ _ _ _ _ _ _ _ _ _ _ _ _ _ _ _ _ _ _ _ _ _ _ _ _ _ _ _ _ _ _ _ _ _ _ _ _ _ _
          · obtain ⟨ga, rfl, hga, _⟩ := o9.out.form (by rw [HXL.out]; exact hep)
            go_upto_region 11 with fail
            have q0 := o9.out.cellN (k := 0) (by rw [HXL.out]; exact hep)
            have hx0 := HBD.out 0 hep
            generalize hxe : nth xs 0 = x0 at *
            clear hxe
            have iep : (0 : Int) < ((endL P).length : Int) := by omega
            have hd3 : Below v9.heap.size v9 v9.drew := Below.drew (Below.refl _ _)
            have SK3 : Hid (∀ w', Below v9.heap.size v9 w' → w'.cell? ⟨ga, 0, none⟩ = some (.int .i64 x0)) := Lib.hid fun w' HV => (HV.cell (cell_lt q0)).trans q0
            clear q0
            have hS3_0 := SK3.out _ hd3
            refine tamed_region (S := fun w' => w'.cell? ⟨ga, 0, none⟩ = some (.int .i64 x0)) (fun k => k == 8) (by kernel_rfl) ?_
            refine tame0 (k := 0) ?_ rfl (by kernel_rfl) (by kernel_rfl) (by kernel_rfl) (fun _ _ _ h => h) (by kernel_rfl) (fun v => ?_) ?_
            rotate_left
            · (go_simp; all_goals rfl)
            simp only [Act.put, List.setIfInBounds_toArray]
            refine tame0 (k := 1) ?_ rfl (by kernel_rfl) (by kernel_rfl) (by kernel_rfl) (fun _ _ _ h => h) (by kernel_rfl) (fun v => ?_) ?_
            rotate_left
            · (go_simp; all_goals rfl)
            simp only [Act.put]
            refine tame0 (k := 2) ?_ rfl (by kernel_rfl) (by kernel_rfl) (by kernel_rfl) (fun _ _ _ h => h) (by kernel_rfl) (fun v => ?_) ?_
            rotate_left
            · (go_simp; all_goals rfl)
            simp only [Act.put]
            refine tameT (k := 3) ?_ rfl (by kernel_rfl) (by kernel_rfl) (by kernel_rfl) (by kernel_rfl) (by kernel_rfl) (fun _ _ _ h => h) (by kernel_rfl) hS3_0 (fun v hv => ?_) ?_
            rotate_left
            · (obtain k1 := hv; go_simp; all_goals rfl)
            simp only [Act.put]
            refine tame0 (k := 4) ?_ rfl (by kernel_rfl) (by kernel_rfl) (by kernel_rfl) (fun _ _ _ h => h) (by kernel_rfl) (fun v => ?_) ?_
            rotate_left
            · (go_simp; all_goals rfl)
            simp only [Act.put]
            refine tame_one (k := 5) (by kernel_rfl) rfl (by kernel_rfl) ?_
            go_simp
            refine (pick_c g _ 3 _ T9.out.drew.cur (by omega) (by omega)).mono ?_
            rintro e v10 ⟨u, rfl, ⟨r, rfl, hr0, hr1⟩, hc10, hg10⟩
            have T10 := Lib.hid (T9.out.drew.cur_ hg10 hc10)
            have O410 := Lib.hid (Own.grown (w := v9.drew) O49.out hg10 (own_apart O49.out (by omega)))
            have o10 := Lib.hid (Own.grown (w := v9.drew) o9.out hg10 (own_apart o9.out (by omega)))
            have hr3 : r ≤ 2 := by omega
            have ew : IntKind.i64.wrap (x0 - r) = x0 - r := IntWalk.i64_in _ (by omega)
            have kb : ∃ u0, v10.cell? ⟨ga, 0, none⟩ = some u0 := o10.out.some_ (by rw [HXL.out]; exact hep)
            have QS : Hid (v10.cell? ⟨ga, 0, none⟩ = some (.int .i64 x0)) := Lib.hid ((World.cell?_of_block (a := ⟨ga, 0, none⟩) (hg10.block ga (o9.out.ltk ga rfl) (by intro e; injection e with e; omega))).trans (SK3.out _ hd3))
            clear hc10 hg10 hr1 kb
            refine ⟨QS.out, ?_⟩
            refine tame0 (k := 6) ?_ rfl (by kernel_rfl) (by kernel_rfl) (by kernel_rfl) (fun _ _ _ h => h) (by kernel_rfl) (fun v => ?_) ?_
            rotate_left
            · (go_simp; all_goals rfl)
            simp only [Act.put]
            refine tame_one (k := 7) (by kernel_rfl) rfl (by kernel_rfl) ?_
            go_simp
            refine ⟨QS.out, ?_⟩
            have fz := o10.out.frozen 0
            have qy := QS.out
            have st := o10.out.set 0 (x0 - r)
            have T11 := T10.out.row st.2 (fun b e => by
              have e : ga = b := by injection e
              subst e
              exact ⟨by omega, fun e => by have := N1.out ga e; omega, fun e => by have := N2.out ga e; omega, fun e => by have := N3.out ga e; omega⟩)
            have O411 := O410.out.grown st.2 (by
              rcases A4 with _ | a4
              · exact .inl rfl
              · right; intro e; have := N4.out ga e; omega)
            refine tame_one (k := 8) (by kernel_rfl) rfl (by kernel_rfl) ?_
            go_simp
            try (refine ⟨fun h => absurd h (by decide), ?_⟩)
            refine tame_end (by kernel_rfl) ?_
            go_wp2_with fail
            refine hK1.out _ _ ?_
            have hls : (xs.set 0 (x0 - r)).length = (endL P).length := by rw [List.length_set, HXL.out]
            rw [← hls]
            exact trTail s T11 O411 (st.1.mono hg7) (by omega) hP hW hF (by omega) (by rw [List.length_set, HXL.out]; omega) _ _ _ _ _ _ _ _ _ _ _ _ _ _ _ _ _ _ _ _ _ _ _ _ _ _ _ _ _ _ _ _ _ _ _ _ _ _ _ _ _ _ _ _ _ _ _ _ _ _ _ _ _ _ _ _ _ _ _ _ _ _ _ _
    · go_wp2_with fail
      refine hK1.out _ _ ?_
      exact trTail s T5.out O45.out O55.out (by omega) hP hW hF (by omega) (by omega) _ _ _ _ _ _ _ _ _ _ _ _ _ _ _ _ _ _ _ _ _ _ _ _ _ _ _ _ _ _ _ _ _ _ _ _ _ _ _ _ _ _ _ _ _ _ _ _ _ _ _ _ _ _ _ _ _ _ _ _ _ _ _ _
/-- A market, a number and two rows of numbers. -/
def MkNRRDrawn (w : World) (e : Ending) (w' : World) : Prop := ∃ A1 c1 P A2 c2 W A3 c3 F, ∃ s : Int, ∃ A4 c4 H A5 c5 X, e = .returned (.tuple #[mkV A1 P.length c1 A2 W.length c2 A3 F.length c3, .int .i64 s, .slice A4 H.length c4, .slice A5 X.length c5]) ∧ P.length ≤ 60 ∧ W.length ≤ 60 ∧ F.length ≤ 60 ∧ H.length ≤ 60 ∧ X.length ≤ 60 ∧
  RdM w' A1 P A2 W A3 F ∧ Rd w' A4 (ints H) ∧ Rd w' A5 (ints X) ∧ Below w.heap.size w w'
set_option maxRecDepth 20000 in
set_option maxHeartbeats 1000000 in
theorem drawDc_c (A : Option Addr) (bs : List Int) (c : Nat) (w : World) (hr : Rd w A (u8s bs)) (hb : ByOk bs) (hl : bs.length ≤ 65537) :
    Calls Try.prog 50 #[.slice A bs.length c] w (MkNRRDrawn w) := by
  have B0 := (Bz.new w (.slice none 0 0) (.slice none 0 0) (.slice none 0 0) 28).below ((Below.refl _ _).alloc (Nat.le_refl _) (.cells #[.slice A bs.length c, .int .i64 0, .int .u64 0] 75))
  have hC := CurS.new (w.alloc (.cells #[.slice none 0 0, .slice none 0 0, .slice none 0 0] 28)) A bs c 75 (hr.alloc _) hb (by omega)
  rw [World.size_alloc] at hC
  go_enter Try.func50, Try.ntmps50
  go_wp2_with fail
  refine (traded_c _ _ _ hC (by omega)).mono ?_
  rintro e w2 ⟨A1, c1, P, A2, c2, W, A3, c3, F, s, A4, c4, H, A5, c5, X, rfl, hP, hW, hF, hH, hX, o1, o2, o3, o4, o5, hc, hg⟩
  have B2 := B0.grownR hg (by intro e; injection e with e; omega)
  have HB := below_box6 rfl hg
  simp only [World.size_alloc] at o1 o2 o3 o4 o5
  have gs := set3_grown w2 w.heap.size (.slice A1 P.length c1) (.slice A2 W.length c2) (.slice A3 F.length c3)
  have HB2 := HB.grown gs HB.size (fun b e => by injection e with e; omega)
  have R1 := (o1.grown gs (own_apart o1 (by omega))).rd
  have R2 := (o2.grown gs (own_apart o2 (by omega))).rd
  have R3 := (o3.grown gs (own_apart o3 (by omega))).rd
  have R4 := (o4.grown gs (own_apart o4 (by omega))).rd
  have R5 := (o5.grown gs (own_apart o5 (by omega))).rd
  obtain ⟨⟨k0, k1, k2, k3⟩, k4, k5, k6⟩ := id B2
  clear hC B0 B2 hc hg gs o1 o2 o3 o4 o5
  go_wp2_with fail
  exact bodyPost_ret (v := .tuple #[mkV A1 P.length c1 A2 W.length c2 A3 F.length c3, .int .i64 s, .slice A4 H.length c4, .slice A5 X.length c5]) (by simp [results, Try.results50, go_sem, k0, k1, k2]) rfl ⟨A1, c1, P, A2, c2, W, A3, c3, F, s, A4, c4, H, A5, c5, X, rfl, hP, hW, hF, hH, hX, ⟨R1, R2, R3, by omega, by omega, by omega⟩, R4, R5, HB2⟩

end Go.Proofs.Ytnhclpajfejnoaa
