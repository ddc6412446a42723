/- The draw of a market. (Written by gen_drk.py.) -/
import Derived.Test.YtnhclpajfejnoaaDrT
import Derived.Test.YtnhclpajfejnoaaTrA
import Derived.Test.YtnhclpajfejnoaaFgS
import Derived.Deep.DeepCutAuto
import Derived.Deep.CutRange
namespace Go.Proofs.Ytnhclpajfejnoaa
open Go.RowKit

theorem Bz.grownR {W W' : World} {g : Nat} {x y z : Value} {row : Option Nat} (h : Bz W g x y z) (hg : W.grownBy W' row) (hr : row ≠ some g) : Bz W' g x y z := by
  have hk := hg.block g h.b.2.2.2 (fun e => hr e.symm)
  exact ⟨h.b.grownR hg hr, (World.frozen?_of_block (a := ⟨g, 0, none⟩) hk).trans h.f0, (World.frozen?_of_block (a := ⟨g, 1, none⟩) hk).trans h.f1, (World.frozen?_of_block (a := ⟨g, 2, none⟩) hk).trans h.f2⟩
/-- A market being drawn: its box at gm, the result's box at gr, the cursor at g. -/
structure MkD (w0 w : World) (g gr gm : Nat) (N : Int) (A1 : Option Addr) (c1 : Nat) (P : List Int) (A2 : Option Addr) (c2 : Nat) (W : List Int) (A3 : Option Addr) (c3 : Nat) (F : List Int) : Prop where
  bx : Bz w gm (.slice A1 P.length c1) (.slice A2 W.length c2) (.slice A3 F.length c3)
  br : Bz w gr (.slice none 0 0) (.slice none 0 0) (.slice none 0 0)
  o1 : Own w w0.heap.size A1 c1 P
  o2 : Own w w0.heap.size A2 c2 W
  o3 : Own w w0.heap.size A3 c3 F
  n1 : ∀ b, blk A1 = some b → b ≠ gm ∧ b ≠ gr
  n2 : ∀ b, blk A2 = some b → b ≠ gm ∧ b ≠ gr
  n3 : ∀ b, blk A3 = some b → b ≠ gm ∧ b ≠ gr ∧ blk A1 ≠ some b ∧ blk A2 ≠ some b
  cur : CurS w g N
  g0 : g < w0.heap.size
  t0 : w0.heap.size ≤ gm ∧ w0.heap.size ≤ gr ∧ gr ≠ gm
  gr_ : w0.grownBy w (some g)
theorem ne_blk {A : Option Addr} {q : Nat} (h : ∀ b, blk A = some b → b ≠ q) : A = none ∨ blk A ≠ some q := by
  rcases A with _ | a
  · exact .inl rfl
  · right; intro e; exact h q e rfl
theorem ne_row {A B : Option Addr} (h : ∀ b, blk B = some b → blk A ≠ some b) : A = none ∨ blk A ≠ blk B := by
  rcases A with _ | a
  · exact .inl rfl
  · right; intro e; exact h a.block e.symm rfl
section
variable {w0 w w' : World} {g gr gm : Nat} {N M : Int} {A1 A2 A3 : Option Addr} {c1 c2 c3 : Nat} {P W F : List Int}
theorem MkD.cur_ (h : MkD w0 w g gr gm N A1 c1 P A2 c2 W A3 c3 F) (hk : w.grownBy w' (some g)) (hc : CurS w' g M) : MkD w0 w' g gr gm M A1 c1 P A2 c2 W A3 c3 F :=
  ⟨h.bx.grownR hk (by intro e; injection e with e; have := h.t0; have := h.g0; omega), h.br.grownR hk (by intro e; injection e with e; have := h.t0; have := h.g0; omega), h.o1.grown hk (own_apart h.o1 h.g0), h.o2.grown hk (own_apart h.o2 h.g0), h.o3.grown hk (own_apart h.o3 h.g0), h.n1, h.n2, h.n3, hc, h.g0, h.t0, h.gr_.trans hk⟩
theorem MkD.below (h : MkD w0 w g gr gm N A1 c1 P A2 c2 W A3 c3 F) (hb : Below w.heap.size w w') : MkD w0 w' g gr gm N A1 c1 P A2 c2 W A3 c3 F :=
  ⟨h.bx.below hb, h.br.below hb, h.o1.below hb, h.o2.below hb, h.o3.below hb, h.n1, h.n2, h.n3, h.cur.below hb, h.g0, h.t0, grown_low h.gr_ hb⟩
theorem MkD.mono (h : MkD w0 w g gr gm N A1 c1 P A2 c2 W A3 c3 F) (hN : N ≤ M) : MkD w0 w g gr gm M A1 c1 P A2 c2 W A3 c3 F := ⟨h.bx, h.br, h.o1, h.o2, h.o3, h.n1, h.n2, h.n3, h.cur.mono hN, h.g0, h.t0, h.gr_⟩
theorem MkD.drew (h : MkD w0 w g gr gm N A1 c1 P A2 c2 W A3 c3 F) : MkD w0 w.drew g gr gm N A1 c1 P A2 c2 W A3 c3 F :=
  h.cur_ ⟨rfl, rfl, rfl, Nat.le_refl _, fun _ _ _ => rfl⟩ (h.cur.drewN 1)
theorem MkD.push3 (h : MkD w0 w g gr gm N A1 c1 P A2 c2 W A3 c3 F) {A3' : Option Addr} {c3' : Nat} {y : Int} (o : Own w' w0.heap.size A3' c3' (F ++ [y])) (gw : w.grownBy w' (blk A3)) (t : blk A3' = blk A3 ∨ ∃ r, blk A3' = some r ∧ w.heap.size ≤ r) :
    MkD w0 (w'.setCell ⟨gm, 2, none⟩ (.slice A3' (F.length + 1) c3')) g gr gm N A1 c1 P A2 c2 W A3' c3' (F ++ [y]) := by
  have k1 := fun b e => (h.o1.ltk b e)
  have k2 := fun b e => (h.o2.ltk b e)
  have n3' : ∀ b, blk A3' = some b → b ≠ gm ∧ b ≠ gr ∧ blk A1 ≠ some b ∧ blk A2 ≠ some b := fun b e => by
    rcases t with t | ⟨r, t, hr⟩
    · exact h.n3 b (by rw [← t]; exact e)
    · rw [t] at e
      injection e with e
      subst e
      exact ⟨by have := h.bx.b.2.2.2; omega, by have := h.br.b.2.2.2; omega, fun e => by have := k1 r e; omega, fun e => by have := k2 r e; omega⟩
  have gs : w'.grownBy (w'.setCell ⟨gm, 2, none⟩ (.slice A3' (F.length + 1) c3')) (some gm) := grown_setCell w' ⟨gm, 2, none⟩ _
  have b1 := h.bx.grownR gw (fun e => (h.n3 gm e).1 rfl)
  have b2 := h.br.grownR gw (fun e => (h.n3 gr e).2.1 rfl)
  have o1 := h.o1.grown gw (ne_row fun b e => (h.n3 b e).2.2.1)
  have o2 := h.o2.grown gw (ne_row fun b e => (h.n3 b e).2.2.2)
  refine ⟨?_, b2.grownR gs (by intro e; injection e with e; exact h.t0.2.2 e.symm), o1.grown gs (ne_blk fun b e => (h.n1 b e).1), o2.grown gs (ne_blk fun b e => (h.n2 b e).1), o.grown gs (ne_blk fun b e => (n3' b e).1), h.n1, h.n2, n3', ?_, h.g0, h.t0, ?_⟩
  · rw [List.length_append]
    exact b1.s2 _
  · exact (h.cur.grown gw (fun b e => by have := h.o3.ge b e; have := h.g0; omega)).grown gs (fun b e => by injection e with e; have := h.t0; have := h.g0; omega)
  · exact grown_new (grown_new h.gr_ gw (fun b e => h.o3.ge b e)) gs (fun b e => by injection e with e; have := h.t0; omega)
theorem MkD.set3 {a3 : Nat} (h : MkD w0 w g gr gm N A1 c1 P A2 c2 W (some ⟨a3, 0, none⟩) c3 F) (k : Nat) (y : Int) : MkD w0 (w.setCell ⟨a3, k, none⟩ (.int .i64 y)) g gr gm N A1 c1 P A2 c2 W (some ⟨a3, 0, none⟩) c3 (F.set k y) := by
  have o := h.o3.set k y
  have n := h.n3 a3 rfl
  have hl := h.o3.ge a3 rfl
  exact ⟨by rw [List.length_set]; exact h.bx.grownR o.2 (by intro e; injection e with e; exact n.1 e), h.br.grownR o.2 (by intro e; injection e with e; exact n.2.1 e), h.o1.grown o.2 (.inr n.2.2.1), h.o2.grown o.2 (.inr n.2.2.2), o.1, h.n1, h.n2, h.n3, h.cur.grown o.2 (fun b e => by injection e with e; have := h.g0; omega), h.g0, h.t0, grown_new h.gr_ o.2 (fun b e => by injection e with e; omega)⟩
/-- A market has been drawn: rows of the call's own. -/
def MarketDrawn (w : World) (g : Nat) (M : Int) (e : Ending) (w' : World) : Prop := ∃ A1 c1 P A2 c2 W A3 c3 F, e = .returned (mkV A1 P.length c1 A2 W.length c2 A3 F.length c3) ∧ P.length ≤ 60 ∧ W.length ≤ 60 ∧ F.length ≤ 60 ∧
  Own w' w.heap.size A1 c1 P ∧ Own w' w.heap.size A2 c2 W ∧ Own w' w.heap.size A3 c3 F ∧ CurS w' g M ∧ w.grownBy w' (some g)
theorem MkD.fin (h : MkD w0 w g gr gm N A1 c1 P A2 c2 W A3 c3 F) (hN : N ≤ M) (h1 : P.length ≤ 60) (h2 : W.length ≤ 60) (h3 : F.length ≤ 60) (u x z : Value) :
    MarketDrawn w0 g M (.returned (mkV A1 P.length c1 A2 W.length c2 A3 F.length c3)) (((w.setCell ⟨gr, 0, none⟩ u).setCell ⟨gr, 1, none⟩ x).setCell ⟨gr, 2, none⟩ z) := by
  have gs : w.grownBy (((w.setCell ⟨gr, 0, none⟩ u).setCell ⟨gr, 1, none⟩ x).setCell ⟨gr, 2, none⟩ z) (some gr) := ((grown_setCell w ⟨gr, 0, none⟩ _).trans (grown_setCell _ ⟨gr, 1, none⟩ _)).trans (grown_setCell _ ⟨gr, 2, none⟩ _)
  exact ⟨A1, c1, P, A2, c2, W, A3, c3, F, rfl, h1, h2, h3, h.o1.grown gs (ne_blk fun b e => (h.n1 b e).2), h.o2.grown gs (ne_blk fun b e => (h.n2 b e).2), h.o3.grown gs (ne_blk fun b e => (h.n3 b e).2.1), (h.cur.mono hN).grown gs (fun b e => by injection e with e; have := h.t0; have := h.g0; omega), grown_new h.gr_ gs (fun b e => by injection e with e; have := h.t0; omega)⟩
end
theorem allB_snoc {F : List Int} {y lo hi : Int} (h : allB F lo hi = true) (h1 : lo ≤ y) (h2 : y ≤ hi) : allB (F ++ [y]) lo hi = true := by
  unfold allB at *
  rw [List.all_append, h]
  simp [inB, h1, h2]
theorem allB_set {F : List Int} {y lo hi : Int} {k : Nat} (h : allB F lo hi = true) (h1 : lo ≤ y) (h2 : y ≤ hi) : allB (F.set k y) lo hi = true := by
  refine List.all_eq_true.2 fun x hx => ?_
  rcases List.mem_or_eq_of_mem_set hx with hx | rfl
  · exact List.all_eq_true.1 h x hx
  · exact inB_iff.2 ⟨h1, h2⟩
/-- The code from region k on: a piece of a body. -/
def firstIs (k : Nat) : Code → Bool
  | .region id _ _ => id == k
  | .seq a _ => firstIs k a
  | _ => false
def restFrom (k : Nat) : Code → Option Code
  | .seq a b => if firstIs k a then some (.seq a b) else
    match restFrom k a with
    | some c => some c
    | none => restFrom k b
  | .cond _ a b =>
    match restFrom k a with
    | some c => some c
    | none => restFrom k b
  | .block _ c => restFrom k c
  | .scope c => restFrom k c
  | .loop c => restFrom k c
  | _ => none
noncomputable def mk22 : Code := ((Try.f59.body.bind (restFrom 22)).getD .skip)
noncomputable def mk20 : Code := ((Try.f59.body.bind (restFrom 20)).getD .skip)
set_option maxRecDepth 20000 in
set_option maxHeartbeats 4000000 in
theorem mkTail2 {w0 w : World} {g gr gm : Nat} {N M : Int} {A1 A2 A3 : Option Addr} {c1 c2 c3 : Nat} {P W F : List Int} (T0 : MkD w0 w g gr gm N A1 c1 P A2 c2 W A3 c3 F) (hM : N + 2 ≤ M) (hN : N ≤ 900000) (hP : P.length ≤ 60) (hW : W.length ≤ 60) (hF : F.length ≤ 59) (u1 u4 u5 u6 u7 u8 u9 u10 u11 u12 u13 u14 u15 u16 u17 u18 u19 u20 u21 u22 u23 u24 u25 u26 u27 u28 u29 u30 u31 u32 u33 u34 u35 u36 u37 u38 u39 u40 u41 u42 u43 u44 u45 u46 u47 u48 u49 u50 u51 u52 u53 u54 u55 u56 u57 u58 u59 u60 u61 u62 u63 u64 u65 u66 u67 u68 u69 u70 u71 u72 u73 u74 u75 u76 u77 u78 u79 u80 u81 u82 u83 u84 u85 u86 u87 u88 u89 u90 u91 u92 u93 u94 u95 u96 u97 u98 u99 u100 u101 u102 u103 u104 u105 u106 u107 u108 u109 u110 u111 u112 u113 u114 u115 u116 u117 u118 u119 u120 u121 u122 u123 u124 u125 u126 u127 u128 u129 u130 u131 u132 u133 u134 u135 u136 u137 u138 u139 u140 u141 u142 u143 u144 : Value) :
    Code.wp Try.prog mk22 (bodyPost Try.prog Try.f59 (MarketDrawn w0 g M)) ⟨#[.pointer (some ⟨g, 0, none⟩), u1, .pointer (some ⟨gr, 0, none⟩), .pointer (some ⟨gm, 0, none⟩), u4, u5, u6, u7, u8, u9, u10, u11, u12, u13, u14, u15, u16, u17, u18, u19, u20, u21, u22, u23, u24, u25, u26, u27, u28, u29, u30, u31, u32, u33, u34, u35, u36, u37, u38, u39, u40, u41, u42, u43, u44, u45, u46, u47, u48, u49, u50, u51, u52, u53, u54, u55, u56, u57, u58, u59, u60, u61, u62, u63, u64, u65, u66, u67, u68, u69, u70, u71, u72, u73, u74, u75, u76, u77, u78, u79, u80, u81, u82, u83, u84, u85, u86, u87, u88, u89, u90, u91, u92, u93, u94, u95, u96, u97, u98, u99, u100, u101, u102, u103, u104, u105, u106, u107, u108, u109, u110, u111, u112, u113, u114, u115, u116, u117, u118, u119, u120, u121, u122, u123, u124, u125, u126, u127, u128, u129, u130, u131, u132, u133, u134, u135, u136, u137, u138, u139, u140, u141, u142, u143, u144], []⟩ w := by
  conv => arg 2; whnf
  have T := Lib.hid T0
  clear T0
  go_wp2_with fail
  refine (one_c g _ 40 _ T.out.cur (by omega) (by omega)).mono ?_
  rintro e v2 ⟨u, rfl, ⟨b, rfl⟩, hc2, hg2⟩
  have T2 := Lib.hid (T.out.cur_ hg2 hc2)
  clear hc2 hg2 T
  cases b
  · have k0 := T2.out.bx.b.1
    have k1 := T2.out.bx.b.2.1
    have k2 := T2.out.bx.b.2.2.1
    have k3 := T2.out.br.b.1
    have k4 := T2.out.br.b.2.1
    have k5 := T2.out.br.b.2.2.1
    have k6 := T2.out.br.f0
    have k7 := T2.out.br.f1
    have k8 := T2.out.br.f2
    go_wp2_with fail
    have R := T2.out.fin (M := M) (by omega) hP hW (by omega) (.slice A1 P.length c1) (.slice A2 W.length c2) (.slice A3 F.length c3)
    exact bodyPost_ret (v := mkV A1 P.length c1 A2 W.length c2 A3 F.length c3) (by simp [results, Try.results59, go_sem, k3, k4, k5]) rfl R
  · have k2 := T2.out.bx.b.2.2.1
    go_wp2_with (at_builtin; refine wp_append1 v2 3 _ rfl _ _ rfl w0.heap.size A3 F.length c3 F rfl rfl T2.out.o3 rfl (by omega) (by have := T2.out.gr_.size; omega) ?_; intro A5 c5 w5 o5 g5 b5; have kb := T2.out.bx.grownR g5 (fun e => (T2.out.n3 gm e).1 rfl); have T5 := Lib.hid (T2.out.push3 o5 g5 b5); obtain ⟨⟨f0, f1, f2, f3⟩, f4, f5, f6⟩ := kb; clear o5 g5 b5 k2; have k0 := T5.out.bx.b.1; have k1 := T5.out.bx.b.2.1; have k2 := T5.out.bx.b.2.2.1; have k3 := T5.out.br.b.1; have k4 := T5.out.br.b.2.1; have k5 := T5.out.br.b.2.2.1; have k6 := T5.out.br.f0; have k7 := T5.out.br.f1; have k8 := T5.out.br.f2; rw [List.length_append] at k2)
    have R := T5.out.fin (M := M) (by omega) hP hW (by simp; omega) (.slice A1 P.length c1) (.slice A2 W.length c2) (.slice A5 (F.length + 1) c5)
    rw [List.length_append] at R
    exact bodyPost_ret (v := mkV A1 P.length c1 A2 W.length c2 A5 (F.length + 1) c5) (by simp [results, Try.results59, go_sem, k3, k4, k5]) rfl R
set_option maxRecDepth 20000 in
set_option maxHeartbeats 4000000 in
theorem mkTail {w0 w : World} {g gr gm : Nat} {N M : Int} {A1 A2 A3 : Option Addr} {c1 c2 c3 : Nat} {P W F : List Int} (T0 : MkD w0 w g gr gm N A1 c1 P A2 c2 W A3 c3 F) (hM : N + 10 ≤ M) (hN : N ≤ 800000) (hP : P.length ≤ 60) (hW : W.length ≤ 60) (hF : F.length ≤ 59) (u1 u4 u5 u6 u7 u8 u9 u10 u11 u12 u13 u14 u15 u16 u17 u18 u19 u20 u21 u22 u23 u24 u25 u26 u27 u28 u29 u30 u31 u32 u33 u34 u35 u36 u37 u38 u39 u40 u41 u42 u43 u44 u45 u46 u47 u48 u49 u50 u51 u52 u53 u54 u55 u56 u57 u58 u59 u60 u61 u62 u63 u64 u65 u66 u67 u68 u69 u70 u71 u72 u73 u74 u75 u76 u77 u78 u79 u80 u81 u82 u83 u84 u85 u86 u87 u88 u89 u90 u91 u92 u93 u94 u95 u96 u97 u98 u99 u100 u101 u102 u103 u104 u105 u106 u107 u108 u109 u110 u111 u112 u113 u114 u115 u116 u117 u118 u119 u120 u121 u122 u123 u124 u125 u126 u127 u128 u129 u130 u131 u132 u133 u134 u135 u136 u137 u138 u139 u140 u141 u142 u143 u144 : Value) :
    Code.wp Try.prog mk20 (bodyPost Try.prog Try.f59 (MarketDrawn w0 g M)) ⟨#[.pointer (some ⟨g, 0, none⟩), u1, .pointer (some ⟨gr, 0, none⟩), .pointer (some ⟨gm, 0, none⟩), u4, u5, u6, u7, u8, u9, u10, u11, u12, u13, u14, u15, u16, u17, u18, u19, u20, u21, u22, u23, u24, u25, u26, u27, u28, u29, u30, u31, u32, u33, u34, u35, u36, u37, u38, u39, u40, u41, u42, u43, u44, u45, u46, u47, u48, u49, u50, u51, u52, u53, u54, u55, u56, u57, u58, u59, u60, u61, u62, u63, u64, u65, u66, u67, u68, u69, u70, u71, u72, u73, u74, u75, u76, u77, u78, u79, u80, u81, u82, u83, u84, u85, u86, u87, u88, u89, u90, u91, u92, u93, u94, u95, u96, u97, u98, u99, u100, u101, u102, u103, u104, u105, u106, u107, u108, u109, u110, u111, u112, u113, u114, u115, u116, u117, u118, u119, u120, u121, u122, u123, u124, u125, u126, u127, u128, u129, u130, u131, u132, u133, u134, u135, u136, u137, u138, u139, u140, u141, u142, u143, u144], []⟩ w := by
  conv => arg 2; whnf
  have T := Lib.hid T0
  clear T0
  go_upto_region 20 with fail
  rename_i K1 hK1 K0 hK0
  replace hK1 := Lib.hid hK1
  go_wp2_with fail
  refine (one_c g _ 40 _ T.out.cur (by omega) (by omega)).mono ?_
  rintro e v2 ⟨u, rfl, ⟨b, rfl⟩, hc2, hg2⟩
  have T2 := Lib.hid (T.out.cur_ hg2 hc2)
  clear hc2 hg2 T
  cases b
  · go_wp2_with fail
    refine hK1.out _ _ ?_
    exact mkTail2 T2.out (by omega) (by omega) hP hW hF _ _ _ _ _ _ _ _ _ _ _ _ _ _ _ _ _ _ _ _ _ _ _ _ _ _ _ _ _ _ _ _ _ _ _ _ _ _ _ _ _ _ _ _ _ _ _ _ _ _ _ _ _ _ _ _ _ _ _ _ _ _ _ _ _ _ _ _ _ _ _ _ _ _ _ _ _ _ _ _ _ _ _ _ _ _ _ _ _ _ _ _ _ _ _ _ _ _ _ _ _ _ _ _ _ _ _ _ _ _ _ _ _ _ _ _ _ _ _ _ _ _ _ _ _ _ _ _ _ _ _ _ _ _ _ _ _ _ _ _ _ _
  · have k2 := T2.out.bx.b.2.2.1
    by_cases h0 : 0 < F.length
    · have i0 : (0 : Int) < (F.length : Int) := by omega
      obtain ⟨a3, rfl, _, _⟩ := T2.out.o3.form h0
      go_upto_region 21 with fail
      clear k2
      have qb := T2.out.bx.b.2.2.1
      have hd7 : Below v2.heap.size v2 v2.drew := Below.drew (Below.refl _ _)
      have SK7 : Hid (∀ w', Below v2.heap.size v2 w' → w'.cell? ⟨gm, 2, none⟩ = some (.slice (some ⟨a3, 0, none⟩) F.length c3)) := Lib.hid fun w' HV => (HV.cell (cell_lt qb)).trans qb
      clear qb
      have hS7_0 := SK7.out _ hd7
      refine tamed_region (S := fun w' => w'.cell? ⟨gm, 2, none⟩ = some (.slice (some ⟨a3, 0, none⟩) F.length c3)) (fun k => k == 11) (by kernel_rfl) ?_
      refine tame0 (k := 0) ?_ rfl (by kernel_rfl) (by kernel_rfl) (by kernel_rfl) (fun _ _ _ h => h) (by kernel_rfl) (fun v => ?_) ?_
      rotate_left
      · (go_simp; all_goals rfl)
      simp only [Act.put, List.setIfInBounds_toArray]
      refine tameT (k := 1) ?_ rfl (by kernel_rfl) (by kernel_rfl) (by kernel_rfl) (by kernel_rfl) (by kernel_rfl) (fun _ _ _ h => h) (by kernel_rfl) hS7_0 (fun v hv => ?_) ?_
      rotate_left
      · (obtain k1 := hv; go_simp; all_goals rfl)
      simp only [Act.put]
      refine tame0 (k := 2) ?_ rfl (by kernel_rfl) (by kernel_rfl) (by kernel_rfl) (fun _ _ _ h => h) (by kernel_rfl) (fun v => ?_) ?_
      rotate_left
      · (go_simp; all_goals rfl)
      simp only [Act.put]
      refine tame0 (k := 3) ?_ rfl (by kernel_rfl) (by kernel_rfl) (by kernel_rfl) (fun _ _ _ h => h) (by kernel_rfl) (fun v => ?_) ?_
      rotate_left
      · (go_simp; all_goals rfl)
      simp only [Act.put]
      refine tameT (k := 4) ?_ rfl (by kernel_rfl) (by kernel_rfl) (by kernel_rfl) (by kernel_rfl) (by kernel_rfl) (fun _ _ _ h => h) (by kernel_rfl) hS7_0 (fun v hv => ?_) ?_
      rotate_left
      · (obtain k1 := hv; go_simp; all_goals rfl)
      simp only [Act.put]
      refine tame0 (k := 5) ?_ rfl (by kernel_rfl) (by kernel_rfl) (by kernel_rfl) (fun _ _ _ h => h) (by kernel_rfl) (fun v => ?_) ?_
      rotate_left
      · (go_simp; all_goals rfl)
      simp only [Act.put]
      refine tame0 (k := 7) ?_ rfl (by kernel_rfl) (by kernel_rfl) (by kernel_rfl) (fun _ _ _ h => h) (by kernel_rfl) (fun v => ?_) ?_
      rotate_left
      · (go_simp; all_goals rfl)
      simp only [Act.put]
      have TD := Lib.hid T2.out.drew
      clear T2 i0
      refine tame_two (i := 6) (j := 8) (by kernel_rfl) rfl rfl (by kernel_rfl) (by kernel_rfl) ?_ ?_
      · go_simp
        refine (pick_c g _ (F.length : Int) _ TD.out.cur (by omega) (by omega)).mono ?_
        rintro e v3 ⟨u, rfl, ⟨x, rfl, hx0, hx1⟩, hc3, hg3⟩
        have T3 := Lib.hid (TD.out.cur_ hg3 hc3)
        obtain ⟨x, rfl⟩ : ∃ x' : Nat, x = (x' : Int) := ⟨x.toNat, by omega⟩
        have hxl : x < F.length := by omega
        have ix : (x : Int) < (F.length : Int) := by omega
        clear hc3 hg3 hx0 hx1
        have QD := Lib.hid T3.out.bx.b.2.2.1
        refine ⟨QD.out, ?_⟩
        refine tame_one (k := 8) (by kernel_rfl) rfl (by kernel_rfl) ?_
        go_simp
        have R0 := (Own.lit v3 [-1, 20, 21] (by decide)).rd
        have T4 := Lib.hid (T3.out.below ((Below.refl _ _).alloc (Nat.le_refl _) (.cells (ints [-1, 20, 21]).toArray 3)))
        have HZ := Lib.hid T3.out.gr_.size
        clear T3
        refine ⟨T4.out.bx.b.2.2.1, ?_⟩
        refine tame_one (k := 9) (by kernel_rfl) rfl (by kernel_rfl) ?_
        go_simp
        refine (among_c g _ _ [-1, 20, 21] _ _ _ T4.out.cur (by omega) R0 (fun ad e => by injection e with e; have := TD.out.g0; have := HZ.out; rw [← e]; show v3.heap.size ≠ g; omega) rfl (by simp) (by simp)).mono ?_
        rintro e v7 ⟨u, rfl, ⟨q, hq, rfl⟩, hc7, hg7⟩
        have T7 := Lib.hid (T4.out.cur_ hg7 hc7)
        have QE := Lib.hid T7.out.bx.b.2.2.1
        generalize nth [-1, 20, 21] q = y at *
        clear hq hc7 hg7 R0 QD
        refine ⟨QE.out, ?_⟩
        refine tame_one (k := 10) (by kernel_rfl) rfl (by kernel_rfl) ?_
        go_simp
        refine ⟨QE.out, ?_⟩
        have fz := T7.out.o3.frozen x
        have qx := T7.out.o3.cellN hxl
        have T8 := Lib.hid (T7.out.set3 x y)
        refine tame_one (k := 11) (by kernel_rfl) rfl (by kernel_rfl) ?_
        go_simp
        try (refine ⟨fun h => absurd h (by decide), ?_⟩)
        refine tame_end (by kernel_rfl) ?_
        clear fz qx QE
        go_wp2_with fail
        refine hK1.out _ _ ?_
        exact mkTail2 T8.out (by omega) (by omega) hP hW (by rw [List.length_set]; exact hF) _ _ _ _ _ _ _ _ _ _ _ _ _ _ _ _ _ _ _ _ _ _ _ _ _ _ _ _ _ _ _ _ _ _ _ _ _ _ _ _ _ _ _ _ _ _ _ _ _ _ _ _ _ _ _ _ _ _ _ _ _ _ _ _ _ _ _ _ _ _ _ _ _ _ _ _ _ _ _ _ _ _ _ _ _ _ _ _ _ _ _ _ _ _ _ _ _ _ _ _ _ _ _ _ _ _ _ _ _ _ _ _ _ _ _ _ _ _ _ _ _ _ _ _ _ _ _ _ _ _ _ _ _ _ _ _ _ _ _ _ _ _
      · go_simp
        have R1 := (Own.lit v2.drew [-1, 20, 21] (by decide)).rd
        have HZ : Hid (w0.heap.size ≤ v2.heap.size) := Lib.hid TD.out.gr_.size
        have T3 := Lib.hid (TD.out.below (w' := (v2.drew.alloc (.cells (ints [-1, 20, 21]).toArray 3))) ((Below.refl _ _).alloc (Nat.le_refl _) (.cells (ints [-1, 20, 21]).toArray 3)))
        have QC := Lib.hid T3.out.bx.b.2.2.1
        refine ⟨QC.out, ?_⟩
        refine tame_one (k := 6) (by kernel_rfl) rfl (by kernel_rfl) ?_
        go_simp
        refine (pick_c g _ (F.length : Int) _ T3.out.cur (by omega) (by omega)).mono ?_
        rintro e v4 ⟨u, rfl, ⟨x, rfl, hx0, hx1⟩, hc3, hg3⟩
        have T4 := Lib.hid (T3.out.cur_ hg3 hc3)
        obtain ⟨x, rfl⟩ : ∃ x' : Nat, x = (x' : Int) := ⟨x.toNat, by omega⟩
        have hxl : x < F.length := by omega
        have ix : (x : Int) < (F.length : Int) := by omega
        have R0 := R1.grown hg3 (fun ad e e2 => by injection e with e; have := TD.out.g0; have := HZ.out; rw [← e] at e2; injection e2 with e2; have e3 : v2.heap.size = g := e2; omega)
        clear hc3 hg3 hx0 hx1
        have QD := Lib.hid T4.out.bx.b.2.2.1
        refine ⟨QD.out, ?_⟩
        refine tame_one (k := 9) (by kernel_rfl) rfl (by kernel_rfl) ?_
        go_simp
        refine (among_c g _ _ [-1, 20, 21] _ _ _ T4.out.cur (by omega) R0 (fun ad e => by injection e with e; have := TD.out.g0; have := HZ.out; rw [← e]; show v2.heap.size ≠ g; omega) rfl (by simp) (by simp)).mono ?_
        rintro e v7 ⟨u, rfl, ⟨q, hq, rfl⟩, hc7, hg7⟩
        have T7 := Lib.hid (T4.out.cur_ hg7 hc7)
        have QE := Lib.hid T7.out.bx.b.2.2.1
        generalize nth [-1, 20, 21] q = y at *
        clear hq hc7 hg7 R0 QD
        refine ⟨QE.out, ?_⟩
        refine tame_one (k := 10) (by kernel_rfl) rfl (by kernel_rfl) ?_
        go_simp
        refine ⟨QE.out, ?_⟩
        have fz := T7.out.o3.frozen x
        have qx := T7.out.o3.cellN hxl
        have T8 := Lib.hid (T7.out.set3 x y)
        refine tame_one (k := 11) (by kernel_rfl) rfl (by kernel_rfl) ?_
        go_simp
        try (refine ⟨fun h => absurd h (by decide), ?_⟩)
        refine tame_end (by kernel_rfl) ?_
        clear fz qx QE
        go_wp2_with fail
        refine hK1.out _ _ ?_
        exact mkTail2 T8.out (by omega) (by omega) hP hW (by rw [List.length_set]; exact hF) _ _ _ _ _ _ _ _ _ _ _ _ _ _ _ _ _ _ _ _ _ _ _ _ _ _ _ _ _ _ _ _ _ _ _ _ _ _ _ _ _ _ _ _ _ _ _ _ _ _ _ _ _ _ _ _ _ _ _ _ _ _ _ _ _ _ _ _ _ _ _ _ _ _ _ _ _ _ _ _ _ _ _ _ _ _ _ _ _ _ _ _ _ _ _ _ _ _ _ _ _ _ _ _ _ _ _ _ _ _ _ _ _ _ _ _ _ _ _ _ _ _ _ _ _ _ _ _ _ _ _ _ _ _ _ _ _ _ _ _ _ _

    · have i0 : ¬ (0 : Int) < (F.length : Int) := by omega
      go_wp2_with fail
      refine hK1.out _ _ ?_
      exact mkTail2 T2.out (by omega) (by omega) hP hW hF _ _ _ _ _ _ _ _ _ _ _ _ _ _ _ _ _ _ _ _ _ _ _ _ _ _ _ _ _ _ _ _ _ _ _ _ _ _ _ _ _ _ _ _ _ _ _ _ _ _ _ _ _ _ _ _ _ _ _ _ _ _ _ _ _ _ _ _ _ _ _ _ _ _ _ _ _ _ _ _ _ _ _ _ _ _ _ _ _ _ _ _ _ _ _ _ _ _ _ _ _ _ _ _ _ _ _ _ _ _ _ _ _ _ _ _ _ _ _ _ _ _ _ _ _ _ _ _ _ _ _ _ _ _ _ _ _ _ _ _ _ _
set_option maxRecDepth 20000 in
set_option maxHeartbeats 8000000 in
theorem market_c (g : Nat) (N : Int) (w : World) (h : CurS w g N) (hN : N ≤ 700000) :
    Calls Try.prog 59 #[.pointer (some ⟨g, 0, none⟩)] w (MarketDrawn w g (N + 3000)) := by
  have hgw : g < w.heap.size := by
    obtain ⟨_, _, _, _, _, h⟩ := h
    exact h.lt
  have B0 := Bz.new w (.slice none 0 0) (.slice none 0 0) (.slice none 0 0) 28
  have b0 : Below w.heap.size w (w.alloc (.cells #[.slice none 0 0, .slice none 0 0, .slice none 0 0] 28)) := (Below.refl _ _).alloc (Nat.le_refl _) _
  go_enter Try.func59, Try.ntmps59
  go_wp2_with fail
  refine (someTree_c g N 9 _ (h.below b0) (by omega) (by decide) (by decide)).mono ?_
  rintro e w2 ⟨A1, c1, P, A2, c2, W, rfl, hP, hW, o1, o2, hc, hg⟩
  have B2 := B0.grownR hg (by intro e; injection e with e; omega)
  have G2 : w.grownBy w2 (some g) := (grown_of_below b0 (some g)).trans hg
  have l2 := B2.b.2.2.2
  have bl : Below w2.heap.size w2 (w2.alloc (.cells #[.slice A1 P.length c1, .slice A2 W.length c2, .slice none 0 0] 28)) := (Below.refl _ _).alloc (Nat.le_refl _) _
  simp only [World.size_alloc] at o1 o2
  have T0 : MkD w (w2.alloc (.cells #[.slice A1 P.length c1, .slice A2 W.length c2, .slice none 0 0] 28)) g w.heap.size w2.heap.size (N + 300) A1 c1 P A2 c2 W none 0 [] :=
    ⟨Bz.new _ _ _ _ _, B2.below bl, (o1.mono (by omega)).alloc _, (o2.mono (by omega)).alloc _, Own.nil _ _, fun b e => ⟨by have := o1.ltk b e; omega, by have := o1.ge b e; omega⟩, fun b e => ⟨by have := o2.ltk b e; omega, by have := o2.ge b e; omega⟩, fun b e => (by cases e), hc.below bl, hgw, ⟨by omega, Nat.le_refl _, by omega⟩, grown_low G2 bl⟩
  clear B0 B2 b0 o1 o2 hc hg G2 bl
  obtain ⟨gm, hgm⟩ : ∃ gm, gm = w2.heap.size := ⟨_, rfl⟩
  go_wp2_with fail
  rw [← hgm] at T0 ⊢
  have T1 := Lib.hid T0
  clear T0 hgm l2
  go_loopw [4] (fun i wr => ∃ (k : Nat) (A3 : Option Addr) (c3 : Nat) (F : List Int), i = .int .i64 (k : Int) ∧ k ≤ P.length ∧ F.length = k ∧ allB F 0 20 = true ∧ MkD w wr g w.heap.size gm (N + 300 + 2 * (k : Int)) A1 c1 P A2 c2 W A3 c3 F) (fun i _ => P.length - (intOf i).toNat)
  case atStart => exact ⟨0, none, 0, [], rfl, by omega, rfl, rfl, T1.out.mono (by omega)⟩
  case round =>
    clear T1
    obtain ⟨v, rfl⟩ : ∃ v : World, v = wr := ⟨_, rfl⟩
    obtain ⟨k, A3, c3, F, rfl, hk, hF, hFb, T⟩ := hrel
    replace T := Lib.hid T
    have HF := Lib.hid hF
    have HB := Lib.hid hFb
    clear hF hFb
    by_cases hlt : k < P.length
    · have k0 := T.out.bx.b.1
      go_upto_region 5 with fail
      clear k0
      have qb := T.out.bx.b.2.2.1
      have hd6 : Below v.heap.size v v.drew := Below.drew (Below.refl _ _)
      have SK6 : Hid (∀ w', Below v.heap.size v w' → w'.cell? ⟨gm, 2, none⟩ = some (.slice A3 F.length c3)) := Lib.hid fun w' HV => (HV.cell (cell_lt qb)).trans qb
      clear qb
      have hS6_0 := SK6.out _ hd6
      refine tamed_region (S := fun w' => w'.cell? ⟨gm, 2, none⟩ = some (.slice A3 F.length c3)) (fun k => k == 7) (by kernel_rfl) ?_
      refine tame0 (k := 0) ?_ rfl (by kernel_rfl) (by kernel_rfl) (by kernel_rfl) (fun _ _ _ h => h) (by kernel_rfl) (fun v => ?_) ?_
      rotate_left
      · (go_simp; all_goals rfl)
      simp only [Act.put, List.setIfInBounds_toArray]
      refine tameT (k := 1) ?_ rfl (by kernel_rfl) (by kernel_rfl) (by kernel_rfl) (by kernel_rfl) (by kernel_rfl) (fun _ _ _ h => h) (by kernel_rfl) hS6_0 (fun v hv => ?_) ?_
      rotate_left
      · (obtain k1 := hv; go_simp; all_goals rfl)
      simp only [Act.put]
      refine tame0 (k := 2) ?_ rfl (by kernel_rfl) (by kernel_rfl) (by kernel_rfl) (fun _ _ _ h => h) (by kernel_rfl) (fun v => ?_) ?_
      rotate_left
      · (go_simp; all_goals rfl)
      simp only [Act.put]
      refine tame_one (k := 3) (by kernel_rfl) rfl (by kernel_rfl) ?_
      go_simp
      refine (pick_c g _ 12 _ T.out.drew.cur (by omega) (by omega)).mono ?_
      rintro e v2 ⟨u, rfl, ⟨y, rfl, hy0, hy1⟩, hc2, hg2⟩
      have T2 := Lib.hid (T.out.drew.cur_ hg2 hc2)
      have QD := Lib.hid T2.out.bx.b.2.2.1
      have hyb : y ≤ 11 := by omega
      clear hc2 hg2 T hy1
      refine ⟨QD.out, ?_⟩
      refine tame_one (k := 4) (by kernel_rfl) rfl (by kernel_rfl) ?_
      go_simp
      have T3 := Lib.hid (T2.out.below ((Below.refl _ _).alloc (Nat.le_refl _) (.cells #[.int .i64 y] 3)))
      refine ⟨T3.out.bx.b.2.2.1, ?_⟩
      refine tame_one (k := 5) (by kernel_rfl) rfl (by kernel_rfl) ?_
      refine op_append_ints _ (.tmp 21) (.tmp 24) rfl w.heap.size A3 F.length c3 F rfl rfl T3.out.o3 (some ⟨v2.heap.size, 0, none⟩) 1 1 [y] rfl rfl (Rd.box v2 _ _) (by rw [HF.out]; simp; omega) (by have := T2.out.gr_.size; simp; omega) ?_
      intro A5 c5 w5 o5 g5 b5
      have gw : v2.grownBy w5 (blk A3) := grown_of_alloc g5
      have kb := T2.out.bx.grownR gw (fun e => (T2.out.n3 gm e).1 rfl)
      have T5 := Lib.hid (T2.out.push3 o5 gw (by
        rcases b5 with t | t
        · exact .inl t
        · exact .inr ⟨_, t, by simp⟩))
      obtain ⟨⟨f0, f1, f2, f3⟩, f4, f5, f6⟩ := kb
      clear o5 g5 b5 gw
      refine ⟨fun _ => f2, ?_⟩
      simp only [Act.put]
      refine tame0 (k := 6) ?_ rfl (by kernel_rfl) (by kernel_rfl) (by kernel_rfl) (fun _ _ _ h => h) (by kernel_rfl) (fun v => ?_) ?_
      rotate_left
      · (go_simp; all_goals rfl)
      simp only [Act.put]
      refine tame_one (k := 7) (by kernel_rfl) rfl (by kernel_rfl) ?_
      go_simp
      try (refine ⟨fun h => absurd h (by decide), ?_⟩)
      refine tame_end (by kernel_rfl) ?_
      clear hd6 SK6
      go_wp2_with fail
      go_roundw
      case rel => exact ⟨k + 1, A5, c5, F ++ [y], by go_num, by omega, by rw [List.length_append, HF.out]; rfl, allB_snoc HB.out hy0 (by omega), T5.out.mono (by omega)⟩
      case measure => simp [intOf] <;> omega

    · obtain rfl : k = P.length := by omega
      have k0 := T.out.bx.b.1
      have k1 := T.out.bx.b.2.1
      go_upto_region 6 with fail
      rename_i K1 hK1 K0 hK0
      replace hK1 := Lib.hid hK1
      cases hg : treeB P W
      · have C := l2Good_c A1 P c1 A2 W c2 v T.out.o1.rd T.out.o2.rd (by omega) (by omega)
        rw [hg] at C
        clear hg
        go_wp2_with fail
        refine C.mono ?_
        rintro e v2 ⟨rfl, b2⟩
        have T2 := Lib.hid (T.out.below b2)
        clear C b2 T k0 k1
        go_wp2_with fail
        refine hK1.out _ _ ?_
        exact mkTail T2.out (by omega) (by omega) (by omega) hW (by rw [HF.out]; omega) _ _ _ _ _ _ _ _ _ _ _ _ _ _ _ _ _ _ _ _ _ _ _ _ _ _ _ _ _ _ _ _ _ _ _ _ _ _ _ _ _ _ _ _ _ _ _ _ _ _ _ _ _ _ _ _ _ _ _ _ _ _ _ _ _ _ _ _ _ _ _ _ _ _ _ _ _ _ _ _ _ _ _ _ _ _ _ _ _ _ _ _ _ _ _ _ _ _ _ _ _ _ _ _ _ _ _ _ _ _ _ _ _ _ _ _ _ _ _ _ _ _ _ _ _ _ _ _ _ _ _ _ _ _ _ _ _ _ _ _ _ _
      · have C := l2Good_c A1 P c1 A2 W c2 v T.out.o1.rd T.out.o2.rd (by omega) (by omega)
        rw [hg] at C
        have HG := Lib.hid (treeB_iff.1 hg)
        clear hg
        go_wp2_with fail
        refine C.mono ?_
        rintro e v2 ⟨rfl, b2⟩
        have T2 := Lib.hid (T.out.below b2)
        clear C b2 T k0 k1
        go_wp2_with fail
        refine (one_c g _ 5 _ T2.out.cur (by omega) (by omega)).mono ?_
        rintro e v3 ⟨u, rfl, ⟨b, rfl⟩, hc3, hg3⟩
        have T3 := Lib.hid (T2.out.cur_ hg3 hc3)
        clear hc3 hg3 T2
        cases b
        · have htl : 1 ≤ P.length ∧ P.length ≤ 24 := ⟨by have := HG.out.n1; omega, by have := HG.out.n2; omega⟩
          obtain ⟨a3, rfl, _, _⟩ := T3.out.o3.form (by rw [HF.out]; omega)
          have HPar := Lib.hid HG.out.par
          clear HG
          go_wp2_with fail
          go_loopw [5] (fun i wr => ∃ (x : Nat) (F : List Int), i = .int .i64 (x : Int) ∧ x ≤ P.length ∧ F.length = P.length ∧ allB F 0 20 = true ∧ MkD w wr g w.heap.size gm (N + 400 + 50 * (x : Int)) A1 c1 P A2 c2 W (some ⟨a3, 0, none⟩) c3 F) (fun i _ => P.length - (intOf i).toNat)
          case atStart => exact ⟨0, F, rfl, by omega, HF.out, HB.out, T3.out.mono (by omega)⟩
          case round =>
            clear T3 HF HB
            obtain ⟨v, rfl⟩ : ∃ v : World, v = wr := ⟨_, rfl⟩
            obtain ⟨x, F, rfl, hx, hF, hFb, T⟩ := hrel
            replace T := Lib.hid T
            have HF := Lib.hid hF
            have HB := Lib.hid hFb
            clear hF hFb
            have k2 := T.out.bx.b.2.2.1
            have GV : Hid (g < v.heap.size) := Lib.hid (by have := T.out.gr_.size; omega)
            by_cases hlt : x < P.length
            · have ix : (x : Int) < (F.length : Int) := by rw [HF.out]; omega
              go_upto_region 10 with fail
              clear k2
              have q0 := T.out.bx.b.1
              have q1 := T.out.bx.b.2.1
              have q2 := T.out.bx.b.2.2.1
              have q3 := T.out.o3.cellN (k := x) (by rw [HF.out]; exact hlt)
              have T0l : Hid (a3 < v.heap.size) := Lib.hid (T.out.o3.ltk a3 rfl)
              have hd1 : Below v.heap.size v v.drew := Below.drew (Below.refl _ _)
              have SK1 : Hid (∀ w', Below v.heap.size v w' → w'.cell? ⟨gm, 0, none⟩ = some (.slice A1 P.length c1) ∧ w'.cell? ⟨gm, 1, none⟩ = some (.slice A2 W.length c2) ∧ w'.cell? ⟨gm, 2, none⟩ = some (.slice (some ⟨a3, 0, none⟩) F.length c3) ∧ w'.cell? ⟨a3, x, none⟩ = some (.int .i64 (nth F x))) := Lib.hid fun w' HV => ⟨(HV.cell (cell_lt q0)).trans q0, (HV.cell (cell_lt q1)).trans q1, (HV.cell (cell_lt q2)).trans q2, (HV.cell (cell_lt q3)).trans q3⟩
              clear q0 q1 q2 q3
              have hS1_0 := SK1.out _ hd1
              refine tamed_region (S := fun w' => w'.cell? ⟨gm, 0, none⟩ = some (.slice A1 P.length c1) ∧ w'.cell? ⟨gm, 1, none⟩ = some (.slice A2 W.length c2) ∧ w'.cell? ⟨gm, 2, none⟩ = some (.slice (some ⟨a3, 0, none⟩) F.length c3) ∧ w'.cell? ⟨a3, x, none⟩ = some (.int .i64 (nth F x))) (fun _ => false) (by kernel_rfl) ?_
              refine tame0 (k := 0) ?_ rfl (by kernel_rfl) (by kernel_rfl) (by kernel_rfl) (fun _ _ _ h => h) (by kernel_rfl) (fun v => ?_) ?_
              rotate_left
              · (go_simp; all_goals rfl)
              simp only [Act.put, List.setIfInBounds_toArray]
              refine tame (k := 1) ?_ rfl (by kernel_rfl) (by kernel_rfl) (by kernel_rfl) (by kernel_rfl) (fun _ _ _ h => h) (by kernel_rfl) hS1_0 (fun v hv => ?_) ?_
              rotate_left
              · (obtain ⟨k1, k2, k3, k4⟩ := hv; go_simp; all_goals rfl)
              simp only [Act.put]
              refine tame0 (k := 2) ?_ rfl (by kernel_rfl) (by kernel_rfl) (by kernel_rfl) (fun _ _ _ h => h) (by kernel_rfl) (fun v => ?_) ?_
              rotate_left
              · (go_simp; all_goals rfl)
              simp only [Act.put]
              refine tame0 (k := 4) ?_ rfl (by kernel_rfl) (by kernel_rfl) (by kernel_rfl) (fun _ _ _ h => h) (by kernel_rfl) (fun v => ?_) ?_
              rotate_left
              · (go_simp; all_goals rfl)
              simp only [Act.put]
              refine tame (k := 5) ?_ rfl (by kernel_rfl) (by kernel_rfl) (by kernel_rfl) (by kernel_rfl) (fun _ _ _ h => h) (by kernel_rfl) hS1_0 (fun v hv => ?_) ?_
              rotate_left
              · (obtain ⟨k1, k2, k3, k4⟩ := hv; go_simp; all_goals rfl)
              simp only [Act.put]
              refine tame0 (k := 6) ?_ rfl (by kernel_rfl) (by kernel_rfl) (by kernel_rfl) (fun _ _ _ h => h) (by kernel_rfl) (fun v => ?_) ?_
              rotate_left
              · (go_simp; all_goals rfl)
              simp only [Act.put]
              refine tame0 (k := 7) ?_ rfl (by kernel_rfl) (by kernel_rfl) (by kernel_rfl) (fun _ _ _ h => h) (by kernel_rfl) (fun v => ?_) ?_
              rotate_left
              · (go_simp; all_goals rfl)
              simp only [Act.put]
              refine tame (k := 8) ?_ rfl (by kernel_rfl) (by kernel_rfl) (by kernel_rfl) (by kernel_rfl) (fun _ _ _ h => h) (by kernel_rfl) hS1_0 (fun v hv => ?_) ?_
              rotate_left
              · (obtain ⟨k1, k2, k3, k4⟩ := hv; go_simp; all_goals rfl)
              simp only [Act.put]
              refine tame_one (k := 3) (by kernel_rfl) rfl (by kernel_rfl) ?_
              go_simp
              refine (l2Kids_c A1 P c1 A2 W.length c2 x v.drew T.out.drew.o1.rd HPar.out hlt htl.2).mono ?_
              rintro e v4 ⟨Ak, ck, rfl, ok, b4⟩
              have T4 := Lib.hid (T.out.drew.below b4)
              clear T
              have hd1_1 := bUp hd1 b4 (Nat.le_refl _)
              have hS1_1 := Lib.hid (SK1.out _ hd1_1)
              refine ⟨by first | exact hS1_1 | exact Hid.out hS1_1, ?_⟩
              refine tame_one (k := 9) (by kernel_rfl) rfl (by kernel_rfl) ?_
              go_simp
              refine (l1In_c (nth F x) 1 19 v4).mono ?_
              rintro e w' ⟨rfl, rfl⟩
              refine ⟨by first | exact hS1_1 | exact Hid.out hS1_1, ?_⟩
              refine tame_one (k := 10) (by kernel_rfl) rfl (by kernel_rfl) ?_
              go_simp
              refine ⟨by first | exact hS1_1 | exact Hid.out hS1_1, ?_⟩
              refine tame_one (k := 11) (by kernel_rfl) rfl (by kernel_rfl) ?_
              go_simp
              refine ⟨by first | exact hS1_1 | exact Hid.out hS1_1, ?_⟩
              refine tame_end (by kernel_rfl) ?_
              clear hd1_1 SK1 b4

              have HKL : Hid ((kids P (x : Int)).length ≤ 24) := Lib.hid (Nat.le_trans (kidTo_len P (x : Int) P.length) htl.2)
              have HKM := Lib.hid (fun (j : Nat) (hj : j < (kids P (x : Int)).length) => kids_mem HPar.out (x := x) (y := nth (kids P (x : Int)) j) (by rw [nth_eq hj]; exact List.getElem_mem hj))
              generalize inB (nth F x) 1 19 = pb at *
              generalize kids P (x : Int) = K at *
              go_wp2_with fail
              go_loopw [8] (fun i wr => ∃ (j : Nat) (F : List Int), i = .int .i64 (j : Int) ∧ j ≤ K.length ∧ F.length = P.length ∧ allB F 0 20 = true ∧ MkD w wr g w.heap.size gm (N + 400 + 50 * (x : Int) + 2 * (j : Int)) A1 c1 P A2 c2 W (some ⟨a3, 0, none⟩) c3 F ∧ Own wr v.heap.size Ak ck K) (fun i _ => K.length - (intOf i).toNat)
              case atStart => exact ⟨0, F, rfl, by omega, HF.out, HB.out, T4.out.mono (by omega), ok⟩
              case round =>
                clear T4 HF HB ok ix
                obtain ⟨y0, rfl⟩ : ∃ v : World, v = wr := ⟨_, rfl⟩
                obtain ⟨j, F, rfl, hj, hF, hFb, T, ok⟩ := hrel
                replace T := Lib.hid T
                replace ok := Lib.hid ok
                have HF := Lib.hid hF
                have HB := Lib.hid hFb
                clear hF hFb
                by_cases hjl : j < K.length
                · have hj24 : j ≤ 24 := by have := HKL.out; omega
                  obtain ⟨ak, rfl, hak, _⟩ := ok.out.form (by omega)
                  obtain ⟨y, hy⟩ : ∃ y : Nat, nth K j = (y : Int) := ⟨(nth K j).toNat, by have := HKM.out j hjl; omega⟩
                  have hyl : y < F.length := by have := HKM.out j hjl; rw [HF.out]; omega
                  have iy : (y : Int) < (F.length : Int) := by omega
                  have ix : (x : Int) < (F.length : Int) := by rw [HF.out]; omega
                  have ij : (j : Int) < (K.length : Int) := by omega
                  have HY := Lib.hid hy
                  have hfx := allB_nth HB.out (k := x) (by rw [HF.out]; exact hlt)
                  have HFX : Hid (F.length = P.length) := HF
                  have hxl : x < F.length := by rw [HF.out]; exact hlt
                  have hne : ak ≠ a3 := by have := T.out.o3.ltk a3 rfl; have := T0l.out; omega
                  clear hy
                  by_cases hK1l : (K.length : Int) = 1
                  · go_upto_region 15 with fail
                    have q2 := T.out.bx.b.2.2.1
                    have q3 := T.out.o3.cellN hxl
                    have q4 := ok.out.cellN hjl
                    rw [HY.out] at q4
                    have fz := T.out.o3.frozen y
                    have qy := T.out.o3.cellN hyl
                    have hd2 : Below y0.heap.size y0 y0.drew := Below.drew (Below.refl _ _)
                    have SK2 : Hid (∀ w', Below y0.heap.size y0 w' → w'.cell? ⟨gm, 2, none⟩ = some (.slice (some ⟨a3, 0, none⟩) F.length c3) ∧ w'.cell? ⟨ak, j, none⟩ = some (.int .i64 (y : Int)) ∧ w'.cell? ⟨a3, x, none⟩ = some (.int .i64 (nth F x))) := Lib.hid fun w' HV => ⟨(HV.cell (cell_lt q2)).trans q2, (HV.cell (cell_lt q4)).trans q4, (HV.cell (cell_lt q3)).trans q3⟩
                    clear q2 q3 q4
                    have hS2_0 := SK2.out _ hd2
                    refine tamed_region (S := fun w' => w'.cell? ⟨gm, 2, none⟩ = some (.slice (some ⟨a3, 0, none⟩) F.length c3) ∧ w'.cell? ⟨ak, j, none⟩ = some (.int .i64 (y : Int)) ∧ w'.cell? ⟨a3, x, none⟩ = some (.int .i64 (nth F x))) (fun k => k == 12) (by kernel_rfl) ?_
                    refine tame0 (k := 0) ?_ rfl (by kernel_rfl) (by kernel_rfl) (by kernel_rfl) (fun _ _ _ h => h) (by kernel_rfl) (fun v => ?_) ?_
                    rotate_left
                    · (go_simp; all_goals rfl)
                    simp only [Act.put, List.setIfInBounds_toArray]
                    refine tameT (k := 1) ?_ rfl (by kernel_rfl) (by kernel_rfl) (by kernel_rfl) (by kernel_rfl) (by kernel_rfl) (fun _ _ _ h => h) (by kernel_rfl) hS2_0 (fun v hv => ?_) ?_
                    rotate_left
                    · (obtain ⟨k1, k2, k3⟩ := hv; go_simp; all_goals rfl)
                    simp only [Act.put]
                    refine tame0 (k := 2) ?_ rfl (by kernel_rfl) (by kernel_rfl) (by kernel_rfl) (fun _ _ _ h => h) (by kernel_rfl) (fun v => ?_) ?_
                    rotate_left
                    · (go_simp; all_goals rfl)
                    simp only [Act.put]
                    refine tame0 (k := 3) ?_ rfl (by kernel_rfl) (by kernel_rfl) (by kernel_rfl) (fun _ _ _ h => h) (by kernel_rfl) (fun v => ?_) ?_
                    rotate_left
                    · (go_simp; all_goals rfl)
                    simp only [Act.put]
                    refine tame0 (k := 4) ?_ rfl (by kernel_rfl) (by kernel_rfl) (by kernel_rfl) (fun _ _ _ h => h) (by kernel_rfl) (fun v => ?_) ?_
                    rotate_left
                    · (go_simp; all_goals rfl)
                    simp only [Act.put]
                    refine tameT (k := 5) ?_ rfl (by kernel_rfl) (by kernel_rfl) (by kernel_rfl) (by kernel_rfl) (by kernel_rfl) (fun _ _ _ h => h) (by kernel_rfl) hS2_0 (fun v hv => ?_) ?_
                    rotate_left
                    · (obtain ⟨k1, k2, k3⟩ := hv; go_simp; all_goals rfl)
                    simp only [Act.put]
                    refine tame0 (k := 6) ?_ rfl (by kernel_rfl) (by kernel_rfl) (by kernel_rfl) (fun _ _ _ h => h) (by kernel_rfl) (fun v => ?_) ?_
                    rotate_left
                    · (go_simp; all_goals rfl)
                    simp only [Act.put]
                    refine tameT (k := 7) ?_ rfl (by kernel_rfl) (by kernel_rfl) (by kernel_rfl) (by kernel_rfl) (by kernel_rfl) (fun _ _ _ h => h) (by kernel_rfl) hS2_0 (fun v hv => ?_) ?_
                    rotate_left
                    · (obtain ⟨k1, k2, k3⟩ := hv; go_simp; all_goals rfl)
                    simp only [Act.put]
                    refine tame0 (k := 8) ?_ rfl (by kernel_rfl) (by kernel_rfl) (by kernel_rfl) (fun _ _ _ h => h) (by kernel_rfl) (fun v => ?_) ?_
                    rotate_left
                    · (go_simp; all_goals rfl)
                    simp only [Act.put]
                    refine tame0 (k := 9) ?_ rfl (by kernel_rfl) (by kernel_rfl) (by kernel_rfl) (fun _ _ _ h => h) (by kernel_rfl) (fun v => ?_) ?_
                    rotate_left
                    · (go_simp; all_goals rfl)
                    simp only [Act.put]
                    refine tameT (k := 10) ?_ rfl (by kernel_rfl) (by kernel_rfl) (by kernel_rfl) (by kernel_rfl) (by kernel_rfl) (fun _ _ _ h => h) (by kernel_rfl) hS2_0 (fun v hv => ?_) ?_
                    rotate_left
                    · (obtain ⟨k1, k2, k3⟩ := hv; go_simp; all_goals rfl)
                    simp only [Act.put]
                    have hS2_0v := Lib.hid hS2_0
                    clear hS2_0
                    refine tame_one (k := 11) (by kernel_rfl) rfl (by kernel_rfl) ?_
                    go_simp
                    refine ⟨by first | exact hS2_0v | exact Hid.out hS2_0v, ?_⟩
                    have T8 := Lib.hid (T.out.drew.set3 y (nth F x))
                    have o8 := ok.out.drew.grown (T.out.drew.o3.set y (nth F x)).2 (.inr (by intro e; exact hne (Option.some.inj e)))
                    have HB8 := Lib.hid (allB_set (k := y) HB.out hfx.1 hfx.2)
                    refine tame_one (k := 12) (by kernel_rfl) rfl (by kernel_rfl) ?_
                    go_simp
                    try (refine ⟨fun h => absurd h (by decide), ?_⟩)
                    refine tame_end (by kernel_rfl) ?_
                    clear hd2 SK2 fz qy
                    go_wp2_with fail
                    go_roundw
                    case rel => exact ⟨j + 1, _, by first | go_num | rfl, by omega, by rw [List.length_set]; exact HF.out, HB8.out, T8.out.mono (by omega), o8⟩
                    case measure => simp [intOf] <;> omega

                  · have hl1 : ((K.length : Int) == 1) = false := by simpa using hK1l
                    cases pb
                    · go_upto_region 15 with fail
                      have q2 := T.out.bx.b.2.2.1
                      have q3 := T.out.o3.cellN hxl
                      have q4 := ok.out.cellN hjl
                      rw [HY.out] at q4
                      have fz := T.out.o3.frozen y
                      have qy := T.out.o3.cellN hyl
                      have hd3 : Below y0.heap.size y0 y0.drew := Below.drew (Below.refl _ _)
                      have SK3 : Hid (∀ w', Below y0.heap.size y0 w' → w'.cell? ⟨gm, 2, none⟩ = some (.slice (some ⟨a3, 0, none⟩) F.length c3) ∧ w'.cell? ⟨ak, j, none⟩ = some (.int .i64 (y : Int)) ∧ w'.cell? ⟨a3, x, none⟩ = some (.int .i64 (nth F x))) := Lib.hid fun w' HV => ⟨(HV.cell (cell_lt q2)).trans q2, (HV.cell (cell_lt q4)).trans q4, (HV.cell (cell_lt q3)).trans q3⟩
                      clear q2 q3 q4
                      have hS3_0 := SK3.out _ hd3
                      refine tamed_region (S := fun w' => w'.cell? ⟨gm, 2, none⟩ = some (.slice (some ⟨a3, 0, none⟩) F.length c3) ∧ w'.cell? ⟨ak, j, none⟩ = some (.int .i64 (y : Int)) ∧ w'.cell? ⟨a3, x, none⟩ = some (.int .i64 (nth F x))) (fun k => k == 12) (by kernel_rfl) ?_
                      refine tame0 (k := 0) ?_ rfl (by kernel_rfl) (by kernel_rfl) (by kernel_rfl) (fun _ _ _ h => h) (by kernel_rfl) (fun v => ?_) ?_
                      rotate_left
                      · (go_simp; all_goals rfl)
                      simp only [Act.put, List.setIfInBounds_toArray]
                      refine tameT (k := 1) ?_ rfl (by kernel_rfl) (by kernel_rfl) (by kernel_rfl) (by kernel_rfl) (by kernel_rfl) (fun _ _ _ h => h) (by kernel_rfl) hS3_0 (fun v hv => ?_) ?_
                      rotate_left
                      · (obtain ⟨k1, k2, k3⟩ := hv; go_simp; all_goals rfl)
                      simp only [Act.put]
                      refine tame0 (k := 2) ?_ rfl (by kernel_rfl) (by kernel_rfl) (by kernel_rfl) (fun _ _ _ h => h) (by kernel_rfl) (fun v => ?_) ?_
                      rotate_left
                      · (go_simp; all_goals rfl)
                      simp only [Act.put]
                      refine tame0 (k := 3) ?_ rfl (by kernel_rfl) (by kernel_rfl) (by kernel_rfl) (fun _ _ _ h => h) (by kernel_rfl) (fun v => ?_) ?_
                      rotate_left
                      · (go_simp; all_goals rfl)
                      simp only [Act.put]
                      refine tame0 (k := 4) ?_ rfl (by kernel_rfl) (by kernel_rfl) (by kernel_rfl) (fun _ _ _ h => h) (by kernel_rfl) (fun v => ?_) ?_
                      rotate_left
                      · (go_simp; all_goals rfl)
                      simp only [Act.put]
                      refine tameT (k := 5) ?_ rfl (by kernel_rfl) (by kernel_rfl) (by kernel_rfl) (by kernel_rfl) (by kernel_rfl) (fun _ _ _ h => h) (by kernel_rfl) hS3_0 (fun v hv => ?_) ?_
                      rotate_left
                      · (obtain ⟨k1, k2, k3⟩ := hv; go_simp; all_goals rfl)
                      simp only [Act.put]
                      refine tame0 (k := 6) ?_ rfl (by kernel_rfl) (by kernel_rfl) (by kernel_rfl) (fun _ _ _ h => h) (by kernel_rfl) (fun v => ?_) ?_
                      rotate_left
                      · (go_simp; all_goals rfl)
                      simp only [Act.put]
                      refine tameT (k := 7) ?_ rfl (by kernel_rfl) (by kernel_rfl) (by kernel_rfl) (by kernel_rfl) (by kernel_rfl) (fun _ _ _ h => h) (by kernel_rfl) hS3_0 (fun v hv => ?_) ?_
                      rotate_left
                      · (obtain ⟨k1, k2, k3⟩ := hv; go_simp; all_goals rfl)
                      simp only [Act.put]
                      refine tame0 (k := 8) ?_ rfl (by kernel_rfl) (by kernel_rfl) (by kernel_rfl) (fun _ _ _ h => h) (by kernel_rfl) (fun v => ?_) ?_
                      rotate_left
                      · (go_simp; all_goals rfl)
                      simp only [Act.put]
                      refine tame0 (k := 9) ?_ rfl (by kernel_rfl) (by kernel_rfl) (by kernel_rfl) (fun _ _ _ h => h) (by kernel_rfl) (fun v => ?_) ?_
                      rotate_left
                      · (go_simp; all_goals rfl)
                      simp only [Act.put]
                      refine tameT (k := 10) ?_ rfl (by kernel_rfl) (by kernel_rfl) (by kernel_rfl) (by kernel_rfl) (by kernel_rfl) (fun _ _ _ h => h) (by kernel_rfl) hS3_0 (fun v hv => ?_) ?_
                      rotate_left
                      · (obtain ⟨k1, k2, k3⟩ := hv; go_simp; all_goals rfl)
                      simp only [Act.put]
                      have hS3_0v := Lib.hid hS3_0
                      clear hS3_0
                      refine tame_one (k := 11) (by kernel_rfl) rfl (by kernel_rfl) ?_
                      go_simp
                      refine ⟨by first | exact hS3_0v | exact Hid.out hS3_0v, ?_⟩
                      have T8 := Lib.hid (T.out.drew.set3 y (nth F x))
                      have o8 := ok.out.drew.grown (T.out.drew.o3.set y (nth F x)).2 (.inr (by intro e; exact hne (Option.some.inj e)))
                      have HB8 := Lib.hid (allB_set (k := y) HB.out hfx.1 hfx.2)
                      refine tame_one (k := 12) (by kernel_rfl) rfl (by kernel_rfl) ?_
                      go_simp
                      try (refine ⟨fun h => absurd h (by decide), ?_⟩)
                      refine tame_end (by kernel_rfl) ?_
                      clear hd3 SK3 fz qy
                      go_wp2_with fail
                      go_roundw
                      case rel => exact ⟨j + 1, _, by first | go_num | rfl, by omega, by rw [List.length_set]; exact HF.out, HB8.out, T8.out.mono (by omega), o8⟩
                      case measure => simp [intOf] <;> omega

                    · by_cases hj0 : j = 0
                      · subst hj0
                        go_upto_region 17 with fail
                        have q2 := T.out.bx.b.2.2.1
                        have q3 := T.out.o3.cellN hxl
                        have q4 := ok.out.cellN hjl
                        rw [HY.out] at q4
                        have fz := T.out.o3.frozen y
                        have qy := T.out.o3.cellN hyl
                        have ew1 : IntKind.i64.wrap (nth F x - 1) = nth F x - 1 := IntWalk.i64_in _ (by omega)
                        clear fz qy
                        have hd4 : Below y0.heap.size y0 y0.drew := Below.drew (Below.refl _ _)
                        have SK4 : Hid (∀ w', Below y0.heap.size y0 w' → w'.cell? ⟨gm, 2, none⟩ = some (.slice (some ⟨a3, 0, none⟩) F.length c3) ∧ w'.cell? ⟨ak, 0, none⟩ = some (.int .i64 (y : Int)) ∧ w'.cell? ⟨a3, x, none⟩ = some (.int .i64 (nth F x))) := Lib.hid fun w' HV => ⟨(HV.cell (cell_lt q2)).trans q2, (HV.cell (cell_lt q4)).trans q4, (HV.cell (cell_lt q3)).trans q3⟩
                        clear q2 q3 q4
                        have hS4_0 := SK4.out _ hd4
                        refine tamed_region (S := fun w' => w'.cell? ⟨gm, 2, none⟩ = some (.slice (some ⟨a3, 0, none⟩) F.length c3) ∧ w'.cell? ⟨ak, 0, none⟩ = some (.int .i64 (y : Int)) ∧ w'.cell? ⟨a3, x, none⟩ = some (.int .i64 (nth F x))) (fun k => k == 17) (by kernel_rfl) ?_
                        refine tame0 (k := 0) ?_ rfl (by kernel_rfl) (by kernel_rfl) (by kernel_rfl) (fun _ _ _ h => h) (by kernel_rfl) (fun v => ?_) ?_
                        rotate_left
                        · (go_simp; all_goals rfl)
                        simp only [Act.put, List.setIfInBounds_toArray]
                        refine tameT (k := 1) ?_ rfl (by kernel_rfl) (by kernel_rfl) (by kernel_rfl) (by kernel_rfl) (by kernel_rfl) (fun _ _ _ h => h) (by kernel_rfl) hS4_0 (fun v hv => ?_) ?_
                        rotate_left
                        · (obtain ⟨k1, k2, k3⟩ := hv; go_simp; all_goals rfl)
                        simp only [Act.put]
                        refine tame0 (k := 2) ?_ rfl (by kernel_rfl) (by kernel_rfl) (by kernel_rfl) (fun _ _ _ h => h) (by kernel_rfl) (fun v => ?_) ?_
                        rotate_left
                        · (go_simp; all_goals rfl)
                        simp only [Act.put]
                        refine tame0 (k := 3) ?_ rfl (by kernel_rfl) (by kernel_rfl) (by kernel_rfl) (fun _ _ _ h => h) (by kernel_rfl) (fun v => ?_) ?_
                        rotate_left
                        · (go_simp; all_goals rfl)
                        simp only [Act.put]
                        refine tame0 (k := 4) ?_ rfl (by kernel_rfl) (by kernel_rfl) (by kernel_rfl) (fun _ _ _ h => h) (by kernel_rfl) (fun v => ?_) ?_
                        rotate_left
                        · (go_simp; all_goals rfl)
                        simp only [Act.put]
                        refine tameT (k := 5) ?_ rfl (by kernel_rfl) (by kernel_rfl) (by kernel_rfl) (by kernel_rfl) (by kernel_rfl) (fun _ _ _ h => h) (by kernel_rfl) hS4_0 (fun v hv => ?_) ?_
                        rotate_left
                        · (obtain ⟨k1, k2, k3⟩ := hv; go_simp; all_goals rfl)
                        simp only [Act.put]
                        refine tame0 (k := 6) ?_ rfl (by kernel_rfl) (by kernel_rfl) (by kernel_rfl) (fun _ _ _ h => h) (by kernel_rfl) (fun v => ?_) ?_
                        rotate_left
                        · (go_simp; all_goals rfl)
                        simp only [Act.put]
                        refine tameT (k := 7) ?_ rfl (by kernel_rfl) (by kernel_rfl) (by kernel_rfl) (by kernel_rfl) (by kernel_rfl) (fun _ _ _ h => h) (by kernel_rfl) hS4_0 (fun v hv => ?_) ?_
                        rotate_left
                        · (obtain ⟨k1, k2, k3⟩ := hv; go_simp; all_goals rfl)
                        simp only [Act.put]
                        refine tame0 (k := 8) ?_ rfl (by kernel_rfl) (by kernel_rfl) (by kernel_rfl) (fun _ _ _ h => h) (by kernel_rfl) (fun v => ?_) ?_
                        rotate_left
                        · (go_simp; all_goals rfl)
                        simp only [Act.put]
                        refine tame0 (k := 9) ?_ rfl (by kernel_rfl) (by kernel_rfl) (by kernel_rfl) (fun _ _ _ h => h) (by kernel_rfl) (fun v => ?_) ?_
                        rotate_left
                        · (go_simp; all_goals rfl)
                        simp only [Act.put]
                        refine tameT (k := 10) ?_ rfl (by kernel_rfl) (by kernel_rfl) (by kernel_rfl) (by kernel_rfl) (by kernel_rfl) (fun _ _ _ h => h) (by kernel_rfl) hS4_0 (fun v hv => ?_) ?_
                        rotate_left
                        · (obtain ⟨k1, k2, k3⟩ := hv; go_simp; all_goals rfl)
                        simp only [Act.put]
                        refine tame0 (k := 11) ?_ rfl (by kernel_rfl) (by kernel_rfl) (by kernel_rfl) (fun _ _ _ h => h) (by kernel_rfl) (fun v => ?_) ?_
                        rotate_left
                        · (go_simp; all_goals rfl)
                        simp only [Act.put]
                        refine tame0 (k := 12) ?_ rfl (by kernel_rfl) (by kernel_rfl) (by kernel_rfl) (fun _ _ _ h => h) (by kernel_rfl) (fun v => ?_) ?_
                        rotate_left
                        · (go_simp; all_goals rfl)
                        simp only [Act.put]
                        refine tame_one (k := 13) (by kernel_rfl) rfl (by kernel_rfl) ?_
                        go_simp
                        refine (pick_c g _ 4 _ T.out.drew.cur (by omega) (by omega)).mono ?_
                        rintro e y1 ⟨u, rfl, ⟨r, rfl, hr0, hr1⟩, hc5, hg5⟩
                        have T5 := Lib.hid (T.out.drew.cur_ hg5 hc5)
                        have o5 := Lib.hid (ok.out.grown (World.grownBy.trans (⟨rfl, rfl, rfl, Nat.le_refl _, fun _ _ _ => rfl⟩ : y0.grownBy y0.drew (some g)) hg5) (own_apart ok.out (by have := T.out.g0; have := T0l.out; have := GV.out; omega)))
                        have hr4 : r ≤ 3 := by omega
                        clear hc5 hg5 hr1
                        have QS := Lib.hid (⟨T5.out.bx.b.2.2.1, by rw [← HY.out]; exact o5.out.cellN hjl, T5.out.o3.cellN hxl⟩ : y1.cell? ⟨gm, 2, none⟩ = some (.slice (some ⟨a3, 0, none⟩) F.length c3) ∧ y1.cell? ⟨ak, 0, none⟩ = some (.int .i64 (y : Int)) ∧ y1.cell? ⟨a3, x, none⟩ = some (.int .i64 (nth F x)))
                        refine ⟨QS.out, ?_⟩
                        have ew2 : IntKind.i64.wrap (nth F x - 1 - r) = nth F x - 1 - r := IntWalk.i64_in _ (by omega)
                        refine tame0 (k := 14) ?_ rfl (by kernel_rfl) (by kernel_rfl) (by kernel_rfl) (fun _ _ _ h => h) (by kernel_rfl) (fun v => ?_) ?_
                        rotate_left
                        · (go_simp; all_goals rfl)
                        simp only [Act.put]
                        refine tame_one (k := 15) (by kernel_rfl) rfl (by kernel_rfl) ?_
                        go_simp
                        refine (l1Most_c (nth F x - 1 - r) 0 y1).mono ?_
                        rintro e w' ⟨rfl, rfl⟩
                        have hm : 0 ≤ mxI (nth F x - 1 - r) 0 ∧ mxI (nth F x - 1 - r) 0 ≤ 20 := by unfold mxI; split <;> omega
                        generalize mxI (nth F x - 1 - r) 0 = q at *
                        refine ⟨QS.out, ?_⟩
                        refine tame_one (k := 16) (by kernel_rfl) rfl (by kernel_rfl) ?_
                        go_simp
                        refine ⟨QS.out, ?_⟩
                        have fz := T5.out.o3.frozen y
                        have qy := T5.out.o3.cellN hyl
                        have T8 := Lib.hid (T5.out.set3 y q)
                        have o8 := o5.out.grown (T5.out.o3.set y q).2 (.inr (by intro e; exact hne (Option.some.inj e)))
                        have HB8 := Lib.hid (allB_set (k := y) HB.out hm.1 hm.2)
                        refine tame_one (k := 17) (by kernel_rfl) rfl (by kernel_rfl) ?_
                        go_simp
                        try (refine ⟨fun h => absurd h (by decide), ?_⟩)
                        refine tame_end (by kernel_rfl) ?_
                        clear hd4 SK4 fz qy
                        go_wp2_with fail
                        go_roundw
                        case rel => exact ⟨0 + 1, _, by first | go_num | rfl, by omega, by rw [List.length_set]; exact HF.out, HB8.out, T8.out.mono (by omega), o8⟩
                        case measure => simp [intOf] <;> omega

                      · have e0 : ((j : Int) == 0) = false := by simp; omega
                        by_cases hj1 : j = 1
                        · subst hj1
                          go_upto_region 19 with fail
                          have q2 := T.out.bx.b.2.2.1
                          have q3 := T.out.o3.cellN hxl
                          have q4 := ok.out.cellN hjl
                          rw [HY.out] at q4
                          have fz := T.out.o3.frozen y
                          have qy := T.out.o3.cellN hyl
                          have ew1 : IntKind.i64.wrap (nth F x + 1) = nth F x + 1 := IntWalk.i64_in _ (by omega)
                          clear fz qy
                          have hd5 : Below y0.heap.size y0 y0.drew := Below.drew (Below.refl _ _)
                          have SK5 : Hid (∀ w', Below y0.heap.size y0 w' → w'.cell? ⟨gm, 2, none⟩ = some (.slice (some ⟨a3, 0, none⟩) F.length c3) ∧ w'.cell? ⟨ak, 1, none⟩ = some (.int .i64 (y : Int)) ∧ w'.cell? ⟨a3, x, none⟩ = some (.int .i64 (nth F x))) := Lib.hid fun w' HV => ⟨(HV.cell (cell_lt q2)).trans q2, (HV.cell (cell_lt q4)).trans q4, (HV.cell (cell_lt q3)).trans q3⟩
                          clear q2 q3 q4
                          have hS5_0 := SK5.out _ hd5
                          refine tamed_region (S := fun w' => w'.cell? ⟨gm, 2, none⟩ = some (.slice (some ⟨a3, 0, none⟩) F.length c3) ∧ w'.cell? ⟨ak, 1, none⟩ = some (.int .i64 (y : Int)) ∧ w'.cell? ⟨a3, x, none⟩ = some (.int .i64 (nth F x))) (fun k => k == 17) (by kernel_rfl) ?_
                          refine tame0 (k := 0) ?_ rfl (by kernel_rfl) (by kernel_rfl) (by kernel_rfl) (fun _ _ _ h => h) (by kernel_rfl) (fun v => ?_) ?_
                          rotate_left
                          · (go_simp; all_goals rfl)
                          simp only [Act.put, List.setIfInBounds_toArray]
                          refine tameT (k := 1) ?_ rfl (by kernel_rfl) (by kernel_rfl) (by kernel_rfl) (by kernel_rfl) (by kernel_rfl) (fun _ _ _ h => h) (by kernel_rfl) hS5_0 (fun v hv => ?_) ?_
                          rotate_left
                          · (obtain ⟨k1, k2, k3⟩ := hv; go_simp; all_goals rfl)
                          simp only [Act.put]
                          refine tame0 (k := 2) ?_ rfl (by kernel_rfl) (by kernel_rfl) (by kernel_rfl) (fun _ _ _ h => h) (by kernel_rfl) (fun v => ?_) ?_
                          rotate_left
                          · (go_simp; all_goals rfl)
                          simp only [Act.put]
                          refine tame0 (k := 3) ?_ rfl (by kernel_rfl) (by kernel_rfl) (by kernel_rfl) (fun _ _ _ h => h) (by kernel_rfl) (fun v => ?_) ?_
                          rotate_left
                          · (go_simp; all_goals rfl)
                          simp only [Act.put]
                          refine tame0 (k := 4) ?_ rfl (by kernel_rfl) (by kernel_rfl) (by kernel_rfl) (fun _ _ _ h => h) (by kernel_rfl) (fun v => ?_) ?_
                          rotate_left
                          · (go_simp; all_goals rfl)
                          simp only [Act.put]
                          refine tameT (k := 5) ?_ rfl (by kernel_rfl) (by kernel_rfl) (by kernel_rfl) (by kernel_rfl) (by kernel_rfl) (fun _ _ _ h => h) (by kernel_rfl) hS5_0 (fun v hv => ?_) ?_
                          rotate_left
                          · (obtain ⟨k1, k2, k3⟩ := hv; go_simp; all_goals rfl)
                          simp only [Act.put]
                          refine tame0 (k := 6) ?_ rfl (by kernel_rfl) (by kernel_rfl) (by kernel_rfl) (fun _ _ _ h => h) (by kernel_rfl) (fun v => ?_) ?_
                          rotate_left
                          · (go_simp; all_goals rfl)
                          simp only [Act.put]
                          refine tameT (k := 7) ?_ rfl (by kernel_rfl) (by kernel_rfl) (by kernel_rfl) (by kernel_rfl) (by kernel_rfl) (fun _ _ _ h => h) (by kernel_rfl) hS5_0 (fun v hv => ?_) ?_
                          rotate_left
                          · (obtain ⟨k1, k2, k3⟩ := hv; go_simp; all_goals rfl)
                          simp only [Act.put]
                          refine tame0 (k := 8) ?_ rfl (by kernel_rfl) (by kernel_rfl) (by kernel_rfl) (fun _ _ _ h => h) (by kernel_rfl) (fun v => ?_) ?_
                          rotate_left
                          · (go_simp; all_goals rfl)
                          simp only [Act.put]
                          refine tame0 (k := 9) ?_ rfl (by kernel_rfl) (by kernel_rfl) (by kernel_rfl) (fun _ _ _ h => h) (by kernel_rfl) (fun v => ?_) ?_
                          rotate_left
                          · (go_simp; all_goals rfl)
                          simp only [Act.put]
                          refine tameT (k := 10) ?_ rfl (by kernel_rfl) (by kernel_rfl) (by kernel_rfl) (by kernel_rfl) (by kernel_rfl) (fun _ _ _ h => h) (by kernel_rfl) hS5_0 (fun v hv => ?_) ?_
                          rotate_left
                          · (obtain ⟨k1, k2, k3⟩ := hv; go_simp; all_goals rfl)
                          simp only [Act.put]
                          refine tame0 (k := 11) ?_ rfl (by kernel_rfl) (by kernel_rfl) (by kernel_rfl) (fun _ _ _ h => h) (by kernel_rfl) (fun v => ?_) ?_
                          rotate_left
                          · (go_simp; all_goals rfl)
                          simp only [Act.put]
                          refine tame0 (k := 12) ?_ rfl (by kernel_rfl) (by kernel_rfl) (by kernel_rfl) (fun _ _ _ h => h) (by kernel_rfl) (fun v => ?_) ?_
                          rotate_left
                          · (go_simp; all_goals rfl)
                          simp only [Act.put]
                          refine tame_one (k := 13) (by kernel_rfl) rfl (by kernel_rfl) ?_
                          go_simp
                          refine (pick_c g _ 4 _ T.out.drew.cur (by omega) (by omega)).mono ?_
                          rintro e y1 ⟨u, rfl, ⟨r, rfl, hr0, hr1⟩, hc5, hg5⟩
                          have T5 := Lib.hid (T.out.drew.cur_ hg5 hc5)
                          have o5 := Lib.hid (ok.out.grown (World.grownBy.trans (⟨rfl, rfl, rfl, Nat.le_refl _, fun _ _ _ => rfl⟩ : y0.grownBy y0.drew (some g)) hg5) (own_apart ok.out (by have := T.out.g0; have := T0l.out; have := GV.out; omega)))
                          have hr4 : r ≤ 3 := by omega
                          clear hc5 hg5 hr1
                          have QS := Lib.hid (⟨T5.out.bx.b.2.2.1, by rw [← HY.out]; exact o5.out.cellN hjl, T5.out.o3.cellN hxl⟩ : y1.cell? ⟨gm, 2, none⟩ = some (.slice (some ⟨a3, 0, none⟩) F.length c3) ∧ y1.cell? ⟨ak, 1, none⟩ = some (.int .i64 (y : Int)) ∧ y1.cell? ⟨a3, x, none⟩ = some (.int .i64 (nth F x)))
                          refine ⟨QS.out, ?_⟩
                          have ew2 : IntKind.i64.wrap (nth F x + 1 + r) = nth F x + 1 + r := IntWalk.i64_in _ (by omega)
                          refine tame0 (k := 14) ?_ rfl (by kernel_rfl) (by kernel_rfl) (by kernel_rfl) (fun _ _ _ h => h) (by kernel_rfl) (fun v => ?_) ?_
                          rotate_left
                          · (go_simp; all_goals rfl)
                          simp only [Act.put]
                          refine tame_one (k := 15) (by kernel_rfl) rfl (by kernel_rfl) ?_
                          go_simp
                          refine (l1Lst_c (nth F x + 1 + r) 20 y1).mono ?_
                          rintro e w' ⟨rfl, rfl⟩
                          have hm := leI_bd (a := nth F x + 1 + r) (b := 20) (lo := 0) (hi := 20) (by omega) (by decide) (.inr (Int.le_refl _))
                          generalize leI (nth F x + 1 + r) 20 = q at *
                          refine ⟨QS.out, ?_⟩
                          refine tame_one (k := 16) (by kernel_rfl) rfl (by kernel_rfl) ?_
                          go_simp
                          refine ⟨QS.out, ?_⟩
                          have fz := T5.out.o3.frozen y
                          have qy := T5.out.o3.cellN hyl
                          have T8 := Lib.hid (T5.out.set3 y q)
                          have o8 := o5.out.grown (T5.out.o3.set y q).2 (.inr (by intro e; exact hne (Option.some.inj e)))
                          have HB8 := Lib.hid (allB_set (k := y) HB.out hm.1 hm.2)
                          refine tame_one (k := 17) (by kernel_rfl) rfl (by kernel_rfl) ?_
                          go_simp
                          try (refine ⟨fun h => absurd h (by decide), ?_⟩)
                          refine tame_end (by kernel_rfl) ?_
                          clear hd5 SK5 fz qy
                          go_wp2_with fail
                          go_roundw
                          case rel => exact ⟨1 + 1, _, by first | go_num | rfl, by omega, by rw [List.length_set]; exact HF.out, HB8.out, T8.out.mono (by omega), o8⟩
                          case measure => simp [intOf] <;> omega

                        · have e1 : ((j : Int) == 1) = false := by simp; omega
                          go_wp2_with fail
                          go_roundw
                          case rel => exact ⟨j + 1, F, by go_num, by omega, HF.out, HB.out, T.out.mono (by omega), ok.out⟩
                          case measure => simp [intOf] <;> omega
                · go_wp2_with fail
                  go_roundw
                  case rel => exact ⟨x + 1, F, by go_num, by omega, HF.out, HB.out, T.out.mono (by have := HKL.out; omega)⟩
                  case measure => simp [intOf] <;> omega
            · have ixn : ¬ ((x : Int) < (F.length : Int)) := by rw [HF.out]; omega
              go_wp2_with fail
              refine hK1.out _ _ ?_
              exact mkTail T.out (by omega) (by omega) (by omega) hW (by rw [HF.out]; omega) _ _ _ _ _ _ _ _ _ _ _ _ _ _ _ _ _ _ _ _ _ _ _ _ _ _ _ _ _ _ _ _ _ _ _ _ _ _ _ _ _ _ _ _ _ _ _ _ _ _ _ _ _ _ _ _ _ _ _ _ _ _ _ _ _ _ _ _ _ _ _ _ _ _ _ _ _ _ _ _ _ _ _ _ _ _ _ _ _ _ _ _ _ _ _ _ _ _ _ _ _ _ _ _ _ _ _ _ _ _ _ _ _ _ _ _ _ _ _ _ _ _ _ _ _ _ _ _ _ _ _ _ _ _ _ _ _ _ _ _ _ _
        · go_wp2_with fail
          refine hK1.out _ _ ?_
          exact mkTail T3.out (by omega) (by omega) (by omega) hW (by rw [HF.out]; omega) _ _ _ _ _ _ _ _ _ _ _ _ _ _ _ _ _ _ _ _ _ _ _ _ _ _ _ _ _ _ _ _ _ _ _ _ _ _ _ _ _ _ _ _ _ _ _ _ _ _ _ _ _ _ _ _ _ _ _ _ _ _ _ _ _ _ _ _ _ _ _ _ _ _ _ _ _ _ _ _ _ _ _ _ _ _ _ _ _ _ _ _ _ _ _ _ _ _ _ _ _ _ _ _ _ _ _ _ _ _ _ _ _ _ _ _ _ _ _ _ _ _ _ _ _ _ _ _ _ _ _ _ _ _ _ _ _ _ _ _ _ _
end Go.Proofs.Ytnhclpajfejnoaa
