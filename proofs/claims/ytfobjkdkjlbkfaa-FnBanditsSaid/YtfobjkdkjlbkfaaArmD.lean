/- The draws of arms, numbers, pays (merged of DrA ArD ArG). -/
import Derived.Test.YtfobjkdkjlbkfaaDrK
import Derived.Test.YtfobjkdkjlbkfaaIxA
import Derived.Test.YtfobjkdkjlbkfaaMksA
import Derived.Test.YtfobjkdkjlbkfaaLinA
import Derived.Test.YtfobjkdkjlbkfaaByt
import Derived.OwnWalk
namespace Go.Proofs.Ytfobjkdkjlbkfaa
open Go.RowKit

theorem ParOk.set {P : List Int} (h : ParOk P) {x : Nat} {y : Int} (h1 : 1 ≤ x) (h2 : 0 ≤ y) (h3 : y ≤ (x : Int) - 1) : ParOk (P.set x y) := by
  refine ⟨?_, fun z hz hl => ?_⟩
  · rw [nth_set_ne (by omega)]; exact h.zero
  · rw [List.length_set] at hl
    rcases Nat.decEq z x with hne | rfl
    · rw [nth_set_ne (fun e => hne e.symm)]; exact h.up z hz hl
    · rw [nth_set_self hl]; exact ⟨h2, h3⟩
section
variable {w0 w : World} {g gr gm : Nat} {N : Int} {A1 A2 A3 : Option Addr} {c1 c2 c3 : Nat} {P W F : List Int}
theorem MkD.set1 {a1 : Nat} (h : MkD w0 w g gr gm N (some ⟨a1, 0, none⟩) c1 P A2 c2 W A3 c3 F) (hap : blk A2 ≠ some a1) (k : Nat) (y : Int) : MkD w0 (w.setCell ⟨a1, k, none⟩ (.int .i64 y)) g gr gm N (some ⟨a1, 0, none⟩) c1 (P.set k y) A2 c2 W A3 c3 F := by
  have o := h.o1.set k y
  have n := h.n1 a1 rfl
  have hl := h.o1.ge a1 rfl
  exact ⟨by rw [List.length_set]; exact h.bx.grownR o.2 (by intro e; injection e with e; exact n.1 e), h.br.grownR o.2 (by intro e; injection e with e; exact n.2 e), o.1, h.o2.grown o.2 (.inr hap), h.o3.grown o.2 (.inr fun e => (h.n3 a1 e).2.2.1 rfl), h.n1, h.n2, h.n3, h.cur.grown o.2 (fun b e => by injection e with e; have := h.g0; omega), h.g0, h.t0, grown_new h.gr_ o.2 (fun b e => by injection e with e; omega)⟩
theorem MkD.set2 {a2 : Nat} (h : MkD w0 w g gr gm N A1 c1 P (some ⟨a2, 0, none⟩) c2 W A3 c3 F) (hap : blk A1 ≠ some a2) (k : Nat) (y : Int) : MkD w0 (w.setCell ⟨a2, k, none⟩ (.int .i64 y)) g gr gm N A1 c1 P (some ⟨a2, 0, none⟩) c2 (W.set k y) A3 c3 F := by
  have o := h.o2.set k y
  have n := h.n2 a2 rfl
  have hl := h.o2.ge a2 rfl
  exact ⟨by rw [List.length_set]; exact h.bx.grownR o.2 (by intro e; injection e with e; exact n.1 e), h.br.grownR o.2 (by intro e; injection e with e; exact n.2 e), h.o1.grown o.2 (.inr hap), o.1, h.o3.grown o.2 (.inr fun e => (h.n3 a2 e).2.2.2 rfl), h.n1, h.n2, h.n3, h.cur.grown o.2 (fun b e => by injection e with e; have := h.g0; omega), h.g0, h.t0, grown_new h.gr_ o.2 (fun b e => by injection e with e; omega)⟩
end
noncomputable def ar24 : Code := ((Try.f42.body.bind (restFrom 24)).getD .skip)
noncomputable def ar22 : Code := ((Try.f42.body.bind (restFrom 22)).getD .skip)
noncomputable def ar15 : Code := ((Try.f42.body.bind (restFrom 15)).getD .skip)
set_option maxRecDepth 20000 in
set_option maxHeartbeats 4000000 in
theorem arTail3 {w0 w : World} {g gr gm : Nat} {N M : Int} {A1 A2 A3 : Option Addr} {c1 c2 c3 : Nat} {P W F : List Int} (T0 : MkD w0 w g gr gm N A1 c1 P A2 c2 W A3 c3 F) (hM : N ≤ M) (hP : P.length ≤ 60) (hW : W.length ≤ 60) (hF : F.length ≤ 59) (u1 u2 u3 u6 u7 u8 u9 u10 u11 u12 u13 u14 u15 u16 u17 u18 u19 u20 u21 u22 u23 u24 u25 u26 u27 u28 u29 u30 u31 u32 u33 u34 u35 u36 u37 u38 u39 u40 u41 u42 u43 u44 u45 u46 u47 u48 u49 u50 u51 u52 u53 u54 u55 u56 u57 u58 u59 u60 u61 u62 u63 u64 u65 u66 u67 u68 u69 u70 u71 u72 u73 u74 u75 u76 u77 u78 u79 u80 u81 u82 u83 u84 u85 u86 u87 u88 u89 u90 u91 u92 u93 u94 u95 u96 u97 u98 u99 u100 u101 u102 u103 u104 u105 u106 u107 u108 u109 u110 u111 u112 u113 u114 u115 u116 u117 u118 u119 u120 u121 : Value) :
    Code.wp Try.prog ar24 (bodyPost Try.prog Try.f42 (MarketDrawn w0 g M)) ⟨#[.pointer (some ⟨g, 0, none⟩), u1, u2, u3, .pointer (some ⟨gr, 0, none⟩), .pointer (some ⟨gm, 0, none⟩), u6, u7, u8, u9, u10, u11, u12, u13, u14, u15, u16, u17, u18, u19, u20, u21, u22, u23, u24, u25, u26, u27, u28, u29, u30, u31, u32, u33, u34, u35, u36, u37, u38, u39, u40, u41, u42, u43, u44, u45, u46, u47, u48, u49, u50, u51, u52, u53, u54, u55, u56, u57, u58, u59, u60, u61, u62, u63, u64, u65, u66, u67, u68, u69, u70, u71, u72, u73, u74, u75, u76, u77, u78, u79, u80, u81, u82, u83, u84, u85, u86, u87, u88, u89, u90, u91, u92, u93, u94, u95, u96, u97, u98, u99, u100, u101, u102, u103, u104, u105, u106, u107, u108, u109, u110, u111, u112, u113, u114, u115, u116, u117, u118, u119, u120, u121], []⟩ w := by
  conv => arg 2; whnf
  have T2 := Lib.hid T0
  clear T0
  have k0 := T2.out.bx.b.1
  have k1 := T2.out.bx.b.2.1
  have k2 := T2.out.bx.b.2.2.1
  have k3 := T2.out.br.b.1
  have k4 := T2.out.br.b.2.1
  have k5 := T2.out.br.b.2.2.1
  have k6 := T2.out.br.f0
  have k7 := T2.out.br.f1
  have k8 := T2.out.br.f2
  go_wp2_with fail
  have R := T2.out.fin (M := M) (by omega) hP hW (by omega) (.slice A1 P.length c1) (.slice A2 W.length c2) (.slice A3 F.length c3)
  exact bodyPost_ret (v := mkV A1 P.length c1 A2 W.length c2 A3 F.length c3) (by simp [results, Try.results42, go_sem, k3, k4, k5]) rfl R
set_option maxRecDepth 20000 in
set_option maxHeartbeats 4000000 in
theorem arTail2 {w0 w : World} {g gr gm : Nat} {N M : Int} {A1 A2 A3 : Option Addr} {c1 c2 c3 : Nat} {P W F : List Int} (T0 : MkD w0 w g gr gm N A1 c1 P A2 c2 W A3 c3 F) (hM : N + 10 ≤ M) (hN : N ≤ 800000) (hP : P.length ≤ 60) (hW : W.length ≤ 60) (hF : F.length ≤ 59) (u1 u2 u3 u6 u7 u8 u9 u10 u11 u12 u13 u14 u15 u16 u17 u18 u19 u20 u21 u22 u23 u24 u25 u26 u27 u28 u29 u30 u31 u32 u33 u34 u35 u36 u37 u38 u39 u40 u41 u42 u43 u44 u45 u46 u47 u48 u49 u50 u51 u52 u53 u54 u55 u56 u57 u58 u59 u60 u61 u62 u63 u64 u65 u66 u67 u68 u69 u70 u71 u72 u73 u74 u75 u76 u77 u78 u79 u80 u81 u82 u83 u84 u85 u86 u87 u88 u89 u90 u91 u92 u93 u94 u95 u96 u97 u98 u99 u100 u101 u102 u103 u104 u105 u106 u107 u108 u109 u110 u111 u112 u113 u114 u115 u116 u117 u118 u119 u120 u121 : Value) :
    Code.wp Try.prog ar22 (bodyPost Try.prog Try.f42 (MarketDrawn w0 g M)) ⟨#[.pointer (some ⟨g, 0, none⟩), u1, u2, u3, .pointer (some ⟨gr, 0, none⟩), .pointer (some ⟨gm, 0, none⟩), u6, u7, u8, u9, u10, u11, u12, u13, u14, u15, u16, u17, u18, u19, u20, u21, u22, u23, u24, u25, u26, u27, u28, u29, u30, u31, u32, u33, u34, u35, u36, u37, u38, u39, u40, u41, u42, u43, u44, u45, u46, u47, u48, u49, u50, u51, u52, u53, u54, u55, u56, u57, u58, u59, u60, u61, u62, u63, u64, u65, u66, u67, u68, u69, u70, u71, u72, u73, u74, u75, u76, u77, u78, u79, u80, u81, u82, u83, u84, u85, u86, u87, u88, u89, u90, u91, u92, u93, u94, u95, u96, u97, u98, u99, u100, u101, u102, u103, u104, u105, u106, u107, u108, u109, u110, u111, u112, u113, u114, u115, u116, u117, u118, u119, u120, u121], []⟩ w := by
  conv => arg 2; whnf
  have T := Lib.hid T0
  clear T0
  go_upto_region 22 with fail
  rename_i K1 hK1 K0 hK0
  replace hK1 := Lib.hid hK1
  have k2 := T.out.bx.b.2.2.1
  by_cases h0 : 0 < F.length
  · have i0 : (0 : Int) < (F.length : Int) := by omega
    go_wp2_with fail
    refine (one_c g _ 30 _ T.out.cur (by omega) (by omega)).mono ?_
    rintro e v2 ⟨u, rfl, ⟨b, rfl⟩, hc2, hg2⟩
    have T2 := Lib.hid (T.out.cur_ hg2 hc2)
    clear hc2 hg2 T k2
    cases b
    · go_wp2_with fail
      refine hK1.out _ _ ?_
      exact arTail3 T2.out (by omega) hP hW hF _ _ _ _ _ _ _ _ _ _ _ _ _ _ _ _ _ _ _ _ _ _ _ _ _ _ _ _ _ _ _ _ _ _ _ _ _ _ _ _ _ _ _ _ _ _ _ _ _ _ _ _ _ _ _ _ _ _ _ _ _ _ _ _ _ _ _ _ _ _ _ _ _ _ _ _ _ _ _ _ _ _ _ _ _ _ _ _ _ _ _ _ _ _ _ _ _ _ _ _ _ _ _ _ _ _ _ _ _ _ _ _ _ _ _ _ _ _ _
    · obtain ⟨a3, rfl, _, _⟩ := T2.out.o3.form h0
      go_upto_region 23 with fail
      have qb := T2.out.bx.b.2.2.1
      have hd1 : Below v2.heap.size v2 v2.drew := Below.drew (Below.refl _ _)
      have SK1 : Hid (∀ w', Below v2.heap.size v2 w' → w'.cell? ⟨gm, 2, none⟩ = some (.slice (some ⟨a3, 0, none⟩) F.length c3)) := Lib.hid fun w' HV => (HV.cell (cell_lt qb)).trans qb
      clear qb
      have hS1_0 := SK1.out _ hd1
      refine tamed_region (S := fun w' => w'.cell? ⟨gm, 2, none⟩ = some (.slice (some ⟨a3, 0, none⟩) F.length c3)) (fun k => k == 11) (by kernel_rfl) ?_
      refine tame0 (k := 0) ?_ rfl (by kernel_rfl) (by kernel_rfl) (by kernel_rfl) (fun _ _ _ h => h) (by kernel_rfl) (fun v => ?_) ?_
      rotate_left
      · (go_simp; all_goals rfl)
      simp only [Act.put, List.setIfInBounds_toArray]
      refine tameT (k := 1) ?_ rfl (by kernel_rfl) (by kernel_rfl) (by kernel_rfl) (by kernel_rfl) (by kernel_rfl) (fun _ _ _ h => h) (by kernel_rfl) hS1_0 (fun v hv => ?_) ?_
      rotate_left
      · (obtain k1 := hv; go_simp; all_goals rfl)
      simp only [Act.put]
      refine tame0 (k := 2) ?_ rfl (by kernel_rfl) (by kernel_rfl) (by kernel_rfl) (fun _ _ _ h => h) (by kernel_rfl) (fun v => ?_) ?_
      rotate_left
      · (go_simp; all_goals rfl)
      simp only [Act.put]
      refine tame0 (k := 3) ?_ rfl (by kernel_rfl) (by kernel_rfl) (by kernel_rfl) (fun _ _ _ h => h) (by kernel_rfl) (fun v => ?_) ?_
      rotate_left
      · (go_simp; all_goals rfl)
      simp only [Act.put]
      refine tameT (k := 4) ?_ rfl (by kernel_rfl) (by kernel_rfl) (by kernel_rfl) (by kernel_rfl) (by kernel_rfl) (fun _ _ _ h => h) (by kernel_rfl) hS1_0 (fun v hv => ?_) ?_
      rotate_left
      · (obtain k1 := hv; go_simp; all_goals rfl)
      simp only [Act.put]
      refine tame0 (k := 5) ?_ rfl (by kernel_rfl) (by kernel_rfl) (by kernel_rfl) (fun _ _ _ h => h) (by kernel_rfl) (fun v => ?_) ?_
      rotate_left
      · (go_simp; all_goals rfl)
      simp only [Act.put]
      refine tame0 (k := 7) ?_ rfl (by kernel_rfl) (by kernel_rfl) (by kernel_rfl) (fun _ _ _ h => h) (by kernel_rfl) (fun v => ?_) ?_
      rotate_left
      · (go_simp; all_goals rfl)
      simp only [Act.put]
      have TD := Lib.hid T2.out.drew
      clear T2 i0
      refine tame_two (i := 6) (j := 8) (by kernel_rfl) rfl rfl (by kernel_rfl) (by kernel_rfl) ?_ ?_
      · go_simp
        refine (pick_c g _ (F.length : Int) _ TD.out.cur (by omega) (by omega)).mono ?_
        rintro e v3 ⟨u, rfl, ⟨x, rfl, hx0, hx1⟩, hc3, hg3⟩
        have T3 := Lib.hid (TD.out.cur_ hg3 hc3)
        obtain ⟨x, rfl⟩ : ∃ x' : Nat, x = (x' : Int) := ⟨x.toNat, by omega⟩
        have hxl : x < F.length := by omega
        have ix : (x : Int) < (F.length : Int) := by omega
        clear hc3 hg3 hx0 hx1
        have QD := Lib.hid T3.out.bx.b.2.2.1
        refine ⟨QD.out, ?_⟩
        refine tame_one (k := 8) (by kernel_rfl) rfl (by kernel_rfl) ?_
        go_simp
        have R0 := (Own.lit v3 [1, 99, -99, 100, -100] (by decide)).rd
        have T4 := Lib.hid (T3.out.below ((Below.refl _ _).alloc (Nat.le_refl _) (.cells (ints [1, 99, -99, 100, -100]).toArray 3)))
        have HZ := Lib.hid T3.out.gr_.size
        clear T3
        refine ⟨T4.out.bx.b.2.2.1, ?_⟩
        refine tame_one (k := 9) (by kernel_rfl) rfl (by kernel_rfl) ?_
        go_simp
        refine (among_c g _ _ [1, 99, -99, 100, -100] _ _ _ T4.out.cur (by omega) R0 (fun ad e => by injection e with e; have := TD.out.g0; have := HZ.out; rw [← e]; show v3.heap.size ≠ g; omega) rfl (by simp) (by simp)).mono ?_
        rintro e v7 ⟨u, rfl, ⟨q, hq, rfl⟩, hc7, hg7⟩
        have T7 := Lib.hid (T4.out.cur_ hg7 hc7)
        have QE := Lib.hid T7.out.bx.b.2.2.1
        generalize nth [1, 99, -99, 100, -100] q = y at *
        clear hq hc7 hg7 R0 QD
        refine ⟨QE.out, ?_⟩
        refine tame_one (k := 10) (by kernel_rfl) rfl (by kernel_rfl) ?_
        go_simp
        refine ⟨QE.out, ?_⟩
        have fz := T7.out.o3.frozen x
        have qx := T7.out.o3.cellN hxl
        have T8 := Lib.hid (T7.out.set3 x y)
        refine tame_one (k := 11) (by kernel_rfl) rfl (by kernel_rfl) ?_
        go_simp
        try (refine ⟨fun h => absurd h (by decide), ?_⟩)
        refine tame_end (by kernel_rfl) ?_
        clear fz qx QE
        go_wp2_with fail
        refine hK1.out _ _ ?_
        exact arTail3 T8.out (by omega) hP hW (by rw [List.length_set]; exact hF) _ _ _ _ _ _ _ _ _ _ _ _ _ _ _ _ _ _ _ _ _ _ _ _ _ _ _ _ _ _ _ _ _ _ _ _ _ _ _ _ _ _ _ _ _ _ _ _ _ _ _ _ _ _ _ _ _ _ _ _ _ _ _ _ _ _ _ _ _ _ _ _ _ _ _ _ _ _ _ _ _ _ _ _ _ _ _ _ _ _ _ _ _ _ _ _ _ _ _ _ _ _ _ _ _ _ _ _ _ _ _ _ _ _ _ _ _ _ _
      · go_simp
        have R1 := (Own.lit v2.drew [1, 99, -99, 100, -100] (by decide)).rd
        have HZ : Hid (w0.heap.size ≤ v2.heap.size) := Lib.hid TD.out.gr_.size
        have T3 := Lib.hid (TD.out.below (w' := (v2.drew.alloc (.cells (ints [1, 99, -99, 100, -100]).toArray 3))) ((Below.refl _ _).alloc (Nat.le_refl _) (.cells (ints [1, 99, -99, 100, -100]).toArray 3)))
        have QC := Lib.hid T3.out.bx.b.2.2.1
        refine ⟨QC.out, ?_⟩
        refine tame_one (k := 6) (by kernel_rfl) rfl (by kernel_rfl) ?_
        go_simp
        refine (pick_c g _ (F.length : Int) _ T3.out.cur (by omega) (by omega)).mono ?_
        rintro e v4 ⟨u, rfl, ⟨x, rfl, hx0, hx1⟩, hc3, hg3⟩
        have T4 := Lib.hid (T3.out.cur_ hg3 hc3)
        obtain ⟨x, rfl⟩ : ∃ x' : Nat, x = (x' : Int) := ⟨x.toNat, by omega⟩
        have hxl : x < F.length := by omega
        have ix : (x : Int) < (F.length : Int) := by omega
        have R0 := R1.grown hg3 (fun ad e e2 => by injection e with e; have := TD.out.g0; have := HZ.out; rw [← e] at e2; injection e2 with e2; have e3 : v2.heap.size = g := e2; omega)
        clear hc3 hg3 hx0 hx1
        have QD := Lib.hid T4.out.bx.b.2.2.1
        refine ⟨QD.out, ?_⟩
        refine tame_one (k := 9) (by kernel_rfl) rfl (by kernel_rfl) ?_
        go_simp
        refine (among_c g _ _ [1, 99, -99, 100, -100] _ _ _ T4.out.cur (by omega) R0 (fun ad e => by injection e with e; have := TD.out.g0; have := HZ.out; rw [← e]; show v2.heap.size ≠ g; omega) rfl (by simp) (by simp)).mono ?_
        rintro e v7 ⟨u, rfl, ⟨q, hq, rfl⟩, hc7, hg7⟩
        have T7 := Lib.hid (T4.out.cur_ hg7 hc7)
        have QE := Lib.hid T7.out.bx.b.2.2.1
        generalize nth [1, 99, -99, 100, -100] q = y at *
        clear hq hc7 hg7 R0 QD
        refine ⟨QE.out, ?_⟩
        refine tame_one (k := 10) (by kernel_rfl) rfl (by kernel_rfl) ?_
        go_simp
        refine ⟨QE.out, ?_⟩
        have fz := T7.out.o3.frozen x
        have qx := T7.out.o3.cellN hxl
        have T8 := Lib.hid (T7.out.set3 x y)
        refine tame_one (k := 11) (by kernel_rfl) rfl (by kernel_rfl) ?_
        go_simp
        try (refine ⟨fun h => absurd h (by decide), ?_⟩)
        refine tame_end (by kernel_rfl) ?_
        clear fz qx QE
        go_wp2_with fail
        refine hK1.out _ _ ?_
        exact arTail3 T8.out (by omega) hP hW (by rw [List.length_set]; exact hF) _ _ _ _ _ _ _ _ _ _ _ _ _ _ _ _ _ _ _ _ _ _ _ _ _ _ _ _ _ _ _ _ _ _ _ _ _ _ _ _ _ _ _ _ _ _ _ _ _ _ _ _ _ _ _ _ _ _ _ _ _ _ _ _ _ _ _ _ _ _ _ _ _ _ _ _ _ _ _ _ _ _ _ _ _ _ _ _ _ _ _ _ _ _ _ _ _ _ _ _ _ _ _ _ _ _ _ _ _ _ _ _ _ _ _ _ _ _ _
  · have i0 : ¬ (0 : Int) < (F.length : Int) := by omega
    go_wp2_with fail
    refine hK1.out _ _ ?_
    exact arTail3 T.out (by omega) hP hW hF _ _ _ _ _ _ _ _ _ _ _ _ _ _ _ _ _ _ _ _ _ _ _ _ _ _ _ _ _ _ _ _ _ _ _ _ _ _ _ _ _ _ _ _ _ _ _ _ _ _ _ _ _ _ _ _ _ _ _ _ _ _ _ _ _ _ _ _ _ _ _ _ _ _ _ _ _ _ _ _ _ _ _ _ _ _ _ _ _ _ _ _ _ _ _ _ _ _ _ _ _ _ _ _ _ _ _ _ _ _ _ _ _ _ _ _ _ _ _
set_option maxRecDepth 20000 in
set_option maxHeartbeats 8000000 in
theorem arTail {w0 w : World} {g gr gm : Nat} {N M : Int} {A1 A2 : Option Addr} {c1 c2 : Nat} {P W : List Int} (T0 : MkD w0 w g gr gm N A1 c1 P A2 c2 W none 0 []) (hM : N + 100 ≤ M) (hN : N ≤ 750000) (hP : P.length ≤ 60) (hW : W.length ≤ 60) (u1 u2 u3 u6 u7 u8 u9 u10 u11 u12 u13 u14 u15 u16 u17 u18 u19 u20 u21 u22 u23 u24 u25 u26 u27 u28 u29 u30 u31 u32 u33 u34 u35 u36 u37 u38 u39 u40 u41 u42 u43 u44 u45 u46 u47 u48 u49 u50 u51 u52 u53 u54 u55 u56 u57 u58 u59 u60 u61 u62 u63 u64 u65 u66 u67 u68 u69 u70 u71 u72 u73 u74 u75 u76 u77 u78 u79 u80 u81 u82 u83 u84 u85 u86 u87 u88 u89 u90 u91 u92 u93 u94 u95 u96 u97 u98 u99 u100 u101 u102 u103 u104 u105 u106 u107 u108 u109 u110 u111 u112 u113 u114 u115 u116 u117 u118 u119 u120 u121 : Value) :
    Code.wp Try.prog ar15 (bodyPost Try.prog Try.f42 (MarketDrawn w0 g M)) ⟨#[.pointer (some ⟨g, 0, none⟩), u1, u2, u3, .pointer (some ⟨gr, 0, none⟩), .pointer (some ⟨gm, 0, none⟩), u6, u7, u8, u9, u10, u11, u12, u13, u14, u15, u16, u17, u18, u19, u20, u21, u22, u23, u24, u25, u26, u27, u28, u29, u30, u31, u32, u33, u34, u35, u36, u37, u38, u39, u40, u41, u42, u43, u44, u45, u46, u47, u48, u49, u50, u51, u52, u53, u54, u55, u56, u57, u58, u59, u60, u61, u62, u63, u64, u65, u66, u67, u68, u69, u70, u71, u72, u73, u74, u75, u76, u77, u78, u79, u80, u81, u82, u83, u84, u85, u86, u87, u88, u89, u90, u91, u92, u93, u94, u95, u96, u97, u98, u99, u100, u101, u102, u103, u104, u105, u106, u107, u108, u109, u110, u111, u112, u113, u114, u115, u116, u117, u118, u119, u120, u121], []⟩ w := by
  conv => arg 2; whnf
  have T1 := Lib.hid T0
  clear T0
  go_wp2_with fail
  rename_i K1 hK1
  replace hK1 := Lib.hid hK1
  go_loopw [9] (fun i wr => ∃ (k : Nat) (A3 : Option Addr) (c3 : Nat) (F : List Int), i = .int .i64 (k : Int) ∧ k ≤ W.length ∧ k ≤ 24 ∧ F.length = k ∧ MkD w0 wr g gr gm (N + 2 * (k : Int)) A1 c1 P A2 c2 W A3 c3 F) (fun i _ => W.length - (intOf i).toNat)
  case atStart => exact ⟨0, none, 0, [], rfl, by omega, by omega, rfl, T1.out.mono (by omega)⟩
  case round =>
    clear T1
    obtain ⟨v, rfl⟩ : ∃ v : World, v = wr := ⟨_, rfl⟩
    obtain ⟨k, A3, c3, F, rfl, hk, hk24, hF, T⟩ := hrel
    replace T := Lib.hid T
    have HF := Lib.hid hF
    clear hF
    have k1 := T.out.bx.b.2.1
    by_cases hlt : k < W.length
    · have ik : (k : Int) < (W.length : Int) := by omega
      by_cases h24 : (k : Int) < 24
      · obtain ⟨a2, rfl, _, _⟩ := T.out.o2.form (by omega)
        have q := T.out.o2.cellN hlt
        have HV := Lib.hid T.out.gr_.size
        go_upto_region 19 with fail
        by_cases hw : nth W k = 0
        · rw [hw] at q
          go_wp2_with fail
          refine (pick_c g _ 15 _ T.out.cur (by omega) (by omega)).mono ?_
          rintro e v2 ⟨u, rfl, ⟨y, rfl, hy0, hy1⟩, hc2, hg2⟩
          have T2 := Lib.hid (T.out.cur_ hg2 hc2)
          have e1 : IntKind.i64.wrap (y - 4) = y - 4 := IntWalk.i64_in _ (by omega)
          clear hc2 hg2 k1 q T
          have k2 := T2.out.bx.b.2.2.1
          go_wp2_with (at_builtin; refine wp_append1 v2 (y - 4) _ rfl _ _ rfl w0.heap.size A3 F.length c3 F rfl rfl T2.out.o3 rfl (by rw [HF.out]; omega) (by have := T2.out.gr_.size; omega) ?_; intro A5 c5 w5 o5 g5 b5; have kb := T2.out.bx.grownR g5 (fun e => (T2.out.n3 gm e).1 rfl); have T5 := Lib.hid (T2.out.push3 o5 g5 b5); obtain ⟨⟨f0, f1, f2, f3⟩, f4, f5, f6⟩ := kb; clear o5 g5 b5 k2)
          go_roundw
          case rel => exact ⟨k + 1, A5, c5, F ++ [y - 4], by go_num, by omega, by omega, by rw [List.length_append, HF.out]; rfl, T5.out.mono (by omega)⟩
          case measure => simp [intOf] <;> omega
        · have hw' : (nth W k == 0) = false := by simpa using hw
          have k2 := T.out.bx.b.2.2.1
          go_wp2_with (at_builtin; refine wp_append1 v (0) _ rfl _ _ rfl w0.heap.size A3 F.length c3 F rfl rfl T.out.o3 rfl (by rw [HF.out]; omega) (by have := T.out.gr_.size; omega) ?_; intro A5 c5 w5 o5 g5 b5; have kb := T.out.bx.grownR g5 (fun e => (T.out.n3 gm e).1 rfl); have T5 := Lib.hid (T.out.push3 o5 g5 b5); obtain ⟨⟨f0, f1, f2, f3⟩, f4, f5, f6⟩ := kb; clear o5 g5 b5 k2)
          go_roundw
          case rel => exact ⟨k + 1, A5, c5, F ++ [0], by go_num, by omega, by omega, by rw [List.length_append, HF.out]; rfl, T5.out.mono (by omega)⟩
          case measure => simp [intOf] <;> omega
      · go_wp2_with fail
        refine hK1.out _ _ ?_
        exact arTail2 T.out (by omega) (by omega) hP hW (by rw [HF.out]; omega) _ _ _ _ _ _ _ _ _ _ _ _ _ _ _ _ _ _ _ _ _ _ _ _ _ _ _ _ _ _ _ _ _ _ _ _ _ _ _ _ _ _ _ _ _ _ _ _ _ _ _ _ _ _ _ _ _ _ _ _ _ _ _ _ _ _ _ _ _ _ _ _ _ _ _ _ _ _ _ _ _ _ _ _ _ _ _ _ _ _ _ _ _ _ _ _ _ _ _ _ _ _ _ _ _ _ _ _ _ _ _ _ _ _ _ _ _ _ _
    · have ik : ¬ (k : Int) < (W.length : Int) := by omega
      go_wp2_with fail
      refine hK1.out _ _ ?_
      exact arTail2 T.out (by omega) (by omega) hP hW (by rw [HF.out]; omega) _ _ _ _ _ _ _ _ _ _ _ _ _ _ _ _ _ _ _ _ _ _ _ _ _ _ _ _ _ _ _ _ _ _ _ _ _ _ _ _ _ _ _ _ _ _ _ _ _ _ _ _ _ _ _ _ _ _ _ _ _ _ _ _ _ _ _ _ _ _ _ _ _ _ _ _ _ _ _ _ _ _ _ _ _ _ _ _ _ _ _ _ _ _ _ _ _ _ _ _ _ _ _ _ _ _ _ _ _ _ _ _ _ _ _ _ _ _ _
set_option maxRecDepth 20000 in
set_option maxHeartbeats 8000000 in
theorem arm_c (g : Nat) (N most : Int) (w : World) (h : CurS w g N) (hN : N ≤ 700000) (hm1 : 1 ≤ most) (hm2 : most ≤ 24) :
    Calls Try.prog 42 #[.pointer (some ⟨g, 0, none⟩), .int .i64 most] w (MarketDrawn w g (N + 3000)) := by
  have hgw : g < w.heap.size := by
    obtain ⟨_, _, _, _, _, h⟩ := h
    exact h.lt
  have B0 := Bz.new w (.slice none 0 0) (.slice none 0 0) (.slice none 0 0) 28
  have b0 : Below w.heap.size w (w.alloc (.cells #[.slice none 0 0, .slice none 0 0, .slice none 0 0] 28)) := (Below.refl _ _).alloc (Nat.le_refl _) _
  go_enter Try.func42, Try.ntmps42
  go_wp2_with fail
  refine (someTree_c g N most _ (h.below b0) (by omega) hm1 hm2).mono ?_
  rintro e w2 ⟨A1, c1, P, A2, c2, W, rfl, hP, hW, o1, o2, hc, hg, hap⟩
  have B2 := B0.grownR hg (by intro e; injection e with e; omega)
  have G2 : w.grownBy w2 (some g) := (grown_of_below b0 (some g)).trans hg
  have l2 := B2.b.2.2.2
  have bl : Below w2.heap.size w2 (w2.alloc (.cells #[.slice A1 P.length c1, .slice A2 W.length c2, .slice none 0 0] 28)) := (Below.refl _ _).alloc (Nat.le_refl _) _
  simp only [World.size_alloc] at o1 o2
  have T0 : MkD w (w2.alloc (.cells #[.slice A1 P.length c1, .slice A2 W.length c2, .slice none 0 0] 28)) g w.heap.size w2.heap.size (N + 300) A1 c1 P A2 c2 W none 0 [] :=
    ⟨Bz.new _ _ _ _ _, B2.below bl, (o1.mono (by omega)).alloc _, (o2.mono (by omega)).alloc _, Own.nil _ _, fun b e => ⟨by have := o1.ltk b e; omega, by have := o1.ge b e; omega⟩, fun b e => ⟨by have := o2.ltk b e; omega, by have := o2.ge b e; omega⟩, fun b e => (by cases e), hc.below bl, hgw, ⟨by omega, Nat.le_refl _, by omega⟩, grown_low G2 bl⟩
  clear B0 B2 b0 o1 o2 hc hg G2 bl
  obtain ⟨gm, hgm⟩ : ∃ gm, gm = w2.heap.size := ⟨_, rfl⟩
  go_upto_region 2 with fail
  rename_i K1 hK1 K0 hK0
  replace hK1 := Lib.hid hK1
  rw [← hgm] at T0 ⊢
  have T := Lib.hid T0
  have HAP := Lib.hid hap
  clear T0 hgm l2 hap
  obtain ⟨v, hv⟩ : ∃ v, v = w2.alloc (.cells #[.slice A1 P.length c1, .slice A2 W.length c2, .slice none 0 0] 28) := ⟨_, rfl⟩
  rw [← hv] at T ⊢
  clear hv
  have k0 := T.out.bx.b.1
  have k1 := T.out.bx.b.2.1
  cases hg : treeB P W
  · have C := l2Good_c A1 P c1 A2 W c2 v T.out.o1.rd T.out.o2.rd (by omega) (by omega)
    rw [hg] at C
    clear hg
    go_wp2_with fail
    refine C.mono ?_
    rintro e v2 ⟨rfl, b2⟩
    have T2 := Lib.hid (T.out.below b2)
    clear C b2 T k0 k1
    go_wp2_with fail
    refine hK1.out _ _ ?_
    exact arTail T2.out (by omega) (by omega) (by omega) hW _ _ _ _ _ _ _ _ _ _ _ _ _ _ _ _ _ _ _ _ _ _ _ _ _ _ _ _ _ _ _ _ _ _ _ _ _ _ _ _ _ _ _ _ _ _ _ _ _ _ _ _ _ _ _ _ _ _ _ _ _ _ _ _ _ _ _ _ _ _ _ _ _ _ _ _ _ _ _ _ _ _ _ _ _ _ _ _ _ _ _ _ _ _ _ _ _ _ _ _ _ _ _ _ _ _ _ _ _ _ _ _ _ _ _ _ _ _ _
  have C := l2Good_c A1 P c1 A2 W c2 v T.out.o1.rd T.out.o2.rd (by omega) (by omega)
  rw [hg] at C
  have hTR := treeB_iff.1 hg
  have hn1 := hTR.n1
  have hn2 := hTR.n2
  have HWL := Lib.hid hTR.len
  have HPar := Lib.hid hTR.par
  clear hg hTR
  go_wp2_with fail
  refine C.mono ?_
  rintro e v2 ⟨rfl, b2⟩
  have T2 := Lib.hid (T.out.below b2)
  clear C b2 T k0 k1
  obtain ⟨a1, rfl, _, _⟩ := T2.out.o1.form (by omega)
  obtain ⟨a2, rfl, _, _⟩ := T2.out.o2.form (by have := HWL.out; omega)
  have hap : a2 ≠ a1 := fun e => HAP.out a1 rfl (by rw [e]; rfl)
  clear HAP
  go_wp2_with fail
  go_loopw [6] (fun i wr => ∃ (x : Nat) (P' : List Int), i = .int .i64 (x : Int) ∧ 1 ≤ x ∧ x ≤ P.length ∧ P'.length = P.length ∧ ParOk P' ∧ MkD w wr g w.heap.size gm (N + 300 + 4 * (x : Int)) (some ⟨a1, 0, none⟩) c1 P' (some ⟨a2, 0, none⟩) c2 W none 0 []) (fun i _ => P.length - (intOf i).toNat)
  case atStart => exact ⟨1, P, rfl, Nat.le_refl _, hn1, rfl, HPar.out, T2.out.mono (by omega)⟩
  case round =>
    clear T2 HPar
    obtain ⟨v, rfl⟩ : ∃ v : World, v = wr := ⟨_, rfl⟩
    obtain ⟨x, P', rfl, hx1, hx, hPl, hpar, T⟩ := hrel
    replace T := Lib.hid T
    have HP := Lib.hid hPl
    have HPar := Lib.hid hpar
    clear hPl hpar
    have k0 := T.out.bx.b.1
    by_cases hlt : x < P.length
    · have ix : (x : Int) < (P'.length : Int) := by rw [HP.out]; omega
      go_wp2_with fail
      refine (one_c g _ 40 _ T.out.cur (by omega) (by omega)).mono ?_
      rintro e v2 ⟨u, rfl, ⟨b, rfl⟩, hc2, hg2⟩
      have T2 := Lib.hid (T.out.cur_ hg2 hc2)
      clear hc2 hg2 T k0
      cases b
      · obtain ⟨p, hpx, hpl⟩ : ∃ p : Nat, nth P' x = (p : Int) ∧ p < x := by
          have := HPar.out.up x hx1 (by rw [HP.out]; exact hlt)
          exact ⟨(nth P' x).toNat, by omega, by omega⟩
        have hpP : p < P'.length := by rw [HP.out]; omega
        go_upto_region 6 with fail
        have q0 := T2.out.bx.b.1
        have q1 := T2.out.bx.b.2.1
        have q2 := T2.out.o1.cellN (k := x) (by rw [HP.out]; exact hlt)
        rw [hpx] at q2
        clear hpx
        have hd2 : Below v2.heap.size v2 v2.drew := Below.drew (Below.refl _ _)
        have SK2 : Hid (∀ w', Below v2.heap.size v2 w' → w'.cell? ⟨gm, 0, none⟩ = some (.slice (some ⟨a1, 0, none⟩) P'.length c1) ∧ w'.cell? ⟨gm, 1, none⟩ = some (.slice (some ⟨a2, 0, none⟩) W.length c2) ∧ w'.cell? ⟨a1, x, none⟩ = some (.int .i64 (p : Int))) := Lib.hid fun w' HV => ⟨(HV.cell (cell_lt q0)).trans q0, (HV.cell (cell_lt q1)).trans q1, (HV.cell (cell_lt q2)).trans q2⟩
        clear q0 q1 q2
        have hS2_0 := SK2.out _ hd2
        refine tamed_region (S := fun w' => w'.cell? ⟨gm, 0, none⟩ = some (.slice (some ⟨a1, 0, none⟩) P'.length c1) ∧ w'.cell? ⟨gm, 1, none⟩ = some (.slice (some ⟨a2, 0, none⟩) W.length c2) ∧ w'.cell? ⟨a1, x, none⟩ = some (.int .i64 (p : Int))) (fun _ => false) (by kernel_rfl) ?_
        refine tame0 (k := 0) ?_ rfl (by kernel_rfl) (by kernel_rfl) (by kernel_rfl) (fun _ _ _ h => h) (by kernel_rfl) (fun v => ?_) ?_
        rotate_left
        · (go_simp; all_goals rfl)
        simp only [Act.put, List.setIfInBounds_toArray]
        refine tame (k := 1) ?_ rfl (by kernel_rfl) (by kernel_rfl) (by kernel_rfl) (by kernel_rfl) (fun _ _ _ h => h) (by kernel_rfl) hS2_0 (fun v hv => ?_) ?_
        rotate_left
        · (obtain ⟨k1, k2, k3⟩ := hv; go_simp; all_goals rfl)
        simp only [Act.put]
        refine tame0 (k := 2) ?_ rfl (by kernel_rfl) (by kernel_rfl) (by kernel_rfl) (fun _ _ _ h => h) (by kernel_rfl) (fun v => ?_) ?_
        rotate_left
        · (go_simp; all_goals rfl)
        simp only [Act.put]
        refine tame0 (k := 3) ?_ rfl (by kernel_rfl) (by kernel_rfl) (by kernel_rfl) (fun _ _ _ h => h) (by kernel_rfl) (fun v => ?_) ?_
        rotate_left
        · (go_simp; all_goals rfl)
        simp only [Act.put]
        refine tame (k := 4) ?_ rfl (by kernel_rfl) (by kernel_rfl) (by kernel_rfl) (by kernel_rfl) (fun _ _ _ h => h) (by kernel_rfl) hS2_0 (fun v hv => ?_) ?_
        rotate_left
        · (obtain ⟨k1, k2, k3⟩ := hv; go_simp; all_goals rfl)
        simp only [Act.put]
        refine tame0 (k := 5) ?_ rfl (by kernel_rfl) (by kernel_rfl) (by kernel_rfl) (fun _ _ _ h => h) (by kernel_rfl) (fun v => ?_) ?_
        rotate_left
        · (go_simp; all_goals rfl)
        simp only [Act.put]
        refine tame0 (k := 6) ?_ rfl (by kernel_rfl) (by kernel_rfl) (by kernel_rfl) (fun _ _ _ h => h) (by kernel_rfl) (fun v => ?_) ?_
        rotate_left
        · (go_simp; all_goals rfl)
        simp only [Act.put]
        refine tame (k := 7) ?_ rfl (by kernel_rfl) (by kernel_rfl) (by kernel_rfl) (by kernel_rfl) (fun _ _ _ h => h) (by kernel_rfl) hS2_0 (fun v hv => ?_) ?_
        rotate_left
        · (obtain ⟨k1, k2, k3⟩ := hv; go_simp; all_goals rfl)
        simp only [Act.put]
        refine tame_one (k := 8) (by kernel_rfl) rfl (by kernel_rfl) ?_
        go_simp
        refine (l2WayN_c (some ⟨a1, 0, none⟩) P' c1 (some ⟨a2, 0, none⟩) W.length c2 p v2.drew T2.out.drew.o1.rd HPar.out hpP (by rw [HP.out]; exact hn2)).mono ?_
        rintro e v4 ⟨Aw, cw, rfl, b4⟩
        have T4 := Lib.hid (T2.out.drew.below b4)
        clear T2
        have hd2_1 := bUp hd2 b4 (Nat.le_refl _)
        have hS2_1 := Lib.hid (SK2.out _ hd2_1)
        refine ⟨by first | exact hS2_1 | exact Hid.out hS2_1, ?_⟩
        refine tame_one (k := 9) (by kernel_rfl) rfl (by kernel_rfl) ?_
        go_simp
        refine ⟨by first | exact hS2_1 | exact Hid.out hS2_1, ?_⟩
        refine tame_one (k := 10) (by kernel_rfl) rfl (by kernel_rfl) ?_
        go_simp
        refine ⟨by first | exact hS2_1 | exact Hid.out hS2_1, ?_⟩
        refine tame_end (by kernel_rfl) ?_
        clear hd2_1 SK2 b4
        generalize dpN P' p = n at *
        by_cases hd : (2 : Int) < (n : Int) + 1
        · go_upto_region 7 with fail
          have q0 := T4.out.bx.b.1
          have hd3 : Below v4.heap.size v4 v4.drew := Below.drew (Below.refl _ _)
          have SK3 : Hid (∀ w', Below v4.heap.size v4 w' → w'.cell? ⟨gm, 0, none⟩ = some (.slice (some ⟨a1, 0, none⟩) P'.length c1)) := Lib.hid fun w' HV => (HV.cell (cell_lt q0)).trans q0
          clear q0
          have hS3_0 := SK3.out _ hd3
          refine tamed_region (S := fun w' => w'.cell? ⟨gm, 0, none⟩ = some (.slice (some ⟨a1, 0, none⟩) P'.length c1)) (fun k => k == 9) (by kernel_rfl) ?_
          refine tame0 (k := 0) ?_ rfl (by kernel_rfl) (by kernel_rfl) (by kernel_rfl) (fun _ _ _ h => h) (by kernel_rfl) (fun v => ?_) ?_
          rotate_left
          · (go_simp; all_goals rfl)
          simp only [Act.put, List.setIfInBounds_toArray]
          refine tame0 (k := 1) ?_ rfl (by kernel_rfl) (by kernel_rfl) (by kernel_rfl) (fun _ _ _ h => h) (by kernel_rfl) (fun v => ?_) ?_
          rotate_left
          · (go_simp; all_goals rfl)
          simp only [Act.put]
          refine tameT (k := 2) ?_ rfl (by kernel_rfl) (by kernel_rfl) (by kernel_rfl) (by kernel_rfl) (by kernel_rfl) (fun _ _ _ h => h) (by kernel_rfl) hS3_0 (fun v hv => ?_) ?_
          rotate_left
          · (obtain k1 := hv; go_simp; all_goals rfl)
          simp only [Act.put]
          refine tame0 (k := 3) ?_ rfl (by kernel_rfl) (by kernel_rfl) (by kernel_rfl) (fun _ _ _ h => h) (by kernel_rfl) (fun v => ?_) ?_
          rotate_left
          · (go_simp; all_goals rfl)
          simp only [Act.put]
          refine tame0 (k := 4) ?_ rfl (by kernel_rfl) (by kernel_rfl) (by kernel_rfl) (fun _ _ _ h => h) (by kernel_rfl) (fun v => ?_) ?_
          rotate_left
          · (go_simp; all_goals rfl)
          simp only [Act.put]
          refine tame0 (k := 5) ?_ rfl (by kernel_rfl) (by kernel_rfl) (by kernel_rfl) (fun _ _ _ h => h) (by kernel_rfl) (fun v => ?_) ?_
          rotate_left
          · (go_simp; all_goals rfl)
          simp only [Act.put]
          have hS3_0v := Lib.hid hS3_0
          clear hS3_0
          refine tame_one (k := 6) (by kernel_rfl) rfl (by kernel_rfl) ?_
          go_simp
          refine (l1Lst_c (x : Int) 2 v4.drew).mono ?_
          rintro e w' ⟨rfl, rfl⟩
          refine ⟨by first | exact hS3_0v | exact Hid.out hS3_0v, ?_⟩
          refine tame_one (k := 7) (by kernel_rfl) rfl (by kernel_rfl) ?_
          go_simp
          refine (pick_c g _ _ _ T4.out.drew.cur (by omega) (by unfold leI; split <;> omega)).mono ?_
          rintro e v5 ⟨u, rfl, ⟨y, rfl, hy0, hy1⟩, hc5, hg5⟩
          have hyx : y ≤ (x : Int) - 1 := by
            unfold leI at hy1
            split at hy1 <;> omega
          have T5 := Lib.hid (T4.out.drew.cur_ hg5 hc5)
          have QD := Lib.hid T5.out.bx.b.1
          clear hc5 hg5 T4 hy1
          refine ⟨QD.out, ?_⟩
          refine tame_one (k := 8) (by kernel_rfl) rfl (by kernel_rfl) ?_
          go_simp
          refine ⟨QD.out, ?_⟩
          have fz := T5.out.o1.frozen x
          have qx := T5.out.o1.cellN (k := x) (by rw [HP.out]; exact hlt)
          have T8 := Lib.hid (T5.out.set1 (by intro e; exact hap (Option.some.inj e)) x y)
          have HP8 : Hid ((P'.set x y).length = P.length) := Lib.hid (by rw [List.length_set]; exact HP.out)
          have HPar8 := Lib.hid (HPar.out.set hx1 hy0 hyx)
          refine tame_one (k := 9) (by kernel_rfl) rfl (by kernel_rfl) ?_
          go_simp
          try (refine ⟨fun h => absurd h (by decide), ?_⟩)
          refine tame_end (by kernel_rfl) ?_
          clear fz qx QD hd3 SK3
          go_wp2_with fail
          go_roundw
          case rel => exact ⟨x + 1, _, by go_num, by omega, by omega, HP8.out, HPar8.out, T8.out.mono (by omega)⟩
          case measure => simp [intOf] <;> omega
        · go_wp2_with fail
          go_roundw
          case rel => exact ⟨x + 1, P', by go_num, by omega, by omega, HP.out, HPar.out, T4.out.mono (by omega)⟩
          case measure => simp [intOf] <;> omega
      · have T := T2
        clear T2
        have k1 := T.out.bx.b.2.1
        go_wp2_with fail
        clear k1
        go_loopw [7] (fun i wr => ∃ (y : Nat) (W' : List Int), i = .int .i64 (y : Int) ∧ y ≤ W.length ∧ W'.length = W.length ∧ MkD w wr g w.heap.size gm (N + 500 + 2 * (y : Int)) (some ⟨a1, 0, none⟩) c1 P' (some ⟨a2, 0, none⟩) c2 W' none 0 []) (fun i _ => W.length - (intOf i).toNat)
        case atStart => exact ⟨0, W, rfl, by omega, rfl, T.out.mono (by omega)⟩
        case round =>
          clear T ix
          obtain ⟨v, rfl⟩ : ∃ v : World, v = wr := ⟨_, rfl⟩
          obtain ⟨y, W', rfl, hy, hWl, T⟩ := hrel
          replace T := Lib.hid T
          have HW := Lib.hid hWl
          clear hWl
          have k0 := T.out.bx.b.1
          have k1 := T.out.bx.b.2.1
          by_cases hyl : y < W.length
          · have iy : (y : Int) < (W'.length : Int) := by rw [HW.out]; omega
            have hyP : y < P'.length := by rw [HP.out, ← HWL.out]; exact hyl
            go_wp2_with fail
            refine (l2Kids_c (some ⟨a1, 0, none⟩) P' c1 (some ⟨a2, 0, none⟩) W'.length c2 y v T.out.o1.rd HPar.out hyP (by rw [HP.out]; exact hn2)).mono ?_
            rintro e v4 ⟨Ak, ck, rfl, ok, b4⟩
            have T4 := Lib.hid (T.out.below b4)
            clear T b4 ok k0 k1
            generalize (kids P' (y : Int)).length = n at *
            have k1 := T4.out.bx.b.2.1
            have HV := Lib.hid T4.out.gr_.size
            by_cases hn0 : n = 0
            · subst hn0
              have R1 := (Own.lit v4 [1, 1, 2, 3] (by decide)).rd
              have b1 : Below v4.heap.size v4 (v4.alloc (.cells (ints [1, 1, 2, 3]).toArray 3)) := (Below.refl _ _).alloc (Nat.le_refl _) _
              have T5 := Lib.hid (T4.out.below b1)
              go_wp2_with fail
              refine (among_c g _ _ [1, 1, 2, 3] _ _ _ T5.out.cur (by omega) R1 (fun ad e => by injection e with e; have := T5.out.g0; have := HV.out; rw [← e]; show v4.heap.size ≠ g; omega) rfl (by decide) (by decide)).mono ?_
              rintro e v6 ⟨u, rfl, ⟨q, hq, rfl⟩, hc6, hg6⟩
              have T6 := Lib.hid (T5.out.cur_ hg6 hc6)
              generalize nth [1, 1, 2, 3] q = z at *
              clear hq hc6 hg6 R1 b1 T4 T5 k1
              have k1 := T6.out.bx.b.2.1
              have fz := T6.out.o2.frozen y
              have qx := T6.out.o2.cellN (k := y) (by rw [HW.out]; exact hyl)
              have T8 := Lib.hid (T6.out.set2 (by intro e; exact hap (Option.some.inj e).symm) y z)
              go_wp2_with fail
              go_roundw
              case rel => exact ⟨y + 1, _, by go_num, by omega, by rw [List.length_set]; exact HW.out, T8.out.mono (by omega)⟩
              case measure => simp [intOf] <;> omega
            · have hn0' : ((n : Int) == 0) = false := by simp; omega
              have fz := T4.out.o2.frozen y
              have qx := T4.out.o2.cellN (k := y) (by rw [HW.out]; exact hyl)
              have T8 := Lib.hid (T4.out.set2 (by intro e; exact hap (Option.some.inj e).symm) y 0)
              go_wp2_with fail
              go_roundw
              case rel => exact ⟨y + 1, _, by go_num, by omega, by rw [List.length_set]; exact HW.out, T8.out.mono (by omega)⟩
              case measure => simp [intOf] <;> omega
          · have iy : ¬ (y : Int) < (W'.length : Int) := by rw [HW.out]; omega
            go_wp2_with fail
            refine hK1.out _ _ ?_
            exact arTail T.out (by have := HWL.out; omega) (by have := HWL.out; omega) (by rw [HP.out]; omega) (by rw [HW.out]; exact hW) _ _ _ _ _ _ _ _ _ _ _ _ _ _ _ _ _ _ _ _ _ _ _ _ _ _ _ _ _ _ _ _ _ _ _ _ _ _ _ _ _ _ _ _ _ _ _ _ _ _ _ _ _ _ _ _ _ _ _ _ _ _ _ _ _ _ _ _ _ _ _ _ _ _ _ _ _ _ _ _ _ _ _ _ _ _ _ _ _ _ _ _ _ _ _ _ _ _ _ _ _ _ _ _ _ _ _ _ _ _ _ _ _ _ _ _ _ _ _
    · have ix : ¬ (x : Int) < (P'.length : Int) := by rw [HP.out]; omega
      have k1 := T.out.bx.b.2.1
      go_wp2_with fail
      clear k1
      go_loopw [7] (fun i wr => ∃ (y : Nat) (W' : List Int), i = .int .i64 (y : Int) ∧ y ≤ W.length ∧ W'.length = W.length ∧ MkD w wr g w.heap.size gm (N + 500 + 2 * (y : Int)) (some ⟨a1, 0, none⟩) c1 P' (some ⟨a2, 0, none⟩) c2 W' none 0 []) (fun i _ => W.length - (intOf i).toNat)
      case atStart => exact ⟨0, W, rfl, by omega, rfl, T.out.mono (by omega)⟩
      case round =>
        clear T ix
        obtain ⟨v, rfl⟩ : ∃ v : World, v = wr := ⟨_, rfl⟩
        obtain ⟨y, W', rfl, hy, hWl, T⟩ := hrel
        replace T := Lib.hid T
        have HW := Lib.hid hWl
        clear hWl
        have k0 := T.out.bx.b.1
        have k1 := T.out.bx.b.2.1
        by_cases hyl : y < W.length
        · have iy : (y : Int) < (W'.length : Int) := by rw [HW.out]; omega
          have hyP : y < P'.length := by rw [HP.out, ← HWL.out]; exact hyl
          go_wp2_with fail
          refine (l2Kids_c (some ⟨a1, 0, none⟩) P' c1 (some ⟨a2, 0, none⟩) W'.length c2 y v T.out.o1.rd HPar.out hyP (by rw [HP.out]; exact hn2)).mono ?_
          rintro e v4 ⟨Ak, ck, rfl, ok, b4⟩
          have T4 := Lib.hid (T.out.below b4)
          clear T b4 ok k0 k1
          generalize (kids P' (y : Int)).length = n at *
          have k1 := T4.out.bx.b.2.1
          have HV := Lib.hid T4.out.gr_.size
          by_cases hn0 : n = 0
          · subst hn0
            have R1 := (Own.lit v4 [1, 1, 2, 3] (by decide)).rd
            have b1 : Below v4.heap.size v4 (v4.alloc (.cells (ints [1, 1, 2, 3]).toArray 3)) := (Below.refl _ _).alloc (Nat.le_refl _) _
            have T5 := Lib.hid (T4.out.below b1)
            go_wp2_with fail
            refine (among_c g _ _ [1, 1, 2, 3] _ _ _ T5.out.cur (by omega) R1 (fun ad e => by injection e with e; have := T5.out.g0; have := HV.out; rw [← e]; show v4.heap.size ≠ g; omega) rfl (by decide) (by decide)).mono ?_
            rintro e v6 ⟨u, rfl, ⟨q, hq, rfl⟩, hc6, hg6⟩
            have T6 := Lib.hid (T5.out.cur_ hg6 hc6)
            generalize nth [1, 1, 2, 3] q = z at *
            clear hq hc6 hg6 R1 b1 T4 T5 k1
            have k1 := T6.out.bx.b.2.1
            have fz := T6.out.o2.frozen y
            have qx := T6.out.o2.cellN (k := y) (by rw [HW.out]; exact hyl)
            have T8 := Lib.hid (T6.out.set2 (by intro e; exact hap (Option.some.inj e).symm) y z)
            go_wp2_with fail
            go_roundw
            case rel => exact ⟨y + 1, _, by go_num, by omega, by rw [List.length_set]; exact HW.out, T8.out.mono (by omega)⟩
            case measure => simp [intOf] <;> omega
          · have hn0' : ((n : Int) == 0) = false := by simp; omega
            have fz := T4.out.o2.frozen y
            have qx := T4.out.o2.cellN (k := y) (by rw [HW.out]; exact hyl)
            have T8 := Lib.hid (T4.out.set2 (by intro e; exact hap (Option.some.inj e).symm) y 0)
            go_wp2_with fail
            go_roundw
            case rel => exact ⟨y + 1, _, by go_num, by omega, by rw [List.length_set]; exact HW.out, T8.out.mono (by omega)⟩
            case measure => simp [intOf] <;> omega
        · have iy : ¬ (y : Int) < (W'.length : Int) := by rw [HW.out]; omega
          go_wp2_with fail
          refine hK1.out _ _ ?_
          exact arTail T.out (by have := HWL.out; omega) (by have := HWL.out; omega) (by rw [HP.out]; omega) (by rw [HW.out]; exact hW) _ _ _ _ _ _ _ _ _ _ _ _ _ _ _ _ _ _ _ _ _ _ _ _ _ _ _ _ _ _ _ _ _ _ _ _ _ _ _ _ _ _ _ _ _ _ _ _ _ _ _ _ _ _ _ _ _ _ _ _ _ _ _ _ _ _ _ _ _ _ _ _ _ _ _ _ _ _ _ _ _ _ _ _ _ _ _ _ _ _ _ _ _ _ _ _ _ _ _ _ _ _ _ _ _ _ _ _ _ _ _ _ _ _ _ _ _ _ _
set_option maxRecDepth 20000 in
set_option maxHeartbeats 2000000 in
theorem discount_c (g : Nat) (N : Int) (w : World) (h : CurS w g N) (hN : N ≤ 900000) :
    Calls Try.prog 43 #[.pointer (some ⟨g, 0, none⟩)] w fun e w' => ∃ a b : Int, e = .returned (.tuple #[.int .i64 a, .int .i64 b]) ∧ CurS w' g (N + 10) ∧ w.grownBy w' (some g) := by
  have hgw : g < w.heap.size := by
    obtain ⟨_, _, _, _, _, h⟩ := h
    exact h.lt
  go_enter Try.func43, Try.ntmps43
  go_wp2_with fail
  refine (one_c g _ 20 _ h (by omega) (by omega)).mono ?_
  rintro e w1 ⟨u, rfl, ⟨b, rfl⟩, hc, hg⟩
  have l1 := hg.size
  clear h
  cases b
  · go_wp2_with fail
    refine (pick_c g _ 3 _ hc (by omega) (by omega)).mono ?_
    rintro e w2 ⟨u, rfl, ⟨y, rfl, hy0, hy1⟩, hc2, hg2⟩
    have e1 : IntKind.i64.wrap (2 + y) = 2 + y := IntWalk.i64_in _ (by omega)
    have e2 : IntKind.i64.wrap (2 + y - 1) = 2 + y - 1 := IntWalk.i64_in _ (by omega)
    go_wp2_with fail
    refine (pick_c g _ _ _ hc2 (by omega) (by omega)).mono ?_
    rintro e w3 ⟨u, rfl, ⟨z, rfl, hz0, hz1⟩, hc3, hg3⟩
    go_wp2_with fail
    go_ret2
    exact ⟨_, _, rfl, hc3.mono (by omega), (hg.trans hg2).trans hg3⟩
  · have R1 := (Own.lit w1 [0, 1, 3, 4] (by decide)).rd
    have b1 : Below w1.heap.size w1 (w1.alloc (.cells (ints [0, 1, 3, 4]).toArray 3)) := (Below.refl _ _).alloc (Nat.le_refl _) _
    go_wp2_with fail
    refine (among_c g _ _ [0, 1, 3, 4] _ _ _ (hc.below b1) (by omega) R1 (fun ad e => by injection e with e; rw [← e]; show w1.heap.size ≠ g; omega) rfl (by decide) (by decide)).mono ?_
    rintro e w2 ⟨u, rfl, ⟨q, hq, rfl⟩, hc2, hg2⟩
    have g2 : w.grownBy w2 (some g) := (grown_low hg b1).trans hg2
    have l2 := g2.size
    generalize nth [0, 1, 3, 4] q = y at *
    have R2 := (Own.lit w2 [1, 4, 5, 3] (by decide)).rd
    have b2 : Below w2.heap.size w2 (w2.alloc (.cells (ints [1, 4, 5, 3]).toArray 3)) := (Below.refl _ _).alloc (Nat.le_refl _) _
    clear R1 b1 hc hg hg2 hq
    go_wp2_with fail
    refine (among_c g _ _ [1, 4, 5, 3] _ _ _ (hc2.below b2) (by omega) R2 (fun ad e => by injection e with e; rw [← e]; show w2.heap.size ≠ g; omega) rfl (by decide) (by decide)).mono ?_
    rintro e w3 ⟨u, rfl, ⟨q, hq, rfl⟩, hc3, hg3⟩
    generalize nth [1, 4, 5, 3] q = z at *
    go_wp2_with fail
    go_ret2
    exact ⟨_, _, rfl, hc3.mono (by omega), (grown_low g2 b2).trans hg3⟩

section
variable {ops : Array Oper} {rest : List Oper} {o : Oper} {a : Act} {Q : Exit → Act → World → Prop}
set_option maxRecDepth 10000 in
/-- 'append(xs, v)' on a row of arms of the call's own; v stands in a box of three cells. -/
theorem op_append_arm {K : Act → World → Prop} (w : World) (s x : Operand) (ho : o.op = .call { callee := .builtin .append, args := #[s, x], argTypes := #[46, 46] })
    (B : Nat) (A : Option Addr) (n c : Nat) (cs : List Value) (hs : a.eval s = .slice A n c) (hown : w.ownsRow B 28 3 (.slice A n c) n cs)
    (g c' : Nat) (B1 B2 B3 : Option Addr) (n1 n2 n3 d1 d2 d3 : Nat) (hx : a.eval x = .slice (some ⟨g, 0, none⟩) 1 c') (h0 : w.cell? ⟨g, 0, none⟩ = some (.slice B1 n1 d1)) (h1 : w.cell? ⟨g, 1, none⟩ = some (.slice B2 n2 d2)) (h2 : w.cell? ⟨g, 2, none⟩ = some (.slice B3 n3 d3))
    (h63 : n + 1 ≤ 65536) (hB : B ≤ w.heap.size)
    (h : ∀ g c2 w', w'.ownsRow B 28 3 (.slice (some ⟨g, 0, none⟩) (n + 1) c2) (n + 1) (cs ++ [.slice B1 n1 d1, .slice B2 n2 d2, .slice B3 n3 d3]) → w.grownBy w' (blk A) → (some g = blk A ∨ g = w.heap.size) → K (a.put o.dst (.slice (some ⟨g, 0, none⟩) (n + 1) c2)) w') :
    o.wp Try.prog a w K Q := by
  obtain ⟨i0, hi, hz0, hz1, hz2⟩ := info_parts mk_info
  have hb : ((n + 1) * 72) ≤ 140737488355328 := by omega
  obtain ⟨v', w', hrun, k2, k3, _, k5⟩ := run_append_own_at (P := Try.prog) w B 46 o.type 28 i0 _ 3 72 Try.underlying46 hi hz0 hz1 hz2 rfl (by omega)
    _ n cs hown ⟨g, 0, none⟩ 1 c' [.slice B1 n1 d1, .slice B2 n2 d2, .slice B3 n3 d3] (by simp) (fun j u hj => by
      have hl : j < 3 := by
        have := (List.getElem?_eq_some_iff.1 hj).1
        simpa using this
      have : j = 0 ∨ j = 1 ∨ j = 2 := by omega
      rcases this with rfl | rfl | rfl
      · simp at hj; subst hj; simpa [Addr.add] using h0
      · simp at hj; subst hj; simpa [Addr.add] using h1
      · simp at hj; subst hj; simpa [Addr.add] using h2) (fun u hu => by
      simp at hu
      rcases hu with rfl | rfl | rfl <;> rfl) (by unfold maxLen; omega) hb hB
  obtain ⟨g', cap, rfl, _, _⟩ := World.ownsRow.form k2 (by omega)
  rw [ownBlock_slice] at k3
  unfold Oper.wp execOp
  simp only [ho, resolve, invoke, builtin, Sem.run_bind, Sem.run_pure, Result.andThen_ok, List.map_toArray, List.map_cons, List.map_nil, hs, hx, hrun]
  refine h g' cap w' k2 k3 ?_
  simp only [ownBlock_slice] at k5
  rcases k5 with k5 | k5
  · exact .inl k5
  · right
    have k5 : some g' = some w.heap.size := k5
    injection k5
theorem wp_append_arm (w : World) (hgd : o.guard = none) (s x : Operand) (ho : o.op = .call { callee := .builtin .append, args := #[s, x], argTypes := #[46, 46] })
    (B : Nat) (A : Option Addr) (n c : Nat) (cs : List Value) (hs : a.eval s = .slice A n c) (hown : w.ownsRow B 28 3 (.slice A n c) n cs)
    (g c' : Nat) (B1 B2 B3 : Option Addr) (n1 n2 n3 d1 d2 d3 : Nat) (hx : a.eval x = .slice (some ⟨g, 0, none⟩) 1 c') (h0 : w.cell? ⟨g, 0, none⟩ = some (.slice B1 n1 d1)) (h1 : w.cell? ⟨g, 1, none⟩ = some (.slice B2 n2 d2)) (h2 : w.cell? ⟨g, 2, none⟩ = some (.slice B3 n3 d3))
    (h63 : n + 1 ≤ 65536) (hB : B ≤ w.heap.size)
    (h : ∀ g c2 w', w'.ownsRow B 28 3 (.slice (some ⟨g, 0, none⟩) (n + 1) c2) (n + 1) (cs ++ [.slice B1 n1 d1, .slice B2 n2 d2, .slice B3 n3 d3]) → w.grownBy w' (blk A) → (some g = blk A ∨ g = w.heap.size) → wpList Try.prog ops Q rest (a.put o.dst (.slice (some ⟨g, 0, none⟩) (n + 1) c2)) w') :
    wpList Try.prog ops Q (o :: rest) a w :=
  wpList_plain hgd fun _ hK => op_append_arm w s x ho B A n c cs hs hown g c' B1 B2 B3 n1 n2 n3 d1 d2 d3 hx h0 h1 h2 h63 hB fun g c2 w' k2 k3 k4 => hK _ _ (h g c2 w' k2 k3 k4)
end
/-- A list lies behind its head: in no block of the cursor, of the row of arms, and made before now. -/
def Beh (w : World) (g : Nat) (A : Option Addr) (B : Option Addr) (xs : List Int) : Prop := Rd w B (ints xs) ∧ ∀ b, blk B = some b → b < w.heap.size ∧ b ≠ g ∧ blk A ≠ some b
/-- Arms being drawn: their row, the cursor at g. -/
structure ArD (w0 w : World) (g : Nat) (N : Int) (A : Option Addr) (c : Nat) (L : List Mkd) (cs : List Value) : Prop where
  own : w.ownsRow w0.heap.size 28 3 (.slice A L.length c) L.length cs
  len : cs.length = L.length * 3
  hd : ∀ k, k < L.length → ∃ A1 c1 A2 c2 A3 c3, cs[k * 3]? = some (.slice A1 (mAt L k).P.length c1) ∧ cs[k * 3 + 1]? = some (.slice A2 (mAt L k).W.length c2) ∧ cs[k * 3 + 2]? = some (.slice A3 (mAt L k).F.length c3) ∧ Beh w g A A1 (mAt L k).P ∧ Beh w g A A2 (mAt L k).W ∧ Beh w g A A3 (mAt L k).F
  sz : ∀ k, k < L.length → (mAt L k).P.length ≤ 60 ∧ (mAt L k).W.length ≤ 60 ∧ (mAt L k).F.length ≤ 60
  cur : CurS w g N
  g0 : g < w0.heap.size
  gr_ : w0.grownBy w (some g)
section
variable {w0 w w' : World} {g : Nat} {N M : Int} {A A' B : Option Addr} {c c' : Nat} {L : List Mkd} {cs : List Value} {xs : List Int}
theorem Beh.cur (h : Beh w g A B xs) (hk : w.grownBy w' (some g)) : Beh w' g A B xs :=
  ⟨h.1.grown hk (fun ad e => fun e2 => by subst e; exact (h.2 ad.block rfl).2.1 (Option.some.inj e2)), fun b e => ⟨Nat.lt_of_lt_of_le (h.2 b e).1 hk.size, (h.2 b e).2⟩⟩
theorem Beh.below (h : Beh w g A B xs) (hb : Below w.heap.size w w') : Beh w' g A B xs := ⟨h.1.below hb (Nat.le_refl _), fun b e => ⟨Nat.lt_of_lt_of_le (h.2 b e).1 hb.size, (h.2 b e).2⟩⟩
theorem Beh.row (h : Beh w g A B xs) (hk : w.grownBy w' (blk A)) (ht : blk A' = blk A ∨ ∃ r, blk A' = some r ∧ w.heap.size ≤ r) : Beh w' g A' B xs :=
  ⟨h.1.grown hk (fun ad e => fun e2 => by subst e; exact (h.2 ad.block rfl).2.2 e2.symm), fun b e => ⟨Nat.lt_of_lt_of_le (h.2 b e).1 hk.size, (h.2 b e).2.1, fun e2 => by
    rcases ht with t | ⟨r, t, hr⟩
    · rw [t] at e2; exact (h.2 b e).2.2 e2
    · rw [t] at e2
      injection e2 with e2
      have := (h.2 b e).1
      omega⟩⟩
theorem ArD.cur_ (h : ArD w0 w g N A c L cs) (hk : w.grownBy w' (some g)) (hc : CurS w' g M) : ArD w0 w' g M A c L cs := by
  refine ⟨World.ownsRow.kept h.own hk ?_, h.len, fun k hl => ?_, h.sz, hc, h.g0, h.gr_.trans hk⟩
  · rw [ownBlock_slice]
    rcases A with _ | ad
    · exact .inl rfl
    · right
      intro e
      have := (World.ownsRow.lt h.own ad.block (by rw [ownBlock_slice]; rfl)).1
      have := h.g0
      have e : ad.block = g := Option.some.inj e
      omega
  · obtain ⟨A1, c1, A2, c2, A3, c3, e1, e2, e3, b1, b2, b3⟩ := h.hd k hl
    exact ⟨A1, c1, A2, c2, A3, c3, e1, e2, e3, b1.cur hk, b2.cur hk, b3.cur hk⟩
theorem ArD.below (h : ArD w0 w g N A c L cs) (hb : Below w.heap.size w w') : ArD w0 w' g N A c L cs := by
  refine ⟨row_below h.own hb, h.len, fun k hl => ?_, h.sz, h.cur.below hb, h.g0, grown_low h.gr_ hb⟩
  obtain ⟨A1, c1, A2, c2, A3, c3, e1, e2, e3, b1, b2, b3⟩ := h.hd k hl
  exact ⟨A1, c1, A2, c2, A3, c3, e1, e2, e3, b1.below hb, b2.below hb, b3.below hb⟩
theorem ArD.mono (h : ArD w0 w g N A c L cs) (hN : N ≤ M) : ArD w0 w g M A c L cs := ⟨h.own, h.len, h.hd, h.sz, h.cur.mono hN, h.g0, h.gr_⟩
theorem mAt_app {m : Mkd} {k : Nat} (h : k < L.length) : mAt (L ++ [m]) k = mAt L k := by simp [mAt, List.getD_eq_getElem?_getD, List.getElem?_append_left h]
theorem mAt_last {m : Mkd} : mAt (L ++ [m]) L.length = m := by simp [mAt, List.getD_eq_getElem?_getD]
theorem ArD.push (h : ArD w0 w g N A c L cs) {m : Mkd} {A1 A2 A3 : Option Addr} {c1 c2 c3 : Nat} (o : w'.ownsRow w0.heap.size 28 3 (.slice A' (L.length + 1) c') (L.length + 1) (cs ++ [.slice A1 m.P.length c1, .slice A2 m.W.length c2, .slice A3 m.F.length c3])) (gw : w.grownBy w' (blk A)) (t : blk A' = blk A ∨ ∃ r, blk A' = some r ∧ w.heap.size ≤ r)
    (b1 : Beh w g A A1 m.P) (b2 : Beh w g A A2 m.W) (b3 : Beh w g A A3 m.F) (hm : m.P.length ≤ 60 ∧ m.W.length ≤ 60 ∧ m.F.length ≤ 60) : ArD w0 w' g N A' c' (L ++ [m]) (cs ++ [.slice A1 m.P.length c1, .slice A2 m.W.length c2, .slice A3 m.F.length c3]) := by
  have hge : ∀ b, blk A = some b → w0.heap.size ≤ b := fun b e => (World.ownsRow.lt h.own b (by rw [ownBlock_slice]; exact e)).1
  have hsp : ∀ k, k < (L ++ [m]).length → k < L.length ∨ k = L.length := fun k hk => by simp at hk; omega
  refine ⟨by rw [List.length_append]; exact o, by simp [h.len]; omega, fun k hk => ?_, fun k hk => ?_, h.cur.grown gw (fun b e => by have := hge b e; have := h.g0; omega), h.g0, grown_new h.gr_ gw hge⟩
  · rcases hsp k hk with hlt | rfl
    · obtain ⟨B1, d1, B2, d2, B3, d3, e1, e2, e3, k1, k2, k3⟩ := h.hd k hlt
      have hl := h.len
      rw [mAt_app hlt]
      exact ⟨B1, d1, B2, d2, B3, d3, by rw [List.getElem?_append_left (by omega)]; exact e1, by rw [List.getElem?_append_left (by omega)]; exact e2, by rw [List.getElem?_append_left (by omega)]; exact e3, k1.row gw t, k2.row gw t, k3.row gw t⟩
    · have hl := h.len
      rw [mAt_last]
      refine ⟨A1, c1, A2, c2, A3, c3, ?_, ?_, ?_, b1.row gw t, b2.row gw t, b3.row gw t⟩
      · rw [List.getElem?_append_right (by omega), show L.length * 3 - cs.length = 0 by omega]; rfl
      · rw [List.getElem?_append_right (by omega), show L.length * 3 + 1 - cs.length = 1 by omega]; rfl
      · rw [List.getElem?_append_right (by omega), show L.length * 3 + 2 - cs.length = 2 by omega]; rfl
  · rcases hsp k hk with hlt | rfl
    · rw [mAt_app hlt]; exact h.sz k hlt
    · rw [mAt_last]; exact hm
theorem ArD.rd (h : ArD w0 w g N A c L cs) : RdMs w A L := by
  intro k hk
  obtain ⟨A1, c1, A2, c2, A3, c3, e1, e2, e3, b1, b2, b3⟩ := h.hd k hk
  have ho := h.own
  obtain ⟨ga, cap, hv, _, _⟩ := World.ownsRow.form ho (by omega)
  injection hv with hA
  subst hA
  have hl := h.len
  refine ⟨⟨ga, 0, none⟩, A1, c1, A2, c2, A3, c3, rfl, ?_, ?_, ?_, b1.1, b2.1, b3.1⟩
  · rw [Addr.add_lit, Nat.zero_add, World.ownsRow.cellAt ho _ (by omega)]; exact e1
  · rw [Addr.add_lit, Nat.zero_add, World.ownsRow.cellAt ho _ (by omega)]; exact e2
  · rw [Addr.add_lit, Nat.zero_add, World.ownsRow.cellAt ho _ (by omega)]; exact e3
theorem ArD.start (w0 : World) (hw : w0.grownBy w (some g)) (hc : CurS w g N) (hg : g < w0.heap.size) : ArD w0 w g N none 0 [] [] := ⟨⟨rfl, .inl ⟨rfl, rfl⟩⟩, rfl, fun k hk => by simp at hk, fun k hk => by simp at hk, hc, hg, hw⟩
/-- A row of the call's own, made after the row of arms. -/
theorem beh_own {w1 : World} {c1 : Nat} (o : Own w w1.heap.size B c1 xs) (hA : ∀ b, blk A = some b → b < w1.heap.size) (hg : g < w1.heap.size) : Beh w g A B xs :=
  ⟨o.rd, fun b e => ⟨o.ltk b e, by have := o.ge b e; omega, fun e2 => by have := hA b e2; have := o.ge b e; omega⟩⟩
end

/-- A row of numbers has been drawn. -/
def NumsDrawn (w : World) (g : Nat) (M : Int) (e : Ending) (w' : World) : Prop := ∃ A c xs, e = .returned (.slice A xs.length c) ∧ xs.length ≤ 30 ∧ Own w' w.heap.size A c xs ∧ CurS w' g M ∧ w.grownBy w' (some g)
theorem own_past {w0 w w' : World} {A : Option Addr} {c : Nat} {xs : List Int} {g : Nat} (h : Own w w0.heap.size A c xs) (hk : w.grownBy w' (some g)) (hg : g < w0.heap.size) : Own w' w0.heap.size A c xs := h.grown hk (own_apart h hg)
set_option maxRecDepth 20000 in
set_option maxHeartbeats 4000000 in
theorem somePays_c (g : Nat) (N : Int) (n : Nat) (w : World) (h : CurS w g N) (hN : N ≤ 900000) (hn : n ≤ 20) :
    Calls Try.prog 92 #[.pointer (some ⟨g, 0, none⟩), .int .i64 (n : Int)] w (NumsDrawn w g (N + 100)) := by
  have hgw : g < w.heap.size := by
    obtain ⟨_, _, _, _, _, h⟩ := h
    exact h.lt
  have o0 := (Own.lit0 w w.heap.size rfl).alloc (.cells (ints [3, 10, 30]).toArray 3)
  have R0 := (Own.lit (w.alloc (.cells #[] 3)) [3, 10, 30] (by decide)).rd
  rw [World.size_alloc] at R0
  have b0 : Below w.heap.size w ((w.alloc (.cells #[] 3)).alloc (.cells (ints [3, 10, 30]).toArray 3)) := ((Below.refl _ _).alloc (Nat.le_refl _) _).alloc (by simp) _
  go_enter Try.func92, Try.ntmps92
  go_wp2_with fail
  refine (among_c g N _ [3, 10, 30] _ _ _ (h.below b0) (by omega) R0 (fun ad e => by injection e with e; rw [← e]; simp; omega) rfl (by decide) (by decide)).mono ?_
  rintro e w2 ⟨v, rfl, ⟨k, hk, rfl⟩, hc, hg⟩
  have nb := allB_nth (xs := [3, 10, 30]) (lo := 3) (hi := 30) (by decide) hk
  generalize nth [3, 10, 30] k = big at *
  have o2 := own_past o0 hg hgw
  have G2 : w.grownBy w2 (some g) := (grown_of_below b0 (some g)).trans hg
  clear o0 R0 b0 hg h hk
  go_wp2_with fail
  go_loopw [5, 7] (fun s i wr => ∃ (k : Nat) (A : Option Addr) (c : Nat) (xs : List Int), i = .int .i64 (k : Int) ∧ s = .slice A xs.length c ∧ k ≤ n ∧ xs.length = k ∧ Own wr w.heap.size A c xs ∧ CurS wr g (N + 2 + 2 * (k : Int)) ∧ w.grownBy wr (some g)) (fun _ i _ => n - (intOf i).toNat)
  case atStart => exact ⟨0, _, _, [], rfl, rfl, by omega, rfl, o2, hc.mono (by omega), G2⟩
  case round =>
    clear o2 hc G2
    obtain ⟨v, rfl⟩ : ∃ v : World, v = wr := ⟨_, rfl⟩
    obtain ⟨k, A, c, xs, rfl, rfl, hkn, hx, o, hc, G⟩ := hrel
    have HX := Lib.hid hx
    have HO := Lib.hid o
    have HG := Lib.hid G
    clear hx o G
    by_cases hlt : k < n
    · have m1 := mulAbs (x := 2) (y := big) (A := 2) (B := 30) (by decide) ⟨by omega, by omega⟩ (by decide)
      have e1 : IntKind.i64.wrap (2 * big) = 2 * big := IntWalk.i64_in _ (by omega)
      have e2 : IntKind.i64.wrap (2 * big + 1) = 2 * big + 1 := IntWalk.i64_in _ (by omega)
      go_wp2_with fail
      refine (pick_c g _ (2 * big + 1) _ hc (by omega) (by omega)).mono ?_
      rintro e v2 ⟨u, rfl, ⟨y, rfl, hy0, hy1⟩, hc2, hg2⟩
      have e3 : IntKind.i64.wrap (y - big) = y - big := IntWalk.i64_in _ (by omega)
      have HO2 := Lib.hid (own_past HO.out hg2 hgw)
      have HG2 := Lib.hid (HG.out.trans hg2)
      clear hc hg2 HO HG
      go_wp2_with (at_builtin; refine wp_append1 v2 (y - big) _ rfl _ _ rfl w.heap.size A xs.length c xs rfl rfl HO2.out rfl (by have := HX.out; omega) HG2.out.size ?_; intro A5 c5 v5 o5 g5 b5; have HG5 := Lib.hid (grown_new HG2.out g5 (fun b e => HO2.out.ge b e)); have hc5 := hc2.grown g5 (fun b e => by have := HO2.out.ge b e; omega); clear g5 b5)
      go_roundw
      case rel => exact ⟨k + 1, A5, c5, xs ++ [y - big], by go_num, by rw [List.length_append]; rfl, by omega, by rw [List.length_append, HX.out]; rfl, o5, hc5.mono (by omega), HG5.out⟩
      case measure => simp [intOf] <;> omega
    · obtain rfl : k = n := by omega
      by_cases h0 : 0 < k
      · have h0' : (0 : Int) < (k : Int) := by omega
        go_wp2_with fail
        refine (one_c g _ 30 _ hc (by omega) (by omega)).mono ?_
        rintro e v2 ⟨u, rfl, ⟨b, rfl⟩, hc2, hg2⟩
        have HO2 := Lib.hid (own_past HO.out hg2 hgw)
        have HG2 := Lib.hid (HG.out.trans hg2)
        clear hc hg2 HO HG
        cases b
        · go_wp2_with fail
          refine (one_c g _ 40 _ hc2 (by omega) (by omega)).mono ?_
          rintro e v5 ⟨u, rfl, ⟨b, rfl⟩, hc5, hg5⟩
          have HO5 := Lib.hid (own_past HO2.out hg5 hgw)
          have HG5 := Lib.hid (HG2.out.trans hg5)
          clear hc2 hg5 HO2 HG2
          cases b
          · go_wp2_with fail
            go_ret
            exact ⟨_, _, xs, rfl, by have := HX.out; omega, HO5.out, hc5.mono (by omega), HG5.out⟩
          · go_wp2_with (at_builtin; refine wp_append1 v5 0 _ rfl _ _ rfl w.heap.size A xs.length c xs rfl rfl HO5.out rfl (by have := HX.out; omega) HG5.out.size ?_; intro A7 c7 v7 o7 g7 b7; have HG7 := Lib.hid (grown_new HG5.out g7 (fun b e => HO5.out.ge b e)); have hc7 := hc5.grown g7 (fun b e => by have := HO5.out.ge b e; omega); clear g7 b7)
            go_ret
            exact ⟨_, _, xs ++ [0], by rw [List.length_append] <;> rfl, by rw [List.length_append]; have := HX.out; simp; omega, o7, hc7.mono (by omega), HG7.out⟩
        · obtain ⟨a, rfl, _, _⟩ := HO2.out.form (by have := HX.out; omega)
          go_wp2_with fail
          refine (pick_c g _ (k : Int) _ hc2 (by omega) (by omega)).mono ?_
          rintro e v3 ⟨u, rfl, ⟨x, rfl, hx0, hx1⟩, hc3, hg3⟩
          obtain ⟨x, rfl⟩ : ∃ x' : Nat, x = (x' : Int) := ⟨x.toNat, by omega⟩
          have HO3 := Lib.hid (own_past HO2.out hg3 hgw)
          have HG3 := Lib.hid (HG2.out.trans hg3)
          clear hc2 hg3 HO2 HG2
          have R0 := (Own.lit v3 [999, -999, 1000, -1000, 4611686018427387904] (by decide)).rd
          have bl : Below v3.heap.size v3 (v3.alloc (.cells (ints [999, -999, 1000, -1000, 4611686018427387904]).toArray 3)) := (Below.refl _ _).alloc (Nat.le_refl _) _
          have z3 := HG3.out.size
          go_wp2_with fail
          refine (among_c g _ _ [999, -999, 1000, -1000, 4611686018427387904] _ _ _ (hc3.below bl) (by omega) R0 (fun ad e => by injection e with e; rw [← e]; show v3.heap.size ≠ g; omega) rfl (by decide) (by decide)).mono ?_
          rintro e v4 ⟨u, rfl, ⟨q, hq, rfl⟩, hc4, hg4⟩
          have HO4 := Lib.hid (own_past (HO3.out.below bl) hg4 hgw)
          have HG4 := Lib.hid ((grown_low HG3.out bl).trans hg4)
          generalize nth [999, -999, 1000, -1000, 4611686018427387904] q = z at *
          clear hq hc3 hg4 HO3 HG3 R0 bl z3
          have hxl : x < xs.length := by have := HX.out; omega
          have ix : (x : Int) < (xs.length : Int) := by omega
          have fz := HO4.out.frozen x
          have qx := HO4.out.cellN hxl
          have hst := HO4.out.set x z
          have HO2 := Lib.hid hst.1
          have HG2 := Lib.hid (grown_new HG4.out hst.2 (fun b e => by injection e with e; have := HO4.out.ge a rfl; omega))
          have hc2 := hc4.grown hst.2 (fun b e => by injection e with e; have := HO4.out.ge a rfl; omega)
          clear hst HO4 HG4 hc4
          go_wp2_with fail
          refine (one_c g _ 40 _ hc2 (by omega) (by omega)).mono ?_
          rintro e v5 ⟨u, rfl, ⟨b, rfl⟩, hc5, hg5⟩
          have HO5 := Lib.hid (own_past HO2.out hg5 hgw)
          have HG5 := Lib.hid (HG2.out.trans hg5)
          have HXL : Hid ((xs.set x z).length = k) := Lib.hid (by rw [List.length_set]; exact HX.out)
          have HXE : Hid ((xs.set x z).length = xs.length) := Lib.hid (by rw [List.length_set])
          clear hc2 hg5 HO2 HG2 fz qx
          cases b
          · go_wp2_with fail
            go_ret
            exact ⟨_, _, xs.set x z, by rw [HXE.out] <;> rfl, by have := HXL.out; have := HXE.out; omega, HO5.out, hc5.mono (by omega), HG5.out⟩
          · go_wp2_with (at_builtin; refine wp_append1 v5 0 _ rfl _ _ rfl w.heap.size (some ⟨a, 0, none⟩) xs.length c (xs.set x z) rfl HXE.out.symm HO5.out rfl (by have := HXL.out; have := HXE.out; omega) HG5.out.size ?_; intro A7 c7 v7 o7 g7 b7; have HG7 := Lib.hid (grown_new HG5.out g7 (fun b e => HO5.out.ge b e)); have hc7 := hc5.grown g7 (fun b e => by have := HO5.out.ge b e; omega); clear g7 b7)
            go_ret
            exact ⟨_, _, xs.set x z ++ [0], by rw [List.length_append, HXE.out] <;> rfl, by rw [List.length_append]; have := HXL.out; have := HXE.out; simp; omega, o7, hc7.mono (by omega), HG7.out⟩
      · have h0' : ¬ (0 : Int) < (k : Int) := by omega
        have HO2 := HO
        have HG2 := HG
        have hc2 := hc
        go_wp2_with fail
        refine (one_c g _ 40 _ hc2 (by omega) (by omega)).mono ?_
        rintro e v5 ⟨u, rfl, ⟨b, rfl⟩, hc5, hg5⟩
        have HO5 := Lib.hid (own_past HO2.out hg5 hgw)
        have HG5 := Lib.hid (HG2.out.trans hg5)
        clear hc2 hg5 HO2 HG2
        cases b
        · go_wp2_with fail
          go_ret
          exact ⟨_, _, xs, rfl, by have := HX.out; omega, HO5.out, hc5.mono (by omega), HG5.out⟩
        · go_wp2_with (at_builtin; refine wp_append1 v5 0 _ rfl _ _ rfl w.heap.size A xs.length c xs rfl rfl HO5.out rfl (by have := HX.out; omega) HG5.out.size ?_; intro A7 c7 v7 o7 g7 b7; have HG7 := Lib.hid (grown_new HG5.out g7 (fun b e => HO5.out.ge b e)); have hc7 := hc5.grown g7 (fun b e => by have := HO5.out.ge b e; omega); clear g7 b7)
          go_ret
          exact ⟨_, _, xs ++ [0], by rw [List.length_append] <;> rfl, by rw [List.length_append]; have := HX.out; simp; omega, o7, hc7.mono (by omega), HG7.out⟩
set_option maxRecDepth 20000 in
set_option maxHeartbeats 8000000 in
theorem arms_c (g : Nat) (N : Int) (w : World) (h : CurS w g N) (hN : N ≤ 600000) :
    Calls Try.prog 122 #[.pointer (some ⟨g, 0, none⟩)] w fun e w' => ∃ A c L cs, e = .returned (.slice A L.length c) ∧ L.length ≤ 4 ∧ ArD w w' g (N + 20000) A c L cs := by
  have hgw : g < w.heap.size := by
    obtain ⟨_, _, _, _, _, h⟩ := h
    exact h.lt
  have own0 : (w.alloc (.cells #[] 28)).ownsRow w.heap.size 28 3 (.slice (some ⟨w.heap.size, 0, none⟩) 0 0) 0 [] := by
    have := World.ownsRow_lit (base := w.heap.size) (e := 28) (size := 3) w #[] 0 (Nat.le_refl _) (by unfold maxLen; omega) (by simp)
    simpa using this
  have b0 : Below w.heap.size w (w.alloc (.cells #[] 28)) := (Below.refl _ _).alloc (Nat.le_refl _) _
  have T0 : ArD w (w.alloc (.cells #[] 28)) g N (some ⟨w.heap.size, 0, none⟩) 0 [] [] := ⟨own0, rfl, fun k hk => by simp at hk, fun k hk => by simp at hk, h.below b0, hgw, grown_of_below b0 (some g)⟩
  have R0 := (Own.lit (w.alloc (.cells #[] 28)) [2, 2, 1, 3, 2, 0, 3, 4] (by decide)).rd
  rw [World.size_alloc] at R0
  have T1 := Lib.hid (T0.below (w' := ((w.alloc (.cells #[] 28)).alloc (.cells (ints [2, 2, 1, 3, 2, 0, 3, 4]).toArray 3))) ((Below.refl _ _).alloc (Nat.le_refl _) _))
  clear own0 b0 T0 h
  go_enter Try.func122, Try.ntmps122
  go_wp2_with fail
  refine (among_c g N _ [2, 2, 1, 3, 2, 0, 3, 4] _ _ _ T1.out.cur (by omega) R0 (fun ad e => by injection e with e; rw [← e]; simp; omega) rfl (by decide) (by decide)).mono ?_
  rintro e w2 ⟨v, rfl, ⟨k, hk, rfl⟩, hc, hg⟩
  have nb := allB_nth (xs := [2, 2, 1, 3, 2, 0, 3, 4]) (lo := 0) (hi := 4) (by decide) hk
  obtain ⟨n0, hn0⟩ : ∃ n0 : Nat, nth [2, 2, 1, 3, 2, 0, 3, 4] k = (n0 : Int) := ⟨(nth [2, 2, 1, 3, 2, 0, 3, 4] k).toNat, by omega⟩
  rw [hn0] at nb ⊢
  have T2 := Lib.hid (T1.out.cur_ hg hc)
  clear hk hn0 hc hg R0 T1
  go_wp2_with fail
  go_loopw [3, 4] (fun s i wr => ∃ (k : Nat) (A : Option Addr) (c : Nat) (L : List Mkd) (cs : List Value), i = .int .i64 (k : Int) ∧ s = .slice A L.length c ∧ L.length + k ≤ 4 ∧ ArD w wr g (N + 2 + 4000 * (L.length : Int)) A c L cs) (fun _ i _ => (intOf i).toNat)
  case atStart => exact ⟨n0, _, 0, [], [], rfl, rfl, by simp; omega, T2.out.mono (by simp)⟩
  case round =>
    clear T2
    obtain ⟨v, rfl⟩ : ∃ v : World, v = wr := ⟨_, rfl⟩
    obtain ⟨k, A, c, L, cs, rfl, rfl, hLk, T⟩ := hrel
    replace T := Lib.hid T
    have hL4 : (L.length : Int) ≤ 4 := by omega
    rcases k with _ | k
    · go_wp2_with fail
      go_ret
      exact ⟨A, c, L, cs, rfl, by omega, T.out.mono (by omega)⟩
    · have HL : Hid (L.length + (k + 1) ≤ 4) := Lib.hid hLk
      have hk1 : (0 : Int) < (k : Int) + 1 := by omega
      go_wp2_with fail
      refine (pick_c g _ 9 _ T.out.cur (by omega) (by omega)).mono ?_
      rintro e v2 ⟨u, rfl, ⟨x, rfl, hx0, hx1⟩, hc2, hg2⟩
      have e1 : IntKind.i64.wrap (x - 2) = x - 2 := IntWalk.i64_in _ (by omega)
      have T2 := Lib.hid (T.out.cur_ hg2 hc2)
      clear T hc2 hg2
      go_wp2_with fail
      refine (pick_c g _ 9 _ T2.out.cur (by omega) (by omega)).mono ?_
      rintro e v3 ⟨u, rfl, ⟨y, rfl, hy0, hy1⟩, hc3, hg3⟩
      have e2 : IntKind.i64.wrap (y - 2) = y - 2 := IntWalk.i64_in _ (by omega)
      have T3 := Lib.hid (T2.out.cur_ hg3 hc3)
      clear T2 hc3 hg3
      have RL := (Own.lit v3 [x - 2, y - 2] (by simp)).rd
      have bL : Below v3.heap.size v3 (v3.alloc (.cells (ints [x - 2, y - 2]).toArray 3)) := (Below.refl _ _).alloc (Nat.le_refl _) _
      have T4 := Lib.hid (T3.out.below bL)
      clear T3 bL
      go_wp2_with fail
      refine (specLine_c (some ⟨v3.heap.size, 0, none⟩) [x - 2, y - 2] 2 _ RL (fun ad e => by injection e with e; rw [← e]; simp) (by simp)).mono ?_
      rintro e v5 ⟨A1, c1, A2, c2, A3, c3, rfl, o1, o2, o3, _, _, _, b5⟩
      have lP : (laP [x - 2, y - 2]).length ≤ 60 := by unfold laP lnP; split <;> simp
      have lW : (laW [x - 2, y - 2]).length ≤ 60 := by unfold laW lnW; split <;> simp
      have lF : (laN [x - 2, y - 2]).length ≤ 60 := by unfold laN; split <;> simp
      generalize laP [x - 2, y - 2] = P at *
      generalize laW [x - 2, y - 2] = W at *
      generalize laN [x - 2, y - 2] = F at *
      generalize lineB [x - 2, y - 2] = ok at *
      have zz := T4.out.gr_.size
      have hAb : ∀ b, blk A = some b → b < (v3.alloc (.cells (ints [x - 2, y - 2]).toArray 3)).heap.size := fun b e => (World.ownsRow.lt T4.out.own b (by rw [ownBlock_slice]; exact e)).2
      have hgb : g < (v3.alloc (.cells (ints [x - 2, y - 2]).toArray 3)).heap.size := by omega
      have hm : P.length ≤ 60 ∧ W.length ≤ 60 ∧ F.length ≤ 60 := ⟨lP, lW, lF⟩
      have bB : Below v5.heap.size v5 (v5.alloc (.cells #[.slice A1 P.length c1, .slice A2 W.length c2, .slice A3 F.length c3] 28)) := (Below.refl _ _).alloc (Nat.le_refl _) _
      have bx := Bx3.new v5 (.slice A1 P.length c1) (.slice A2 W.length c2) (.slice A3 F.length c3) 28
      have T5 := Lib.hid ((T4.out.below b5).below bB)
      have H1 := Lib.hid ((beh_own o1 hAb hgb).below bB)
      have H2 := Lib.hid ((beh_own o2 hAb hgb).below bB)
      have H3 := Lib.hid ((beh_own o3 hAb hgb).below bB)
      have HGZ : Hid (g < v5.heap.size) := Lib.hid (by have := b5.size; omega)
      clear o1 o2 o3 b5 bB RL T4 zz hAb hgb lP lW lF hx0 hx1 hy0 hy1 e1 e2
      go_upto_region 6 with fail
      generalize v5.alloc (.cells #[.slice A1 P.length c1, .slice A2 W.length c2, .slice A3 F.length c3] 28) = v6 at *
      obtain ⟨gm, hgm⟩ : ∃ gm, gm = v5.heap.size := ⟨_, rfl⟩
      have HGM : Hid (g ≠ gm) := Lib.hid (by have := HGZ.out; omega)
      rw [← hgm] at bx ⊢
      clear hgm
      cases ok
      · clear H1 H2 H3 hm bx
        go_wp2_with fail
        have R3 := (Own.lit v6 [4, 5, 6] (by decide)).rd
        have b3 : Below v6.heap.size v6 (v6.alloc (.cells (ints [4, 5, 6]).toArray 3)) := (Below.refl _ _).alloc (Nat.le_refl _) _
        have HZ3 := Lib.hid T5.out.gr_.size
        have U3 := Lib.hid (T5.out.below b3)
        clear T5 b3
        go_wp2_with fail
        refine (among_c g _ _ [4, 5, 6] _ _ _ U3.out.cur (by omega) R3 (fun ad e => by injection e with e; have := HZ3.out; rw [← e]; show v6.heap.size ≠ g; omega) rfl (by decide) (by decide)).mono ?_
        rintro e y4 ⟨u, rfl, ⟨q, hq, rfl⟩, hc4, hg4⟩
        have nb := allB_nth (xs := [4, 5, 6]) (lo := 1) (hi := 24) (by decide) hq
        have U4 := Lib.hid (U3.out.cur_ hg4 hc4)
        generalize nth [4, 5, 6] q = most at *
        clear hq hc4 hg4 R3 U3
        go_wp2_with fail
        refine (arm_c g _ most _ U4.out.cur (by omega) nb.1 nb.2).mono ?_
        rintro e y5 ⟨A1, c1, P, A2, c2, W, A3, c3, F, rfl, hP, hW, hF, o1, o2, o3, hc5, hg5⟩
        have hAb : ∀ b, blk A = some b → b < y4.heap.size := fun b e => (World.ownsRow.lt U4.out.own b (by rw [ownBlock_slice]; exact e)).2
        have hg4' : g < y4.heap.size := by have := U4.out.gr_.size; omega
        have U5 := Lib.hid (U4.out.cur_ hg5 hc5)
        have H1 := Lib.hid (beh_own o1 hAb hg4')
        have H2 := Lib.hid (beh_own o2 hAb hg4')
        have H3 := Lib.hid (beh_own o3 hAb hg4')
        have hm : P.length ≤ 60 ∧ W.length ≤ 60 ∧ F.length ≤ 60 := ⟨hP, hW, hF⟩
        clear hP hW hF o1 o2 o3 hc5 hg5 hAb hg4' U4 nb
        have bq : Below y5.heap.size y5 (y5.alloc (.cells #[.slice A1 P.length c1, .slice A2 W.length c2, .slice A3 F.length c3] 28)) := (Below.refl _ _).alloc (Nat.le_refl _) _
        have bxq := Bx3.new y5 (.slice A1 P.length c1) (.slice A2 W.length c2) (.slice A3 F.length c3) 28
        have TQ := Lib.hid (U5.out.below bq)
        have Q1 := Lib.hid (H1.out.below bq)
        have Q2 := Lib.hid (H2.out.below bq)
        have Q3 := Lib.hid (H3.out.below bq)
        have HGQ := Lib.hid TQ.out.gr_.size
        clear bq
        go_wp2_with (at_builtin; refine wp_append_arm _ rfl _ _ rfl w.heap.size A L.length c cs rfl TQ.out.own y5.heap.size 1 A1 A2 A3 P.length W.length F.length c1 c2 c3 rfl bxq.1 bxq.2.1 bxq.2.2.1 (by have := HL.out; omega) HGQ.out ?_; intro ga ca v9 o9 g9 b9; have T9 := Lib.hid (TQ.out.push (m := ⟨P, W, F⟩) o9 g9 (b9.imp id (fun t => ⟨_, congrArg some t, Nat.le_refl _⟩)) Q1.out Q2.out Q3.out hm); clear o9 g9 b9)
        go_roundw
        case rel => exact ⟨k, _, _, L ++ [⟨P, W, F⟩], _, by go_num, by rw [List.length_append]; rfl, by rw [List.length_append]; have := HL.out; simp; omega, T9.out.mono (by rw [List.length_append]; simp; omega)⟩
        case measure => simp [intOf] <;> omega
      · go_wp2_with fail
        refine (one_c g _ 3 _ T5.out.cur (by omega) (by omega)).mono ?_
        rintro e v7 ⟨u, rfl, ⟨b, rfl⟩, hc7, hg7⟩
        have T7 := Lib.hid (T5.out.cur_ hg7 hc7)
        have hgm2 := bx.2.2.2
        cases b
        · clear T5 hc7 hg7 H1 H2 H3 hm bx
          go_wp2_with fail
          have R3 := (Own.lit v7 [4, 5, 6] (by decide)).rd
          have b3 : Below v7.heap.size v7 (v7.alloc (.cells (ints [4, 5, 6]).toArray 3)) := (Below.refl _ _).alloc (Nat.le_refl _) _
          have HZ3 := Lib.hid T7.out.gr_.size
          have U3 := Lib.hid (T7.out.below b3)
          clear T7 b3
          go_wp2_with fail
          refine (among_c g _ _ [4, 5, 6] _ _ _ U3.out.cur (by omega) R3 (fun ad e => by injection e with e; have := HZ3.out; rw [← e]; show v7.heap.size ≠ g; omega) rfl (by decide) (by decide)).mono ?_
          rintro e y4 ⟨u, rfl, ⟨q, hq, rfl⟩, hc4, hg4⟩
          have nb := allB_nth (xs := [4, 5, 6]) (lo := 1) (hi := 24) (by decide) hq
          have U4 := Lib.hid (U3.out.cur_ hg4 hc4)
          generalize nth [4, 5, 6] q = most at *
          clear hq hc4 hg4 R3 U3
          go_wp2_with fail
          refine (arm_c g _ most _ U4.out.cur (by omega) nb.1 nb.2).mono ?_
          rintro e y5 ⟨A1, c1, P, A2, c2, W, A3, c3, F, rfl, hP, hW, hF, o1, o2, o3, hc5, hg5⟩
          have hAb : ∀ b, blk A = some b → b < y4.heap.size := fun b e => (World.ownsRow.lt U4.out.own b (by rw [ownBlock_slice]; exact e)).2
          have hg4' : g < y4.heap.size := by have := U4.out.gr_.size; omega
          have U5 := Lib.hid (U4.out.cur_ hg5 hc5)
          have H1 := Lib.hid (beh_own o1 hAb hg4')
          have H2 := Lib.hid (beh_own o2 hAb hg4')
          have H3 := Lib.hid (beh_own o3 hAb hg4')
          have hm : P.length ≤ 60 ∧ W.length ≤ 60 ∧ F.length ≤ 60 := ⟨hP, hW, hF⟩
          clear hP hW hF o1 o2 o3 hc5 hg5 hAb hg4' U4 nb
          have bq : Below y5.heap.size y5 (y5.alloc (.cells #[.slice A1 P.length c1, .slice A2 W.length c2, .slice A3 F.length c3] 28)) := (Below.refl _ _).alloc (Nat.le_refl _) _
          have bxq := Bx3.new y5 (.slice A1 P.length c1) (.slice A2 W.length c2) (.slice A3 F.length c3) 28
          have TQ := Lib.hid (U5.out.below bq)
          have Q1 := Lib.hid (H1.out.below bq)
          have Q2 := Lib.hid (H2.out.below bq)
          have Q3 := Lib.hid (H3.out.below bq)
          have HGQ := Lib.hid TQ.out.gr_.size
          clear bq
          go_wp2_with (at_builtin; refine wp_append_arm _ rfl _ _ rfl w.heap.size A L.length c cs rfl TQ.out.own y5.heap.size 1 A1 A2 A3 P.length W.length F.length c1 c2 c3 rfl bxq.1 bxq.2.1 bxq.2.2.1 (by have := HL.out; omega) HGQ.out ?_; intro ga ca v9 o9 g9 b9; have T9 := Lib.hid (TQ.out.push (m := ⟨P, W, F⟩) o9 g9 (b9.imp id (fun t => ⟨_, congrArg some t, Nat.le_refl _⟩)) Q1.out Q2.out Q3.out hm); clear o9 g9 b9)
          go_roundw
          case rel => exact ⟨k, _, _, L ++ [⟨P, W, F⟩], _, by go_num, by rw [List.length_append]; rfl, by rw [List.length_append]; have := HL.out; simp; omega, T9.out.mono (by rw [List.length_append]; simp; omega)⟩
          case measure => simp [intOf] <;> omega
        · have H1 := Lib.hid (H1.out.cur hg7)
          have H2 := Lib.hid (H2.out.cur hg7)
          have H3 := Lib.hid (H3.out.cur hg7)
          have bx7 := bx.grownR hg7 (by intro e; injection e with e; exact HGM.out e)
          obtain ⟨k0, k1, k2, k3⟩ := id bx7
          clear T5 hc7 hg7
          have bq : Below v7.heap.size v7 (v7.alloc (.cells #[.slice A1 P.length c1, .slice A2 W.length c2, .slice A3 F.length c3] 28)) := (Below.refl _ _).alloc (Nat.le_refl _) _
          have bxq := Bx3.new v7 (.slice A1 P.length c1) (.slice A2 W.length c2) (.slice A3 F.length c3) 28
          have TQ := Lib.hid (T7.out.below bq)
          have Q1 := Lib.hid (H1.out.below bq)
          have Q2 := Lib.hid (H2.out.below bq)
          have Q3 := Lib.hid (H3.out.below bq)
          have HGQ := Lib.hid TQ.out.gr_.size
          clear bq
          go_wp2_with (at_builtin; refine wp_append_arm _ rfl _ _ rfl w.heap.size A L.length c cs rfl TQ.out.own v7.heap.size 1 A1 A2 A3 P.length W.length F.length c1 c2 c3 rfl bxq.1 bxq.2.1 bxq.2.2.1 (by have := HL.out; omega) HGQ.out ?_; intro ga ca v9 o9 g9 b9; have T9 := Lib.hid (TQ.out.push (m := ⟨P, W, F⟩) o9 g9 (b9.imp id (fun t => ⟨_, congrArg some t, Nat.le_refl _⟩)) Q1.out Q2.out Q3.out hm); clear o9 g9 b9)
          go_roundw
          case rel => exact ⟨k, _, _, L ++ [⟨P, W, F⟩], _, by go_num, by rw [List.length_append]; rfl, by rw [List.length_append]; have := HL.out; simp; omega, T9.out.mono (by rw [List.length_append]; simp; omega)⟩
          case measure => simp [intOf] <;> omega
theorem own_cap {w : World} {base : Nat} {e : TypeId} {s n c : Nat} {A : Option Addr} {cs : List Value} (h : w.ownsRow base e s (.slice A n c) n cs) : n ≤ c := by
  obtain ⟨_, ⟨_, hn⟩ | ⟨_, _, _, hv, _, _, h1, _⟩⟩ := h
  · omega
  · injection hv with _ _ h3
    omega
/-- Arms and a discount have been drawn. -/
def ArmsNN (w : World) (e : Ending) (w' : World) : Prop := ∃ A c L, ∃ a b : Int, e = .returned (.tuple #[.slice A L.length c, .int .i64 a, .int .i64 b]) ∧ (L.length ≤ 4 ∧ L.length ≤ c) ∧ (∀ k, k < L.length → (mAt L k).P.length ≤ 60 ∧ (mAt L k).W.length ≤ 60 ∧ (mAt L k).F.length ≤ 60) ∧ RdMs w' A L ∧ Below w.heap.size w w'
theorem below_one {w w2 : World} {o : Obj} (h : (w.alloc o).grownBy w2 (some w.heap.size)) : Below w.heap.size w w2 := ((Below.refl _ _).alloc (Nat.le_refl _) o).grown h (by simp) (fun b e => by injection e with e; omega)
set_option maxRecDepth 20000 in
set_option maxHeartbeats 2000000 in
theorem drawSc_c (A : Option Addr) (bs : List Int) (c : Nat) (w : World) (hr : Rd w A (u8s bs)) (hb : ByOk bs) (hl : bs.length ≤ 65537) :
    Calls Try.prog 78 #[.slice A bs.length c] w (ArmsNN w) := by
  have hC := CurS.new w A bs c 59 hr hb (by omega)
  go_enter Try.func78, Try.ntmps78
  go_wp2_with fail
  refine (arms_c _ _ _ hC (by omega)).mono ?_
  rintro e w2 ⟨A1, c1, L, cs, rfl, hL, T⟩
  clear hC hr hb hl
  go_wp2_with fail
  refine (discount_c _ _ _ T.cur (by omega)).mono ?_
  rintro e w3 ⟨a, b, rfl, hc3, hg3⟩
  have T3 := T.cur_ hg3 hc3
  clear T hc3 hg3
  go_wp2_with fail
  go_ret3
  exact ⟨A1, c1, L, a, b, rfl, ⟨hL, own_cap T3.own⟩, T3.sz, T3.rd, below_one T3.gr_⟩
set_option maxRecDepth 20000 in
set_option maxHeartbeats 2000000 in
theorem drawBv_c (A : Option Addr) (bs : List Int) (c : Nat) (w : World) (hr : Rd w A (u8s bs)) (hb : ByOk bs) (hl : bs.length ≤ 65537) :
    Calls Try.prog 22 #[.slice A bs.length c] w (ArmsNN w) := by
  go_enter Try.func22, Try.ntmps22
  go_wp2_with fail
  refine (drawSc_c A bs c w hr hb hl).mono ?_
  rintro e w2 ⟨A1, c1, L, a, b, rfl, hL, hs, hrd, hB⟩
  go_wp2_with fail
  go_ret3
  exact ⟨A1, c1, L, a, b, rfl, hL, hs, hrd, hB⟩
/-- A row of numbers has been drawn from a code. -/
def NumsOf (w : World) (e : Ending) (w' : World) : Prop := ∃ A c xs, e = .returned (.slice A xs.length c) ∧ xs.length ≤ 30 ∧ Rd w' A (ints xs) ∧ (∀ ad, A = some ad → ad.block < w'.heap.size) ∧ Below w.heap.size w w'
set_option maxRecDepth 20000 in
set_option maxHeartbeats 2000000 in
theorem drawLn_c (A : Option Addr) (bs : List Int) (c : Nat) (w : World) (hr : Rd w A (u8s bs)) (hb : ByOk bs) (hl : bs.length ≤ 65537) :
    Calls Try.prog 34 #[.slice A bs.length c] w (NumsOf w) := by
  have hC := CurS.new w A bs c 59 hr hb (by omega)
  have R0 := (Own.lit (w.alloc (.cells #[.slice A bs.length c, .int .i64 0, .int .u64 0] 59)) [2, 3, 4, 1, 0, 5] (by decide)).rd
  rw [World.size_alloc] at R0
  have bl : Below (w.alloc (.cells #[.slice A bs.length c, .int .i64 0, .int .u64 0] 59)).heap.size (w.alloc (.cells #[.slice A bs.length c, .int .i64 0, .int .u64 0] 59)) ((w.alloc (.cells #[.slice A bs.length c, .int .i64 0, .int .u64 0] 59)).alloc (.cells (ints [2, 3, 4, 1, 0, 5]).toArray 3)) := (Below.refl _ _).alloc (Nat.le_refl _) _
  go_enter Try.func34, Try.ntmps34
  go_wp2_with fail
  refine (among_c _ _ _ [2, 3, 4, 1, 0, 5] _ _ _ (hC.below bl) (by omega) R0 (fun ad e => by injection e with e; rw [← e]; simp) rfl (by decide) (by decide)).mono ?_
  rintro e w2 ⟨v, rfl, ⟨k, hk, rfl⟩, hc, hg⟩
  have nb := allB_nth (xs := [2, 3, 4, 1, 0, 5]) (lo := 0) (hi := 5) (by decide) hk
  obtain ⟨n0, hn0⟩ : ∃ n0 : Nat, nth [2, 3, 4, 1, 0, 5] k = (n0 : Int) := ⟨(nth [2, 3, 4, 1, 0, 5] k).toNat, by omega⟩
  rw [hn0] at nb ⊢
  have G2 : (w.alloc (.cells #[.slice A bs.length c, .int .i64 0, .int .u64 0] 59)).grownBy w2 (some w.heap.size) := (grown_of_below bl (some w.heap.size)).trans hg
  clear hk hn0 hg bl R0 hC hr hb hl
  go_wp2_with fail
  refine (somePays_c _ _ n0 _ hc (by omega) (by omega)).mono ?_
  rintro e w3 ⟨A1, c1, xs, rfl, hx, o1, hc3, hg3⟩
  go_wp2_with fail
  go_ret
  exact ⟨A1, c1, xs, rfl, hx, o1.rd, fun ad e => (o1.lt ad e).2, below_one (G2.trans hg3)⟩
/-- An arm has been drawn from a code. -/
def ArmOf (w : World) (e : Ending) (w' : World) : Prop := ∃ A1 c1 P A2 c2 W A3 c3 F, e = .returned (mkV A1 P.length c1 A2 W.length c2 A3 F.length c3) ∧ P.length ≤ 60 ∧ W.length ≤ 60 ∧ F.length ≤ 60 ∧ RdM w' A1 P A2 W A3 F ∧ Below w.heap.size w w'
set_option maxRecDepth 20000 in
set_option maxHeartbeats 2000000 in
theorem drawIa_c (A : Option Addr) (bs : List Int) (c : Nat) (w : World) (hr : Rd w A (u8s bs)) (hb : ByOk bs) (hl : bs.length ≤ 65537) :
    Calls Try.prog 39 #[.slice A bs.length c] w (ArmOf w) := by
  have B0 := (Bz.new w (.slice none 0 0) (.slice none 0 0) (.slice none 0 0) 28).below ((Below.refl _ _).alloc (Nat.le_refl _) (.cells #[.slice A bs.length c, .int .i64 0, .int .u64 0] 59))
  have hC := CurS.new (w.alloc (.cells #[.slice none 0 0, .slice none 0 0, .slice none 0 0] 28)) A bs c 59 (hr.alloc _) hb (by omega)
  rw [World.size_alloc] at hC
  obtain ⟨w1, hw1⟩ : ∃ w1, w1 = (w.alloc (.cells #[.slice none 0 0, .slice none 0 0, .slice none 0 0] 28)).alloc (.cells #[.slice A bs.length c, .int .i64 0, .int .u64 0] 59) := ⟨_, rfl⟩
  have hz1 : w1.heap.size = w.heap.size + 2 := by rw [hw1]; simp
  have HB : Hid (∀ w', w1.grownBy w' (some (w.heap.size + 1)) → Below w.heap.size w w') := Lib.hid fun w' h => by
    rw [hw1] at h
    exact (((Below.refl _ _).alloc (Nat.le_refl _) _).alloc (by simp) _).grown h (by simp; omega) (fun b e => by injection e with e; omega)
  rw [← hw1] at B0 hC
  have HW1 := Lib.hid hw1
  have R0 := (Own.lit w1 [9, 7, 10] (by decide)).rd
  have bl : Below w1.heap.size w1 (w1.alloc (.cells (ints [9, 7, 10]).toArray 3)) := (Below.refl _ _).alloc (Nat.le_refl _) _
  clear hw1 hr hb hl
  go_enter Try.func39, Try.ntmps39
  go_wp2_with fail
  rw [← HW1.out, show w.heap.size + 1 + 1 = w1.heap.size by omega]
  refine (among_c _ _ _ [9, 7, 10] _ _ _ (hC.below bl) (by omega) R0 (fun ad e => by injection e with e; rw [← e]; show w1.heap.size ≠ _; omega) rfl (by decide) (by decide)).mono ?_
  rintro e w2 ⟨v, rfl, ⟨k, hk, rfl⟩, hc, hg⟩
  have nb := allB_nth (xs := [9, 7, 10]) (lo := 1) (hi := 24) (by decide) hk
  have B2 := (B0.below bl).grownR hg (by intro e; injection e with e; omega)
  have G2 : w1.grownBy w2 (some (w.heap.size + 1)) := (grown_of_below bl (some (w.heap.size + 1))).trans hg
  generalize nth [9, 7, 10] k = most at *
  clear hk hg bl R0 hC B0
  go_wp2_with fail
  refine (arm_c _ _ most _ hc (by omega) nb.1 nb.2).mono ?_
  rintro e w3 ⟨A1, c1, P, A2, c2, W, A3, c3, F, rfl, hP, hW, hF, o1, o2, o3, hc3, hg3⟩
  have B3 := B2.grownR hg3 (by intro e; injection e with e; omega)
  have z2 := G2.size
  have gs : w3.grownBy (((w3.setCell ⟨w.heap.size, 0, none⟩ (.slice A1 P.length c1)).setCell ⟨w.heap.size, 1, none⟩ (.slice A2 W.length c2)).setCell ⟨w.heap.size, 2, none⟩ (.slice A3 F.length c3)) (some w.heap.size) := ((grown_setCell w3 ⟨w.heap.size, 0, none⟩ _).trans (grown_setCell _ ⟨w.heap.size, 1, none⟩ _)).trans (grown_setCell _ ⟨w.heap.size, 2, none⟩ _)
  have HB1 := HB.out _ (G2.trans hg3)
  have HB2 := HB1.grown gs HB1.size (fun b e => by injection e with e; omega)
  have R1 := (o1.grown gs (own_apart o1 (by omega))).rd
  have R2 := (o2.grown gs (own_apart o2 (by omega))).rd
  have R3 := (o3.grown gs (own_apart o3 (by omega))).rd
  obtain ⟨⟨k0, k1, k2, k3⟩, k4, k5, k6⟩ := id B3
  clear B2 B3 hc hc3 hg3 gs o1 o2 o3 HB1
  go_wp2_with fail
  exact bodyPost_ret (v := mkV A1 P.length c1 A2 W.length c2 A3 F.length c3) (by simp [results, Try.results39, go_sem, k0, k1, k2]) rfl ⟨A1, c1, P, A2, c2, W, A3, c3, F, rfl, hP, hW, hF, ⟨R1, R2, R3, by omega, by omega, by omega⟩, HB2⟩

end Go.Proofs.Ytfobjkdkjlbkfaa
