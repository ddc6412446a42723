/- The draw of an arm. (Written by gen_dra.py.) -/
import Derived.Test.YtfobjkdkjlbkfaaDrK
import Derived.Test.YtfobjkdkjlbkfaaIxA
namespace Go.Proofs.Ytfobjkdkjlbkfaa
open Go.RowKit

theorem ParOk.set {P : List Int} (h : ParOk P) {x : Nat} {y : Int} (h1 : 1 ≤ x) (h2 : 0 ≤ y) (h3 : y ≤ (x : Int) - 1) : ParOk (P.set x y) := by
  refine ⟨?_, fun z hz hl => ?_⟩
  · rw [nth_set_ne (by omega)]; exact h.zero
  · rw [List.length_set] at hl
    rcases Nat.decEq z x with hne | rfl
    · rw [nth_set_ne (fun e => hne e.symm)]; exact h.up z hz hl
    · rw [nth_set_self hl]; exact ⟨h2, h3⟩
section
variable {w0 w : World} {g gr gm : Nat} {N : Int} {A1 A2 A3 : Option Addr} {c1 c2 c3 : Nat} {P W F : List Int}
theorem MkD.set1 {a1 : Nat} (h : MkD w0 w g gr gm N (some ⟨a1, 0, none⟩) c1 P A2 c2 W A3 c3 F) (hap : blk A2 ≠ some a1) (k : Nat) (y : Int) : MkD w0 (w.setCell ⟨a1, k, none⟩ (.int .i64 y)) g gr gm N (some ⟨a1, 0, none⟩) c1 (P.set k y) A2 c2 W A3 c3 F := by
  have o := h.o1.set k y
  have n := h.n1 a1 rfl
  have hl := h.o1.ge a1 rfl
  exact ⟨by rw [List.length_set]; exact h.bx.grownR o.2 (by intro e; injection e with e; exact n.1 e), h.br.grownR o.2 (by intro e; injection e with e; exact n.2 e), o.1, h.o2.grown o.2 (.inr hap), h.o3.grown o.2 (.inr fun e => (h.n3 a1 e).2.2.1 rfl), h.n1, h.n2, h.n3, h.cur.grown o.2 (fun b e => by injection e with e; have := h.g0; omega), h.g0, h.t0, grown_new h.gr_ o.2 (fun b e => by injection e with e; omega)⟩
theorem MkD.set2 {a2 : Nat} (h : MkD w0 w g gr gm N A1 c1 P (some ⟨a2, 0, none⟩) c2 W A3 c3 F) (hap : blk A1 ≠ some a2) (k : Nat) (y : Int) : MkD w0 (w.setCell ⟨a2, k, none⟩ (.int .i64 y)) g gr gm N A1 c1 P (some ⟨a2, 0, none⟩) c2 (W.set k y) A3 c3 F := by
  have o := h.o2.set k y
  have n := h.n2 a2 rfl
  have hl := h.o2.ge a2 rfl
  exact ⟨by rw [List.length_set]; exact h.bx.grownR o.2 (by intro e; injection e with e; exact n.1 e), h.br.grownR o.2 (by intro e; injection e with e; exact n.2 e), h.o1.grown o.2 (.inr hap), o.1, h.o3.grown o.2 (.inr fun e => (h.n3 a2 e).2.2.2 rfl), h.n1, h.n2, h.n3, h.cur.grown o.2 (fun b e => by injection e with e; have := h.g0; omega), h.g0, h.t0, grown_new h.gr_ o.2 (fun b e => by injection e with e; omega)⟩
end
noncomputable def ar24 : Code := ((Try.f42.body.bind (restFrom 24)).getD .skip)
noncomputable def ar22 : Code := ((Try.f42.body.bind (restFrom 22)).getD .skip)
noncomputable def ar15 : Code := ((Try.f42.body.bind (restFrom 15)).getD .skip)
set_option maxRecDepth 20000 in
set_option maxHeartbeats 4000000 in
theorem arTail3 {w0 w : World} {g gr gm : Nat} {N M : Int} {A1 A2 A3 : Option Addr} {c1 c2 c3 : Nat} {P W F : List Int} (T0 : MkD w0 w g gr gm N A1 c1 P A2 c2 W A3 c3 F) (hM : N ≤ M) (hP : P.length ≤ 60) (hW : W.length ≤ 60) (hF : F.length ≤ 59) (u1 u2 u3 u6 u7 u8 u9 u10 u11 u12 u13 u14 u15 u16 u17 u18 u19 u20 u21 u22 u23 u24 u25 u26 u27 u28 u29 u30 u31 u32 u33 u34 u35 u36 u37 u38 u39 u40 u41 u42 u43 u44 u45 u46 u47 u48 u49 u50 u51 u52 u53 u54 u55 u56 u57 u58 u59 u60 u61 u62 u63 u64 u65 u66 u67 u68 u69 u70 u71 u72 u73 u74 u75 u76 u77 u78 u79 u80 u81 u82 u83 u84 u85 u86 u87 u88 u89 u90 u91 u92 u93 u94 u95 u96 u97 u98 u99 u100 u101 u102 u103 u104 u105 u106 u107 u108 u109 u110 u111 u112 u113 u114 u115 u116 u117 u118 u119 u120 u121 : Value) :
    Code.wp Try.prog ar24 (bodyPost Try.prog Try.f42 (MarketDrawn w0 g M)) ⟨#[.pointer (some ⟨g, 0, none⟩), u1, u2, u3, .pointer (some ⟨gr, 0, none⟩), .pointer (some ⟨gm, 0, none⟩), u6, u7, u8, u9, u10, u11, u12, u13, u14, u15, u16, u17, u18, u19, u20, u21, u22, u23, u24, u25, u26, u27, u28, u29, u30, u31, u32, u33, u34, u35, u36, u37, u38, u39, u40, u41, u42, u43, u44, u45, u46, u47, u48, u49, u50, u51, u52, u53, u54, u55, u56, u57, u58, u59, u60, u61, u62, u63, u64, u65, u66, u67, u68, u69, u70, u71, u72, u73, u74, u75, u76, u77, u78, u79, u80, u81, u82, u83, u84, u85, u86, u87, u88, u89, u90, u91, u92, u93, u94, u95, u96, u97, u98, u99, u100, u101, u102, u103, u104, u105, u106, u107, u108, u109, u110, u111, u112, u113, u114, u115, u116, u117, u118, u119, u120, u121], []⟩ w := by
  conv => arg 2; whnf
  have T2 := Lib.hid T0
  clear T0
  have k0 := T2.out.bx.b.1
  have k1 := T2.out.bx.b.2.1
  have k2 := T2.out.bx.b.2.2.1
  have k3 := T2.out.br.b.1
  have k4 := T2.out.br.b.2.1
  have k5 := T2.out.br.b.2.2.1
  have k6 := T2.out.br.f0
  have k7 := T2.out.br.f1
  have k8 := T2.out.br.f2
  go_wp2_with fail
  have R := T2.out.fin (M := M) (by omega) hP hW (by omega) (.slice A1 P.length c1) (.slice A2 W.length c2) (.slice A3 F.length c3)
  exact bodyPost_ret (v := mkV A1 P.length c1 A2 W.length c2 A3 F.length c3) (by simp [results, Try.results42, go_sem, k3, k4, k5]) rfl R
set_option maxRecDepth 20000 in
set_option maxHeartbeats 4000000 in
theorem arTail2 {w0 w : World} {g gr gm : Nat} {N M : Int} {A1 A2 A3 : Option Addr} {c1 c2 c3 : Nat} {P W F : List Int} (T0 : MkD w0 w g gr gm N A1 c1 P A2 c2 W A3 c3 F) (hM : N + 10 ≤ M) (hN : N ≤ 800000) (hP : P.length ≤ 60) (hW : W.length ≤ 60) (hF : F.length ≤ 59) (u1 u2 u3 u6 u7 u8 u9 u10 u11 u12 u13 u14 u15 u16 u17 u18 u19 u20 u21 u22 u23 u24 u25 u26 u27 u28 u29 u30 u31 u32 u33 u34 u35 u36 u37 u38 u39 u40 u41 u42 u43 u44 u45 u46 u47 u48 u49 u50 u51 u52 u53 u54 u55 u56 u57 u58 u59 u60 u61 u62 u63 u64 u65 u66 u67 u68 u69 u70 u71 u72 u73 u74 u75 u76 u77 u78 u79 u80 u81 u82 u83 u84 u85 u86 u87 u88 u89 u90 u91 u92 u93 u94 u95 u96 u97 u98 u99 u100 u101 u102 u103 u104 u105 u106 u107 u108 u109 u110 u111 u112 u113 u114 u115 u116 u117 u118 u119 u120 u121 : Value) :
    Code.wp Try.prog ar22 (bodyPost Try.prog Try.f42 (MarketDrawn w0 g M)) ⟨#[.pointer (some ⟨g, 0, none⟩), u1, u2, u3, .pointer (some ⟨gr, 0, none⟩), .pointer (some ⟨gm, 0, none⟩), u6, u7, u8, u9, u10, u11, u12, u13, u14, u15, u16, u17, u18, u19, u20, u21, u22, u23, u24, u25, u26, u27, u28, u29, u30, u31, u32, u33, u34, u35, u36, u37, u38, u39, u40, u41, u42, u43, u44, u45, u46, u47, u48, u49, u50, u51, u52, u53, u54, u55, u56, u57, u58, u59, u60, u61, u62, u63, u64, u65, u66, u67, u68, u69, u70, u71, u72, u73, u74, u75, u76, u77, u78, u79, u80, u81, u82, u83, u84, u85, u86, u87, u88, u89, u90, u91, u92, u93, u94, u95, u96, u97, u98, u99, u100, u101, u102, u103, u104, u105, u106, u107, u108, u109, u110, u111, u112, u113, u114, u115, u116, u117, u118, u119, u120, u121], []⟩ w := by
  conv => arg 2; whnf
  have T := Lib.hid T0
  clear T0
  go_upto_region 22 with fail
  rename_i K1 hK1 K0 hK0
  replace hK1 := Lib.hid hK1
  have k2 := T.out.bx.b.2.2.1
  by_cases h0 : 0 < F.length
  · have i0 : (0 : Int) < (F.length : Int) := by omega
    go_wp2_with fail
    refine (one_c g _ 30 _ T.out.cur (by omega) (by omega)).mono ?_
    rintro e v2 ⟨u, rfl, ⟨b, rfl⟩, hc2, hg2⟩
    have T2 := Lib.hid (T.out.cur_ hg2 hc2)
    clear hc2 hg2 T k2
    cases b
    · go_wp2_with fail
      refine hK1.out _ _ ?_
      exact arTail3 T2.out (by omega) hP hW hF _ _ _ _ _ _ _ _ _ _ _ _ _ _ _ _ _ _ _ _ _ _ _ _ _ _ _ _ _ _ _ _ _ _ _ _ _ _ _ _ _ _ _ _ _ _ _ _ _ _ _ _ _ _ _ _ _ _ _ _ _ _ _ _ _ _ _ _ _ _ _ _ _ _ _ _ _ _ _ _ _ _ _ _ _ _ _ _ _ _ _ _ _ _ _ _ _ _ _ _ _ _ _ _ _ _ _ _ _ _ _ _ _ _ _ _ _ _ _
    · obtain ⟨a3, rfl, _, _⟩ := T2.out.o3.form h0
      go_upto_region 23 with fail
      have qb := T2.out.bx.b.2.2.1
      have hd1 : Below v2.heap.size v2 v2.drew := Below.drew (Below.refl _ _)
      have SK1 : Hid (∀ w', Below v2.heap.size v2 w' → w'.cell? ⟨gm, 2, none⟩ = some (.slice (some ⟨a3, 0, none⟩) F.length c3)) := Lib.hid fun w' HV => (HV.cell (cell_lt qb)).trans qb
      clear qb
      have hS1_0 := SK1.out _ hd1
      refine tamed_region (S := fun w' => w'.cell? ⟨gm, 2, none⟩ = some (.slice (some ⟨a3, 0, none⟩) F.length c3)) (fun k => k == 11) (by kernel_rfl) ?_
      refine tame0 (k := 0) ?_ rfl (by kernel_rfl) (by kernel_rfl) (by kernel_rfl) (fun _ _ _ h => h) (by kernel_rfl) (fun v => ?_) ?_
      rotate_left
      · (go_simp; all_goals rfl)
      simp only [Act.put, List.setIfInBounds_toArray]
      refine tameT (k := 1) ?_ rfl (by kernel_rfl) (by kernel_rfl) (by kernel_rfl) (by kernel_rfl) (by kernel_rfl) (fun _ _ _ h => h) (by kernel_rfl) hS1_0 (fun v hv => ?_) ?_
      rotate_left
      · (obtain k1 := hv; go_simp; all_goals rfl)
      simp only [Act.put]
      refine tame0 (k := 2) ?_ rfl (by kernel_rfl) (by kernel_rfl) (by kernel_rfl) (fun _ _ _ h => h) (by kernel_rfl) (fun v => ?_) ?_
      rotate_left
      · (go_simp; all_goals rfl)
      simp only [Act.put]
      refine tame0 (k := 3) ?_ rfl (by kernel_rfl) (by kernel_rfl) (by kernel_rfl) (fun _ _ _ h => h) (by kernel_rfl) (fun v => ?_) ?_
      rotate_left
      · (go_simp; all_goals rfl)
      simp only [Act.put]
      refine tameT (k := 4) ?_ rfl (by kernel_rfl) (by kernel_rfl) (by kernel_rfl) (by kernel_rfl) (by kernel_rfl) (fun _ _ _ h => h) (by kernel_rfl) hS1_0 (fun v hv => ?_) ?_
      rotate_left
      · (obtain k1 := hv; go_simp; all_goals rfl)
      simp only [Act.put]
      refine tame0 (k := 5) ?_ rfl (by kernel_rfl) (by kernel_rfl) (by kernel_rfl) (fun _ _ _ h => h) (by kernel_rfl) (fun v => ?_) ?_
      rotate_left
      · (go_simp; all_goals rfl)
      simp only [Act.put]
      refine tame0 (k := 7) ?_ rfl (by kernel_rfl) (by kernel_rfl) (by kernel_rfl) (fun _ _ _ h => h) (by kernel_rfl) (fun v => ?_) ?_
      rotate_left
      · (go_simp; all_goals rfl)
      simp only [Act.put]
      have TD := Lib.hid T2.out.drew
      clear T2 i0
      refine tame_two (i := 6) (j := 8) (by kernel_rfl) rfl rfl (by kernel_rfl) (by kernel_rfl) ?_ ?_
      · go_simp
        refine (pick_c g _ (F.length : Int) _ TD.out.cur (by omega) (by omega)).mono ?_
        rintro e v3 ⟨u, rfl, ⟨x, rfl, hx0, hx1⟩, hc3, hg3⟩
        have T3 := Lib.hid (TD.out.cur_ hg3 hc3)
        obtain ⟨x, rfl⟩ : ∃ x' : Nat, x = (x' : Int) := ⟨x.toNat, by omega⟩
        have hxl : x < F.length := by omega
        have ix : (x : Int) < (F.length : Int) := by omega
        clear hc3 hg3 hx0 hx1
        have QD := Lib.hid T3.out.bx.b.2.2.1
        refine ⟨QD.out, ?_⟩
        refine tame_one (k := 8) (by kernel_rfl) rfl (by kernel_rfl) ?_
        go_simp
        have R0 := (Own.lit v3 [1, 99, -99, 100, -100] (by decide)).rd
        have T4 := Lib.hid (T3.out.below ((Below.refl _ _).alloc (Nat.le_refl _) (.cells (ints [1, 99, -99, 100, -100]).toArray 3)))
        have HZ := Lib.hid T3.out.gr_.size
        clear T3
        refine ⟨T4.out.bx.b.2.2.1, ?_⟩
        refine tame_one (k := 9) (by kernel_rfl) rfl (by kernel_rfl) ?_
        go_simp
        refine (among_c g _ _ [1, 99, -99, 100, -100] _ _ _ T4.out.cur (by omega) R0 (fun ad e => by injection e with e; have := TD.out.g0; have := HZ.out; rw [← e]; show v3.heap.size ≠ g; omega) rfl (by simp) (by simp)).mono ?_
        rintro e v7 ⟨u, rfl, ⟨q, hq, rfl⟩, hc7, hg7⟩
        have T7 := Lib.hid (T4.out.cur_ hg7 hc7)
        have QE := Lib.hid T7.out.bx.b.2.2.1
        generalize nth [1, 99, -99, 100, -100] q = y at *
        clear hq hc7 hg7 R0 QD
        refine ⟨QE.out, ?_⟩
        refine tame_one (k := 10) (by kernel_rfl) rfl (by kernel_rfl) ?_
        go_simp
        refine ⟨QE.out, ?_⟩
        have fz := T7.out.o3.frozen x
        have qx := T7.out.o3.cellN hxl
        have T8 := Lib.hid (T7.out.set3 x y)
        refine tame_one (k := 11) (by kernel_rfl) rfl (by kernel_rfl) ?_
        go_simp
        try (refine ⟨fun h => absurd h (by decide), ?_⟩)
        refine tame_end (by kernel_rfl) ?_
        clear fz qx QE
        go_wp2_with fail
        refine hK1.out _ _ ?_
        exact arTail3 T8.out (by omega) hP hW (by rw [List.length_set]; exact hF) _ _ _ _ _ _ _ _ _ _ _ _ _ _ _ _ _ _ _ _ _ _ _ _ _ _ _ _ _ _ _ _ _ _ _ _ _ _ _ _ _ _ _ _ _ _ _ _ _ _ _ _ _ _ _ _ _ _ _ _ _ _ _ _ _ _ _ _ _ _ _ _ _ _ _ _ _ _ _ _ _ _ _ _ _ _ _ _ _ _ _ _ _ _ _ _ _ _ _ _ _ _ _ _ _ _ _ _ _ _ _ _ _ _ _ _ _ _ _
      · go_simp
        have R1 := (Own.lit v2.drew [1, 99, -99, 100, -100] (by decide)).rd
        have HZ : Hid (w0.heap.size ≤ v2.heap.size) := Lib.hid TD.out.gr_.size
        have T3 := Lib.hid (TD.out.below (w' := (v2.drew.alloc (.cells (ints [1, 99, -99, 100, -100]).toArray 3))) ((Below.refl _ _).alloc (Nat.le_refl _) (.cells (ints [1, 99, -99, 100, -100]).toArray 3)))
        have QC := Lib.hid T3.out.bx.b.2.2.1
        refine ⟨QC.out, ?_⟩
        refine tame_one (k := 6) (by kernel_rfl) rfl (by kernel_rfl) ?_
        go_simp
        refine (pick_c g _ (F.length : Int) _ T3.out.cur (by omega) (by omega)).mono ?_
        rintro e v4 ⟨u, rfl, ⟨x, rfl, hx0, hx1⟩, hc3, hg3⟩
        have T4 := Lib.hid (T3.out.cur_ hg3 hc3)
        obtain ⟨x, rfl⟩ : ∃ x' : Nat, x = (x' : Int) := ⟨x.toNat, by omega⟩
        have hxl : x < F.length := by omega
        have ix : (x : Int) < (F.length : Int) := by omega
        have R0 := R1.grown hg3 (fun ad e e2 => by injection e with e; have := TD.out.g0; have := HZ.out; rw [← e] at e2; injection e2 with e2; have e3 : v2.heap.size = g := e2; omega)
        clear hc3 hg3 hx0 hx1
        have QD := Lib.hid T4.out.bx.b.2.2.1
        refine ⟨QD.out, ?_⟩
        refine tame_one (k := 9) (by kernel_rfl) rfl (by kernel_rfl) ?_
        go_simp
        refine (among_c g _ _ [1, 99, -99, 100, -100] _ _ _ T4.out.cur (by omega) R0 (fun ad e => by injection e with e; have := TD.out.g0; have := HZ.out; rw [← e]; show v2.heap.size ≠ g; omega) rfl (by simp) (by simp)).mono ?_
        rintro e v7 ⟨u, rfl, ⟨q, hq, rfl⟩, hc7, hg7⟩
        have T7 := Lib.hid (T4.out.cur_ hg7 hc7)
        have QE := Lib.hid T7.out.bx.b.2.2.1
        generalize nth [1, 99, -99, 100, -100] q = y at *
        clear hq hc7 hg7 R0 QD
        refine ⟨QE.out, ?_⟩
        refine tame_one (k := 10) (by kernel_rfl) rfl (by kernel_rfl) ?_
        go_simp
        refine ⟨QE.out, ?_⟩
        have fz := T7.out.o3.frozen x
        have qx := T7.out.o3.cellN hxl
        have T8 := Lib.hid (T7.out.set3 x y)
        refine tame_one (k := 11) (by kernel_rfl) rfl (by kernel_rfl) ?_
        go_simp
        try (refine ⟨fun h => absurd h (by decide), ?_⟩)
        refine tame_end (by kernel_rfl) ?_
        clear fz qx QE
        go_wp2_with fail
        refine hK1.out _ _ ?_
        exact arTail3 T8.out (by omega) hP hW (by rw [List.length_set]; exact hF) _ _ _ _ _ _ _ _ _ _ _ _ _ _ _ _ _ _ _ _ _ _ _ _ _ _ _ _ _ _ _ _ _ _ _ _ _ _ _ _ _ _ _ _ _ _ _ _ _ _ _ _ _ _ _ _ _ _ _ _ _ _ _ _ _ _ _ _ _ _ _ _ _ _ _ _ _ _ _ _ _ _ _ _ _ _ _ _ _ _ _ _ _ _ _ _ _ _ _ _ _ _ _ _ _ _ _ _ _ _ _ _ _ _ _ _ _ _ _
  · have i0 : ¬ (0 : Int) < (F.length : Int) := by omega
    go_wp2_with fail
    refine hK1.out _ _ ?_
    exact arTail3 T.out (by omega) hP hW hF _ _ _ _ _ _ _ _ _ _ _ _ _ _ _ _ _ _ _ _ _ _ _ _ _ _ _ _ _ _ _ _ _ _ _ _ _ _ _ _ _ _ _ _ _ _ _ _ _ _ _ _ _ _ _ _ _ _ _ _ _ _ _ _ _ _ _ _ _ _ _ _ _ _ _ _ _ _ _ _ _ _ _ _ _ _ _ _ _ _ _ _ _ _ _ _ _ _ _ _ _ _ _ _ _ _ _ _ _ _ _ _ _ _ _ _ _ _ _
set_option maxRecDepth 20000 in
set_option maxHeartbeats 8000000 in
theorem arTail {w0 w : World} {g gr gm : Nat} {N M : Int} {A1 A2 : Option Addr} {c1 c2 : Nat} {P W : List Int} (T0 : MkD w0 w g gr gm N A1 c1 P A2 c2 W none 0 []) (hM : N + 100 ≤ M) (hN : N ≤ 750000) (hP : P.length ≤ 60) (hW : W.length ≤ 60) (u1 u2 u3 u6 u7 u8 u9 u10 u11 u12 u13 u14 u15 u16 u17 u18 u19 u20 u21 u22 u23 u24 u25 u26 u27 u28 u29 u30 u31 u32 u33 u34 u35 u36 u37 u38 u39 u40 u41 u42 u43 u44 u45 u46 u47 u48 u49 u50 u51 u52 u53 u54 u55 u56 u57 u58 u59 u60 u61 u62 u63 u64 u65 u66 u67 u68 u69 u70 u71 u72 u73 u74 u75 u76 u77 u78 u79 u80 u81 u82 u83 u84 u85 u86 u87 u88 u89 u90 u91 u92 u93 u94 u95 u96 u97 u98 u99 u100 u101 u102 u103 u104 u105 u106 u107 u108 u109 u110 u111 u112 u113 u114 u115 u116 u117 u118 u119 u120 u121 : Value) :
    Code.wp Try.prog ar15 (bodyPost Try.prog Try.f42 (MarketDrawn w0 g M)) ⟨#[.pointer (some ⟨g, 0, none⟩), u1, u2, u3, .pointer (some ⟨gr, 0, none⟩), .pointer (some ⟨gm, 0, none⟩), u6, u7, u8, u9, u10, u11, u12, u13, u14, u15, u16, u17, u18, u19, u20, u21, u22, u23, u24, u25, u26, u27, u28, u29, u30, u31, u32, u33, u34, u35, u36, u37, u38, u39, u40, u41, u42, u43, u44, u45, u46, u47, u48, u49, u50, u51, u52, u53, u54, u55, u56, u57, u58, u59, u60, u61, u62, u63, u64, u65, u66, u67, u68, u69, u70, u71, u72, u73, u74, u75, u76, u77, u78, u79, u80, u81, u82, u83, u84, u85, u86, u87, u88, u89, u90, u91, u92, u93, u94, u95, u96, u97, u98, u99, u100, u101, u102, u103, u104, u105, u106, u107, u108, u109, u110, u111, u112, u113, u114, u115, u116, u117, u118, u119, u120, u121], []⟩ w := by
  conv => arg 2; whnf
  have T1 := Lib.hid T0
  clear T0
  go_wp2_with fail
  rename_i K1 hK1
  replace hK1 := Lib.hid hK1
  go_loopw [9] (fun i wr => ∃ (k : Nat) (A3 : Option Addr) (c3 : Nat) (F : List Int), i = .int .i64 (k : Int) ∧ k ≤ W.length ∧ k ≤ 24 ∧ F.length = k ∧ MkD w0 wr g gr gm (N + 2 * (k : Int)) A1 c1 P A2 c2 W A3 c3 F) (fun i _ => W.length - (intOf i).toNat)
  case atStart => exact ⟨0, none, 0, [], rfl, by omega, by omega, rfl, T1.out.mono (by omega)⟩
  case round =>
    clear T1
    obtain ⟨v, rfl⟩ : ∃ v : World, v = wr := ⟨_, rfl⟩
    obtain ⟨k, A3, c3, F, rfl, hk, hk24, hF, T⟩ := hrel
    replace T := Lib.hid T
    have HF := Lib.hid hF
    clear hF
    have k1 := T.out.bx.b.2.1
    by_cases hlt : k < W.length
    · have ik : (k : Int) < (W.length : Int) := by omega
      by_cases h24 : (k : Int) < 24
      · obtain ⟨a2, rfl, _, _⟩ := T.out.o2.form (by omega)
        have q := T.out.o2.cellN hlt
        have HV := Lib.hid T.out.gr_.size
        go_upto_region 19 with fail
        by_cases hw : nth W k = 0
        · rw [hw] at q
          go_wp2_with fail
          refine (pick_c g _ 15 _ T.out.cur (by omega) (by omega)).mono ?_
          rintro e v2 ⟨u, rfl, ⟨y, rfl, hy0, hy1⟩, hc2, hg2⟩
          have T2 := Lib.hid (T.out.cur_ hg2 hc2)
          have e1 : IntKind.i64.wrap (y - 4) = y - 4 := IntWalk.i64_in _ (by omega)
          clear hc2 hg2 k1 q T
          have k2 := T2.out.bx.b.2.2.1
          go_wp2_with (at_builtin; refine wp_append1 v2 (y - 4) _ rfl _ _ rfl w0.heap.size A3 F.length c3 F rfl rfl T2.out.o3 rfl (by rw [HF.out]; omega) (by have := T2.out.gr_.size; omega) ?_; intro A5 c5 w5 o5 g5 b5; have kb := T2.out.bx.grownR g5 (fun e => (T2.out.n3 gm e).1 rfl); have T5 := Lib.hid (T2.out.push3 o5 g5 b5); obtain ⟨⟨f0, f1, f2, f3⟩, f4, f5, f6⟩ := kb; clear o5 g5 b5 k2)
          go_roundw
          case rel => exact ⟨k + 1, A5, c5, F ++ [y - 4], by go_num, by omega, by omega, by rw [List.length_append, HF.out]; rfl, T5.out.mono (by omega)⟩
          case measure => simp [intOf] <;> omega
        · have hw' : (nth W k == 0) = false := by simpa using hw
          have k2 := T.out.bx.b.2.2.1
          go_wp2_with (at_builtin; refine wp_append1 v (0) _ rfl _ _ rfl w0.heap.size A3 F.length c3 F rfl rfl T.out.o3 rfl (by rw [HF.out]; omega) (by have := T.out.gr_.size; omega) ?_; intro A5 c5 w5 o5 g5 b5; have kb := T.out.bx.grownR g5 (fun e => (T.out.n3 gm e).1 rfl); have T5 := Lib.hid (T.out.push3 o5 g5 b5); obtain ⟨⟨f0, f1, f2, f3⟩, f4, f5, f6⟩ := kb; clear o5 g5 b5 k2)
          go_roundw
          case rel => exact ⟨k + 1, A5, c5, F ++ [0], by go_num, by omega, by omega, by rw [List.length_append, HF.out]; rfl, T5.out.mono (by omega)⟩
          case measure => simp [intOf] <;> omega
      · go_wp2_with fail
        refine hK1.out _ _ ?_
        exact arTail2 T.out (by omega) (by omega) hP hW (by rw [HF.out]; omega) _ _ _ _ _ _ _ _ _ _ _ _ _ _ _ _ _ _ _ _ _ _ _ _ _ _ _ _ _ _ _ _ _ _ _ _ _ _ _ _ _ _ _ _ _ _ _ _ _ _ _ _ _ _ _ _ _ _ _ _ _ _ _ _ _ _ _ _ _ _ _ _ _ _ _ _ _ _ _ _ _ _ _ _ _ _ _ _ _ _ _ _ _ _ _ _ _ _ _ _ _ _ _ _ _ _ _ _ _ _ _ _ _ _ _ _ _ _ _
    · have ik : ¬ (k : Int) < (W.length : Int) := by omega
      go_wp2_with fail
      refine hK1.out _ _ ?_
      exact arTail2 T.out (by omega) (by omega) hP hW (by rw [HF.out]; omega) _ _ _ _ _ _ _ _ _ _ _ _ _ _ _ _ _ _ _ _ _ _ _ _ _ _ _ _ _ _ _ _ _ _ _ _ _ _ _ _ _ _ _ _ _ _ _ _ _ _ _ _ _ _ _ _ _ _ _ _ _ _ _ _ _ _ _ _ _ _ _ _ _ _ _ _ _ _ _ _ _ _ _ _ _ _ _ _ _ _ _ _ _ _ _ _ _ _ _ _ _ _ _ _ _ _ _ _ _ _ _ _ _ _ _ _ _ _ _
set_option maxRecDepth 20000 in
set_option maxHeartbeats 8000000 in
theorem arm_c (g : Nat) (N most : Int) (w : World) (h : CurS w g N) (hN : N ≤ 700000) (hm1 : 1 ≤ most) (hm2 : most ≤ 24) :
    Calls Try.prog 42 #[.pointer (some ⟨g, 0, none⟩), .int .i64 most] w (MarketDrawn w g (N + 3000)) := by
  have hgw : g < w.heap.size := by
    obtain ⟨_, _, _, _, _, h⟩ := h
    exact h.lt
  have B0 := Bz.new w (.slice none 0 0) (.slice none 0 0) (.slice none 0 0) 28
  have b0 : Below w.heap.size w (w.alloc (.cells #[.slice none 0 0, .slice none 0 0, .slice none 0 0] 28)) := (Below.refl _ _).alloc (Nat.le_refl _) _
  go_enter Try.func42, Try.ntmps42
  go_wp2_with fail
  refine (someTree_c g N most _ (h.below b0) (by omega) hm1 hm2).mono ?_
  rintro e w2 ⟨A1, c1, P, A2, c2, W, rfl, hP, hW, o1, o2, hc, hg, hap⟩
  have B2 := B0.grownR hg (by intro e; injection e with e; omega)
  have G2 : w.grownBy w2 (some g) := (grown_of_below b0 (some g)).trans hg
  have l2 := B2.b.2.2.2
  have bl : Below w2.heap.size w2 (w2.alloc (.cells #[.slice A1 P.length c1, .slice A2 W.length c2, .slice none 0 0] 28)) := (Below.refl _ _).alloc (Nat.le_refl _) _
  simp only [World.size_alloc] at o1 o2
  have T0 : MkD w (w2.alloc (.cells #[.slice A1 P.length c1, .slice A2 W.length c2, .slice none 0 0] 28)) g w.heap.size w2.heap.size (N + 300) A1 c1 P A2 c2 W none 0 [] :=
    ⟨Bz.new _ _ _ _ _, B2.below bl, (o1.mono (by omega)).alloc _, (o2.mono (by omega)).alloc _, Own.nil _ _, fun b e => ⟨by have := o1.ltk b e; omega, by have := o1.ge b e; omega⟩, fun b e => ⟨by have := o2.ltk b e; omega, by have := o2.ge b e; omega⟩, fun b e => (by cases e), hc.below bl, hgw, ⟨by omega, Nat.le_refl _, by omega⟩, grown_low G2 bl⟩
  clear B0 B2 b0 o1 o2 hc hg G2 bl
  obtain ⟨gm, hgm⟩ : ∃ gm, gm = w2.heap.size := ⟨_, rfl⟩
  go_upto_region 2 with fail
  rename_i K1 hK1 K0 hK0
  replace hK1 := Lib.hid hK1
  rw [← hgm] at T0 ⊢
  have T := Lib.hid T0
  have HAP := Lib.hid hap
  clear T0 hgm l2 hap
  obtain ⟨v, hv⟩ : ∃ v, v = w2.alloc (.cells #[.slice A1 P.length c1, .slice A2 W.length c2, .slice none 0 0] 28) := ⟨_, rfl⟩
  rw [← hv] at T ⊢
  clear hv
  have k0 := T.out.bx.b.1
  have k1 := T.out.bx.b.2.1
  cases hg : treeB P W
  · have C := l2Good_c A1 P c1 A2 W c2 v T.out.o1.rd T.out.o2.rd (by omega) (by omega)
    rw [hg] at C
    clear hg
    go_wp2_with fail
    refine C.mono ?_
    rintro e v2 ⟨rfl, b2⟩
    have T2 := Lib.hid (T.out.below b2)
    clear C b2 T k0 k1
    go_wp2_with fail
    refine hK1.out _ _ ?_
    exact arTail T2.out (by omega) (by omega) (by omega) hW _ _ _ _ _ _ _ _ _ _ _ _ _ _ _ _ _ _ _ _ _ _ _ _ _ _ _ _ _ _ _ _ _ _ _ _ _ _ _ _ _ _ _ _ _ _ _ _ _ _ _ _ _ _ _ _ _ _ _ _ _ _ _ _ _ _ _ _ _ _ _ _ _ _ _ _ _ _ _ _ _ _ _ _ _ _ _ _ _ _ _ _ _ _ _ _ _ _ _ _ _ _ _ _ _ _ _ _ _ _ _ _ _ _ _ _ _ _ _
  have C := l2Good_c A1 P c1 A2 W c2 v T.out.o1.rd T.out.o2.rd (by omega) (by omega)
  rw [hg] at C
  have hTR := treeB_iff.1 hg
  have hn1 := hTR.n1
  have hn2 := hTR.n2
  have HWL := Lib.hid hTR.len
  have HPar := Lib.hid hTR.par
  clear hg hTR
  go_wp2_with fail
  refine C.mono ?_
  rintro e v2 ⟨rfl, b2⟩
  have T2 := Lib.hid (T.out.below b2)
  clear C b2 T k0 k1
  obtain ⟨a1, rfl, _, _⟩ := T2.out.o1.form (by omega)
  obtain ⟨a2, rfl, _, _⟩ := T2.out.o2.form (by have := HWL.out; omega)
  have hap : a2 ≠ a1 := fun e => HAP.out a1 rfl (by rw [e]; rfl)
  clear HAP
  go_wp2_with fail
  go_loopw [6] (fun i wr => ∃ (x : Nat) (P' : List Int), i = .int .i64 (x : Int) ∧ 1 ≤ x ∧ x ≤ P.length ∧ P'.length = P.length ∧ ParOk P' ∧ MkD w wr g w.heap.size gm (N + 300 + 4 * (x : Int)) (some ⟨a1, 0, none⟩) c1 P' (some ⟨a2, 0, none⟩) c2 W none 0 []) (fun i _ => P.length - (intOf i).toNat)
  case atStart => exact ⟨1, P, rfl, Nat.le_refl _, hn1, rfl, HPar.out, T2.out.mono (by omega)⟩
  case round =>
    clear T2 HPar
    obtain ⟨v, rfl⟩ : ∃ v : World, v = wr := ⟨_, rfl⟩
    obtain ⟨x, P', rfl, hx1, hx, hPl, hpar, T⟩ := hrel
    replace T := Lib.hid T
    have HP := Lib.hid hPl
    have HPar := Lib.hid hpar
    clear hPl hpar
    have k0 := T.out.bx.b.1
    by_cases hlt : x < P.length
    · have ix : (x : Int) < (P'.length : Int) := by rw [HP.out]; omega
      go_wp2_with fail
      refine (one_c g _ 40 _ T.out.cur (by omega) (by omega)).mono ?_
      rintro e v2 ⟨u, rfl, ⟨b, rfl⟩, hc2, hg2⟩
      have T2 := Lib.hid (T.out.cur_ hg2 hc2)
      clear hc2 hg2 T k0
      cases b
      · obtain ⟨p, hpx, hpl⟩ : ∃ p : Nat, nth P' x = (p : Int) ∧ p < x := by
          have := HPar.out.up x hx1 (by rw [HP.out]; exact hlt)
          exact ⟨(nth P' x).toNat, by omega, by omega⟩
        have hpP : p < P'.length := by rw [HP.out]; omega
        go_upto_region 6 with fail
        have q0 := T2.out.bx.b.1
        have q1 := T2.out.bx.b.2.1
        have q2 := T2.out.o1.cellN (k := x) (by rw [HP.out]; exact hlt)
        rw [hpx] at q2
        clear hpx
        have hd2 : Below v2.heap.size v2 v2.drew := Below.drew (Below.refl _ _)
        have SK2 : Hid (∀ w', Below v2.heap.size v2 w' → w'.cell? ⟨gm, 0, none⟩ = some (.slice (some ⟨a1, 0, none⟩) P'.length c1) ∧ w'.cell? ⟨gm, 1, none⟩ = some (.slice (some ⟨a2, 0, none⟩) W.length c2) ∧ w'.cell? ⟨a1, x, none⟩ = some (.int .i64 (p : Int))) := Lib.hid fun w' HV => ⟨(HV.cell (cell_lt q0)).trans q0, (HV.cell (cell_lt q1)).trans q1, (HV.cell (cell_lt q2)).trans q2⟩
        clear q0 q1 q2
        have hS2_0 := SK2.out _ hd2
        refine tamed_region (S := fun w' => w'.cell? ⟨gm, 0, none⟩ = some (.slice (some ⟨a1, 0, none⟩) P'.length c1) ∧ w'.cell? ⟨gm, 1, none⟩ = some (.slice (some ⟨a2, 0, none⟩) W.length c2) ∧ w'.cell? ⟨a1, x, none⟩ = some (.int .i64 (p : Int))) (fun _ => false) (by kernel_rfl) ?_
        refine tame0 (k := 0) ?_ rfl (by kernel_rfl) (by kernel_rfl) (by kernel_rfl) (fun _ _ _ h => h) (by kernel_rfl) (fun v => ?_) ?_
        rotate_left
        · (go_simp; all_goals rfl)
        simp only [Act.put, List.setIfInBounds_toArray]
        refine tame (k := 1) ?_ rfl (by kernel_rfl) (by kernel_rfl) (by kernel_rfl) (by kernel_rfl) (fun _ _ _ h => h) (by kernel_rfl) hS2_0 (fun v hv => ?_) ?_
        rotate_left
        · (obtain ⟨k1, k2, k3⟩ := hv; go_simp; all_goals rfl)
        simp only [Act.put]
        refine tame0 (k := 2) ?_ rfl (by kernel_rfl) (by kernel_rfl) (by kernel_rfl) (fun _ _ _ h => h) (by kernel_rfl) (fun v => ?_) ?_
        rotate_left
        · (go_simp; all_goals rfl)
        simp only [Act.put]
        refine tame0 (k := 3) ?_ rfl (by kernel_rfl) (by kernel_rfl) (by kernel_rfl) (fun _ _ _ h => h) (by kernel_rfl) (fun v => ?_) ?_
        rotate_left
        · (go_simp; all_goals rfl)
        simp only [Act.put]
        refine tame (k := 4) ?_ rfl (by kernel_rfl) (by kernel_rfl) (by kernel_rfl) (by kernel_rfl) (fun _ _ _ h => h) (by kernel_rfl) hS2_0 (fun v hv => ?_) ?_
        rotate_left
        · (obtain ⟨k1, k2, k3⟩ := hv; go_simp; all_goals rfl)
        simp only [Act.put]
        refine tame0 (k := 5) ?_ rfl (by kernel_rfl) (by kernel_rfl) (by kernel_rfl) (fun _ _ _ h => h) (by kernel_rfl) (fun v => ?_) ?_
        rotate_left
        · (go_simp; all_goals rfl)
        simp only [Act.put]
        refine tame0 (k := 6) ?_ rfl (by kernel_rfl) (by kernel_rfl) (by kernel_rfl) (fun _ _ _ h => h) (by kernel_rfl) (fun v => ?_) ?_
        rotate_left
        · (go_simp; all_goals rfl)
        simp only [Act.put]
        refine tame (k := 7) ?_ rfl (by kernel_rfl) (by kernel_rfl) (by kernel_rfl) (by kernel_rfl) (fun _ _ _ h => h) (by kernel_rfl) hS2_0 (fun v hv => ?_) ?_
        rotate_left
        · (obtain ⟨k1, k2, k3⟩ := hv; go_simp; all_goals rfl)
        simp only [Act.put]
        refine tame_one (k := 8) (by kernel_rfl) rfl (by kernel_rfl) ?_
        go_simp
        refine (l2WayN_c (some ⟨a1, 0, none⟩) P' c1 (some ⟨a2, 0, none⟩) W.length c2 p v2.drew T2.out.drew.o1.rd HPar.out hpP (by rw [HP.out]; exact hn2)).mono ?_
        rintro e v4 ⟨Aw, cw, rfl, b4⟩
        have T4 := Lib.hid (T2.out.drew.below b4)
        clear T2
        have hd2_1 := bUp hd2 b4 (Nat.le_refl _)
        have hS2_1 := Lib.hid (SK2.out _ hd2_1)
        refine ⟨by first | exact hS2_1 | exact Hid.out hS2_1, ?_⟩
        refine tame_one (k := 9) (by kernel_rfl) rfl (by kernel_rfl) ?_
        go_simp
        refine ⟨by first | exact hS2_1 | exact Hid.out hS2_1, ?_⟩
        refine tame_one (k := 10) (by kernel_rfl) rfl (by kernel_rfl) ?_
        go_simp
        refine ⟨by first | exact hS2_1 | exact Hid.out hS2_1, ?_⟩
        refine tame_end (by kernel_rfl) ?_
        clear hd2_1 SK2 b4
        generalize dpN P' p = n at *
        by_cases hd : (2 : Int) < (n : Int) + 1
        · go_upto_region 7 with fail
          have q0 := T4.out.bx.b.1
          have hd3 : Below v4.heap.size v4 v4.drew := Below.drew (Below.refl _ _)
          have SK3 : Hid (∀ w', Below v4.heap.size v4 w' → w'.cell? ⟨gm, 0, none⟩ = some (.slice (some ⟨a1, 0, none⟩) P'.length c1)) := Lib.hid fun w' HV => (HV.cell (cell_lt q0)).trans q0
          clear q0
          have hS3_0 := SK3.out _ hd3
          refine tamed_region (S := fun w' => w'.cell? ⟨gm, 0, none⟩ = some (.slice (some ⟨a1, 0, none⟩) P'.length c1)) (fun k => k == 9) (by kernel_rfl) ?_
          refine tame0 (k := 0) ?_ rfl (by kernel_rfl) (by kernel_rfl) (by kernel_rfl) (fun _ _ _ h => h) (by kernel_rfl) (fun v => ?_) ?_
          rotate_left
          · (go_simp; all_goals rfl)
          simp only [Act.put, List.setIfInBounds_toArray]
          refine tame0 (k := 1) ?_ rfl (by kernel_rfl) (by kernel_rfl) (by kernel_rfl) (fun _ _ _ h => h) (by kernel_rfl) (fun v => ?_) ?_
          rotate_left
          · (go_simp; all_goals rfl)
          simp only [Act.put]
          refine tameT (k := 2) ?_ rfl (by kernel_rfl) (by kernel_rfl) (by kernel_rfl) (by kernel_rfl) (by kernel_rfl) (fun _ _ _ h => h) (by kernel_rfl) hS3_0 (fun v hv => ?_) ?_
          rotate_left
          · (obtain k1 := hv; go_simp; all_goals rfl)
          simp only [Act.put]
          refine tame0 (k := 3) ?_ rfl (by kernel_rfl) (by kernel_rfl) (by kernel_rfl) (fun _ _ _ h => h) (by kernel_rfl) (fun v => ?_) ?_
          rotate_left
          · (go_simp; all_goals rfl)
          simp only [Act.put]
          refine tame0 (k := 4) ?_ rfl (by kernel_rfl) (by kernel_rfl) (by kernel_rfl) (fun _ _ _ h => h) (by kernel_rfl) (fun v => ?_) ?_
          rotate_left
          · (go_simp; all_goals rfl)
          simp only [Act.put]
          refine tame0 (k := 5) ?_ rfl (by kernel_rfl) (by kernel_rfl) (by kernel_rfl) (fun _ _ _ h => h) (by kernel_rfl) (fun v => ?_) ?_
          rotate_left
          · (go_simp; all_goals rfl)
          simp only [Act.put]
          have hS3_0v := Lib.hid hS3_0
          clear hS3_0
          refine tame_one (k := 6) (by kernel_rfl) rfl (by kernel_rfl) ?_
          go_simp
          refine (l1Lst_c (x : Int) 2 v4.drew).mono ?_
          rintro e w' ⟨rfl, rfl⟩
          refine ⟨by first | exact hS3_0v | exact Hid.out hS3_0v, ?_⟩
          refine tame_one (k := 7) (by kernel_rfl) rfl (by kernel_rfl) ?_
          go_simp
          refine (pick_c g _ _ _ T4.out.drew.cur (by omega) (by unfold leI; split <;> omega)).mono ?_
          rintro e v5 ⟨u, rfl, ⟨y, rfl, hy0, hy1⟩, hc5, hg5⟩
          have hyx : y ≤ (x : Int) - 1 := by
            unfold leI at hy1
            split at hy1 <;> omega
          have T5 := Lib.hid (T4.out.drew.cur_ hg5 hc5)
          have QD := Lib.hid T5.out.bx.b.1
          clear hc5 hg5 T4 hy1
          refine ⟨QD.out, ?_⟩
          refine tame_one (k := 8) (by kernel_rfl) rfl (by kernel_rfl) ?_
          go_simp
          refine ⟨QD.out, ?_⟩
          have fz := T5.out.o1.frozen x
          have qx := T5.out.o1.cellN (k := x) (by rw [HP.out]; exact hlt)
          have T8 := Lib.hid (T5.out.set1 (by intro e; exact hap (Option.some.inj e)) x y)
          have HP8 : Hid ((P'.set x y).length = P.length) := Lib.hid (by rw [List.length_set]; exact HP.out)
          have HPar8 := Lib.hid (HPar.out.set hx1 hy0 hyx)
          refine tame_one (k := 9) (by kernel_rfl) rfl (by kernel_rfl) ?_
          go_simp
          try (refine ⟨fun h => absurd h (by decide), ?_⟩)
          refine tame_end (by kernel_rfl) ?_
          clear fz qx QD hd3 SK3
          go_wp2_with fail
          go_roundw
          case rel => exact ⟨x + 1, _, by go_num, by omega, by omega, HP8.out, HPar8.out, T8.out.mono (by omega)⟩
          case measure => simp [intOf] <;> omega
        · go_wp2_with fail
          go_roundw
          case rel => exact ⟨x + 1, P', by go_num, by omega, by omega, HP.out, HPar.out, T4.out.mono (by omega)⟩
          case measure => simp [intOf] <;> omega
      · have T := T2
        clear T2
        have k1 := T.out.bx.b.2.1
        go_wp2_with fail
        clear k1
        go_loopw [7] (fun i wr => ∃ (y : Nat) (W' : List Int), i = .int .i64 (y : Int) ∧ y ≤ W.length ∧ W'.length = W.length ∧ MkD w wr g w.heap.size gm (N + 500 + 2 * (y : Int)) (some ⟨a1, 0, none⟩) c1 P' (some ⟨a2, 0, none⟩) c2 W' none 0 []) (fun i _ => W.length - (intOf i).toNat)
        case atStart => exact ⟨0, W, rfl, by omega, rfl, T.out.mono (by omega)⟩
        case round =>
          clear T ix
          obtain ⟨v, rfl⟩ : ∃ v : World, v = wr := ⟨_, rfl⟩
          obtain ⟨y, W', rfl, hy, hWl, T⟩ := hrel
          replace T := Lib.hid T
          have HW := Lib.hid hWl
          clear hWl
          have k0 := T.out.bx.b.1
          have k1 := T.out.bx.b.2.1
          by_cases hyl : y < W.length
          · have iy : (y : Int) < (W'.length : Int) := by rw [HW.out]; omega
            have hyP : y < P'.length := by rw [HP.out, ← HWL.out]; exact hyl
            go_wp2_with fail
            refine (l2Kids_c (some ⟨a1, 0, none⟩) P' c1 (some ⟨a2, 0, none⟩) W'.length c2 y v T.out.o1.rd HPar.out hyP (by rw [HP.out]; exact hn2)).mono ?_
            rintro e v4 ⟨Ak, ck, rfl, ok, b4⟩
            have T4 := Lib.hid (T.out.below b4)
            clear T b4 ok k0 k1
            generalize (kids P' (y : Int)).length = n at *
            have k1 := T4.out.bx.b.2.1
            have HV := Lib.hid T4.out.gr_.size
            by_cases hn0 : n = 0
            · subst hn0
              have R1 := (Own.lit v4 [1, 1, 2, 3] (by decide)).rd
              have b1 : Below v4.heap.size v4 (v4.alloc (.cells (ints [1, 1, 2, 3]).toArray 3)) := (Below.refl _ _).alloc (Nat.le_refl _) _
              have T5 := Lib.hid (T4.out.below b1)
              go_wp2_with fail
              refine (among_c g _ _ [1, 1, 2, 3] _ _ _ T5.out.cur (by omega) R1 (fun ad e => by injection e with e; have := T5.out.g0; have := HV.out; rw [← e]; show v4.heap.size ≠ g; omega) rfl (by decide) (by decide)).mono ?_
              rintro e v6 ⟨u, rfl, ⟨q, hq, rfl⟩, hc6, hg6⟩
              have T6 := Lib.hid (T5.out.cur_ hg6 hc6)
              generalize nth [1, 1, 2, 3] q = z at *
              clear hq hc6 hg6 R1 b1 T4 T5 k1
              have k1 := T6.out.bx.b.2.1
              have fz := T6.out.o2.frozen y
              have qx := T6.out.o2.cellN (k := y) (by rw [HW.out]; exact hyl)
              have T8 := Lib.hid (T6.out.set2 (by intro e; exact hap (Option.some.inj e).symm) y z)
              go_wp2_with fail
              go_roundw
              case rel => exact ⟨y + 1, _, by go_num, by omega, by rw [List.length_set]; exact HW.out, T8.out.mono (by omega)⟩
              case measure => simp [intOf] <;> omega
            · have hn0' : ((n : Int) == 0) = false := by simp; omega
              have fz := T4.out.o2.frozen y
              have qx := T4.out.o2.cellN (k := y) (by rw [HW.out]; exact hyl)
              have T8 := Lib.hid (T4.out.set2 (by intro e; exact hap (Option.some.inj e).symm) y 0)
              go_wp2_with fail
              go_roundw
              case rel => exact ⟨y + 1, _, by go_num, by omega, by rw [List.length_set]; exact HW.out, T8.out.mono (by omega)⟩
              case measure => simp [intOf] <;> omega
          · have iy : ¬ (y : Int) < (W'.length : Int) := by rw [HW.out]; omega
            go_wp2_with fail
            refine hK1.out _ _ ?_
            exact arTail T.out (by have := HWL.out; omega) (by have := HWL.out; omega) (by rw [HP.out]; omega) (by rw [HW.out]; exact hW) _ _ _ _ _ _ _ _ _ _ _ _ _ _ _ _ _ _ _ _ _ _ _ _ _ _ _ _ _ _ _ _ _ _ _ _ _ _ _ _ _ _ _ _ _ _ _ _ _ _ _ _ _ _ _ _ _ _ _ _ _ _ _ _ _ _ _ _ _ _ _ _ _ _ _ _ _ _ _ _ _ _ _ _ _ _ _ _ _ _ _ _ _ _ _ _ _ _ _ _ _ _ _ _ _ _ _ _ _ _ _ _ _ _ _ _ _ _ _
    · have ix : ¬ (x : Int) < (P'.length : Int) := by rw [HP.out]; omega
      have k1 := T.out.bx.b.2.1
      go_wp2_with fail
      clear k1
      go_loopw [7] (fun i wr => ∃ (y : Nat) (W' : List Int), i = .int .i64 (y : Int) ∧ y ≤ W.length ∧ W'.length = W.length ∧ MkD w wr g w.heap.size gm (N + 500 + 2 * (y : Int)) (some ⟨a1, 0, none⟩) c1 P' (some ⟨a2, 0, none⟩) c2 W' none 0 []) (fun i _ => W.length - (intOf i).toNat)
      case atStart => exact ⟨0, W, rfl, by omega, rfl, T.out.mono (by omega)⟩
      case round =>
        clear T ix
        obtain ⟨v, rfl⟩ : ∃ v : World, v = wr := ⟨_, rfl⟩
        obtain ⟨y, W', rfl, hy, hWl, T⟩ := hrel
        replace T := Lib.hid T
        have HW := Lib.hid hWl
        clear hWl
        have k0 := T.out.bx.b.1
        have k1 := T.out.bx.b.2.1
        by_cases hyl : y < W.length
        · have iy : (y : Int) < (W'.length : Int) := by rw [HW.out]; omega
          have hyP : y < P'.length := by rw [HP.out, ← HWL.out]; exact hyl
          go_wp2_with fail
          refine (l2Kids_c (some ⟨a1, 0, none⟩) P' c1 (some ⟨a2, 0, none⟩) W'.length c2 y v T.out.o1.rd HPar.out hyP (by rw [HP.out]; exact hn2)).mono ?_
          rintro e v4 ⟨Ak, ck, rfl, ok, b4⟩
          have T4 := Lib.hid (T.out.below b4)
          clear T b4 ok k0 k1
          generalize (kids P' (y : Int)).length = n at *
          have k1 := T4.out.bx.b.2.1
          have HV := Lib.hid T4.out.gr_.size
          by_cases hn0 : n = 0
          · subst hn0
            have R1 := (Own.lit v4 [1, 1, 2, 3] (by decide)).rd
            have b1 : Below v4.heap.size v4 (v4.alloc (.cells (ints [1, 1, 2, 3]).toArray 3)) := (Below.refl _ _).alloc (Nat.le_refl _) _
            have T5 := Lib.hid (T4.out.below b1)
            go_wp2_with fail
            refine (among_c g _ _ [1, 1, 2, 3] _ _ _ T5.out.cur (by omega) R1 (fun ad e => by injection e with e; have := T5.out.g0; have := HV.out; rw [← e]; show v4.heap.size ≠ g; omega) rfl (by decide) (by decide)).mono ?_
            rintro e v6 ⟨u, rfl, ⟨q, hq, rfl⟩, hc6, hg6⟩
            have T6 := Lib.hid (T5.out.cur_ hg6 hc6)
            generalize nth [1, 1, 2, 3] q = z at *
            clear hq hc6 hg6 R1 b1 T4 T5 k1
            have k1 := T6.out.bx.b.2.1
            have fz := T6.out.o2.frozen y
            have qx := T6.out.o2.cellN (k := y) (by rw [HW.out]; exact hyl)
            have T8 := Lib.hid (T6.out.set2 (by intro e; exact hap (Option.some.inj e).symm) y z)
            go_wp2_with fail
            go_roundw
            case rel => exact ⟨y + 1, _, by go_num, by omega, by rw [List.length_set]; exact HW.out, T8.out.mono (by omega)⟩
            case measure => simp [intOf] <;> omega
          · have hn0' : ((n : Int) == 0) = false := by simp; omega
            have fz := T4.out.o2.frozen y
            have qx := T4.out.o2.cellN (k := y) (by rw [HW.out]; exact hyl)
            have T8 := Lib.hid (T4.out.set2 (by intro e; exact hap (Option.some.inj e).symm) y 0)
            go_wp2_with fail
            go_roundw
            case rel => exact ⟨y + 1, _, by go_num, by omega, by rw [List.length_set]; exact HW.out, T8.out.mono (by omega)⟩
            case measure => simp [intOf] <;> omega
        · have iy : ¬ (y : Int) < (W'.length : Int) := by rw [HW.out]; omega
          go_wp2_with fail
          refine hK1.out _ _ ?_
          exact arTail T.out (by have := HWL.out; omega) (by have := HWL.out; omega) (by rw [HP.out]; omega) (by rw [HW.out]; exact hW) _ _ _ _ _ _ _ _ _ _ _ _ _ _ _ _ _ _ _ _ _ _ _ _ _ _ _ _ _ _ _ _ _ _ _ _ _ _ _ _ _ _ _ _ _ _ _ _ _ _ _ _ _ _ _ _ _ _ _ _ _ _ _ _ _ _ _ _ _ _ _ _ _ _ _ _ _ _ _ _ _ _ _ _ _ _ _ _ _ _ _ _ _ _ _ _ _ _ _ _ _ _ _ _ _ _ _ _ _ _ _ _ _ _ _ _ _ _ _
set_option maxRecDepth 20000 in
set_option maxHeartbeats 2000000 in
theorem discount_c (g : Nat) (N : Int) (w : World) (h : CurS w g N) (hN : N ≤ 900000) :
    Calls Try.prog 43 #[.pointer (some ⟨g, 0, none⟩)] w fun e w' => ∃ a b : Int, e = .returned (.tuple #[.int .i64 a, .int .i64 b]) ∧ CurS w' g (N + 10) ∧ w.grownBy w' (some g) := by
  have hgw : g < w.heap.size := by
    obtain ⟨_, _, _, _, _, h⟩ := h
    exact h.lt
  go_enter Try.func43, Try.ntmps43
  go_wp2_with fail
  refine (one_c g _ 20 _ h (by omega) (by omega)).mono ?_
  rintro e w1 ⟨u, rfl, ⟨b, rfl⟩, hc, hg⟩
  have l1 := hg.size
  clear h
  cases b
  · go_wp2_with fail
    refine (pick_c g _ 3 _ hc (by omega) (by omega)).mono ?_
    rintro e w2 ⟨u, rfl, ⟨y, rfl, hy0, hy1⟩, hc2, hg2⟩
    have e1 : IntKind.i64.wrap (2 + y) = 2 + y := IntWalk.i64_in _ (by omega)
    have e2 : IntKind.i64.wrap (2 + y - 1) = 2 + y - 1 := IntWalk.i64_in _ (by omega)
    go_wp2_with fail
    refine (pick_c g _ _ _ hc2 (by omega) (by omega)).mono ?_
    rintro e w3 ⟨u, rfl, ⟨z, rfl, hz0, hz1⟩, hc3, hg3⟩
    go_wp2_with fail
    go_ret2
    exact ⟨_, _, rfl, hc3.mono (by omega), (hg.trans hg2).trans hg3⟩
  · have R1 := (Own.lit w1 [0, 1, 3, 4] (by decide)).rd
    have b1 : Below w1.heap.size w1 (w1.alloc (.cells (ints [0, 1, 3, 4]).toArray 3)) := (Below.refl _ _).alloc (Nat.le_refl _) _
    go_wp2_with fail
    refine (among_c g _ _ [0, 1, 3, 4] _ _ _ (hc.below b1) (by omega) R1 (fun ad e => by injection e with e; rw [← e]; show w1.heap.size ≠ g; omega) rfl (by decide) (by decide)).mono ?_
    rintro e w2 ⟨u, rfl, ⟨q, hq, rfl⟩, hc2, hg2⟩
    have g2 : w.grownBy w2 (some g) := (grown_low hg b1).trans hg2
    have l2 := g2.size
    generalize nth [0, 1, 3, 4] q = y at *
    have R2 := (Own.lit w2 [1, 4, 5, 3] (by decide)).rd
    have b2 : Below w2.heap.size w2 (w2.alloc (.cells (ints [1, 4, 5, 3]).toArray 3)) := (Below.refl _ _).alloc (Nat.le_refl _) _
    clear R1 b1 hc hg hg2 hq
    go_wp2_with fail
    refine (among_c g _ _ [1, 4, 5, 3] _ _ _ (hc2.below b2) (by omega) R2 (fun ad e => by injection e with e; rw [← e]; show w2.heap.size ≠ g; omega) rfl (by decide) (by decide)).mono ?_
    rintro e w3 ⟨u, rfl, ⟨q, hq, rfl⟩, hc3, hg3⟩
    generalize nth [1, 4, 5, 3] q = z at *
    go_wp2_with fail
    go_ret2
    exact ⟨_, _, rfl, hc3.mono (by omega), (grown_low g2 b2).trans hg3⟩
end Go.Proofs.Ytfobjkdkjlbkfaa
