/- The draws of rows. (Written by gen_rwd.py.) -/
import Derived.Test.YtnhclpajfejnoaaDrB
import Derived.Test.YtnhclpajfejnoaaLists
import Derived.Test.YtnhclpajfejnoaaRowN
import Derived.Test.YtnhclpajfejnoaaSS
import Derived.Test.YtnhclpajfejnoaaByt
import Derived.Test.YtnhclpajfejnoaaScal
import Derived.Test.YtnhclpajfejnoaaTrB
import Derived.Deep.DeepCutAuto
import Derived.OwnWalk
namespace Go.Proofs.Ytnhclpajfejnoaa
open Go.RowKit

/-- A row of numbers has been drawn. -/
def NumsDrawn (w : World) (g : Nat) (M : Int) (e : Ending) (w' : World) : Prop := ∃ A c xs, e = .returned (.slice A xs.length c) ∧ xs.length ≤ 30 ∧ Own w' w.heap.size A c xs ∧ CurS w' g M ∧ w.grownBy w' (some g)
theorem own_past {w0 w w' : World} {A : Option Addr} {c : Nat} {xs : List Int} {g : Nat} (h : Own w w0.heap.size A c xs) (hk : w.grownBy w' (some g)) (hg : g < w0.heap.size) : Own w' w0.heap.size A c xs := h.grown hk (own_apart h hg)
set_option maxRecDepth 20000 in
set_option maxHeartbeats 4000000 in
theorem somePays_c (g : Nat) (N : Int) (n : Nat) (w : World) (h : CurS w g N) (hN : N ≤ 900000) (hn : n ≤ 20) :
    Calls Try.prog 97 #[.pointer (some ⟨g, 0, none⟩), .int .i64 (n : Int)] w (NumsDrawn w g (N + 100)) := by
  have hgw : g < w.heap.size := by
    obtain ⟨_, _, _, _, _, h⟩ := h
    exact h.lt
  have o0 := (Own.lit0 w w.heap.size rfl).alloc (.cells (ints [3, 10, 30]).toArray 3)
  have R0 := (Own.lit (w.alloc (.cells #[] 3)) [3, 10, 30] (by decide)).rd
  rw [World.size_alloc] at R0
  have b0 : Below w.heap.size w ((w.alloc (.cells #[] 3)).alloc (.cells (ints [3, 10, 30]).toArray 3)) := ((Below.refl _ _).alloc (Nat.le_refl _) _).alloc (by simp) _
  go_enter Try.func97, Try.ntmps97
  go_wp2_with fail
  refine (among_c g N _ [3, 10, 30] _ _ _ (h.below b0) (by omega) R0 (fun ad e => by injection e with e; rw [← e]; simp; omega) rfl (by decide) (by decide)).mono ?_
  rintro e w2 ⟨v, rfl, ⟨k, hk, rfl⟩, hc, hg⟩
  have nb := allB_nth (xs := [3, 10, 30]) (lo := 3) (hi := 30) (by decide) hk
  generalize nth [3, 10, 30] k = big at *
  have o2 := own_past o0 hg hgw
  have G2 : w.grownBy w2 (some g) := (grown_of_below b0 (some g)).trans hg
  clear o0 R0 b0 hg h hk
  go_wp2_with fail
  go_loopw [5, 7] (fun s i wr => ∃ (k : Nat) (A : Option Addr) (c : Nat) (xs : List Int), i = .int .i64 (k : Int) ∧ s = .slice A xs.length c ∧ k ≤ n ∧ xs.length = k ∧ Own wr w.heap.size A c xs ∧ CurS wr g (N + 2 + 2 * (k : Int)) ∧ w.grownBy wr (some g)) (fun _ i _ => n - (intOf i).toNat)
  case atStart => exact ⟨0, _, _, [], rfl, rfl, by omega, rfl, o2, hc.mono (by omega), G2⟩
  case round =>
    clear o2 hc G2
    obtain ⟨v, rfl⟩ : ∃ v : World, v = wr := ⟨_, rfl⟩
    obtain ⟨k, A, c, xs, rfl, rfl, hkn, hx, o, hc, G⟩ := hrel
    have HX := Lib.hid hx
    have HO := Lib.hid o
    have HG := Lib.hid G
    clear hx o G
    by_cases hlt : k < n
    · have e1 : IntKind.i64.wrap (2 * big) = 2 * big := IntWalk.i64_in _ (by omega)
      have e2 : IntKind.i64.wrap (2 * big + 1) = 2 * big + 1 := IntWalk.i64_in _ (by omega)
      go_wp2_with fail
      refine (pick_c g _ (2 * big + 1) _ hc (by omega) (by omega)).mono ?_
      rintro e v2 ⟨u, rfl, ⟨y, rfl, hy0, hy1⟩, hc2, hg2⟩
      have e3 : IntKind.i64.wrap (y - big) = y - big := IntWalk.i64_in _ (by omega)
      have HO2 := Lib.hid (own_past HO.out hg2 hgw)
      have HG2 := Lib.hid (HG.out.trans hg2)
      clear hc hg2 HO HG
      go_wp2_with (at_builtin; refine wp_append1 v2 (y - big) _ rfl _ _ rfl w.heap.size A xs.length c xs rfl rfl HO2.out rfl (by have := HX.out; omega) HG2.out.size ?_; intro A5 c5 v5 o5 g5 b5; have HG5 := Lib.hid (grown_new HG2.out g5 (fun b e => HO2.out.ge b e)); have hc5 := hc2.grown g5 (fun b e => by have := HO2.out.ge b e; omega); clear g5 b5)
      go_roundw
      case rel => exact ⟨k + 1, A5, c5, xs ++ [y - big], by go_num, by rw [List.length_append]; rfl, by omega, by rw [List.length_append, HX.out]; rfl, o5, hc5.mono (by omega), HG5.out⟩
      case measure => simp [intOf] <;> omega
    · obtain rfl : k = n := by omega
      by_cases h0 : 0 < k
      · have h0' : (0 : Int) < (k : Int) := by omega
        go_wp2_with fail
        refine (one_c g _ 30 _ hc (by omega) (by omega)).mono ?_
        rintro e v2 ⟨u, rfl, ⟨b, rfl⟩, hc2, hg2⟩
        have HO2 := Lib.hid (own_past HO.out hg2 hgw)
        have HG2 := Lib.hid (HG.out.trans hg2)
        clear hc hg2 HO HG
        cases b
        · go_wp2_with fail
          refine (one_c g _ 40 _ hc2 (by omega) (by omega)).mono ?_
          rintro e v5 ⟨u, rfl, ⟨b, rfl⟩, hc5, hg5⟩
          have HO5 := Lib.hid (own_past HO2.out hg5 hgw)
          have HG5 := Lib.hid (HG2.out.trans hg5)
          clear hc2 hg5 HO2 HG2
          cases b
          · go_wp2_with fail
            go_ret
            exact ⟨_, _, xs, rfl, by have := HX.out; omega, HO5.out, hc5.mono (by omega), HG5.out⟩
          · go_wp2_with (at_builtin; refine wp_append1 v5 0 _ rfl _ _ rfl w.heap.size A xs.length c xs rfl rfl HO5.out rfl (by have := HX.out; omega) HG5.out.size ?_; intro A7 c7 v7 o7 g7 b7; have HG7 := Lib.hid (grown_new HG5.out g7 (fun b e => HO5.out.ge b e)); have hc7 := hc5.grown g7 (fun b e => by have := HO5.out.ge b e; omega); clear g7 b7)
            go_ret
            exact ⟨_, _, xs ++ [0], by rw [List.length_append] <;> rfl, by rw [List.length_append]; have := HX.out; simp; omega, o7, hc7.mono (by omega), HG7.out⟩
        · obtain ⟨a, rfl, _, _⟩ := HO2.out.form (by have := HX.out; omega)
          go_wp2_with fail
          refine (pick_c g _ (k : Int) _ hc2 (by omega) (by omega)).mono ?_
          rintro e v3 ⟨u, rfl, ⟨x, rfl, hx0, hx1⟩, hc3, hg3⟩
          obtain ⟨x, rfl⟩ : ∃ x' : Nat, x = (x' : Int) := ⟨x.toNat, by omega⟩
          have HO3 := Lib.hid (own_past HO2.out hg3 hgw)
          have HG3 := Lib.hid (HG2.out.trans hg3)
          clear hc2 hg3 HO2 HG2
          have R0 := (Own.lit v3 [999, -999, 1000, -1000, 4611686018427387904] (by decide)).rd
          have bl : Below v3.heap.size v3 (v3.alloc (.cells (ints [999, -999, 1000, -1000, 4611686018427387904]).toArray 3)) := (Below.refl _ _).alloc (Nat.le_refl _) _
          have z3 := HG3.out.size
          go_wp2_with fail
          refine (among_c g _ _ [999, -999, 1000, -1000, 4611686018427387904] _ _ _ (hc3.below bl) (by omega) R0 (fun ad e => by injection e with e; rw [← e]; show v3.heap.size ≠ g; omega) rfl (by decide) (by decide)).mono ?_
          rintro e v4 ⟨u, rfl, ⟨q, hq, rfl⟩, hc4, hg4⟩
          have HO4 := Lib.hid (own_past (HO3.out.below bl) hg4 hgw)
          have HG4 := Lib.hid ((grown_low HG3.out bl).trans hg4)
          generalize nth [999, -999, 1000, -1000, 4611686018427387904] q = z at *
          clear hq hc3 hg4 HO3 HG3 R0 bl z3
          have hxl : x < xs.length := by have := HX.out; omega
          have ix : (x : Int) < (xs.length : Int) := by omega
          have fz := HO4.out.frozen x
          have qx := HO4.out.cellN hxl
          have hst := HO4.out.set x z
          have HO2 := Lib.hid hst.1
          have HG2 := Lib.hid (grown_new HG4.out hst.2 (fun b e => by injection e with e; have := HO4.out.ge a rfl; omega))
          have hc2 := hc4.grown hst.2 (fun b e => by injection e with e; have := HO4.out.ge a rfl; omega)
          clear hst HO4 HG4 hc4
          go_wp2_with fail
          refine (one_c g _ 40 _ hc2 (by omega) (by omega)).mono ?_
          rintro e v5 ⟨u, rfl, ⟨b, rfl⟩, hc5, hg5⟩
          have HO5 := Lib.hid (own_past HO2.out hg5 hgw)
          have HG5 := Lib.hid (HG2.out.trans hg5)
          have HXL : Hid ((xs.set x z).length = k) := Lib.hid (by rw [List.length_set]; exact HX.out)
          have HXE : Hid ((xs.set x z).length = xs.length) := Lib.hid (by rw [List.length_set])
          clear hc2 hg5 HO2 HG2 fz qx
          cases b
          · go_wp2_with fail
            go_ret
            exact ⟨_, _, xs.set x z, by rw [HXE.out] <;> rfl, by have := HXL.out; have := HXE.out; omega, HO5.out, hc5.mono (by omega), HG5.out⟩
          · go_wp2_with (at_builtin; refine wp_append1 v5 0 _ rfl _ _ rfl w.heap.size (some ⟨a, 0, none⟩) xs.length c (xs.set x z) rfl HXE.out.symm HO5.out rfl (by have := HXL.out; have := HXE.out; omega) HG5.out.size ?_; intro A7 c7 v7 o7 g7 b7; have HG7 := Lib.hid (grown_new HG5.out g7 (fun b e => HO5.out.ge b e)); have hc7 := hc5.grown g7 (fun b e => by have := HO5.out.ge b e; omega); clear g7 b7)
            go_ret
            exact ⟨_, _, xs.set x z ++ [0], by rw [List.length_append, HXE.out] <;> rfl, by rw [List.length_append]; have := HXL.out; have := HXE.out; simp; omega, o7, hc7.mono (by omega), HG7.out⟩
      · have h0' : ¬ (0 : Int) < (k : Int) := by omega
        have HO2 := HO
        have HG2 := HG
        have hc2 := hc
        go_wp2_with fail
        refine (one_c g _ 40 _ hc2 (by omega) (by omega)).mono ?_
        rintro e v5 ⟨u, rfl, ⟨b, rfl⟩, hc5, hg5⟩
        have HO5 := Lib.hid (own_past HO2.out hg5 hgw)
        have HG5 := Lib.hid (HG2.out.trans hg5)
        clear hc2 hg5 HO2 HG2
        cases b
        · go_wp2_with fail
          go_ret
          exact ⟨_, _, xs, rfl, by have := HX.out; omega, HO5.out, hc5.mono (by omega), HG5.out⟩
        · go_wp2_with (at_builtin; refine wp_append1 v5 0 _ rfl _ _ rfl w.heap.size A xs.length c xs rfl rfl HO5.out rfl (by have := HX.out; omega) HG5.out.size ?_; intro A7 c7 v7 o7 g7 b7; have HG7 := Lib.hid (grown_new HG5.out g7 (fun b e => HO5.out.ge b e)); have hc7 := hc5.grown g7 (fun b e => by have := HO5.out.ge b e; omega); clear g7 b7)
          go_ret
          exact ⟨_, _, xs ++ [0], by rw [List.length_append] <;> rfl, by rw [List.length_append]; have := HX.out; simp; omega, o7, hc7.mono (by omega), HG7.out⟩
theorem row_infoE : (Try.prog.info? 24).map (fun i => (i.zero, i.size, i.bytes)) = some (some (.slice none 0 0), 1, 24) := by kernel_rfl
/-- Rows have been drawn: heads of the call's own, rows behind them. -/
structure DrE (w0 w : World) (g : Nat) (N : Int) (A : Option Addr) (c : Nat) (H : List Value) (f : Nat → List Int) (n : Nat) : Prop where
  own : OwnV 24 w w0.heap.size A c H
  hd : HeadsT Lies0 w (fun b => b ≤ g ∨ blk A = some b) H n f
  sz : ∀ k, k < n → (f k).length ≤ 30
  cur : CurS w g N
  gr : w0.grownBy w (some g)
/-- Rows that are read, of bounded lengths. -/
def TabPost (w : World) (g : Nat) (M : Int) (m : Nat) (e : Ending) (w' : World) : Prop := ∃ A c xss, e = .returned (.slice A xss.length c) ∧ (∀ w2, w'.grownBy w2 (some g) → RdSS w2 A xss) ∧ xss.length ≤ m ∧ (∀ k, k < xss.length → (rowAt xss k).length ≤ 30) ∧ CurS w' g M ∧ w.grownBy w' (some g)
theorem DrE.push {w0 w w2 w' : World} {g c n : Nat} {N M : Int} {A A2 : Option Addr} {c2 c3 : Nat} {H : List Value} {f : Nat → List Int} {xs : List Int} (h : DrE w0 w g N A c H f n) (hg0 : g < w0.heap.size)
    (hk : w.grownBy w2 (some g)) (hx : xs.length ≤ 30) {a3 : Option Addr} (ho : Own w2 w.heap.size a3 c3 xs) (hc : CurS w2 g M)
    (o : OwnV 24 w' w0.heap.size A2 c2 (H ++ [.slice a3 xs.length c3])) (gr : w2.grownBy w' (blk A)) (t : blk A2 = blk A ∨ ∃ r, blk A2 = some r ∧ w2.heap.size ≤ r) :
    ∃ f', DrE w0 w' g M A2 c2 (H ++ [.slice a3 xs.length c3]) f' (n + 1) := by
  have hge := h.own.ltk
  have hgs := h.gr.size
  have k1 : Kept w w2 (fun b => b ≤ g ∨ blk A = some b) := Kept.of_grown hk (fun b e => .inl (by injection e with e; omega))
  have h1 := h.hd.keep stays0 k1
  have hD : ∀ b, (b ≤ g ∨ blk A2 = some b) → (b ≤ g ∨ blk A = some b) ∨ blk A2 = some b := fun b hb => by
    rcases hb with hb | hb
    · exact .inl (.inl hb)
    · exact .inr hb
  have l1 : Lies0 w2 (fun b => b ≤ g ∨ blk A = some b) (.slice a3 xs.length c3) xs := ho.lies fun b hb hd => by
    have h1 := ho.ge b hb
    rcases hd with hd | hd
    · omega
    · have := (hge b hd).2
      omega
  have hcong : HeadsT Lies0 w2 (fun b => b ≤ g ∨ blk A = some b) H n (fun k => if k < n then f k else xs) := ⟨h1.len, fun j hj => by
    obtain ⟨v, e1, e2⟩ := h1.at_ j hj
    exact ⟨v, e1, by rw [if_pos hj]; exact e2⟩⟩
  refine ⟨fun k => if k < n then f k else xs, o, ?_, fun k hk' => ?_, hc.grown gr (fun b e => by have := (hge b e).1; omega), grown_new (h.gr.trans hk) gr (fun b e => (hge b e).1)⟩
  · refine (hcong.push stays0 gr (fun b hb => .inr hb) t hD).snoc (push_keep stays0 ?_ gr (fun b hb => .inr hb) t hD)
    rw [if_neg (Nat.lt_irrefl n)]
    exact l1
  · by_cases h' : k < n
    · rw [if_pos h']; exact h.sz k h'
    · rw [if_neg h']; exact hx
theorem DrE.below {w0 w w' : World} {g c n : Nat} {N : Int} {A : Option Addr} {H : List Value} {f : Nat → List Int} (h : DrE w0 w g N A c H f n) (hb : Below w.heap.size w w') : DrE w0 w' g N A c H f n :=
  ⟨h.own.below hb, h.hd.keep stays0 (.of_below hb), h.sz, h.cur.below hb, grown_low h.gr hb⟩
theorem DrE.cur_ {w0 w w' : World} {g c n : Nat} {N M : Int} {A : Option Addr} {H : List Value} {f : Nat → List Int} (h : DrE w0 w g N A c H f n) (hg0 : g < w0.heap.size) (hk : w.grownBy w' (some g)) (hc : CurS w' g M) : DrE w0 w' g M A c H f n :=
  ⟨h.own.grown hk (by
    rcases A with _ | a
    · exact .inl rfl
    · right
      intro e
      have := (h.own.ltk g e).1
      omega), h.hd.keep stays0 (Kept.of_grown hk (fun b e => .inl (by injection e with e; omega))), h.sz, hc, h.gr.trans hk⟩
theorem DrE.mono {w0 w : World} {g c n : Nat} {N M : Int} {A : Option Addr} {H : List Value} {f : Nat → List Int} (h : DrE w0 w g N A c H f n) (hN : N ≤ M) : DrE w0 w g M A c H f n := ⟨h.own, h.hd, h.sz, h.cur.mono hN, h.gr⟩
theorem DrE.post {w0 w : World} {g c n m : Nat} {N M : Int} {A : Option Addr} {H : List Value} {f : Nat → List Int} (h : DrE w0 w g N A c H f n) (hg0 : g < w0.heap.size) (hN : N ≤ M) (hn : n ≤ m) : TabPost w0 g M m (.returned (.slice A n c)) w := by
  refine ⟨A, c, (List.range n).map f, by simp, fun w2 hw2 k hk => ?_, by simp; exact hn, fun k hk => ?_, h.cur.mono hN, h.gr⟩
  · have hown := h.own.grown hw2 (by
      rcases A with _ | a
      · exact .inl rfl
      · right
        intro e
        have := (h.own.ltk g e).1
        omega)
    have hhd := h.hd.keep stays0 (Kept.of_grown hw2 (fun b e => .inl (by injection e with e; omega)))
    have hk' : k < n := by simpa using hk
    have hf : rowAt ((List.range n).map f) k = f k := by simp [rowAt, hk']
    obtain ⟨g', rfl, _, _⟩ := hown.form (by rw [hhd.len]; omega)
    obtain ⟨v, h1, a, c', rfl, h3, _⟩ := hhd.at_ k hk'
    exact ⟨_, a, c', rfl, by rw [Addr.add_lit, Nat.zero_add, hf]; exact hown.cell h1, by rw [hf]; exact h3⟩
  · have hk' : k < n := by simpa using hk
    have hf : rowAt ((List.range n).map f) k = f k := by simp [rowAt, hk']
    rw [hf]
    exact h.sz k hk'
theorem below_oneR {w w2 : World} {o : Obj} (h : (w.alloc o).grownBy w2 (some w.heap.size)) : Below w.heap.size w w2 := ((Below.refl _ _).alloc (Nat.le_refl _) o).grown h (by simp) (fun b e => by injection e with e; omega)
theorem own_capR {w : World} {B c : Nat} {A : Option Addr} {xs : List Int} (h : Own w B A c xs) : xs.length ≤ c := by
  rcases h.2 with ⟨h1, h0⟩ | ⟨g, cap, cur, h1, _, _, h2, h3, _⟩
  · omega
  · injection h1 with _ _ e
    omega
theorem mxI_bd2 {n : Int} (h : -1 ≤ n ∧ n ≤ 5) : 0 ≤ mxI n 0 ∧ mxI n 0 ≤ 5 := by unfold mxI; split <;> omega
/-- A row's numbers have been drawn. -/
def RowPost3 (w : World) (g : Nat) (M : Int) (e : Ending) (w' : World) : Prop := ∃ n u d : Int, e = .returned (.tuple #[.int .i64 n, .int .i64 u, .int .i64 d]) ∧ ((-1 ≤ n ∧ n ≤ 5) ∧ (0 ≤ u ∧ u ≤ 10) ∧ (0 ≤ d ∧ d ≤ 10)) ∧ CurS w' g M ∧ w.grownBy w' (some g)
set_option maxRecDepth 20000 in
set_option maxHeartbeats 4000000 in
theorem row_c (g : Nat) (N : Int) (w : World) (h : CurS w g N) (hN : N ≤ 900000) :
    Calls Try.prog 96 #[.pointer (some ⟨g, 0, none⟩)] w (RowPost3 w g (N + 6)) := by
  have hgw : g < w.heap.size := by
    obtain ⟨_, _, _, _, _, h⟩ := h
    exact h.lt
  have R1 := (Own.lit w [2, 3, 1, 4, 0, 2, 3, 5, -1] (by decide)).rd
  have bl1 : Below w.heap.size w (w.alloc (.cells (ints [2, 3, 1, 4, 0, 2, 3, 5, -1]).toArray 3)) := (Below.refl _ _).alloc (Nat.le_refl _) _
  have z1 : g < w.heap.size := hgw
  go_enter Try.func96, Try.ntmps96
  go_wp2_with fail
  refine (among_c g N _ [2, 3, 1, 4, 0, 2, 3, 5, -1] _ _ _ (h.below bl1) (by omega) R1 (fun ad e => by injection e with e; rw [← e]; show w.heap.size ≠ g; omega) rfl (by decide) (by decide)).mono ?_
  rintro e w2 ⟨n, rfl, ⟨k, hk, rfl⟩, hc2, hg2⟩
  have nb := allB_nth (xs := [2, 3, 1, 4, 0, 2, 3, 5, -1]) (lo := -1) (hi := 5) (by decide) hk
  have G2 : w.grownBy w2 (some g) := (grown_of_below bl1 (some g)).trans hg2
  generalize nth [2, 3, 1, 4, 0, 2, 3, 5, -1] k = n at *
  have hgs := G2.size
  clear hk hg2 bl1 R1 h z1
  have R2 := (Own.lit w2 [1, 2, 3, 9, 1, 2, 0, 10] (by decide)).rd
  have bl2 : Below w2.heap.size w2 (w2.alloc (.cells (ints [1, 2, 3, 9, 1, 2, 0, 10]).toArray 3)) := (Below.refl _ _).alloc (Nat.le_refl _) _
  have z2 : g < w2.heap.size := by omega
  go_wp2_with fail
  refine (among_c g _ _ [1, 2, 3, 9, 1, 2, 0, 10] _ _ _ (hc2.below bl2) (by omega) R2 (fun ad e => by injection e with e; rw [← e]; show w2.heap.size ≠ g; omega) rfl (by decide) (by decide)).mono ?_
  rintro e w3 ⟨u, rfl, ⟨k, hk, rfl⟩, hc3, hg3⟩
  have ub := allB_nth (xs := [1, 2, 3, 9, 1, 2, 0, 10]) (lo := 0) (hi := 10) (by decide) hk
  have G3 : w.grownBy w3 (some g) := (grown_low G2 bl2).trans hg3
  generalize nth [1, 2, 3, 9, 1, 2, 0, 10] k = u at *
  have hgs3 := G3.size
  clear hk hg3 bl2 R2 hc2 z2 G2 hgs
  have R3 := (Own.lit w3 [1, 2, 3, 9, 1, 2, 0, 10] (by decide)).rd
  have bl3 : Below w3.heap.size w3 (w3.alloc (.cells (ints [1, 2, 3, 9, 1, 2, 0, 10]).toArray 3)) := (Below.refl _ _).alloc (Nat.le_refl _) _
  have z3 : g < w3.heap.size := by omega
  go_wp2_with fail
  refine (among_c g _ _ [1, 2, 3, 9, 1, 2, 0, 10] _ _ _ (hc3.below bl3) (by omega) R3 (fun ad e => by injection e with e; rw [← e]; show w3.heap.size ≠ g; omega) rfl (by decide) (by decide)).mono ?_
  rintro e w4 ⟨d, rfl, ⟨k, hk, rfl⟩, hc4, hg4⟩
  have db := allB_nth (xs := [1, 2, 3, 9, 1, 2, 0, 10]) (lo := 0) (hi := 10) (by decide) hk
  have G4 : w.grownBy w4 (some g) := (grown_low G3 bl3).trans hg4
  generalize nth [1, 2, 3, 9, 1, 2, 0, 10] k = d at *
  clear hk hg4 bl3 R3 hc3 z3 G3 hgs3
  go_wp2_with fail
  go_ret3
  exact ⟨n, u, d, rfl, ⟨nb, ub, db⟩, hc4.mono (by omega), G4⟩
/-- A row with values has been drawn. -/
def RvDrawn (w : World) (e : Ending) (w' : World) : Prop := ∃ n u d : Int, ∃ A c xs, e = .returned (.tuple #[.int .i64 n, .int .i64 u, .int .i64 d, .slice A xs.length c]) ∧ xs.length ≤ 30 ∧ xs.length ≤ c ∧ Rd w' A (ints xs) ∧ Below w.heap.size w w'
set_option maxRecDepth 20000 in
set_option maxHeartbeats 4000000 in
theorem drawRv_c (A : Option Addr) (bs : List Int) (c : Nat) (w : World) (hr : Rd w A (u8s bs)) (hb : ByOk bs) (hl : bs.length ≤ 65537) :
    Calls Try.prog 38 #[.slice A bs.length c] w (RvDrawn w) := by
  have hC := CurS.new w A bs c 75 hr hb (by omega)
  go_enter Try.func38, Try.ntmps38
  go_wp2_with fail
  refine (row_c _ _ _ hC (by omega)).mono ?_
  rintro e w2 ⟨n, u, d, rfl, ⟨nb, ub, db⟩, hc, hg⟩
  clear hC hr hb hl
  have hm : 0 ≤ mxI n 0 ∧ mxI n 0 ≤ 5 := mxI_bd2 nb
  go_wp2_with fail
  refine (l1Most_c n 0 _).mono ?_
  rintro e w' ⟨rfl, rfl⟩
  obtain ⟨x, hx⟩ : ∃ x, mxI n 0 = x := ⟨_, rfl⟩
  rw [hx] at hm ⊢
  clear hx
  obtain ⟨m, hm2⟩ : ∃ m : Nat, x + 1 = (m : Int) := ⟨(x + 1).toNat, by omega⟩
  have hm7 : m ≤ 6 := by omega
  have e1 : IntKind.i64.wrap (x + 1) = (m : Int) := by rw [hm2]; exact IntWalk.i64_in _ (by omega)
  clear hm2 hm
  go_wp2_with fail
  refine (somePays_c _ _ m _ hc (by omega) (by omega)).mono ?_
  rintro e w3 ⟨A1, c1, xs, rfl, hx, o1, hc3, hg3⟩
  go_wp2_with fail
  exact bodyPost_ret (v := .tuple #[.int .i64 n, .int .i64 u, .int .i64 d, .slice A1 xs.length c1]) (by simp [results, Try.results38, go_sem]) rfl ⟨n, u, d, A1, c1, xs, rfl, hx, own_capR o1, o1.rd, below_oneR (hg.trans hg3)⟩
/-- Four numbers have been drawn. -/
def RmDrawn (w : World) (e : Ending) (w' : World) : Prop := ∃ n u d p : Int, e = .returned (.tuple #[.int .i64 n, .int .i64 u, .int .i64 d, .int .i64 p]) ∧ Below w.heap.size w w' ∧ (-1 ≤ n ∧ n ≤ 5) ∧ (0 ≤ u ∧ u ≤ 10) ∧ (0 ≤ d ∧ d ≤ 10) ∧ (-1 ≤ p ∧ p ≤ 21)
set_option maxRecDepth 20000 in
set_option maxHeartbeats 4000000 in
theorem drawRm_c (A : Option Addr) (bs : List Int) (c : Nat) (w : World) (hr : Rd w A (u8s bs)) (hb : ByOk bs) (hl : bs.length ≤ 65537) :
    Calls Try.prog 46 #[.slice A bs.length c] w (RmDrawn w) := by
  have hC := CurS.new w A bs c 75 hr hb (by omega)
  go_enter Try.func46, Try.ntmps46
  go_wp2_with fail
  refine (row_c _ _ _ hC (by omega)).mono ?_
  rintro e w2 ⟨n, u, d, rfl, ⟨nb, ub, db⟩, hc, hg⟩
  clear hC hr hb hl
  have hgs := hg.size
  simp only [World.size_alloc] at hgs
  have R1 := (Own.lit w2 [8, 10, 6, 12, 3, 0, 20, 21, -1] (by decide)).rd
  have bl1 : Below w2.heap.size w2 (w2.alloc (.cells (ints [8, 10, 6, 12, 3, 0, 20, 21, -1]).toArray 3)) := (Below.refl _ _).alloc (Nat.le_refl _) _
  go_wp2_with fail
  refine (among_c _ _ _ [8, 10, 6, 12, 3, 0, 20, 21, -1] _ _ _ (hc.below bl1) (by omega) R1 (fun ad e => by injection e with e; rw [← e]; show w2.heap.size ≠ w.heap.size; omega) rfl (by decide) (by decide)).mono ?_
  rintro e w3 ⟨p, rfl, ⟨k, hk, rfl⟩, hc3, hg3⟩
  have pb := allB_nth (xs := [8, 10, 6, 12, 3, 0, 20, 21, -1]) (lo := -1) (hi := 21) (by decide) hk
  generalize nth [8, 10, 6, 12, 3, 0, 20, 21, -1] k = p at *
  have G3 := (grown_low hg bl1).trans hg3
  clear hk hg3 bl1 R1 hc hc3
  go_wp2_with fail
  exact bodyPost_ret (v := .tuple #[.int .i64 n, .int .i64 u, .int .i64 d, .int .i64 p]) (by simp [results, Try.results46, go_sem]) rfl ⟨n, u, d, p, rfl, below_oneR G3, nb, ub, db, pb⟩
/-- A row with a table has been drawn. -/
def ReDrawn (w : World) (e : Ending) (w' : World) : Prop := ∃ n u d : Int, ∃ A c T, e = .returned (.tuple #[.int .i64 n, .int .i64 u, .int .i64 d, .slice A T.length c]) ∧ SzSS T ∧ RdSS w' A T ∧ Below w.heap.size w w'
theorem tab_drawn {w w2 w3 : World} {o : Obj} {n u d M : Int} {A : Option Addr} {k c : Nat} (hg : (w.alloc o).grownBy w2 (some w.heap.size)) (h : TabPost w2 w.heap.size M 7 (.returned (.slice A k c)) w3) :
    ReDrawn w (.returned (.tuple #[.int .i64 n, .int .i64 u, .int .i64 d, .slice A k c])) w3 := by
  obtain ⟨A', c', T, he, hr, hl, hs, _, hg3⟩ := h
  injection he with he
  injection he with e1 e2 e3
  subst e1 e2 e3
  exact ⟨n, u, d, _, _, T, rfl, ⟨by omega, fun k hk => by have := hs k hk; omega⟩, hr _ (grown_refl _ _), below_oneR (hg.trans hg3)⟩
set_option maxRecDepth 20000 in
set_option maxHeartbeats 4000000 in
theorem drawRe_c (A : Option Addr) (bs : List Int) (c : Nat) (w : World) (hr : Rd w A (u8s bs)) (hb : ByOk bs) (hl : bs.length ≤ 65537) :
    Calls Try.prog 43 #[.slice A bs.length c] w (ReDrawn w) := by
  have hC := CurS.new w A bs c 75 hr hb (by omega)
  go_enter Try.func43, Try.ntmps43
  go_wp2_with fail
  refine (row_c _ _ _ hC (by omega)).mono ?_
  rintro e w2 ⟨n, u, d, rfl, ⟨nb, ub, db⟩, hc, hg⟩
  clear hC hr hb hl
  have hgs := hg.size
  simp only [World.size_alloc] at hgs
  obtain ⟨g, hge⟩ : ∃ g, g = w.heap.size := ⟨_, rfl⟩
  have hgw : g < w2.heap.size := by omega
  have HG := Lib.hid hg
  have HGE := Lib.hid hge
  rw [← hge] at hc ⊢
  have b0 : Below w2.heap.size w2 (w2.alloc (.cells #[] 24)) := (Below.refl _ _).alloc (Nat.le_refl _) _
  have d0 : DrE w2 (w2.alloc (.cells #[] 24)) g (0 + 6) (some ⟨w2.heap.size, 0, none⟩) 0 [] (fun _ => []) 0 := ⟨OwnV.lit 24 w2 [] (by decide), HeadsT.nil _ _ _, fun k hk => by omega, hc.below b0, grown_of_below b0 _⟩
  clear hc hg hge hgs b0
  go_wp2_with fail
  go_loopw [10, 11] (fun o q wr => ∃ (t : Nat) (A : Option Addr) (c : Nat) (H : List Value) (f : Nat → List Int), q = .int .i64 (t : Int) ∧ t ≤ 6 ∧ o = .slice A t c ∧ DrE w2 wr g (6 + 100 * (t : Int)) A c H f t) (fun _ q _ => (n + 1 - intOf q).toNat)
  case atStart => exact ⟨0, _, _, [], _, rfl, by omega, rfl, d0.mono (by omega)⟩
  case round =>
    clear d0
    obtain ⟨v, rfl⟩ : ∃ v : World, v = wr := ⟨_, rfl⟩
    obtain ⟨t, A, c, H, f, rfl, ht, rfl, d⟩ := hrel
    have D := Lib.hid d
    have hlen := Lib.hid d.hd.len
    have hgv := d.gr.size
    by_cases hlt : (t : Int) ≤ n
    · obtain ⟨t1, ht1⟩ : ∃ t1 : Nat, t1 = t + 1 := ⟨_, rfl⟩
      have e1 : IntKind.i64.wrap ((t : Int) + 1) = (t1 : Int) := by rw [ht1]; exact IntWalk.i64_in _ (by omega)
      have ht6 : t1 ≤ 6 := by omega
      have HT1 := Lib.hid ht1
      clear ht1
      go_wp2_with fail
      refine (somePays_c g _ t1 _ D.out.cur (by omega) (by omega)).mono ?_
      rintro e v2 ⟨a3, c3, xs, rfl, hx30, ho, hc, hg⟩
      have hgv2 := hg.size
      have bl : Below v2.heap.size v2 (v2.alloc (.cells #[.slice a3 xs.length c3] 24)) := (Below.refl _ _).alloc (Nat.le_refl _) _
      have hk2 := grown_low hg bl
      have ho2 := Lib.hid (ho.below bl)
      have d2 := D.out.cur_ hgw hk2 (hc.below bl)
      have O2 := Lib.hid d2.own
      clear d
      go_wp2_with (at_builtin; refine wp_append_oneV 59 24 Try.underlying59 row_infoE _ rfl _ _ rfl w2.heap.size A t c H rfl hlen.out.symm O2.out v2.heap.size 1 (.slice a3 xs.length c3) rfl (by simp) rfl (by rw [hlen.out]; omega) (by simp; omega) ?_; intro g13 c13 v13 o13 G13 t13)
      obtain ⟨f', d3⟩ := D.out.push hgw hk2 hx30 ho2.out (hc.below bl) o13 G13 (by
        rcases t13 with t | t
        · exact .inl t
        · exact .inr ⟨_, rfl, by show _ ≤ g13; omega⟩)
      obtain rfl := HT1.out
      go_roundw
      case rel => exact ⟨t + 1, _, c13, _, f', by go_num, by omega, rfl, d3.mono (by omega)⟩
      case measure => simp [intOf] <;> omega
    · have ht7 : t ≤ 6 := ht
      go_wp2_with fail
      refine (one_c g _ 30 _ D.out.cur (by omega) (by omega)).mono ?_
      rintro e v2 ⟨u9, rfl, ⟨q, rfl⟩, hc, hg⟩
      have d2 := D.out.cur_ hgw hg hc
      clear d
      cases q
      · go_wp2_with fail
        have P := d2.post (M := 1000) (m := 7) hgw (by omega) (by omega)
        obtain rfl := HGE.out
        exact bodyPost_ret (v := .tuple #[.int .i64 n, .int .i64 u, .int .i64 d, .slice A t c]) (by simp [results, Try.results43, go_sem]) rfl (tab_drawn HG.out P)
      · have D2 := Lib.hid d2
        have b1 : Below v2.heap.size v2 (v2.alloc (.cells #[] 3)) := (Below.refl _ _).alloc (Nat.le_refl _) _
        have b2 : Below v2.heap.size v2 ((v2.alloc (.cells #[] 3)).alloc (.cells #[.slice (some ⟨v2.heap.size, 0, none⟩) 0 0] 24)) := b1.alloc (by simp) _
        have ho := Lib.hid ((Own.lit0 v2 v2.heap.size rfl).alloc (.cells #[.slice (some ⟨v2.heap.size, 0, none⟩) 0 0] 24))
        have hgv2 := d2.gr.size
        have d3 := d2.below b2
        have O2 := Lib.hid d3.own
        have HC2 := Lib.hid d3.cur
        clear b1 d2 d3
        go_wp2_with (at_builtin; refine wp_append_oneV 59 24 Try.underlying59 row_infoE _ rfl _ _ rfl w2.heap.size A t c H rfl hlen.out.symm O2.out (v2.heap.size + 1) 1 (.slice (some ⟨v2.heap.size, 0, none⟩) 0 0) rfl (by simp) rfl (by rw [hlen.out]; omega) (by simp; omega) ?_; intro g13 c13 v13 o13 G13 t13)
        obtain ⟨f', d3⟩ := D2.out.push (xs := []) hgw (grown_of_below b2 _) (by decide) ho.out HC2.out o13 G13 (by
          rcases t13 with t | t
          · exact .inl t
          · exact .inr ⟨_, rfl, Nat.le_of_eq t.symm⟩)
        have P := d3.post (M := 1000) (m := 7) hgw (by omega) (by omega)
        obtain rfl := HGE.out
        exact bodyPost_ret (v := .tuple #[.int .i64 n, .int .i64 u, .int .i64 d, .slice _ (t + 1) c13]) (by simp [results, Try.results43, go_sem]) rfl (tab_drawn HG.out P)
end Go.Proofs.Ytnhclpajfejnoaa
