/- The draws of laws of offers. -/
import Derived.Test.YtjnllbmknblecaaCur
import Derived.Test.YtjnllbmknblecaaLists
import Derived.Test.YtjnllbmknblecaaRowN
import Derived.Test.YtjnllbmknblecaaSS
import Derived.Deep.DeepCutAuto
namespace Go.Proofs.Ytjnllbmknblecaa
open Go.RowKit

theorem grown_new {w0 w1 w2 : World} {r row : Option Nat} (h1 : w0.grownBy w1 r) (h2 : w1.grownBy w2 row) (hrow : ∀ b, row = some b → w0.heap.size ≤ b) : w0.grownBy w2 r :=
  ⟨h2.os.trans h1.os, h2.tape.trans h1.tape, h2.output.trans h1.output, Nat.le_trans h1.size h2.size, fun k hk hr => (h2.block k (Nat.lt_of_lt_of_le hk h1.size) fun e => by have := hrow k e.symm; omega).trans (h1.block k hk hr)⟩
theorem grown_low {w0 w1 w2 : World} {r : Option Nat} (h1 : w0.grownBy w1 r) (h2 : Below w1.heap.size w1 w2) : w0.grownBy w2 r := grown_new h1 (grown_of_below h2 none) (fun b e => by cases e)
theorem own_apart {w : World} {B c g : Nat} {A : Option Addr} {xs : List Int} (h : Own w B A c xs) (hg : g < B) : A = none ∨ blk A ≠ some g := by
  rcases A with _ | a
  · exact .inl rfl
  · right
    intro e
    have := h.ge g e
    omega
/-- A row of numbers has been drawn. -/
def RowPost (w : World) (g : Nat) (M : Int) (m : Nat) (e : Ending) (w' : World) : Prop := ∃ A c xs, e = .returned (.slice A xs.length c) ∧ xs.length ≤ m ∧ Own w' w.heap.size A c xs ∧ CurS w' g M ∧ w.grownBy w' (some g)
set_option maxRecDepth 20000 in
set_option maxHeartbeats 2000000 in
theorem law7_c (g : Nat) (N : Int) (w : World) (h : CurS w g N) (hN : N ≤ 900000) :
    Calls Try.prog 110 #[.pointer (some ⟨g, 0, none⟩)] w (RowPost w g (N + 20) 6) := by
  have hgw : g < w.heap.size := by
    obtain ⟨_, _, _, _, _, h⟩ := h
    exact h.lt
  have o0 := Own.lit w [] (by decide)
  have b0 : Below w.heap.size w (w.alloc (.cells #[] 3)) := (Below.refl _ _).alloc (Nat.le_refl _) _
  have r1 := (Own.lit (w.alloc (.cells #[] 3)) [3, 4, 2, 5, 1] (by decide)).rd
  rw [World.size_alloc] at r1
  have b1 : Below w.heap.size w ((w.alloc (.cells #[] 3)).alloc (.cells (ints [3, 4, 2, 5, 1]).toArray 3)) := b0.alloc (by simp) _
  go_enter Try.func110, Try.ntmps110
  go_wp2_with fail
  refine (among_c g N _ [3, 4, 2, 5, 1] _ _ _ (h.below b1) (by omega) r1 (fun ad e => by injection e with e; rw [← e]; simp; omega) rfl (by decide) (by decide)).mono ?_
  rintro e w2 ⟨v, rfl, ⟨k, hk, rfl⟩, hc, hg⟩
  have nb := allB_nth (xs := [3, 4, 2, 5, 1]) (lo := 1) (hi := 5) (by decide) hk
  obtain ⟨n0, hn0⟩ : ∃ n0 : Nat, nth [3, 4, 2, 5, 1] k = (n0 : Int) := ⟨(nth [3, 4, 2, 5, 1] k).toNat, by omega⟩
  rw [hn0] at nb ⊢
  have o1 := o0.alloc (.cells (ints [3, 4, 2, 5, 1]).toArray 3)
  have ho := o1.grown hg (own_apart o1 hgw)
  have hgr : w.grownBy w2 (some g) := (grown_of_below b1 (some g)).trans hg
  clear hn0 hk r1 o0 o1 b0 b1 hg h
  go_wp2_with fail
  go_loopw [3, 4] (fun o q wr => ∃ (j : Nat) (A : Option Addr) (c : Nat) (xs : List Int), q = .int .i64 (j : Int) ∧ xs.length + j = n0 ∧ o = .slice A xs.length c ∧ Own wr w.heap.size A c xs ∧ CurS wr g (N + 2 + 2 * (5 - (j : Int))) ∧ w.grownBy wr (some g)) (fun _ q _ => (intOf q).toNat)
  case atStart => exact ⟨n0, _, _, [], rfl, by simp, rfl, ho, hc.mono (by omega), hgr⟩
  case round =>
    clear ho hc hgr
    obtain ⟨v, rfl⟩ : ∃ v : World, v = wr := ⟨_, rfl⟩
    obtain ⟨j, A, c, xs, rfl, hl, rfl, ho, hc, hgr⟩ := hrel
    have HL := Lib.hid hl
    have hln : xs.length ≤ n0 := by omega
    have hj5 : (j : Int) ≤ 5 := by omega
    by_cases hj : 0 < j
    · have r1 := (Own.lit v [1, 2, 0, 3, 1, 5] (by decide)).rd
      have b1 : Below v.heap.size v (v.alloc (.cells (ints [1, 2, 0, 3, 1, 5]).toArray 3)) := (Below.refl _ _).alloc (Nat.le_refl _) _
      have hgv := hgr.size
      clear hl
      go_wp2_with fail
      refine (among_c g _ _ [1, 2, 0, 3, 1, 5] _ _ _ (hc.below b1) (by omega) r1 (fun ad e => by injection e with e; rw [← e]; simp; omega) rfl (by decide) (by decide)).mono ?_
      rintro e v2 ⟨u, rfl, ⟨k, hk, rfl⟩, hc2, hg2⟩
      have o1 := ho.alloc (.cells (ints [1, 2, 0, 3, 1, 5]).toArray 3)
      have ho2 := o1.grown hg2 (own_apart o1 hgw)
      have hgr2 := (grown_low hgr b1).trans hg2
      have hgv2 := hgr2.size
      generalize nth [1, 2, 0, 3, 1, 5] k = y at *
      clear o1 r1 b1 hk hg2 ho hc hgr
      go_wp2_with (at_builtin; refine wp_append1 v2 y _ rfl _ _ rfl w.heap.size A xs.length c xs rfl rfl ho2 rfl (by omega) (by omega) ?_; intro A2 c2 v3 ho3 hg3 hb3)
      have hc3 := hc2.grown hg3 (fun b e => by have := ho2.ge b e; omega)
      have hgr3 := grown_new hgr2 hg3 (fun b e => ho2.ge b e)
      go_roundw
      case rel => exact ⟨j - 1, A2, c2, xs ++ [y], by congr 1; omega, by have := HL.out; simp; omega, by simp, ho3, hc3.mono (by omega), hgr3⟩
      case measure => simp [intOf] <;> omega
    · have hxl : 0 < xs.length := by omega
      obtain ⟨ga, rfl, hga, hga2⟩ := ho.form hxl
      have hgv := hgr.size
      clear hl
      go_wp2_with fail
      refine (pick_c g _ 40 _ hc (by omega) (by omega)).mono ?_
      rintro e v2 ⟨u, rfl, ⟨x, rfl, hx0, hx1⟩, hc2, hg2⟩
      have ho2 := ho.grown hg2 (own_apart ho hgw)
      have hgr2 := hgr.trans hg2
      have hgv2 := hgr2.size
      clear hc ho hgr hg2 hga2
      by_cases e0 : x = 0
      · subst e0
        have r1 := (Own.lit v2 [-1, 5, 6, 4611686018427387904] (by decide)).rd
        have b1 : Below v2.heap.size v2 (v2.alloc (.cells (ints [-1, 5, 6, 4611686018427387904]).toArray 3)) := (Below.refl _ _).alloc (Nat.le_refl _) _
        go_wp2_with fail
        refine (among_c g _ _ [-1, 5, 6, 4611686018427387904] _ _ _ (hc2.below b1) (by omega) r1 (fun ad e => by injection e with e; rw [← e]; simp; omega) rfl (by decide) (by decide)).mono ?_
        rintro e v3 ⟨u, rfl, ⟨k, hk, rfl⟩, hc3, hg3⟩
        have o1 := ho2.alloc (.cells (ints [-1, 5, 6, 4611686018427387904]).toArray 3)
        have ho3 := o1.grown hg3 (own_apart o1 hgw)
        have hgr3 := (grown_low hgr2 b1).trans hg3
        generalize nth [-1, 5, 6, 4611686018427387904] k = y at *
        have hq := ho3.cellN hxl
        have hf := ho3.frozen 0
        have hst := ho3.set 0 y
        have hc4 := hc3.grown hst.2 (fun b e => by injection e with e; omega)
        have hgr4 := grown_new hgr3 hst.2 (fun b e => by injection e with e; omega)
        clear o1 r1 b1 hk hg3 ho2 hc2 hgr2 ho3 hc3
        go_wp2_with fail
        go_ret
        exact ⟨_, c, xs.set 0 y, by simp, by simp; omega, hst.1, hc4.mono (by omega), hgr4⟩
      · by_cases e1 : x = 1
        · subst e1
          go_wp2_with fail
          refine (pick_c g _ 4 _ hc2 (by omega) (by omega)).mono ?_
          rintro e v3 ⟨u, rfl, ⟨y, rfl, hy0, hy1⟩, hc3, hg3⟩
          obtain ⟨m, rfl⟩ : ∃ m : Nat, y = (m : Int) := ⟨y.toNat, by omega⟩
          have hgr3 := hgr2.trans hg3
          clear hc2 ho2 hgr2 hg3
          go_wp2_with (at_make; refine wp_make_ints _ rfl _ _ rfl _ _ _ _ m rfl rfl rfl rfl (by omega) ?_; intro v4 o4 b4)
          have hc4 := hc3.below b4
          have hgr4 := grown_low hgr3 b4
          have hgv3 := hgr3.size
          go_ret
          exact ⟨_, _, List.replicate m 0, by simp, by simp; omega, o4.mono (by omega), hc4.mono (by omega), hgr4⟩
        · by_cases e2 : x = 2
          · subst e2
            go_wp2_with fail
            go_loopw [3] (fun o wr => ∃ (A : Option Addr) (c : Nat) (ys : List Int), ys.length ≤ 6 ∧ o = .slice A ys.length c ∧ Own wr w.heap.size A c ys ∧ CurS wr g (N + 16) ∧ w.grownBy wr (some g)) (fun o _ => match o with | .slice _ n _ => 6 - n | _ => 0)
            case atStart => exact ⟨_, c, xs, by omega, rfl, ho2, hc2.mono (by omega), hgr2⟩
            case round =>
              clear ho2 hc2 hgr2 hgv2
              obtain ⟨v4, rfl⟩ : ∃ v4 : World, v4 = wr := ⟨_, rfl⟩
              obtain ⟨A, c4, ys, hy, rfl, ho4, hc4, hgr4⟩ := hrel
              have hgv4 := hgr4.size
              by_cases hl6 : ys.length < 6
              · go_wp2_with (at_builtin; refine wp_append1 v4 1 _ rfl _ _ rfl w.heap.size A ys.length c4 ys rfl rfl ho4 rfl (by omega) (by omega) ?_; intro A2 c2 v5 ho5 hg5 hb5)
                have hc5 := hc4.grown hg5 (fun b e => by have := ho4.ge b e; omega)
                have hgr5 := grown_new hgr4 hg5 (fun b e => ho4.ge b e)
                go_roundw
                case rel => exact ⟨A2, c2, ys ++ [1], by simp; omega, by simp, ho5, hc5, hgr5⟩
                case measure => simp <;> omega
              · go_wp2_with fail
                go_ret
                exact ⟨A, c4, ys, rfl, hy, ho4, hc4.mono (by omega), hgr4⟩
          · have h0 : (x == 0) = false := by simp [e0]
            have h1 : (x == 1) = false := by simp [e1]
            have h2 : (x == 2) = false := by simp [e2]
            clear e0 e1 e2
            go_wp2_with fail
            go_ret
            exact ⟨_, c, xs, rfl, by omega, ho2, hc2.mono (by omega), hgr2⟩
theorem row_info : (Try.prog.info? 22).map (fun i => (i.zero, i.size, i.bytes)) = some (some (.slice none 0 0), 1, 24) := by kernel_rfl
/-- Rows have been drawn: heads of the call's own, rows behind them. -/
structure DrR (w0 w : World) (g : Nat) (N : Int) (A : Option Addr) (c : Nat) (H : List Value) (f : Nat → List Int) (n : Nat) : Prop where
  own : OwnV 22 w w0.heap.size A c H
  hd : HeadsT Lies0 w (fun b => b ≤ g ∨ blk A = some b) H n f
  sz : ∀ k, k < n → (f k).length ≤ 6
  cur : CurS w g N
  gr : w0.grownBy w (some g)
/-- Rows that are read, of bounded lengths. -/
def RowsPost (w : World) (g : Nat) (M : Int) (m : Nat) (e : Ending) (w' : World) : Prop := ∃ A c xss, e = .returned (.slice A xss.length c) ∧ (∀ w2, w'.grownBy w2 (some g) → RdSS w2 A xss) ∧ xss.length ≤ m ∧ (∀ k, k < xss.length → (rowAt xss k).length ≤ 6) ∧ CurS w' g M ∧ w.grownBy w' (some g)
theorem DrR.push {w0 w w2 w' : World} {g c n : Nat} {N M : Int} {A A2 : Option Addr} {c2 c3 : Nat} {H : List Value} {f : Nat → List Int} {xs : List Int} (h : DrR w0 w g N A c H f n) (hg0 : g < w0.heap.size)
    (hk : w.grownBy w2 (some g)) (hx : xs.length ≤ 6) {a3 : Option Addr} (ho : Own w2 w.heap.size a3 c3 xs) (hc : CurS w2 g M)
    (o : OwnV 22 w' w0.heap.size A2 c2 (H ++ [.slice a3 xs.length c3])) (gr : w2.grownBy w' (blk A)) (t : blk A2 = blk A ∨ ∃ r, blk A2 = some r ∧ w2.heap.size ≤ r) :
    ∃ f', DrR w0 w' g M A2 c2 (H ++ [.slice a3 xs.length c3]) f' (n + 1) := by
  have hge := h.own.ltk
  have hgs := h.gr.size
  have k1 : Kept w w2 (fun b => b ≤ g ∨ blk A = some b) := Kept.of_grown hk (fun b e => .inl (by injection e with e; omega))
  have h1 := h.hd.keep stays0 k1
  have hD : ∀ b, (b ≤ g ∨ blk A2 = some b) → (b ≤ g ∨ blk A = some b) ∨ blk A2 = some b := fun b hb => by
    rcases hb with hb | hb
    · exact .inl (.inl hb)
    · exact .inr hb
  have l1 : Lies0 w2 (fun b => b ≤ g ∨ blk A = some b) (.slice a3 xs.length c3) xs := ho.lies fun b hb hd => by
    have h1 := ho.ge b hb
    rcases hd with hd | hd
    · omega
    · have := (hge b hd).2
      omega
  have hcong : HeadsT Lies0 w2 (fun b => b ≤ g ∨ blk A = some b) H n (fun k => if k < n then f k else xs) := ⟨h1.len, fun j hj => by
    obtain ⟨v, e1, e2⟩ := h1.at_ j hj
    exact ⟨v, e1, by rw [if_pos hj]; exact e2⟩⟩
  refine ⟨fun k => if k < n then f k else xs, o, ?_, fun k hk' => ?_, hc.grown gr (fun b e => by have := (hge b e).1; omega), grown_new (h.gr.trans hk) gr (fun b e => (hge b e).1)⟩
  · refine (hcong.push stays0 gr (fun b hb => .inr hb) t hD).snoc (push_keep stays0 ?_ gr (fun b hb => .inr hb) t hD)
    rw [if_neg (Nat.lt_irrefl n)]
    exact l1
  · by_cases h' : k < n
    · rw [if_pos h']; exact h.sz k h'
    · rw [if_neg h']; exact hx
theorem DrR.below {w0 w w' : World} {g c n : Nat} {N : Int} {A : Option Addr} {H : List Value} {f : Nat → List Int} (h : DrR w0 w g N A c H f n) (hb : Below w.heap.size w w') : DrR w0 w' g N A c H f n :=
  ⟨h.own.below hb, h.hd.keep stays0 (.of_below hb), h.sz, h.cur.below hb, grown_low h.gr hb⟩
theorem DrR.cur_ {w0 w w' : World} {g c n : Nat} {N M : Int} {A : Option Addr} {H : List Value} {f : Nat → List Int} (h : DrR w0 w g N A c H f n) (hg0 : g < w0.heap.size) (hk : w.grownBy w' (some g)) (hc : CurS w' g M) : DrR w0 w' g M A c H f n :=
  ⟨h.own.grown hk (by
    rcases A with _ | a
    · exact .inl rfl
    · right
      intro e
      have := (h.own.ltk g e).1
      omega), h.hd.keep stays0 (Kept.of_grown hk (fun b e => .inl (by injection e with e; omega))), h.sz, hc, h.gr.trans hk⟩
theorem DrR.mono {w0 w : World} {g c n : Nat} {N M : Int} {A : Option Addr} {H : List Value} {f : Nat → List Int} (h : DrR w0 w g N A c H f n) (hN : N ≤ M) : DrR w0 w g M A c H f n := ⟨h.own, h.hd, h.sz, h.cur.mono hN, h.gr⟩
theorem DrR.post {w0 w : World} {g c n m : Nat} {N M : Int} {A : Option Addr} {H : List Value} {f : Nat → List Int} (h : DrR w0 w g N A c H f n) (hg0 : g < w0.heap.size) (hN : N ≤ M) (hn : n ≤ m) : RowsPost w0 g M m (.returned (.slice A n c)) w := by
  refine ⟨A, c, (List.range n).map f, by simp, fun w2 hw2 k hk => ?_, by simp; exact hn, fun k hk => ?_, h.cur.mono hN, h.gr⟩
  · have hown := h.own.grown hw2 (by
      rcases A with _ | a
      · exact .inl rfl
      · right
        intro e
        have := (h.own.ltk g e).1
        omega)
    have hhd := h.hd.keep stays0 (Kept.of_grown hw2 (fun b e => .inl (by injection e with e; omega)))
    have hk' : k < n := by simpa using hk
    have hf : rowAt ((List.range n).map f) k = f k := by simp [rowAt, hk']
    obtain ⟨g', rfl, _, _⟩ := hown.form (by rw [hhd.len]; omega)
    obtain ⟨v, h1, a, c', rfl, h3, _⟩ := hhd.at_ k hk'
    exact ⟨_, a, c', rfl, by rw [Addr.add_lit, Nat.zero_add, hf]; exact hown.cell h1, by rw [hf]; exact h3⟩
  · have hk' : k < n := by simpa using hk
    have hf : rowAt ((List.range n).map f) k = f k := by simp [rowAt, hk']
    rw [hf]
    exact h.sz k hk'
set_option maxRecDepth 20000 in
set_option maxHeartbeats 2000000 in
theorem laws7_c (g : Nat) (N : Int) (w : World) (h : CurS w g N) (hN : N ≤ 800000) :
    Calls Try.prog 92 #[.pointer (some ⟨g, 0, none⟩)] w (RowsPost w g (N + 200) 5) := by
  have hgw : g < w.heap.size := by
    obtain ⟨_, _, _, _, _, h⟩ := h
    exact h.lt
  have b0 : Below w.heap.size w (w.alloc (.cells #[] 22)) := (Below.refl _ _).alloc (Nat.le_refl _) _
  have d0 : DrR w (w.alloc (.cells #[] 22)) g N (some ⟨w.heap.size, 0, none⟩) 0 [] (fun _ => []) 0 := ⟨OwnV.lit 22 w [] (by decide), HeadsT.nil _ _ _, fun k hk => by omega, h.below b0, grown_of_below b0 _⟩
  have r1 := (Own.lit (w.alloc (.cells #[] 22)) [2, 3, 1, 4, 3, 0] (by decide)).rd
  rw [World.size_alloc] at r1
  have b1 : Below (w.alloc (.cells #[] 22)).heap.size (w.alloc (.cells #[] 22)) ((w.alloc (.cells #[] 22)).alloc (.cells (ints [2, 3, 1, 4, 3, 0]).toArray 3)) := (Below.refl _ _).alloc (Nat.le_refl _) _
  have d1 := d0.below b1
  go_enter Try.func92, Try.ntmps92
  go_wp2_with fail
  refine (among_c g N _ [2, 3, 1, 4, 3, 0] _ _ _ d1.cur (by omega) r1 (fun ad e => by injection e with e; rw [← e]; simp; omega) rfl (by decide) (by decide)).mono ?_
  rintro e w2 ⟨v, rfl, ⟨k, hk, rfl⟩, hc, hg⟩
  have nb := allB_nth (xs := [2, 3, 1, 4, 3, 0]) (lo := 0) (hi := 4) (by decide) hk
  obtain ⟨n0, hn0⟩ : ∃ n0 : Nat, nth [2, 3, 1, 4, 3, 0] k = (n0 : Int) := ⟨(nth [2, 3, 1, 4, 3, 0] k).toNat, by omega⟩
  rw [hn0] at nb ⊢
  have d2 := d1.cur_ hgw hg hc
  clear hn0 hk r1 b0 b1 hg h d0 d1 hc
  go_wp2_with fail
  go_loopw [3, 4] (fun o q wr => ∃ (j n : Nat) (A : Option Addr) (c : Nat) (H : List Value) (f : Nat → List Int), q = .int .i64 (j : Int) ∧ n + j ≤ 4 ∧ o = .slice A n c ∧ DrR w wr g (N + 2 + 30 * (n : Int)) A c H f n) (fun _ q _ => (intOf q).toNat)
  case atStart => exact ⟨n0, 0, _, _, [], _, rfl, by omega, rfl, d2.mono (by omega)⟩
  case round =>
    clear d2
    obtain ⟨v, rfl⟩ : ∃ v : World, v = wr := ⟨_, rfl⟩
    obtain ⟨j, n, A, c, H, f, rfl, hl, rfl, d⟩ := hrel
    have HL := Lib.hid hl
    have D := Lib.hid d
    have hlen := Lib.hid d.hd.len
    have hj5 : (j : Int) ≤ 5 := by omega
    have hgv := d.gr.size
    have hn4 : n ≤ 4 := by omega
    clear hl
    by_cases hj : 0 < j
    · go_wp2_with fail
      refine (law7_c g _ _ D.out.cur (by omega)).mono ?_
      rintro e v2 ⟨a3, c3, xs, rfl, hx6, ho, hc, hg⟩
      have hgv2 := hg.size
      have bl : Below v2.heap.size v2 (v2.alloc (.cells #[.slice a3 xs.length c3] 22)) := (Below.refl _ _).alloc (Nat.le_refl _) _
      have hk2 := grown_low hg bl
      have ho2 := Lib.hid (ho.below bl)
      have d2 := D.out.cur_ hgw hk2 (hc.below bl)
      have O2 := Lib.hid d2.own
      clear d
      go_wp2_with (at_builtin; refine wp_append_oneV 30 22 Try.underlying30 row_info _ rfl _ _ rfl w.heap.size A n c H rfl hlen.out.symm O2.out v2.heap.size 1 (.slice a3 xs.length c3) rfl (by simp) rfl (by rw [hlen.out]; omega) (by simp; omega) ?_; intro g13 c13 v13 o13 G13 t13)
      obtain ⟨f', d3⟩ := D.out.push hgw hk2 hx6 ho2.out (hc.below bl) o13 G13 (by
        rcases t13 with t | t
        · exact .inl t
        · exact .inr ⟨_, rfl, by show _ ≤ g13; omega⟩)
      go_roundw
      case rel => exact ⟨j - 1, n + 1, _, c13, _, f', by congr 1; omega, by have := HL.out; omega, rfl, d3.mono (by omega)⟩
      case measure => simp [intOf] <;> omega
    · go_wp2_with fail
      refine (one_c g _ 30 _ D.out.cur (by omega) (by omega)).mono ?_
      rintro e v2 ⟨u, rfl, ⟨q, rfl⟩, hc, hg⟩
      have d2 := D.out.cur_ hgw hg hc
      clear d
      cases q
      · go_wp2_with fail
        go_ret
        exact d2.post hgw (by omega) (by omega)
      · have d3 := d2.mono (M := N + 200) (by omega)
        clear d2 hc hg
        go_wp2_with fail
        go_loopw [3] (fun o wr => ∃ (n : Nat) (A : Option Addr) (c : Nat) (H : List Value) (f : Nat → List Int), n ≤ 5 ∧ o = .slice A n c ∧ DrR w wr g (N + 200) A c H f n) (fun o _ => match o with | .slice _ n _ => 5 - n | _ => 0)
        case atStart => exact ⟨n, A, c, H, f, by omega, rfl, d3⟩
        case round =>
          clear d3 D hlen
          obtain ⟨y, rfl⟩ : ∃ y : World, y = wr := ⟨_, rfl⟩
          obtain ⟨n, A, c, H, f, hn5, rfl, d⟩ := hrel
          have D := Lib.hid d
          have hlen := Lib.hid d.hd.len
          have hgv := d.gr.size
          by_cases hl5 : n < 5
          · have b1 : Below y.heap.size y (y.alloc (.cells (ints [1, 1]).toArray 3)) := (Below.refl _ _).alloc (Nat.le_refl _) _
            have b2 : Below y.heap.size y ((y.alloc (.cells (ints [1, 1]).toArray 3)).alloc (.cells #[.slice (some ⟨y.heap.size, 0, none⟩) 2 2] 22)) := b1.alloc (by simp) _
            have ho := Lib.hid ((Own.lit y [1, 1] (by decide)).alloc (.cells #[.slice (some ⟨y.heap.size, 0, none⟩) 2 2] 22))
            have d2 := D.out.below b2
            have O2 := Lib.hid d2.own
            have HC2 := Lib.hid d2.cur
            clear d b1 d2
            go_wp2_with (at_builtin; refine wp_append_oneV 30 22 Try.underlying30 row_info _ rfl _ _ rfl w.heap.size A n c H rfl hlen.out.symm O2.out (y.heap.size + 1) 1 (.slice (some ⟨y.heap.size, 0, none⟩) 2 2) rfl (by simp) rfl (by rw [hlen.out]; omega) (by simp; omega) ?_; intro g13 c13 v13 o13 G13 t13)
            obtain ⟨f', d3⟩ := D.out.push (xs := [1, 1]) hgw (grown_of_below b2 _) (by decide) ho.out HC2.out o13 G13 (by
              rcases t13 with t | t
              · exact .inl t
              · exact .inr ⟨_, rfl, Nat.le_of_eq t.symm⟩)
            go_roundw
            case rel => exact ⟨n + 1, _, c13, _, f', by omega, rfl, d3⟩
            case measure => simp <;> omega
          · go_wp2_with fail
            go_ret
            exact D.out.post hgw (Int.le_refl _) (by omega)
end Go.Proofs.Ytjnllbmknblecaa
