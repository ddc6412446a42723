/- The draws of words, whole. -/
import Derived.Test.YtbgkeecndagkgaaDr9
import Derived.OwnWalk
namespace Go.Proofs.Ytbgkeecndagkgaa
open Go.RowKit

theorem below_box9 {w w1 w2 : World} {o : Obj} (h1 : w1 = w.alloc o) (h : w1.grownBy w2 (some w.heap.size)) : Below w.heap.size w w2 := by
  subst h1
  exact ((Below.refl _ _).alloc (Nat.le_refl _) o).grown h (by simp) (fun b e => by injection e with e; omega)
/-- A number, a row and a number have been drawn. -/
def FfDrawn (w : World) (e : Ending) (w' : World) : Prop := ∃ f A c xs n, e = .returned (.tuple #[.int .i64 f, .slice A xs.length c, .int .i64 n]) ∧ Rd w' A (ints xs) ∧ xs.length ≤ 9 ∧ xs.length ≤ c ∧ Below w.heap.size w w'
/-- A number and two rows have been drawn. -/
def TwDrawn (w : World) (e : Ending) (w' : World) : Prop := ∃ f A c xs B d ys, e = .returned (.tuple #[.int .i64 f, .slice A xs.length c, .slice B ys.length d]) ∧ Rd w' A (ints xs) ∧ xs.length ≤ 9 ∧ xs.length ≤ c ∧ Rd w' B (ints ys) ∧ ys.length ≤ 16 ∧ ys.length ≤ d ∧ Below w.heap.size w w'
set_option maxRecDepth 20000 in
set_option maxHeartbeats 1000000 in
theorem drawFf_c (A : Option Addr) (bs : List Int) (c : Nat) (w : World) (hr : Rd w A (u8s bs)) (hb : ByOk bs) (hl : bs.length ≤ 65537) :
    Calls Try.prog 5 #[.slice A bs.length c] w (FfDrawn w) := by
  have hC := CurS.new w A bs c 45 hr hb (by omega)
  go_enter Try.func5, Try.ntmps5
  go_wp2_with fail
  refine (die9_c _ _ _ hC (by omega)).mono ?_
  rintro e w1 ⟨v, rfl, ⟨f, rfl⟩, hc1, hg1⟩
  have hz1 := hg1.size
  clear hC
  go_wp2_with fail
  refine (word9_c _ f _ _ hc1 (by omega)).mono ?_
  rintro e w2 ⟨A2, c2, xs, rfl, hx9, ho, hc2, hg2⟩
  have hz2 := hg2.size
  have hz0 : w.heap.size + 1 ≤ w2.heap.size := by simp at hz1; omega
  have bl : Below w2.heap.size w2 (w2.alloc (.cells (ints [5, 4, 6, 3, 8, 0, 9, -1]).toArray 3)) := (Below.refl _ _).alloc (Nat.le_refl _) _
  have r1 := (Own.lit w2 [5, 4, 6, 3, 8, 0, 9, -1] (by decide)).rd
  go_wp2_with fail
  refine (pick_c _ _ 24 _ (hc2.below bl) (by omega) (by omega)).mono ?_
  rintro e w3 ⟨v, rfl, ⟨x, rfl, hx0, hx1⟩, hc3, hg3⟩
  obtain ⟨q, hq⟩ : ∃ q : Nat, x / 11 = (q : Int) := ⟨(x / 11).toNat, by omega⟩
  have hq2 : q ≤ 2 := by omega
  obtain ⟨m, hm⟩ : ∃ m : Nat, m = 6 + q := ⟨_, rfl⟩
  have e1 : IntKind.i64.wrap (6 + (q : Int)) = (m : Int) := by rw [IntWalk.i64_in _ (by omega)]; omega
  have e2 : (6 : Int) + (q : Int) = (m : Int) := by omega
  have r3 := r1.grown hg3 (fun ad e e2 => by injection e with e; rw [← e] at e2; injection e2 with e2; simp at e2; omega)
  have r4 := Lib.hid (r3.takeI (k := m))
  have hm8 : m ≤ 8 := by omega
  have im : (m : Int) ≤ 8 := by omega
  have HT : Hid ((([5, 4, 6, 3, 8, 0, 9, -1] : List Int).take m).length = m) := Lib.hid (by rw [List.length_take]; simp; omega)
  clear r1 r3 hm
  go_wp2_with fail
  refine (among_c _ _ _ (([5, 4, 6, 3, 8, 0, 9, -1] : List Int).take m) _ _ _ hc3 (by omega) r4.out (fun ad e => by injection e with e; rw [← e]; simp; omega) HT.out.symm (by rw [HT.out]; omega) (by rw [HT.out]; omega)).mono ?_
  rintro e w4 ⟨v, rfl, ⟨k, hk, rfl⟩, hc4, hg4⟩
  have ho4 := (ho.below bl).grown (hg3.trans hg4) (own_apart (ho.below bl) (by simp at hz1; omega))
  have hgg : (w.alloc (.cells #[.slice A bs.length c, .int .i64 0, .int .u64 0] 45)).grownBy w4 (some w.heap.size) := (grown_low (hg1.trans hg2) bl).trans (hg3.trans hg4)
  go_wp2_with fail
  go_ret3
  exact ⟨f, A2, c2, xs, _, rfl, ho4.rd, hx9, ho4.cap, below_box9 rfl hgg⟩
set_option maxRecDepth 20000 in
set_option maxHeartbeats 4000000 in
theorem drawTw_c (A : Option Addr) (bs : List Int) (c : Nat) (w : World) (hr : Rd w A (u8s bs)) (hb : ByOk bs) (hl : bs.length ≤ 65537) :
    Calls Try.prog 10 #[.slice A bs.length c] w (TwDrawn w) := by
  have hC := CurS.new w A bs c 45 hr hb (by omega)
  go_enter Try.func10, Try.ntmps10
  go_wp2_with fail
  refine (die9_c _ _ _ hC (by omega)).mono ?_
  rintro e w1 ⟨v, rfl, ⟨f, rfl⟩, hc1, hg1⟩
  have hz1 := hg1.size
  clear hC
  go_wp2_with fail
  refine (word9_c _ f _ _ hc1 (by omega)).mono ?_
  rintro e w2 ⟨A2, c2, xs, rfl, hx9, ho, hc2, hg2⟩
  have hgw : w.heap.size < w1.heap.size := by simp at hz1; omega
  obtain ⟨g, hg⟩ : ∃ g, g = w.heap.size := ⟨_, rfl⟩
  have hb2 : Below w.heap.size w w2 := below_box9 rfl (hg1.trans hg2)
  have hz2 := hg2.size
  rw [← hg] at hc2 hgw
  have hcap := ho.cap
  have hgz : g < w2.heap.size := by omega
  have o0 := Own.lit w2 [] (by decide)
  have bl : Below w2.heap.size w2 (w2.alloc (.cells #[] 3)) := (Below.refl _ _).alloc (Nat.le_refl _) _
  have hc2 := hc2.below bl
  have hap := own_apart ho hgw
  clear hc1 hr hb
  subst hg
  go_wp2_with fail
  refine (pick_c _ _ 6 _ hc2 (by omega) (by omega)).mono ?_
  rintro e w3 ⟨v, rfl, ⟨x, rfl, hx0, hx1⟩, hc3, hg3⟩
  obtain ⟨n0, rfl⟩ : ∃ n0 : Nat, x = (n0 : Int) := ⟨x.toNat, by omega⟩
  have ho3 := o0.grown hg3 (own_apart o0 hgz)
  have hg3' := (grown_of_below bl (some w.heap.size)).trans hg3
  have hn6 : n0 ≤ 6 := by omega
  clear hg3 o0 bl hx0 hx1
  go_wp2_with fail
  go_loopw [8, 9] (fun o q wr => ∃ (j : Nat) (A : Option Addr) (c : Nat) (ys : List Int), q = .int .i64 (j : Int) ∧ ys.length + j = n0 ∧ o = .slice A ys.length c ∧ Own wr w2.heap.size A c ys ∧ CurS wr w.heap.size (70 + 2 * (6 - (j : Int))) ∧ w2.grownBy wr (some w.heap.size)) (fun _ q _ => (intOf q).toNat)
  case atStart => exact ⟨n0, _, _, [], rfl, by simp, rfl, ho3, hc3.mono (by omega), hg3'⟩
  case round =>
    clear ho3 hc3 hg3' hc2
    obtain ⟨v, rfl⟩ : ∃ v : World, v = wr := ⟨_, rfl⟩
    obtain ⟨j, B, d, ys, rfl, hl, rfl, hq, hc, hgr⟩ := hrel
    have HL := Lib.hid hl
    have hln : ys.length ≤ n0 := by omega
    have hj5 : (j : Int) ≤ 6 := by omega
    have hgv := hgr.size
    by_cases hj : 0 < j
    · clear hl
      go_wp2_with fail
      refine (l1Most_c 1 f v).mono ?_
      rintro e w' ⟨rfl, rfl⟩
      go_wp2_with fail
      refine (l1Least_c 3 _ v).mono ?_
      rintro e w' ⟨rfl, rfl⟩
      have hm3 := mnI_le 3 (mxI 1 f)
      generalize mnI 3 (mxI 1 f) = q at *
      go_wp2_with fail
      refine (pick_c _ _ q _ hc (by omega) (by omega)).mono ?_
      rintro e v2 ⟨u, rfl, ⟨y, rfl, hy0, hy1⟩, hc2, hg2⟩
      have ho2 := hq.grown hg2 (own_apart hq hgz)
      have hgr2 := hgr.trans hg2
      have hgv2 := hgr2.size
      clear hg2 hq hc hgr hm3 hy0 hy1
      go_wp2_with (at_builtin; refine wp_append1 v2 y _ rfl _ _ rfl w2.heap.size B ys.length d ys rfl rfl ho2 rfl (by omega) (by omega) ?_; intro B2 d2 v3 ho3 hg3 hb3)
      have hc3 := hc2.grown hg3 (fun b e => by have := ho2.ge b e; omega)
      have hgr3 := grown_new hgr2 hg3 (fun b e => ho2.ge b e)
      go_roundw
      case rel => exact ⟨j - 1, B2, d2, ys ++ [y], by congr 1; omega, by have := HL.out; simp; omega, by simp, ho3, hc3.mono (by omega), hgr3⟩
      case measure => simp [intOf] <;> omega
    · clear hl
      go_wp2_with fail
      refine (one_c _ _ 2 _ hc (by omega) (by omega)).mono ?_
      rintro e v2 ⟨u, rfl, ⟨b, rfl⟩, hc2, hg2⟩
      have ho2 := hq.grown hg2 (own_apart hq hgz)
      have hgr2 := hgr.trans hg2
      have hgv2 := hgr2.size
      clear hc hq hgr hg2
      have key : ∀ (v : World) (B : Option Addr) (d : Nat) (ys : List Int) (N : Int), ys.length ≤ 15 → N ≤ 200 → Own v w2.heap.size B d ys → CurS v w.heap.size N → w2.grownBy v (some w.heap.size) → True := fun _ _ _ _ _ _ _ _ _ _ => trivial
      clear key
      cases b
      · go_wp2_with fail
        refine (one_c _ _ 2 _ hc2 (by omega) (by omega)).mono ?_
        rintro e v3 ⟨u, rfl, ⟨b, rfl⟩, hc3, hg3⟩
        have ho3 := ho2.grown hg3 (own_apart ho2 hgz)
        have hgr3 := hgr2.trans hg3
        have hgv3 := hgr3.size
        clear hc2 ho2 hgr2 hg3
        cases b
        · go_wp2_with fail
          go_ret3
          exact ⟨f, A2, c2, xs, B, d, ys, rfl, (ho.grown hgr3 hap).rd, hx9, hcap, ho3.rd, by omega, ho3.cap, (hb2.grown hgr3 hb2.size (fun b e => by injection e with e; omega))⟩
        · go_wp2_with fail
          refine (pick_c _ _ 2 _ hc3 (by omega) (by omega)).mono ?_
          rintro e v4 ⟨u, rfl, ⟨y, rfl, hy0, hy1⟩, hc4, hg4⟩
          have ho4 := ho3.grown hg4 (own_apart ho3 hgz)
          have hgr4 := hgr3.trans hg4
          have hgv4 := hgr4.size
          clear hg4 ho3 hc3 hgr3 hy0 hy1
          go_wp2_with (at_builtin; refine wp_append1 v4 y _ rfl _ _ rfl w2.heap.size B ys.length d ys rfl rfl ho4 rfl (by omega) (by omega) ?_; intro B2 d2 v5 ho5 hg5 hb5)
          have hgr5 := grown_new hgr4 hg5 (fun b e => ho4.ge b e)
          go_ret3
          exact ⟨f, A2, c2, xs, B2, d2, ys ++ [y], by simp, (ho.grown hgr5 hap).rd, hx9, hcap, ho5.rd, by simp; omega, ho5.cap, (hb2.grown hgr5 hb2.size (fun b e => by injection e with e; omega))⟩
      · have ha2 := (ho.grown hgr2 hap).rd
        go_wp2_with (at_builtin; refine wp_append_ints _ rfl _ _ rfl w2.heap.size B ys.length d ys rfl rfl ho2 A2 xs.length c2 xs rfl rfl ha2 (by omega) (by omega) ?_; intro B3 d3 v3 ho3 hg3 hb3)
        have hc3 := hc2.grown hg3 (fun b e => by have := ho2.ge b e; omega)
        have hgr3 := grown_new hgr2 hg3 (fun b e => ho2.ge b e)
        have hgv3 := hgr3.size
        clear ha2 hc2 hg3 ho2 hgr2 hb3
        refine (one_c _ _ 2 _ hc3 (by omega) (by omega)).mono ?_
        rintro e v4 ⟨u, rfl, ⟨b, rfl⟩, hc4, hg4⟩
        have ho4 := ho3.grown hg4 (own_apart ho3 hgz)
        have hgr4 := hgr3.trans hg4
        have hgv4 := hgr4.size
        clear hc3 ho3 hgr3 hg4
        obtain ⟨zs, hzs⟩ : ∃ zs, zs = ys ++ xs := ⟨_, rfl⟩
        have hzl : zs.length ≤ 15 := by rw [hzs]; simp; omega
        have hnl : ys.length + xs.length = zs.length := by rw [hzs]; simp
        rw [hnl]
        rw [← hzs] at ho4
        clear hzs hnl
        cases b
        · go_wp2_with fail
          go_ret3
          exact ⟨f, A2, c2, xs, B3, d3, zs, rfl, (ho.grown hgr4 hap).rd, hx9, hcap, ho4.rd, by omega, ho4.cap, (hb2.grown hgr4 hb2.size (fun b e => by injection e with e; omega))⟩
        · go_wp2_with fail
          refine (pick_c _ _ 2 _ hc4 (by omega) (by omega)).mono ?_
          rintro e v5 ⟨u, rfl, ⟨y, rfl, hy0, hy1⟩, hc5, hg5⟩
          have ho5 := ho4.grown hg5 (own_apart ho4 hgz)
          have hgr5 := hgr4.trans hg5
          have hgv5 := hgr5.size
          clear hg5 ho4 hc4 hgr4 hy0 hy1
          go_wp2_with (at_builtin; refine wp_append1 v5 y _ rfl _ _ rfl w2.heap.size B3 zs.length d3 zs rfl rfl ho5 rfl (by omega) (by omega) ?_; intro B2 d2 v6 ho6 hg6 hb6)
          have hgr6 := grown_new hgr5 hg6 (fun b e => ho5.ge b e)
          go_ret3
          exact ⟨f, A2, c2, xs, B2, d2, zs ++ [y], by simp, (ho.grown hgr6 hap).rd, hx9, hcap, ho6.rd, by simp; omega, ho6.cap, (hb2.grown hgr6 hb2.size (fun b e => by injection e with e; omega))⟩
set_option maxRecDepth 20000 in
set_option maxHeartbeats 4000000 in
theorem drawWo_c (A : Option Addr) (bs : List Int) (c : Nat) (w : World) (hr : Rd w A (u8s bs)) (hb : ByOk bs) (hl : bs.length ≤ 65537) :
    Calls Try.prog 14 #[.slice A bs.length c] w (TwDrawn w) := by
  have hC := CurS.new w A bs c 45 hr hb (by omega)
  go_enter Try.func14, Try.ntmps14
  go_wp2_with fail
  refine (die9_c _ _ _ hC (by omega)).mono ?_
  rintro e w1 ⟨v, rfl, ⟨f, rfl⟩, hc1, hg1⟩
  have hz1 := hg1.size
  clear hC
  go_wp2_with fail
  refine (word9_c _ f _ _ hc1 (by omega)).mono ?_
  rintro e w2 ⟨A2, c2, xs, rfl, hx9, ho, hc2, hg2⟩
  have hgw : w.heap.size < w1.heap.size := by simp at hz1; omega
  have hb2 : Below w.heap.size w w2 := below_box9 rfl (hg1.trans hg2)
  have hz2 := hg2.size
  have hcap := ho.cap
  have hgz : w.heap.size < w2.heap.size := by omega
  have hap := own_apart ho hgw
  clear hc1 hr hb hg1 hg2
  go_wp2_with fail
  refine (word9_c _ f _ _ hc2 (by omega)).mono ?_
  rintro e w3 ⟨B, d, ys, rfl, hy9, hq, hc3, hg3⟩
  clear hc2
  go_wp2_with fail
  go_loopw [8] (fun o wr => ∃ (A : Option Addr) (c : Nat) (ys : List Int), ys.length ≤ 9 ∧ o = .slice A ys.length c ∧ Own wr w2.heap.size A c ys ∧ CurS wr w.heap.size 60 ∧ w2.grownBy wr (some w.heap.size)) (fun o _ => match o with | .slice _ n _ => 9 - n | _ => 0)
  case atStart => exact ⟨B, d, ys, hy9, rfl, hq, hc3.mono (by omega), hg3⟩
  case round =>
    clear hq hc3 hg3 hy9
    obtain ⟨v, rfl⟩ : ∃ v : World, v = wr := ⟨_, rfl⟩
    obtain ⟨B, d, ys, hy9, rfl, hq, hc, hgr⟩ := hrel
    have hgv := hgr.size
    by_cases hyx : ys.length < xs.length
    · by_cases hy0 : 0 < ys.length
      · obtain ⟨gb, rfl, hgb, hgb2⟩ := hq.form hy0
        have q0 := hq.cellN hy0
        have iy : (ys.length : Int) < (xs.length : Int) := by omega
        have iy0 : (0 : Int) < (ys.length : Int) := by omega
        generalize nth ys 0 = y at *
        go_wp2_with (at_builtin; refine wp_append1 v y _ rfl _ _ rfl w2.heap.size (some ⟨gb, 0, none⟩) ys.length d ys rfl rfl hq rfl (by omega) (by omega) ?_; intro B2 d2 v3 ho3 hg3 hb3)
        have hc3 := hc.grown hg3 (fun b e => by have := hq.ge b e; omega)
        have hgr3 := grown_new hgr hg3 (fun b e => hq.ge b e)
        go_roundw
        case rel => exact ⟨B2, d2, ys ++ [y], by simp; omega, by simp, ho3, hc3, hgr3⟩
        case measure => simp <;> omega
      · have iy : (ys.length : Int) < (xs.length : Int) := by omega
        have iy0 : ¬ (0 : Int) < (ys.length : Int) := by omega
        go_wp2_with fail
        go_ret3
        exact ⟨f, A2, c2, xs, B, d, ys, rfl, (ho.grown hgr hap).rd, hx9, hcap, hq.rd, by omega, hq.cap, (hb2.grown hgr hb2.size (fun b e => by injection e with e; omega))⟩
    · by_cases hgt : xs.length < ys.length
      · go_wp2_with fail
        refine (one_c _ _ 8 _ hc (by omega) (by omega)).mono ?_
        rintro e v2 ⟨u, rfl, ⟨b, rfl⟩, hc2, hg2⟩
        have ho2 := hq.grown hg2 (own_apart hq hgz)
        have hgr2 := hgr.trans hg2
        cases b
        · have icap := ho2.cap
          have r2 := Lib.hid (ho2.rd.takeI (k := xs.length))
          have HT : Hid ((ys.take xs.length).length = xs.length) := Lib.hid (by rw [List.length_take]; omega)
          go_wp2_with fail
          go_ret3
          exact ⟨f, A2, c2, xs, B, d, ys.take xs.length, by rw [HT.out] <;> rfl, (ho.grown hgr2 hap).rd, hx9, hcap, r2.out, by rw [HT.out]; omega, by rw [HT.out]; omega, (hb2.grown hgr2 hb2.size (fun b e => by injection e with e; omega))⟩
        · go_wp2_with fail
          go_ret3
          exact ⟨f, A2, c2, xs, B, d, ys, rfl, (ho.grown hgr2 hap).rd, hx9, hcap, ho2.rd, by omega, ho2.cap, (hb2.grown hgr2 hb2.size (fun b e => by injection e with e; omega))⟩
      · go_wp2_with fail
        go_ret3
        exact ⟨f, A2, c2, xs, B, d, ys, rfl, (ho.grown hgr hap).rd, hx9, hcap, hq.rd, by omega, hq.cap, (hb2.grown hgr hb2.size (fun b e => by injection e with e; omega))⟩
end Go.Proofs.Ytbgkeecndagkgaa
