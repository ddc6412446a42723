/- The draws of words and of throws. -/
import Derived.Test.YtbgkeecndagkgaaDrB
import Derived.Test.YtbgkeecndagkgaaByt
import Derived.Test.YtbgkeecndagkgaaScal
import Derived.Test.YtbgkeecndagkgaaLists
import Derived.Deep.DeepCutAuto
namespace Go.Proofs.Ytbgkeecndagkgaa
open Go.RowKit

def mnI (a b : Int) : Int := if a < b then a else b
theorem l1Least_c (a b : Int) (w : World) : Calls Try.prog 34 #[.int .i64 a, .int .i64 b] w fun e w' => e = .returned (.int .i64 (mnI a b)) ∧ w = w' := by
  unfold mnI
  by_cases h : a < b
  · rw [if_pos h]
    go_enter Try.func34, Try.ntmps34
    go_wp2
    go_ret
    exact ⟨rfl, rfl⟩
  · rw [if_neg h]
    go_enter Try.func34, Try.ntmps34
    go_wp2
    go_ret
    exact ⟨rfl, rfl⟩
theorem mnI_le (a b : Int) : mnI a b ≤ a := by
  unfold mnI
  split <;> omega
set_option maxRecDepth 20000 in
set_option maxHeartbeats 2000000 in
theorem word9_c (g : Nat) (f N : Int) (w : World) (h : CurS w g N) (hN : N ≤ 900000) :
    Calls Try.prog 22 #[.pointer (some ⟨g, 0, none⟩), .int .i64 f] w (RowPost w g (N + 20) 9) := by
  have hgw : g < w.heap.size := by
    obtain ⟨_, _, _, _, _, h⟩ := h
    exact h.lt
  have o0 := Own.lit w [] (by decide)
  have b0 : Below w.heap.size w (w.alloc (.cells #[] 3)) := (Below.refl _ _).alloc (Nat.le_refl _) _
  have r1 := (Own.lit (w.alloc (.cells #[] 3)) [3, 2, 4, 1, 3, 6] (by decide)).rd
  rw [World.size_alloc] at r1
  have b1 : Below w.heap.size w ((w.alloc (.cells #[] 3)).alloc (.cells (ints [3, 2, 4, 1, 3, 6]).toArray 3)) := b0.alloc (by simp) _
  go_enter Try.func22, Try.ntmps22
  go_wp2_with fail
  refine (among_c g N _ [3, 2, 4, 1, 3, 6] _ _ _ (h.below b1) (by omega) r1 (fun ad e => by injection e with e; rw [← e]; simp; omega) rfl (by decide) (by decide)).mono ?_
  rintro e w2 ⟨v, rfl, ⟨k, hk, rfl⟩, hc, hg⟩
  have nb := allB_nth (xs := [3, 2, 4, 1, 3, 6]) (lo := 1) (hi := 6) (by decide) hk
  obtain ⟨n0, hn0⟩ : ∃ n0 : Nat, nth [3, 2, 4, 1, 3, 6] k = (n0 : Int) := ⟨(nth [3, 2, 4, 1, 3, 6] k).toNat, by omega⟩
  rw [hn0] at nb ⊢
  have o1 := o0.alloc (.cells (ints [3, 2, 4, 1, 3, 6]).toArray 3)
  have ho := o1.grown hg (own_apart o1 hgw)
  have hgr : w.grownBy w2 (some g) := (grown_of_below b1 (some g)).trans hg
  clear hn0 hk r1 o0 o1 b0 b1 hg h
  go_wp2_with fail
  go_loopw [5, 6] (fun o q wr => ∃ (j : Nat) (A : Option Addr) (c : Nat) (xs : List Int), q = .int .i64 (j : Int) ∧ xs.length + j = n0 ∧ o = .slice A xs.length c ∧ Own wr w.heap.size A c xs ∧ CurS wr g (N + 2 + 2 * (6 - (j : Int))) ∧ w.grownBy wr (some g)) (fun _ q _ => (intOf q).toNat)
  case atStart => exact ⟨n0, _, _, [], rfl, by simp, rfl, ho, hc.mono (by omega), hgr⟩
  case round =>
    clear ho hc hgr
    obtain ⟨v, rfl⟩ : ∃ v : World, v = wr := ⟨_, rfl⟩
    obtain ⟨j, A, c, xs, rfl, hl, rfl, ho, hc, hgr⟩ := hrel
    have HL := Lib.hid hl
    have hln : xs.length ≤ n0 := by omega
    have hj5 : (j : Int) ≤ 6 := by omega
    by_cases hj : 0 < j
    · have hgv := hgr.size
      clear hl
      go_wp2_with fail
      refine (l1Most_c 1 f v).mono ?_
      rintro e w' ⟨rfl, rfl⟩
      go_wp2_with fail
      refine (l1Least_c 3 _ v).mono ?_
      rintro e w' ⟨rfl, rfl⟩
      have hm3 := mnI_le 3 (mxI 1 f)
      generalize mnI 3 (mxI 1 f) = q at *
      go_wp2_with fail
      refine (pick_c g _ q _ hc (by omega) (by omega)).mono ?_
      rintro e v2 ⟨u, rfl, ⟨y, rfl, hy0, hy1⟩, hc2, hg2⟩
      have ho2 := ho.grown hg2 (own_apart ho hgw)
      have hgr2 := hgr.trans hg2
      have hgv2 := hgr2.size
      clear hg2 ho hc hgr hm3 hy0 hy1
      go_wp2_with (at_builtin; refine wp_append1 v2 y _ rfl _ _ rfl w.heap.size A xs.length c xs rfl rfl ho2 rfl (by omega) (by omega) ?_; intro A2 c2 v3 ho3 hg3 hb3)
      have hc3 := hc2.grown hg3 (fun b e => by have := ho2.ge b e; omega)
      have hgr3 := grown_new hgr2 hg3 (fun b e => ho2.ge b e)
      go_roundw
      case rel => exact ⟨j - 1, A2, c2, xs ++ [y], by congr 1; omega, by have := HL.out; simp; omega, by simp, ho3, hc3.mono (by omega), hgr3⟩
      case measure => simp [intOf] <;> omega
    · have hgv := hgr.size
      clear hl
      go_wp2_with fail
      refine (one_c g _ 24 _ hc (by omega) (by omega)).mono ?_
      rintro e v2 ⟨u, rfl, ⟨b, rfl⟩, hc2, hg2⟩
      have ho2 := ho.grown hg2 (own_apart ho hgw)
      have hgr2 := hgr.trans hg2
      have hgv2 := hgr2.size
      clear hc ho hgr hg2
      cases b
      · go_wp2_with fail
        go_ret
        exact ⟨_, c, xs, rfl, by omega, ho2, hc2.mono (by omega), hgr2⟩
      · have r1 := (Own.lit v2 [-1, 0, 6] (by decide)).rd
        have b1 : Below v2.heap.size v2 (v2.alloc (.cells (ints [-1, 0, 6]).toArray 3)) := (Below.refl _ _).alloc (Nat.le_refl _) _
        go_wp2_with fail
        refine (among_c g _ _ [-1, 0, 6] _ _ _ (hc2.below b1) (by omega) r1 (fun ad e => by injection e with e; rw [← e]; simp; omega) rfl (by decide) (by decide)).mono ?_
        rintro e v3 ⟨u, rfl, ⟨k, hk, rfl⟩, hc3, hg3⟩
        have o1 := ho2.alloc (.cells (ints [-1, 0, 6]).toArray 3)
        have ho3 := o1.grown hg3 (own_apart o1 hgw)
        have hgr3 := (grown_low hgr2 b1).trans hg3
        generalize nth [-1, 0, 6] k = y at *
        have hgv3 := hgr3.size
        clear o1 r1 b1 hk hg3 ho2 hc2 hgr2
        go_wp2_with (at_builtin; refine wp_append_ints _ rfl _ _ rfl w.heap.size A xs.length c xs rfl rfl (ho3.alloc _) (some ⟨v3.heap.size, 0, none⟩) 3 3 [y, 0, 0] rfl rfl (Own.lit v3 [y, 0, 0] (by simp)).rd (by simp; omega) (by simp; omega) ?_; intro A2 c2 v4 ho4 hg4 hb4)
        have hg5 := grown_of_alloc hg4
        have hc4 := hc3.grown hg5 (fun b e => by have := ho3.ge b e; omega)
        have hgr4 := grown_new hgr3 hg5 (fun b e => ho3.ge b e)
        go_ret
        exact ⟨A2, c2, xs ++ [y, 0, 0], by simp, by simp; omega, ho4, hc4.mono (by omega), hgr4⟩
theorem Own.cap {w : World} {B c : Nat} {A : Option Addr} {xs : List Int} (h : Own w B A c xs) : xs.length ≤ c := by
  rcases h.2 with ⟨h1, h0⟩ | ⟨g, cap, cur, h1, _, _, h2, h3, _⟩
  · omega
  · injection h1 with _ _ e
    omega
def IsNum (v : Value) : Prop := ∃ x : Int, v = .int .i64 x
set_option maxRecDepth 20000 in
set_option maxHeartbeats 1000000 in
theorem die9_c (g : Nat) (N : Int) (w : World) (h : CurS w g N) (hN : N ≤ 900000) :
    Calls Try.prog 21 #[.pointer (some ⟨g, 0, none⟩)] w (CurPost w g (N + 4) IsNum) := by
  have hgw : g < w.heap.size := by
    obtain ⟨_, _, _, _, _, h⟩ := h
    exact h.lt
  have bl : Below w.heap.size w (w.alloc (.cells (ints [2, 2, 3, 2, 6, 1, 4, 0, 7, -1]).toArray 3)) := (Below.refl _ _).alloc (Nat.le_refl _) _
  have r1 := (Own.lit w [2, 2, 3, 2, 6, 1, 4, 0, 7, -1] (by decide)).rd
  go_enter Try.func21, Try.ntmps21
  go_wp2_with fail
  refine (pick_c _ _ 24 _ (h.below bl) (by omega) (by omega)).mono ?_
  rintro e w3 ⟨v, rfl, ⟨x, rfl, hx0, hx1⟩, hc3, hg3⟩
  obtain ⟨q, hq⟩ : ∃ q : Nat, x / 8 = (q : Int) := ⟨(x / 8).toNat, by omega⟩
  have hq2 : q ≤ 2 := by omega
  obtain ⟨m, hm⟩ : ∃ m : Nat, m = 7 + q := ⟨_, rfl⟩
  have e1 : IntKind.i64.wrap (7 + (q : Int)) = (m : Int) := by rw [IntWalk.i64_in _ (by omega)]; omega
  have e2 : (7 : Int) + (q : Int) = (m : Int) := by omega
  have r3 := r1.grown hg3 (fun ad e e2 => by injection e with e; rw [← e] at e2; injection e2 with e2; simp at e2; omega)
  have r4 := Lib.hid (r3.takeI (k := m))
  have hm8 : m ≤ 10 := by omega
  have im : (m : Int) ≤ 10 := by omega
  have HT : Hid ((([2, 2, 3, 2, 6, 1, 4, 0, 7, -1] : List Int).take m).length = m) := Lib.hid (by rw [List.length_take]; simp; omega)
  clear r1 r3 hm
  go_wp2_with fail
  refine (among_c _ _ _ (([2, 2, 3, 2, 6, 1, 4, 0, 7, -1] : List Int).take m) _ _ _ hc3 (by omega) r4.out (fun ad e => by injection e with e; rw [← e]; simp; omega) HT.out.symm (by rw [HT.out]; omega) (by rw [HT.out]; omega)).mono ?_
  rintro e w4 ⟨v, rfl, ⟨k, hk, rfl⟩, hc4, hg4⟩
  go_wp2_with fail
  go_ret
  exact ⟨_, rfl, ⟨_, rfl⟩, hc4.mono (by omega), (grown_of_below bl (some g)).trans (hg3.trans hg4)⟩
end Go.Proofs.Ytbgkeecndagkgaa
