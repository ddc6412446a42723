/- The draws of offers, whole. -/
import Derived.Test.YtjnllbmknblecaaDr7
import Derived.Test.YtjnllbmknblecaaByt
namespace Go.Proofs.Ytjnllbmknblecaa
open Go.RowKit

/-- Rows have been drawn; what was there is as it was. -/
def RowsDrawn (w : World) (e : Ending) (w' : World) : Prop := ∃ A c xss, e = .returned (.slice A xss.length c) ∧ RdSS w' A xss ∧ SzSS xss ∧ xss.length ≤ 5 ∧ Below w.heap.size w w'
theorem below_of_box {w w1 w2 : World} {o : Obj} (h1 : w1 = w.alloc o) (h : w1.grownBy w2 (some w.heap.size)) : Below w.heap.size w w2 := by
  subst h1
  exact ((Below.refl _ _).alloc (Nat.le_refl _) o).grown h (by simp) (fun b e => by injection e with e; omega)
theorem drawn_of {w w2 : World} {o : Obj} {M : Int} {e : Ending} (h : RowsPost (w.alloc o) w.heap.size M 5 e w2) : RowsDrawn w e w2 := by
  obtain ⟨A, c, xss, he, hr, hl, hk, _, hg⟩ := h
  exact ⟨A, c, xss, he, hr _ (grown_refl _ _), ⟨by omega, fun k hk' => by have := hk k hk'; omega⟩, hl, below_of_box rfl hg⟩
set_option maxRecDepth 20000 in
set_option maxHeartbeats 1000000 in
theorem drawBest_c (A : Option Addr) (bs : List Int) (c : Nat) (w : World) (hr : Rd w A (u8s bs)) (hb : ByOk bs) (hl : bs.length ≤ 65537) :
    Calls Try.prog 91 #[.slice A bs.length c] w (RowsDrawn w) := by
  have hC := CurS.new w A bs c 93 hr hb (by omega)
  go_enter Try.func91, Try.ntmps91
  go_wp2_with fail
  refine (laws7_c _ _ _ hC (by omega)).mono ?_
  intro e w2 h
  obtain ⟨A2, c2, xss, rfl, h2⟩ := drawn_of h
  go_wp2_with fail
  go_ret
  exact ⟨A2, c2, xss, rfl, h2⟩
set_option maxRecDepth 20000 in
set_option maxHeartbeats 1000000 in
theorem drawPm_c (A : Option Addr) (bs : List Int) (c : Nat) (w : World) (hr : Rd w A (u8s bs)) (hb : ByOk bs) (hl : bs.length ≤ 65537) :
    Calls Try.prog 56 #[.slice A bs.length c] w (RowsDrawn w) := by
  go_enter Try.func56, Try.ntmps56
  go_wp2_with fail
  refine (drawBest_c A bs c w hr hb hl).mono ?_
  rintro e w2 ⟨A2, c2, xss, rfl, h2⟩
  go_wp2_with fail
  go_ret
  exact ⟨A2, c2, xss, rfl, h2⟩
def RowDrawn (w : World) (e : Ending) (w' : World) : Prop := ∃ A c xs, e = .returned (.slice A xs.length c) ∧ Rd w' A (ints xs) ∧ xs.length ≤ 6 ∧ Below w.heap.size w w'
set_option maxRecDepth 20000 in
set_option maxHeartbeats 1000000 in
theorem drawIsLaw_c (A : Option Addr) (bs : List Int) (c : Nat) (w : World) (hr : Rd w A (u8s bs)) (hb : ByOk bs) (hl : bs.length ≤ 65537) :
    Calls Try.prog 95 #[.slice A bs.length c] w (RowDrawn w) := by
  have hC := CurS.new w A bs c 93 hr hb (by omega)
  go_enter Try.func95, Try.ntmps95
  go_wp2_with fail
  refine (law7_c _ _ _ hC (by omega)).mono ?_
  rintro e w2 ⟨A2, c2, xs, rfl, hl6, ho, _, hg⟩
  go_wp2_with fail
  go_ret
  exact ⟨A2, c2, xs, rfl, ho.rd, hl6, below_of_box rfl hg⟩
set_option maxRecDepth 20000 in
set_option maxHeartbeats 1000000 in
theorem drawLm_c (A : Option Addr) (bs : List Int) (c : Nat) (w : World) (hr : Rd w A (u8s bs)) (hb : ByOk bs) (hl : bs.length ≤ 65537) :
    Calls Try.prog 59 #[.slice A bs.length c] w (RowDrawn w) := by
  go_enter Try.func59, Try.ntmps59
  go_wp2_with fail
  refine (drawIsLaw_c A bs c w hr hb hl).mono ?_
  rintro e w2 ⟨A2, c2, xs, rfl, h2⟩
  go_wp2_with fail
  go_ret
  exact ⟨A2, c2, xs, rfl, h2⟩
/-- Rows and a number have been drawn. -/
def RowsDrawnN (w : World) (e : Ending) (w' : World) : Prop := ∃ A c xss, ∃ l : Int, e = .returned (.tuple #[.slice A xss.length c, .int .i64 l]) ∧ RdSS w' A xss ∧ SzSS xss ∧ xss.length ≤ 5 ∧ Below w.heap.size w w'
set_option maxRecDepth 20000 in
set_option maxHeartbeats 1000000 in
theorem drawTh_c (A : Option Addr) (bs : List Int) (c : Nat) (w : World) (hr : Rd w A (u8s bs)) (hb : ByOk bs) (hl : bs.length ≤ 65537) :
    Calls Try.prog 57 #[.slice A bs.length c] w (RowsDrawnN w) := by
  have hC := CurS.new w A bs c 93 hr hb (by omega)
  go_enter Try.func57, Try.ntmps57
  go_wp2_with fail
  refine (laws7_c _ _ _ hC (by omega)).mono ?_
  rintro e w2 ⟨A2, c2, xss, rfl, hrd, hx5, hx6, hc2, hg2⟩
  have bl : Below w2.heap.size w2 (w2.alloc (.cells (ints [1, 2, 3, 0, 4, 5, 6, -1]).toArray 3)) := (Below.refl _ _).alloc (Nat.le_refl _) _
  have r1 := (Own.lit w2 [1, 2, 3, 0, 4, 5, 6, -1] (by decide)).rd
  have hgw := hg2.size
  have hz1 : w.heap.size + 1 ≤ w2.heap.size := by simpa using hgw
  go_wp2_with fail
  refine (pick_c _ _ 24 _ (hc2.below bl) (by omega) (by omega)).mono ?_
  rintro e w3 ⟨v, rfl, ⟨x, rfl, hx0, hx1⟩, hc3, hg3⟩
  obtain ⟨q, hq⟩ : ∃ q : Nat, x / 11 = (q : Int) := ⟨(x / 11).toNat, by omega⟩
  have hq2 : q ≤ 2 := by omega
  obtain ⟨m, hm⟩ : ∃ m : Nat, m = 6 + q := ⟨_, rfl⟩
  have e1 : IntKind.i64.wrap (6 + (q : Int)) = (m : Int) := by rw [IntWalk.i64_in _ (by omega)]; omega
  have e2 : (6 : Int) + (q : Int) = (m : Int) := by omega
  have r3 := r1.grown hg3 (fun ad e e2 => by injection e with e; rw [← e] at e2; injection e2 with e2; simp at e2; omega)
  have r4 := Lib.hid (r3.takeI (k := m))
  have hm8 : m ≤ 8 := by omega
  have im : (m : Int) ≤ 8 := by omega
  have HT : Hid ((([1, 2, 3, 0, 4, 5, 6, -1] : List Int).take m).length = m) := Lib.hid (by rw [List.length_take]; simp; omega)
  clear r1 r3 hm
  go_wp2_with fail
  refine (among_c _ _ _ (([1, 2, 3, 0, 4, 5, 6, -1] : List Int).take m) _ _ _ hc3 (by omega) r4.out (fun ad e => by injection e with e; rw [← e]; simp; omega) HT.out.symm (by rw [HT.out]; omega) (by rw [HT.out]; omega)).mono ?_
  rintro e w4 ⟨v, rfl, ⟨k, hk, rfl⟩, hc4, hg4⟩
  have hrr := hrd w4 ((grown_low (grown_refl w2 _) bl).trans (hg3.trans hg4))
  have hgg : (w.alloc (.cells #[.slice A bs.length c, .int .i64 0, .int .u64 0] 93)).grownBy w4 (some w.heap.size) := (grown_low hg2 bl).trans (hg3.trans hg4)
  go_wp2_with fail
  go_ret2
  exact ⟨A2, c2, xss, _, rfl, hrr, ⟨by omega, fun k hk' => by have := hx6 k hk'; omega⟩, hx5, below_of_box rfl hgg⟩
end Go.Proofs.Ytjnllbmknblecaa
