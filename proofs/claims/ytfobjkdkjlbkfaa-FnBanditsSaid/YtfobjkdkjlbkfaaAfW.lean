/- Sums over the children, and numbers gathered at the parents: both packages' walks. -/
import Derived.Test.YtfobjkdkjlbkfaaTreA
import Derived.Test.YtfobjkdkjlbkfaaTrA
import Derived.Test.YtfobjkdkjlbkfaaCopy
import Derived.Test.YtfobjkdkjlbkfaaButA
namespace Go.Proofs.Ytfobjkdkjlbkfaa
open Go.RowKit

set_option maxRecDepth 20000 in
set_option maxHeartbeats 1000000 in
theorem gathered_c (A1 : Option Addr) (P : List Int) (c1 : Nat) (A2 : Option Addr) (n2 c2 : Nat) (A3 : Option Addr) (xs : List Int) (c3 : Nat) (w : World) (h1 : Rd w A1 (ints P)) (h3 : Rd w A3 (ints xs)) (hp : ParOk P) (hn1 : 1 ≤ P.length) (hn : P.length ≤ 24) (hl : xs.length = P.length) (hx : ∀ i, 0 ≤ nth xs i ∧ nth xs i ≤ 20) :
    Calls Try.prog 108 #[trV A1 P.length c1 A2 n2 c2, .slice A3 xs.length c3] w (Row w (gath P xs)) := by
  have HB1 : Below w.heap.size w (w.alloc (.cells #[.slice A1 P.length c1, .slice A2 n2 c2] 26)) := (Below.refl _ _).alloc (Nat.le_refl _) _
  have bx := Bx.new w (.slice A1 P.length c1) (.slice A2 n2 c2) 26
  have HL := Lib.hid hl
  have hx1 : 1 ≤ xs.length := by omega
  have hx24 : xs.length ≤ 24 := by omega
  clear hl
  go_enter Try.func108, Try.ntmps108
  go_wp2_with fail
  refine (copied_c A3 xs c3 _ (h3.below HB1 (Nat.le_refl _)) (by omega)).mono ?_
  rintro e w2 ⟨A, c, rfl, ho, hb2⟩
  have HB2 := bUp HB1 hb2 HB1.size
  have bx2 := bx.below hb2
  obtain ⟨g, rfl, hg1, hg2⟩ := ho.form (by omega)
  have hgg : w.heap.size < g := by simp at hg1; omega
  have e5 : (xs.length : Int) - 1 = ((xs.length - 1 : Nat) : Int) := by omega
  have ho' : Own w2 (w.heap.size + 1) (some ⟨g, 0, none⟩) c (gatY P xs (xs.length - 1)) := by rw [gatY_last]; exact ho.mono (by simp)
  clear bx hb2 HB1 ho
  go_wp2
  go_loopw [6] (fun i wr => ∃ y : Nat, y < xs.length ∧ i = .int .i64 (y : Int) ∧ Own wr (w.heap.size + 1) (some ⟨g, 0, none⟩) c (gatY P xs y) ∧ Bx wr w.heap.size (.slice A1 P.length c1) (.slice A2 n2 c2) ∧ Below w.heap.size w wr) (fun i _ => (intOf i).toNat)
  case atStart => exact ⟨xs.length - 1, by omega, by simp <;> omega, ho', bx2, HB2⟩
  case round =>
    obtain ⟨wo, rfl⟩ : ∃ wo : World, wo = wr := ⟨_, rfl⟩
    obtain ⟨y, hy, rfl, hoy, hxx, hB⟩ := hrel
    clear ho' bx2 HB2 e5
    have hx' := hxx
    obtain ⟨f0, f1, f2, f3, f4⟩ := hxx
    by_cases hy0 : 0 < y
    · have hup := hp.up y hy0 (by have := HL.out; omega)
      obtain ⟨p, hpp⟩ : ∃ p : Nat, nth P y = (p : Int) := ⟨(nth P y).toNat, by omega⟩
      have hpy : p < y := by omega
      have HS := Lib.hid (gatY_step hy0 hy hpp)
      obtain ⟨a1, rfl, q1⟩ := (h1.below hB (Nat.le_refl _)).intN (k := y) (by have := HL.out; omega)
      rw [hpp] at q1
      have hly := gatY_length P xs y
      have qp := hoy.cellN (k := p) (by omega)
      have qy := hoy.cellN (k := y) (by omega)
      have hfp := hoy.frozen p
      have hst := hoy.set p (nth (gatY P xs y) p + nth (gatY P xs y) y)
      rw [← HS.out] at hst
      have b1 := gatY_bd hp HL.out hx hn hn1 y p
      have b2 := gatY_bd hp HL.out hx hn hn1 y y
      have e1 : IntKind.i64.wrap (nth (gatY P xs y) p + nth (gatY P xs y) y) = nth (gatY P xs y) p + nth (gatY P xs y) y := IntWalk.i64_in _ (by omega)
      have i1 : (0 : Int) ≤ (p : Int) := by omega
      have i2 : (p : Int) < (xs.length : Int) := by omega
      have i3 : (0 : Int) ≤ (y : Int) := by omega
      have i4 : (y : Int) < (P.length : Int) := by have := HL.out; omega
      have i5 : (y : Int) < (xs.length : Int) := by omega
      have e6 : (y : Int) - 1 = ((y - 1 : Nat) : Int) := by omega
      have HB3 := (hB.grown hst.2 hB.size (fun k hk => by cases hk; omega)).drew
      have hx3 := (hx'.grown hst.2 (by simp; omega))
      clear hpp hup hly
      go_wp2
      refine wp_region_still_tail 14 (by kernel_rfl) (by kernel_rfl) ?_
      simp only [List.take_succ_cons, List.take_zero, List.drop_succ_cons, List.drop_zero]
      repeat still_step
      refine wpStill_nil ?_
      change wpList _ _ _ _ _ wo.drew
      go_wp2
      go_roundw
      case rel => exact ⟨y - 1, by omega, by simp <;> omega, hst.1, hx3.drewN 1, HB3⟩
      case measure => simp [intOf] <;> omega
    · obtain rfl : y = 0 := by omega
      rw [gatY_zero] at hoy
      have hgl := Lib.hid (gath_length P xs)
      go_wp2
      go_ret
      exact ⟨_, _, by rw [hgl.out] <;> rfl, hoy.mono (by omega), hB⟩
set_option maxRecDepth 20000 in
set_option maxHeartbeats 1000000 in
theorem l2Sums_c (A1 : Option Addr) (P : List Int) (c1 : Nat) (A3 : Option Addr) (xs : List Int) (c3 : Nat) (w : World) (h1 : Rd w A1 (ints P)) (h3 : Rd w A3 (ints xs)) (hp : ParOk P) (hn1 : 1 ≤ P.length) (hn : P.length ≤ 24) (hl : xs.length = P.length) (hx : ∀ i, 0 ≤ nth xs i ∧ nth xs i ≤ 20) :
    Calls Try.prog 111 #[trV A1 P.length c1 A3 xs.length c3] w (Row w (gath P xs)) := by
  have HB1 : Below w.heap.size w (w.alloc (.cells #[.slice A1 P.length c1, .slice A3 xs.length c3] 26)) := (Below.refl _ _).alloc (Nat.le_refl _) _
  have bx := Bx.new w (.slice A1 P.length c1) (.slice A3 xs.length c3) 26
  have HL := Lib.hid hl
  have hx1 : 1 ≤ xs.length := by omega
  have hx24 : xs.length ≤ 24 := by omega
  clear hl
  go_enter Try.func111, Try.ntmps111
  go_wp2_with fail
  refine (l1Own_c A3 xs c3 _ (h3.below HB1 (Nat.le_refl _)) (by omega)).mono ?_
  rintro e w2 ⟨A, c, rfl, ho, hb2⟩
  have HB2 := bUp HB1 hb2 HB1.size
  have bx2 := bx.below hb2
  obtain ⟨g, rfl, hg1, hg2⟩ := ho.form (by omega)
  have hgg : w.heap.size < g := by simp at hg1; omega
  have e5 : (xs.length : Int) - 1 = ((xs.length - 1 : Nat) : Int) := by omega
  have ho' : Own w2 (w.heap.size + 1) (some ⟨g, 0, none⟩) c (gatY P xs (xs.length - 1)) := by rw [gatY_last]; exact ho.mono (by simp)
  clear bx hb2 HB1 ho
  go_wp2
  go_loopw [4] (fun i wr => ∃ y : Nat, y < xs.length ∧ i = .int .i64 (y : Int) ∧ Own wr (w.heap.size + 1) (some ⟨g, 0, none⟩) c (gatY P xs y) ∧ Bx wr w.heap.size (.slice A1 P.length c1) (.slice A3 xs.length c3) ∧ Below w.heap.size w wr) (fun i _ => (intOf i).toNat)
  case atStart => exact ⟨xs.length - 1, by omega, by simp <;> omega, ho', bx2, HB2⟩
  case round =>
    obtain ⟨wo, rfl⟩ : ∃ wo : World, wo = wr := ⟨_, rfl⟩
    obtain ⟨y, hy, rfl, hoy, hxx, hB⟩ := hrel
    clear ho' bx2 HB2 e5
    have hx' := hxx
    obtain ⟨f0, f1, f2, f3, f4⟩ := hxx
    by_cases hy0 : 0 < y
    · have hup := hp.up y hy0 (by have := HL.out; omega)
      obtain ⟨p, hpp⟩ : ∃ p : Nat, nth P y = (p : Int) := ⟨(nth P y).toNat, by omega⟩
      have hpy : p < y := by omega
      have HS := Lib.hid (gatY_step hy0 hy hpp)
      obtain ⟨a1, rfl, q1⟩ := (h1.below hB (Nat.le_refl _)).intN (k := y) (by have := HL.out; omega)
      rw [hpp] at q1
      have hly := gatY_length P xs y
      have qp := hoy.cellN (k := p) (by omega)
      have qy := hoy.cellN (k := y) (by omega)
      have hfp := hoy.frozen p
      have hst := hoy.set p (nth (gatY P xs y) p + nth (gatY P xs y) y)
      rw [← HS.out] at hst
      have b1 := gatY_bd hp HL.out hx hn hn1 y p
      have b2 := gatY_bd hp HL.out hx hn hn1 y y
      have e1 : IntKind.i64.wrap (nth (gatY P xs y) p + nth (gatY P xs y) y) = nth (gatY P xs y) p + nth (gatY P xs y) y := IntWalk.i64_in _ (by omega)
      have i1 : (0 : Int) ≤ (p : Int) := by omega
      have i2 : (p : Int) < (xs.length : Int) := by omega
      have i3 : (0 : Int) ≤ (y : Int) := by omega
      have i4 : (y : Int) < (P.length : Int) := by have := HL.out; omega
      have i5 : (y : Int) < (xs.length : Int) := by omega
      have e6 : (y : Int) - 1 = ((y - 1 : Nat) : Int) := by omega
      have HB3 := (hB.grown hst.2 hB.size (fun k hk => by cases hk; omega)).drew
      have hx3 := (hx'.grown hst.2 (by simp; omega))
      clear hpp hup hly
      go_wp2
      refine wp_region_still_tail 20 (by kernel_rfl) (by kernel_rfl) ?_
      simp only [List.take_succ_cons, List.take_zero, List.drop_succ_cons, List.drop_zero]
      repeat still_step
      refine wpStill_nil ?_
      change wpList _ _ _ _ _ wo.drew
      go_wp2
      go_roundw
      case rel => exact ⟨y - 1, by omega, by simp <;> omega, hst.1, hx3.drewN 1, HB3⟩
      case measure => simp [intOf] <;> omega
    · obtain rfl : y = 0 := by omega
      rw [gatY_zero] at hoy
      have hgl := Lib.hid (gath_length P xs)
      go_wp2
      go_ret
      exact ⟨_, _, by rw [hgl.out] <;> rfl, hoy.mono (by omega), hB⟩
end Go.Proofs.Ytfobjkdkjlbkfaa
