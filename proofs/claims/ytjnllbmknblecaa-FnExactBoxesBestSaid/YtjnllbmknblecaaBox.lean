/- Boxes: the helpers of the laws and both packages' tests. -/
import Derived.Test.YtjnllbmknblecaaLaw
import Derived.Test.YtjnllbmknblecaaSS
namespace Go.Proofs.Ytjnllbmknblecaa
open Go.RowKit

@[reducible] def boxV (A : Option Addr) (n c : Nat) (fee : Int) : Value := .agg #[.slice A n c, .int .i64 fee]
theorem szBox_c (A : Option Addr) (n c : Nat) (fee : Int) (w : World) (hn : n ≤ 9223372036854775807) :
    Calls Try.prog 45 #[boxV A n c fee, .int .i64 1048576] w fun e w' => e = .returned (.int .i64 (if (1048576 : Int) < n then -1 else 1048576 - n)) ∧ Below w.heap.size w w' := by
  by_cases h : (1048576 : Int) < (n : Int)
  · have C := fun w => szIntS_c A n c 1048576 w (by omega) (by omega) hn
    rw [if_pos h] at C
    rw [if_pos h]
    go_enter Try.func45, Try.ntmps45
    go_wp2_with (go_at_call 71; refine (C _).mono ?_; rintro e w' ⟨rfl, rfl⟩)
    go_ret
    exact ⟨rfl, by with_reducible repeat (first | exact Below.refl _ _ | refine Below.setCell ?_ (by simp) _ | refine Below.alloc ?_ (by simp) _)⟩
  · have C := fun w => szIntS_c A n c 1048576 w (by omega) (by omega) hn
    rw [if_neg h] at C
    rw [if_neg h]
    go_enter Try.func45, Try.ntmps45
    go_wp2_with (go_at_call 71; refine (C _).mono ?_; rintro e w' ⟨rfl, rfl⟩)
    go_ret
    exact ⟨rfl, by with_reducible repeat (first | exact Below.refl _ _ | refine Below.setCell ?_ (by simp) _ | refine Below.alloc ?_ (by simp) _)⟩
theorem toBox_c (A : Option Addr) (xs : List Int) (c : Nat) (fee : Int) (w : World) (ha : Rd w A (ints xs)) (hl : xs.length ≤ 16777216) :
    Calls Try.prog 47 #[boxV A xs.length c fee] w fun e w' => ∃ A2 c2, e = .returned (boxV A2 xs.length c2 fee) ∧ Own w' w.heap.size A2 c2 xs ∧ Below w.heap.size w w' := by
  have ha1 := rdUp (rdUp (rdUp ha (.cells #[.slice A xs.length c, .int .i64 fee] 51)) (.cells #[.slice none 0 0, .int .i64 0] 54)) (.cells #[.slice none 0 0, .int .i64 0] 54)
  have hB1 : Below w.heap.size w (((w.alloc (.cells #[.slice A xs.length c, .int .i64 fee] 51)).alloc (.cells #[.slice none 0 0, .int .i64 0] 54)).alloc (.cells #[.slice none 0 0, .int .i64 0] 54)) := by
    with_reducible repeat (first | exact Below.refl _ _ | refine Below.alloc ?_ (by simp <;> omega) _)
  have hz1 : (((w.alloc (.cells #[.slice A xs.length c, .int .i64 fee] 51)).alloc (.cells #[.slice none 0 0, .int .i64 0] 54)).alloc (.cells #[.slice none 0 0, .int .i64 0] 54)).heap.size = w.heap.size + 3 := by simp
  have C := toIntS_c A xs c _ ha1 hl
  rw [hz1] at C
  go_enter Try.func47, Try.ntmps47
  go_wp2_with fail
  refine C.mono ?_
  rintro e w4 ⟨rfl, ho, hb⟩
  have hz4 : w.heap.size + 3 ≤ w4.heap.size := by have := hb.size; omega
  rw [← hz1] at hb
  obtain ⟨hc, hf⟩ := bcell hb
  rw [hz1] at hc hf hb
  have hB4 := bUp hB1 (by rw [hz1]; exact hb) hB1.size
  clear C
  go_wp2_with fail
  refine bodyPost_ret (v := boxV (some ⟨w.heap.size + 3, 0, none⟩) xs.length xs.length fee) (by simp [results, Try.results47, go_sem, hc]) rfl ⟨_, _, rfl, ?_, ?_⟩
  · refine Own.mono (B := w.heap.size + 3) ?_ (by omega)
    with_reducible repeat (first | exact ho | refine Own.setOther ?_ _ _ (.inr (by simp [blk] <;> omega)))
  · with_reducible repeat (first | exact hB4 | refine Below.setCell ?_ (by simp <;> omega) _)

def boxB (xs : List Int) (fee : Int) : Bool := lawB xs && inB fee 0 20
theorem implBox_c (A : Option Addr) (xs : List Int) (c : Nat) (fee : Int) (w : World) (ha : Rd w A (ints xs)) (hl : xs.length ≤ 16777216) :
    Calls Try.prog 48 #[boxV A xs.length c fee] w (Quietly w (.bool (boxB xs fee))) := by
  have ha1 := rdUp ha (.cells #[.slice A xs.length c, .int .i64 fee] 54)
  cases h1 : lawB xs
  · have HB : boxB xs fee = false := by simp [boxB, h1]
    rw [HB]
    go_enter Try.func48, Try.ntmps48
    go_wp2_with (go_at_call 17; refine (implLaw_is _ _ _ _ (by assumption) _ ha1 hl).mono ?_; rintro e w' ⟨rfl, rfl⟩)
    go_ret
    exact ⟨rfl, by with_reducible repeat (first | exact Below.refl _ _ | refine Below.alloc ?_ (by simp) _)⟩
  · have HB : boxB xs fee = inB fee 0 20 := by simp [boxB, h1]
    rw [HB]
    go_enter Try.func48, Try.ntmps48
    go_wp2_with (first
      | (go_at_call 17; refine (implLaw_is _ _ _ _ (by assumption) _ ha1 hl).mono ?_; rintro e w' ⟨rfl, rfl⟩)
      | (go_at_call 64; refine (within_is _ _ _ _ rfl _).mono ?_; rintro e w' ⟨rfl, rfl⟩))
    go_ret
    exact ⟨rfl, by with_reducible repeat (first | exact Below.refl _ _ | refine Below.alloc ?_ (by simp) _)⟩
theorem l7Box_c (A : Option Addr) (xs : List Int) (c : Nat) (fee : Int) (w : World) (ha : Rd w A (ints xs)) (hl : xs.length ≤ 16777216) :
    Calls Try.prog 85 #[boxV A xs.length c fee] w (Quietly w (.bool (boxB xs fee))) := by
  have ha1 := rdUp ha (.cells #[.slice A xs.length c, .int .i64 fee] 54)
  cases h1 : lawB xs
  · have HB : boxB xs fee = false := by simp [boxB, h1]
    rw [HB]
    go_enter Try.func85, Try.ntmps85
    go_wp2_with (go_at_call 63; refine (l7Law_is _ _ _ _ (by assumption) _ ha1 hl).mono ?_; rintro e w' ⟨rfl, rfl⟩)
    go_ret
    exact ⟨rfl, by with_reducible repeat (first | exact Below.refl _ _ | refine Below.alloc ?_ (by simp) _)⟩
  · have HB : boxB xs fee = inB fee 0 20 := by simp [boxB, h1]
    rw [HB]
    go_enter Try.func85, Try.ntmps85
    go_wp2_with (first
      | (go_at_call 63; refine (l7Law_is _ _ _ _ (by assumption) _ ha1 hl).mono ?_; rintro e w' ⟨rfl, rfl⟩)
      | (go_at_call 76; refine (l1In_is _ _ _ _ rfl _).mono ?_; rintro e w' ⟨rfl, rfl⟩))
    go_ret
    exact ⟨rfl, by with_reducible repeat (first | exact Below.refl _ _ | refine Below.alloc ?_ (by simp) _)⟩
theorem specBox_c (A : Option Addr) (xs : List Int) (c : Nat) (fee : Int) (w : World) (ha : Rd w A (ints xs)) (hl : xs.length ≤ 16777216) :
    Calls Try.prog 46 #[boxV A xs.length c fee] w (Quietly w (.bool (boxB xs fee))) := by
  have ha1 := rdUp ha (.cells #[.slice A xs.length c, .int .i64 fee] 54)
  go_enter Try.func46, Try.ntmps46
  go_wp2_with fail
  refine (l7Box_c A xs c fee _ ha1 hl).mono ?_
  rintro e w2 ⟨rfl, hb⟩
  have HB0 : Below w.heap.size w w2 := ((Below.refl _ _).alloc (Nat.le_refl _) _).trans (hb.mono (by simp))
  go_wp2
  go_ret
  exact ⟨rfl, HB0⟩
theorem eqBox_same (A B : Option Addr) (xs : List Int) (c c2 : Nat) (fee : Int) (w : World) (ha : Rd w A (ints xs)) (hb : Rd w B (ints xs)) (hl : xs.length ≤ 16777216) :
    Calls Try.prog 49 #[boxV A xs.length c fee, boxV B xs.length c2 fee] w (Quietly w (.bool true)) := by
  have ha1 := rdUp (rdUp ha (.cells #[.slice A xs.length c, .int .i64 fee] 54)) (.cells #[.slice B xs.length c2, .int .i64 fee] 54)
  have hb1 := rdUp (rdUp hb (.cells #[.slice A xs.length c, .int .i64 fee] 54)) (.cells #[.slice B xs.length c2, .int .i64 fee] 54)
  go_enter Try.func49, Try.ntmps49
  go_wp2_with fail
  have C := eqIntS_c A B xs xs c c2 _ ha1 hb1 hl hl
  rw [show decide (xs = xs) = true by simp] at C
  refine C.mono ?_
  rintro e w3 ⟨rfl, n, rfl⟩
  clear C
  go_wp2
  go_ret
  exact ⟨rfl, by with_reducible repeat (first | exact Below.refl _ _ | refine bDrewN ?_ _ | refine Below.alloc ?_ (by simp <;> omega) _)⟩
end Go.Proofs.Ytjnllbmknblecaa
