/- Sums and bounds of lists of numbers: the plain side, and the walks of the functions that reckon them. (Written by gen_lists.py.) -/
import Derived.Test.YtnhclpajfejnoaaScal
namespace Go.Proofs.Ytnhclpajfejnoaa
open Go.RowKit

/-- The sum. -/
def sm (xs : List Int) : Int := xs.sum
/-- All numbers lie between two others. -/
def allB (xs : List Int) (lo hi : Int) : Bool := xs.all fun x => inB x lo hi
theorem sm_succ (xs : List Int) (k : Nat) (h : k < xs.length) : sm (xs.take (k + 1)) = sm (xs.take k) + nth xs k := by
  unfold sm
  rw [List.take_succ_eq_append_getElem h, nth_eq h, List.sum_append, List.sum_cons, List.sum_nil, Int.add_zero]
theorem sm_all (xs : List Int) (k : Nat) (h : ¬ k < xs.length) : sm (xs.take k) = sm xs := by rw [List.take_of_length_le (by omega)]
theorem allB_nth {xs : List Int} {lo hi : Int} (h : allB xs lo hi = true) {k : Nat} (hk : k < xs.length) : lo ≤ nth xs k ∧ nth xs k ≤ hi := by
  rw [nth_eq hk]
  exact inB_iff.1 (List.all_eq_true.1 h _ (List.getElem_mem hk))
theorem allB_take {xs : List Int} {lo hi : Int} (h : allB xs lo hi = true) (k : Nat) : allB (xs.take k) lo hi = true :=
  List.all_eq_true.2 fun x hx => List.all_eq_true.1 h x (List.mem_of_mem_take hx)
theorem allB_drop {xs : List Int} {lo hi : Int} (h : allB xs lo hi = true) (k : Nat) : allB (xs.drop k) lo hi = true :=
  List.all_eq_true.2 fun x hx => List.all_eq_true.1 h x (List.mem_of_mem_drop hx)
theorem allB_mem {xs : List Int} {lo hi : Int} (h : allB xs lo hi = true) {x : Int} (hx : x ∈ xs) : lo ≤ x ∧ x ≤ hi := inB_iff.1 (List.all_eq_true.1 h x hx)
theorem allB_mono {xs : List Int} {lo hi lo' hi' : Int} (h : allB xs lo hi = true) (h1 : lo' ≤ lo) (h2 : hi ≤ hi') : allB xs lo' hi' = true :=
  List.all_eq_true.2 fun x hx => inB_iff.2 (by have := allB_mem h hx; omega)
theorem allB_succ {xs : List Int} {lo hi : Int} {k : Nat} (hk : k < xs.length) (h : allB (xs.take k) lo hi = true) (hx : inB (nth xs k) lo hi = true) : allB (xs.take (k + 1)) lo hi = true := by
  rw [nth_eq hk] at hx
  rw [List.take_succ_eq_append_getElem hk]
  unfold allB at *
  rw [List.all_append, h]
  simp [hx]
theorem allB_no {xs : List Int} {lo hi : Int} {k : Nat} (hk : k < xs.length) (hx : inB (nth xs k) lo hi = false) : allB xs lo hi = false := by
  rw [nth_eq hk] at hx
  cases h : allB xs lo hi with
  | false => rfl
  | true => have := List.all_eq_true.1 h _ (List.getElem_mem hk); rw [hx] at this; cases this
theorem allB_end {xs : List Int} {lo hi : Int} {k : Nat} (hk : ¬ k < xs.length) (h : allB (xs.take k) lo hi = true) : allB xs lo hi = true := by
  rwa [List.take_of_length_le (by omega)] at h
theorem sm_bd {xs : List Int} {lo hi : Int} (h : allB xs lo hi = true) : lo * xs.length ≤ sm xs ∧ sm xs ≤ hi * xs.length := by
  induction xs with
  | nil => simp [sm]
  | cons x l ih =>
    have h1 := allB_mem h (List.mem_cons_self ..)
    have h2 := ih (allB_drop (xs := x :: l) h 1)
    simp only [sm, List.sum_cons, List.length_cons] at *
    have e1 : lo * ((l.length + 1 : Nat) : Int) = lo * l.length + lo := by simp [Int.mul_add]
    have e2 : hi * ((l.length + 1 : Nat) : Int) = hi * l.length + hi := by simp [Int.mul_add]
    omega
/-- Partial sums of small numbers are small. -/
theorem sm_small {xs : List Int} {M : Int} (hM2 : M ≤ 1000000000) (h : allB xs (-M) M = true) (hl : xs.length ≤ 16777216) (k : Nat) : -17000000000000000 ≤ sm (xs.take k) ∧ sm (xs.take k) ≤ 17000000000000000 := by
  have h1 := sm_bd (allB_take h k)
  have hn : ((xs.take k).length : Int) ≤ 16777216 := by simp; omega
  have h2 : M * ((xs.take k).length : Int) ≤ 1000000000 * 16777216 := Int.mul_le_mul hM2 hn (by omega) (by omega)
  rw [Int.neg_mul] at h1
  omega




theorem allWithin_c (A : Option Addr) (xs : List Int) (c : Nat) (lo hi : Int) (w : World) (ha : Rd w A (ints xs)) (hl : xs.length ≤ 16777216) :
    Calls Try.prog 70 #[.slice A xs.length c, .int .i64 lo, .int .i64 hi] w fun e w' => e = .returned (.bool (allB xs lo hi)) ∧ w = w' := by
  go_enter Try.func70, Try.ntmps70
  go_wp2
  go_loop [11] (fun i => ∃ k : Nat, k ≤ xs.length ∧ i = .int .i64 k ∧ allB (xs.take k) lo hi = true) (fun i => xs.length - (intOf i).toNat)
  case atStart => exact ⟨0, by omega, rfl, rfl⟩
  case round =>
    obtain ⟨k, hk, rfl, hall⟩ := hrel
    have HA := Lib.hid hall
    clear hall
    by_cases hlt : k < xs.length
    · obtain ⟨a, rfl, hca⟩ := ha.intN hlt
      cases hx : inB (nth xs k) lo hi
      · have HN := Lib.hid (allB_no hlt hx)
        go_wp2_with (go_at_call 92; refine (within_is _ _ _ _ (by assumption) _).mono ?_; rintro e w' ⟨rfl, rfl⟩)
        go_ret
        exact ⟨by rw [HN.out]; rfl, rfl⟩
      · have HN := Lib.hid (allB_succ hlt HA.out hx)
        go_wp2_with (go_at_call 92; refine (within_is _ _ _ _ (by assumption) _).mono ?_; rintro e w' ⟨rfl, rfl⟩)
        go_round
        case rel => exact ⟨k + 1, by omega, by go_num, HN.out⟩
        case measure => simp [intOf] <;> omega
    · have HN := Lib.hid (allB_end hlt HA.out)
      go_wp2
      go_ret
      exact ⟨by rw [HN.out]; rfl, rfl⟩
theorem allWithin_is (A : Option Addr) (xs : List Int) (c : Nat) (lo hi : Int) (q : Bool) (h : allB xs lo hi = q) (w : World) (ha : Rd w A (ints xs)) (hl : xs.length ≤ 16777216) :
    Calls Try.prog 70 #[.slice A xs.length c, .int .i64 lo, .int .i64 hi] w fun e w' => e = .returned (.bool q) ∧ w = w' := by
  rw [← h]
  exact allWithin_c A xs c lo hi w ha hl

end Go.Proofs.Ytnhclpajfejnoaa
