/- Two lists of numbers compared: the reference's l1Same, the library's slices.Equal. (Written by gen_eq.py.) -/
import Derived.Test.YtfobjkdkjlbkfaaInts
namespace Go.Proofs.Ytfobjkdkjlbkfaa
open Go.RowKit


theorem slEqual_c (A B : Option Addr) (xs ys : List Int) (n m ca cb : Nat) (w : World) (hn : n = xs.length) (hm : m = ys.length) (ha : Rd w A (ints xs)) (hb : Rd w B (ints ys))
    (hx : xs.length ≤ 16777216) (hy : ys.length ≤ 16777216) :
    Calls Try.prog 51 #[.slice A n ca, .slice B m cb] w (Pure w (.bool (decide (xs = ys)))) := by
  subst hn hm
  by_cases hl : xs.length = ys.length
  · have hl1 : ((xs.length : Int) == (ys.length : Int)) = true := by simp [hl]
    have hl2 : ((xs.length : Int) != (ys.length : Int)) = false := by simp [hl]
    have HL := Lib.hid hl
    clear hl
    go_enter Try.func51, Try.ntmps51
    go_wp2
    go_loopw [13] (fun i wr => ∃ k : Nat, k ≤ xs.length ∧ i = .int .i64 k ∧ Dr w wr ∧ xs.take k = ys.take k) (fun i _ => xs.length - (intOf i).toNat)
    case atStart => exact ⟨0, by omega, rfl, Dr.refl w, rfl⟩
    case round =>
      obtain ⟨k, hk, rfl, hd, ht⟩ := hrel
      have HT := Lib.hid ht
      clear ht
      by_cases hlt : k < xs.length
      · have hlt2 : k < ys.length := by have := HL.out; omega
        obtain ⟨a, rfl, hca⟩ := (ha.dr hd).int hlt
        obtain ⟨b, rfl, hcb⟩ := (hb.dr hd).int hlt2
        by_cases he : xs[k] = ys[k]
        · have e1 : (xs[k] != ys[k]) = false := by simp [he]
          have HE := Lib.hid he
          clear he
          go_wp2
          go_quiet (fail)
          go_wp2
          go_roundw
          case rel => exact ⟨k + 1, by omega, by go_num, hd.drewN _, take_succ_eq hlt hlt2 HT.out HE.out⟩
          case measure => simp [intOf] <;> omega
        · have e1 : (xs[k] != ys[k]) = true := by simp [he]
          have hne : xs ≠ ys := fun h => by subst h; exact he rfl
          go_wp2
          go_quiet (fail)
          go_wp2
          go_ret
          exact ⟨by simp [hne], hd.drewN _⟩
      · go_wp2
        go_ret
        exact ⟨by rw [decide_eq_true (take_all_eq hlt HL.out HT.out)]; rfl, hd⟩
  · have hl1 : ((xs.length : Int) == (ys.length : Int)) = false := by simp; omega
    have hl2 : ((xs.length : Int) != (ys.length : Int)) = true := by simp; omega
    have hne : xs ≠ ys := fun h => hl (by rw [h])
    go_enter Try.func51, Try.ntmps51
    go_wp2
    go_ret
    exact ⟨by simp [hne], Dr.refl w⟩
theorem slEqual_is (A B : Option Addr) (xs ys : List Int) (q : Bool) (n m ca cb : Nat) (w : World) (h : decide (xs = ys) = q) (hn : n = xs.length) (hm : m = ys.length) (ha : Rd w A (ints xs)) (hb : Rd w B (ints ys))
    (hx : xs.length ≤ 16777216) (hy : ys.length ≤ 16777216) :
    Calls Try.prog 51 #[.slice A n ca, .slice B m cb] w (Pure w (.bool q)) := by
  rw [← h]
  exact slEqual_c A B xs ys n m ca cb w hn hm ha hb hx hy

end Go.Proofs.Ytfobjkdkjlbkfaa
