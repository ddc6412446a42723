/- The laws' comparison of two rows of numbers, whatever they hold. (Written by gen_vwe.py.) -/
import Derived.Test.YtbgkeecndagkgaaVw
import Derived.Test.YtbgkeecndagkgaaInts
namespace Go.Proofs.Ytbgkeecndagkgaa
open Go.RowKit

set_option maxRecDepth 20000 in
set_option maxHeartbeats 1000000 in
theorem vInts_c (A B : Option Addr) (xs ys : List Int) (n m ca cb : Nat) (w : World) (hn : n = xs.length) (hm : m = ys.length) (ha : Rd w A (ints xs)) (hb : Rd w B (ints ys)) (hl : xs.length ≤ 16777216) (_hl2 : ys.length ≤ 16777216) :
    Calls Try.prog 19 #[.slice A n ca, .slice B m cb] w (Quietly w (.bool (decide (xs = ys)))) := by
  subst hn hm
  by_cases he : xs.length = ys.length
  · have hl1 : ((xs.length : Int) == (ys.length : Int)) = true := by simp [he]
    have hl2 : ((xs.length : Int) != (ys.length : Int)) = false := by simp [he]
    have HL := Lib.hid he
    clear he
    go_enter Try.func19, Try.ntmps19
    go_wp2
    go_loopw [5] (fun i wr => ∃ k : Nat, k ≤ xs.length ∧ i = .int .i64 k ∧ xs.take k = ys.take k ∧ Below w.heap.size w wr) (fun i _ => xs.length - (intOf i).toNat)
    case atStart => exact ⟨0, by omega, rfl, rfl, Below.refl _ _⟩
    case round =>
      obtain ⟨v, rfl⟩ : ∃ v : World, v = wr := ⟨_, rfl⟩
      obtain ⟨k, hk, rfl, ht, HB⟩ := hrel
      have HT := Lib.hid ht
      clear ht
      by_cases hlt : k < xs.length
      · have hlt2 : k < ys.length := by have := HL.out; omega
        obtain ⟨a, rfl, q1⟩ := (ha.below HB (Nat.le_refl _)).intN hlt
        obtain ⟨b, rfl, q2⟩ := (hb.below HB (Nat.le_refl _)).intN hlt2
        have HX := Lib.hid (nth_eq hlt)
        have HY := Lib.hid (nth_eq hlt2)
        generalize nth xs k = x at *
        generalize nth ys k = y at *
        by_cases hxy : x = y
        · have HE := Lib.hid hxy
          have hb1 : (x != y) = false := by simp [hxy]
          clear hxy
          go_upto_region 6 with fail
          have hd1 : Below v.heap.size v v.drew := Below.drew (Below.refl _ _)
          have SK1 : Hid (∀ w', Below v.heap.size v w' → w'.cell? (a.add k) = some (.int .i64 x) ∧ w'.cell? (b.add k) = some (.int .i64 y)) := Lib.hid fun w' HV => ⟨(HV.cell (cell_lt q1)).trans q1, (HV.cell (cell_lt q2)).trans q2⟩
          clear q1 q2
          have hS1_0 := SK1.out _ hd1
          refine tamed_region (S := fun w' => w'.cell? (a.add k) = some (.int .i64 x) ∧ w'.cell? (b.add k) = some (.int .i64 y)) (fun _ => false) (by kernel_rfl) ?_
          refine tame0 (k := 0) ?_ rfl (by kernel_rfl) (by kernel_rfl) (by kernel_rfl) (fun _ _ _ h => h) (by kernel_rfl) (fun v => ?_) ?_
          rotate_left
          · (go_simp; all_goals rfl)
          simp only [Act.put, List.setIfInBounds_toArray]
          refine tame0 (k := 1) ?_ rfl (by kernel_rfl) (by kernel_rfl) (by kernel_rfl) (fun _ _ _ h => h) (by kernel_rfl) (fun v => ?_) ?_
          rotate_left
          · (go_simp; all_goals rfl)
          simp only [Act.put]
          refine tame0 (k := 2) ?_ rfl (by kernel_rfl) (by kernel_rfl) (by kernel_rfl) (fun _ _ _ h => h) (by kernel_rfl) (fun v => ?_) ?_
          rotate_left
          · (go_simp; all_goals rfl)
          simp only [Act.put]
          refine tame (k := 3) ?_ rfl (by kernel_rfl) (by kernel_rfl) (by kernel_rfl) (by kernel_rfl) (fun _ _ _ h => h) (by kernel_rfl) hS1_0 (fun v hv => ?_) ?_
          rotate_left
          · (obtain ⟨k1, k2⟩ := hv; go_simp; all_goals rfl)
          simp only [Act.put]
          refine tame0 (k := 4) ?_ rfl (by kernel_rfl) (by kernel_rfl) (by kernel_rfl) (fun _ _ _ h => h) (by kernel_rfl) (fun v => ?_) ?_
          rotate_left
          · (go_simp; all_goals rfl)
          simp only [Act.put]
          refine tame0 (k := 5) ?_ rfl (by kernel_rfl) (by kernel_rfl) (by kernel_rfl) (fun _ _ _ h => h) (by kernel_rfl) (fun v => ?_) ?_
          rotate_left
          · (go_simp; all_goals rfl)
          simp only [Act.put]
          refine tame0 (k := 6) ?_ rfl (by kernel_rfl) (by kernel_rfl) (by kernel_rfl) (fun _ _ _ h => h) (by kernel_rfl) (fun v => ?_) ?_
          rotate_left
          · (go_simp; all_goals rfl)
          simp only [Act.put]
          refine tame (k := 7) ?_ rfl (by kernel_rfl) (by kernel_rfl) (by kernel_rfl) (by kernel_rfl) (fun _ _ _ h => h) (by kernel_rfl) hS1_0 (fun v hv => ?_) ?_
          rotate_left
          · (obtain ⟨k1, k2⟩ := hv; go_simp; all_goals rfl)
          simp only [Act.put]
          have hS1_0v := Lib.hid hS1_0
          clear hS1_0
          refine tame_one (k := 8) (by kernel_rfl) rfl (by kernel_rfl) ?_
          go_simp
          refine ⟨by first | exact hS1_0v | exact Hid.out hS1_0v, ?_⟩
          refine tame_end (by kernel_rfl) ?_
          go_wp2
          go_roundw
          case rel => exact ⟨k + 1, by omega, by go_num, take_succ_eq hlt hlt2 HT.out (by rw [← HX.out, ← HY.out, HE.out]), bUp HB hd1 HB.size⟩
          case measure => simp [intOf] <;> omega
        · have HD : Hid (decide (xs = ys) = false) := Lib.hid (decide_eq_false fun e => hxy (by rw [HX.out, HY.out]; simp only [e]))
          have hb1 : (x != y) = true := by simp [hxy]
          clear hxy
          go_upto_region 6 with fail
          have hd2 : Below v.heap.size v v.drew := Below.drew (Below.refl _ _)
          have SK2 : Hid (∀ w', Below v.heap.size v w' → w'.cell? (a.add k) = some (.int .i64 x) ∧ w'.cell? (b.add k) = some (.int .i64 y)) := Lib.hid fun w' HV => ⟨(HV.cell (cell_lt q1)).trans q1, (HV.cell (cell_lt q2)).trans q2⟩
          clear q1 q2
          have hS2_0 := SK2.out _ hd2
          refine tamed_region (S := fun w' => w'.cell? (a.add k) = some (.int .i64 x) ∧ w'.cell? (b.add k) = some (.int .i64 y)) (fun _ => false) (by kernel_rfl) ?_
          refine tame0 (k := 0) ?_ rfl (by kernel_rfl) (by kernel_rfl) (by kernel_rfl) (fun _ _ _ h => h) (by kernel_rfl) (fun v => ?_) ?_
          rotate_left
          · (go_simp; all_goals rfl)
          simp only [Act.put, List.setIfInBounds_toArray]
          refine tame0 (k := 1) ?_ rfl (by kernel_rfl) (by kernel_rfl) (by kernel_rfl) (fun _ _ _ h => h) (by kernel_rfl) (fun v => ?_) ?_
          rotate_left
          · (go_simp; all_goals rfl)
          simp only [Act.put]
          refine tame0 (k := 2) ?_ rfl (by kernel_rfl) (by kernel_rfl) (by kernel_rfl) (fun _ _ _ h => h) (by kernel_rfl) (fun v => ?_) ?_
          rotate_left
          · (go_simp; all_goals rfl)
          simp only [Act.put]
          refine tame (k := 3) ?_ rfl (by kernel_rfl) (by kernel_rfl) (by kernel_rfl) (by kernel_rfl) (fun _ _ _ h => h) (by kernel_rfl) hS2_0 (fun v hv => ?_) ?_
          rotate_left
          · (obtain ⟨k1, k2⟩ := hv; go_simp; all_goals rfl)
          simp only [Act.put]
          refine tame0 (k := 4) ?_ rfl (by kernel_rfl) (by kernel_rfl) (by kernel_rfl) (fun _ _ _ h => h) (by kernel_rfl) (fun v => ?_) ?_
          rotate_left
          · (go_simp; all_goals rfl)
          simp only [Act.put]
          refine tame0 (k := 5) ?_ rfl (by kernel_rfl) (by kernel_rfl) (by kernel_rfl) (fun _ _ _ h => h) (by kernel_rfl) (fun v => ?_) ?_
          rotate_left
          · (go_simp; all_goals rfl)
          simp only [Act.put]
          refine tame0 (k := 6) ?_ rfl (by kernel_rfl) (by kernel_rfl) (by kernel_rfl) (fun _ _ _ h => h) (by kernel_rfl) (fun v => ?_) ?_
          rotate_left
          · (go_simp; all_goals rfl)
          simp only [Act.put]
          refine tame (k := 7) ?_ rfl (by kernel_rfl) (by kernel_rfl) (by kernel_rfl) (by kernel_rfl) (fun _ _ _ h => h) (by kernel_rfl) hS2_0 (fun v hv => ?_) ?_
          rotate_left
          · (obtain ⟨k1, k2⟩ := hv; go_simp; all_goals rfl)
          simp only [Act.put]
          have hS2_0v := Lib.hid hS2_0
          clear hS2_0
          refine tame_one (k := 8) (by kernel_rfl) rfl (by kernel_rfl) ?_
          go_simp
          refine ⟨by first | exact hS2_0v | exact Hid.out hS2_0v, ?_⟩
          refine tame_end (by kernel_rfl) ?_
          go_wp2
          go_ret
          exact ⟨by rw [HD.out] <;> rfl, bUp HB hd2 HB.size⟩
      · obtain rfl : k = xs.length := by omega
        have HD : Hid (decide (xs = ys) = true) := Lib.hid (decide_eq_true (take_all_eq (Nat.lt_irrefl _) HL.out HT.out))
        go_wp2
        go_ret
        exact ⟨by rw [HD.out] <;> rfl, HB⟩
  · have HD : Hid (decide (xs = ys) = false) := Lib.hid (decide_eq_false fun e => he (by rw [e]))
    have hl1 : ((xs.length : Int) == (ys.length : Int)) = false := by simp; omega
    have hl2 : ((xs.length : Int) != (ys.length : Int)) = true := by simp; omega
    go_enter Try.func19, Try.ntmps19
    go_wp2
    go_ret
    exact ⟨by rw [HD.out] <;> rfl, Below.refl _ _⟩
end Go.Proofs.Ytbgkeecndagkgaa
