/- DerangedCount: both programs compute the number of derangements by the same recursion. -/
import Derived.Test.YtchkflpdnmhboaaScal
namespace Go.Proofs.Ytchkflpdnmhboaa
open Go.RowKit

def derI : Nat → Int
  | 0 => 1
  | k + 1 => derI k * ((k : Int) + 1) + 1 - 2 * (((k : Int) + 1) % 2)
theorem derI_bd : ∀ k, k ≤ 12 → 0 ≤ derI k ∧ derI k ≤ 1000000000 := by decide +kernel
theorem derI_succ (k : Nat) : derI (k + 1) = derI k * ((k : Int) + 1) + 1 - 2 * (((k : Int) + 1) % 2) := rfl
theorem derI_at (j : Nat) (h : 1 ≤ j) : derI j = derI (j - 1) * (j : Int) + 1 - 2 * ((j : Int) % 2) := by
  obtain ⟨i, rfl⟩ : ∃ i, j = i + 1 := ⟨j - 1, by omega⟩
  simp [derI_succ]

theorem deranged_c (n : Nat) (hn : n ≤ 12) (w : World) :
    Calls Try.prog 49 #[.int .i64 n] w fun e w' => e = .returned (.int .i64 (derI n)) ∧ w = w' := by
  go_enter Try.func49, Try.ntmps49
  go_wp2
  go_loop [3, 4] (fun o k => ∃ j : Nat, 1 ≤ j ∧ j ≤ n + 1 ∧ k = .int .i64 j ∧ o = .int .i64 (derI (j - 1))) (fun _ k => n + 1 - (intOf k).toNat)
  case atStart => exact ⟨1, by omega, by omega, rfl, rfl⟩
  case round =>
    obtain ⟨j, h1, h2, rfl, rfl⟩ := hrel
    have hb := derI_bd (j - 1) (by omega)
    by_cases hlt : j ≤ n
    · have hm := mul_bd (derI (j - 1)) j 1000000000 12 hb.1 hb.2 (by omega) (by omega)
      have hs := Lib.hid (derI_at j h1)
      go_wp2
      go_round
      case rel => exact ⟨j + 1, by omega, by omega, by go_num, by rw [Nat.add_sub_cancel, hs.out]⟩
      case measure => simp [intOf] <;> omega
    · go_wp2
      go_ret
      have : j = n + 1 := by omega
      subst this
      exact ⟨rfl, rfl⟩

theorem l9Deranged_c (n : Nat) (hn : n ≤ 12) (w : World) :
    Calls Try.prog 47 #[.int .i64 n] w fun e w' => e = .returned (.int .i64 (derI n)) ∧ w = w' := by
  go_enter Try.func47, Try.ntmps47
  go_wp2
  go_loop [3, 4] (fun o k => ∃ j : Nat, 1 ≤ j ∧ j ≤ n + 1 ∧ k = .int .i64 j ∧ o = .int .i64 (derI (j - 1))) (fun _ k => n + 1 - (intOf k).toNat)
  case atStart => exact ⟨1, by omega, by omega, rfl, rfl⟩
  case round =>
    obtain ⟨j, h1, h2, rfl, rfl⟩ := hrel
    have hb := derI_bd (j - 1) (by omega)
    by_cases hlt : j ≤ n
    · have hm := mul_bd j (derI (j - 1)) 12 1000000000 (by omega) (by omega) hb.1 hb.2
      have hs := Lib.hid (derI_at j h1)
      rcases (show (j : Int) % 2 = 1 ∨ (j : Int) % 2 = 0 by omega) with he | he
      all_goals
        have e1 : ((j : Int) % 2 == 1) = decide ((j : Int) % 2 = 1) := rfl
        have HE := Lib.hid he
        go_wp2
        go_round
        case rel => exact ⟨j + 1, by omega, by omega, by go_num, by rw [Nat.add_sub_cancel, hs.out, HE.out, Int.mul_comm]; go_num⟩
        case measure => simp [intOf] <;> omega
    · go_wp2
      go_ret
      have : j = n + 1 := by omega
      subst this
      exact ⟨rfl, rfl⟩

theorem implDeranged_c (n : Int) (w : World) :
    Calls Try.prog 15 #[.int .i64 n] w fun e w' =>
      e = .returned (.tuple #[.int .i64 (if inB n 0 12 then derI n.toNat else 0), .bool (inB n 0 12)]) ∧ w = w' := by
  by_cases h : inB n 0 12 = true
  · have hb := inB_iff.1 h
    obtain ⟨m, rfl⟩ := Int.eq_ofNat_of_zero_le hb.1
    go_enter Try.func15, Try.ntmps15
    go_wp2_with (first
      | (go_at_call 48; refine (within_c _ _ _ _).mono ?_; rintro e w' ⟨rfl, rfl⟩)
      | (go_at_call 49; refine (deranged_c m (by omega) _).mono ?_; rintro e w' ⟨rfl, rfl⟩))
    go_ret2
    exact ⟨by first | rfl | simp [h], rfl⟩
  · have h' : inB n 0 12 = false := by simpa using h
    go_enter Try.func15, Try.ntmps15
    go_wp2_with (go_at_call 48; refine (within_c _ _ _ _).mono ?_; rintro e w' ⟨rfl, rfl⟩)
    go_ret2
    exact ⟨by first | rfl | simp [h'], rfl⟩

theorem specDeranged_c (n : Int) (w : World) :
    Calls Try.prog 14 #[.int .i64 n] w fun e w' =>
      e = .returned (.tuple #[.int .i64 (if inB n 0 12 then derI n.toNat else 0), .bool (inB n 0 12)]) ∧ w = w' := by
  by_cases h : inB n 0 12 = true
  · have hb := inB_iff.1 h
    obtain ⟨m, rfl⟩ := Int.eq_ofNat_of_zero_le hb.1
    go_enter Try.func14, Try.ntmps14
    go_wp2_with (first
      | (go_at_call 46; refine (l1In_c _ _ _ _).mono ?_; rintro e w' ⟨rfl, rfl⟩)
      | (go_at_call 47; refine (l9Deranged_c m (by omega) _).mono ?_; rintro e w' ⟨rfl, rfl⟩))
    go_ret2
    exact ⟨by first | rfl | simp [h], rfl⟩
  · have h' : inB n 0 12 = false := by simpa using h
    go_enter Try.func14, Try.ntmps14
    go_wp2_with (go_at_call 46; refine (l1In_c _ _ _ _).mono ?_; rintro e w' ⟨rfl, rfl⟩)
    go_ret2
    exact ⟨by first | rfl | simp [h'], rfl⟩

theorem lawDeranged (n : Int) (w : World) :
    Calls Try.prog 3 #[.int .i64 n] w fun e w' => e = .returned (.bool true) ∧ Below w.heap.size w w' := by
  go_enter Try.func3, Try.ntmps3
  go_wp2_with (first
      | (go_at_call 14; refine (specDeranged_c _ _).mono ?_; rintro e w' ⟨rfl, rfl⟩)
      | (go_at_call 15; refine (implDeranged_c _ _).mono ?_; rintro e w' ⟨rfl, rfl⟩))
  all_goals
    go_ret
    exact ⟨rfl, Below.refl _ _⟩
end Go.Proofs.Ytchkflpdnmhboaa
