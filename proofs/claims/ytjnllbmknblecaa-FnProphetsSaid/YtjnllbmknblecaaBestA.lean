/- Several laws: the tests of both packages. -/
import Derived.Test.YtjnllbmknblecaaSSw
namespace Go.Proofs.Ytjnllbmknblecaa
open Go.RowKit

theorem areLaws_c (A : Option Addr) (xss : List (List Int)) (c : Nat) (w : World) (ha : RdSS w A xss) (hs : SzSS xss) :
    Calls Try.prog 74 #[.slice A xss.length c] w fun e w' => e = .returned (.bool (lawsB xss)) ∧ w = w' := by
  have hn := hs.1
  by_cases h : (4 : Int) < (xss.length : Int)
  · rw [lawsB_long (by omega)]
    go_enter Try.func74, Try.ntmps74
    go_wp2
    go_ret
    exact ⟨rfl, rfl⟩
  · go_enter Try.func74, Try.ntmps74
    go_wp2
    go_loop [10] (fun i => ∃ k : Nat, k ≤ xss.length ∧ i = .int .i64 k ∧ lawsTo xss k = true) (fun i => xss.length - (intOf i).toNat)
    case atStart => exact ⟨0, by omega, rfl, lawsTo_0 _⟩
    case round =>
      obtain ⟨k, hk, rfl, hall⟩ := hrel
      have HA := Lib.hid hall
      clear hall
      by_cases hlt : k < xss.length
      · obtain ⟨a, A', c', rfl, hca, hra⟩ := ha k hlt
        have hl := hs.row hlt
        cases hx : lawB (rowAt xss k)
        · have HN := Lib.hid (lawsB_no hlt hx)
          go_wp2_with (go_at_call 17; refine (implLaw_is _ _ _ _ (by assumption) _ hra (by omega)).mono ?_; rintro e w' ⟨rfl, rfl⟩)
          go_ret
          exact ⟨by rw [HN.out]; rfl, rfl⟩
        · have HN := Lib.hid (lawsTo_succ hlt HA.out hx)
          go_wp2_with (go_at_call 17; refine (implLaw_is _ _ _ _ (by assumption) _ hra (by omega)).mono ?_; rintro e w' ⟨rfl, rfl⟩)
          go_round
          case rel => exact ⟨k + 1, by omega, by go_num, HN.out⟩
          case measure => simp [intOf] <;> omega
      · have HN := Lib.hid (lawsTo_end hlt HA.out)
        go_wp2
        go_ret
        exact ⟨by rw [HN.out, decide_eq_true (by omega)]; rfl, rfl⟩
theorem areLaws_is (A : Option Addr) (xss : List (List Int)) (c : Nat) (q : Bool) (h : lawsB xss = q) (w : World) (ha : RdSS w A xss) (hs : SzSS xss) :
    Calls Try.prog 74 #[.slice A xss.length c] w fun e w' => e = .returned (.bool q) ∧ w = w' := by
  rw [← h]
  exact areLaws_c A xss c w ha hs
theorem l7Laws_c (A : Option Addr) (xss : List (List Int)) (c : Nat) (w : World) (ha : RdSS w A xss) (hs : SzSS xss) :
    Calls Try.prog 72 #[.slice A xss.length c] w fun e w' => e = .returned (.bool (lawsB xss)) ∧ w = w' := by
  have hn := hs.1
  go_enter Try.func72, Try.ntmps72
  go_wp2
  go_loop [3] (fun i => ∃ k : Nat, k ≤ xss.length ∧ i = .int .i64 k ∧ lawsTo xss k = true) (fun i => xss.length - (intOf i).toNat)
  case atStart => exact ⟨0, by omega, rfl, lawsTo_0 _⟩
  case round =>
    obtain ⟨k, hk, rfl, hall⟩ := hrel
    have HA := Lib.hid hall
    clear hall
    by_cases hlt : k < xss.length
    · obtain ⟨a, A', c', rfl, hca, hra⟩ := ha k hlt
      have hl := hs.row hlt
      cases hx : lawB (rowAt xss k)
      · have HN := Lib.hid (lawsB_no hlt hx)
        go_wp2_with (go_at_call 63; refine (l7Law_is _ _ _ _ (by assumption) _ hra (by omega)).mono ?_; rintro e w' ⟨rfl, rfl⟩)
        go_ret
        exact ⟨by rw [HN.out]; rfl, rfl⟩
      · have HN := Lib.hid (lawsTo_succ hlt HA.out hx)
        go_wp2_with (go_at_call 63; refine (l7Law_is _ _ _ _ (by assumption) _ hra (by omega)).mono ?_; rintro e w' ⟨rfl, rfl⟩)
        go_round
        case rel => exact ⟨k + 1, by omega, by go_num, HN.out⟩
        case measure => simp [intOf] <;> omega
    · have HN := Lib.hid (lawsTo_end hlt HA.out)
      go_wp2
      go_ret
      exact ⟨by rw [HN.out]; rfl, rfl⟩
theorem l7Laws_is (A : Option Addr) (xss : List (List Int)) (c : Nat) (q : Bool) (h : lawsB xss = q) (w : World) (ha : RdSS w A xss) (hs : SzSS xss) :
    Calls Try.prog 72 #[.slice A xss.length c] w fun e w' => e = .returned (.bool q) ∧ w = w' := by
  rw [← h]
  exact l7Laws_c A xss c w ha hs
end Go.Proofs.Ytjnllbmknblecaa
