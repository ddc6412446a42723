/- FirstFound: the walks. -/
import Derived.Test.YtbgkeecndagkgaaFfL
import Derived.Test.YtbgkeecndagkgaaOv2
import Derived.Test.YtbgkeecndagkgaaCopy
namespace Go.Proofs.Ytbgkeecndagkgaa
open Go.RowKit

theorem l9Next_c (A : Option Addr) (xs : List Int) (c h : Nat) (g : Int) (w : World) (ha : Rd w A (ints xs)) (hl : xs.length ≤ 6) (hc : xs.length ≤ c) (hh : h < xs.length) :
    Calls Try.prog 31 #[.slice A xs.length c, .int .i64 h, .int .i64 g] w (Quietly w (.int .i64 (nxt xs h g))) := by
  have hn : (xs.take h).length = h := by simp; omega
  have hn2 : (xs.take h ++ [g]).length = h + 1 := by simp; omega
  have HN := Lib.hid hn
  have HN2 := Lib.hid hn2
  clear hn hn2
  have e8 : (h : Int) ≤ (c : Int) := by omega
  go_enter Try.func31, Try.ntmps31
  have C := l1Own_c A (xs.take h) c w ha.takeI (by have := HN.out; omega)
  rw [HN.out] at C
  have C := Lib.hid C
  go_wp2_with fail
  refine C.out.mono ?_
  rintro e w1 ⟨A1, c1, rfl, ho, hb⟩
  rw [HN.out]
  go_wp2_with (at_builtin; refine wp_append1 _ _ _ rfl _ _ rfl w.heap.size A1 h c1 (xs.take h) rfl (by rw [HN.out]) ho rfl (by have := HN.out; omega) hb.size ?_; intro A2 c2 w2 ho2 hg2 hb2; have HB2 := hb.grown hg2 hb.size ho.ge; clear hg2 hb2)
  have hcap : (xs.take h ++ [g]).length ≤ c2 := ho2.cap_le
  go_loopw [8] (fun i wr => ∃ k : Nat, k ≤ h + 1 ∧ i = .int .i64 k ∧ nxtD (endsB (xs.take h ++ [g]) xs) k = nxt xs h g ∧ Dr w2 wr) (fun i _ => (intOf i).toNat)
  case atStart => exact ⟨h + 1, by omega, rfl, rfl, Dr.refl w2⟩
  case round =>
    obtain ⟨k, hk, rfl, hx, hd⟩ := hrel
    have HX := Lib.hid hx
    clear hx
    have C := l9Ends_c A2 A (xs.take h ++ [g]) xs c2 c k wr (ho2.dr hd).rd ((ha.below HB2 (Nat.le_refl _)).dr hd) (by have := HN2.out; omega) (by omega) hcap hc
    rw [HN2.out] at C
    cases he : endsB (xs.take h ++ [g]) xs k
    · rw [he] at C
      have C := Lib.hid C
      obtain ⟨j, rfl⟩ : ∃ j, k = j + 1 := by
        cases k with
        | zero => rw [ends_zero] at he; cases he
        | succ j => exact ⟨j, rfl⟩
      have HM := Lib.hid (nxtD_miss he)
      clear he
      go_wp2_with fail
      refine C.out.mono ?_
      rintro e w3 ⟨rfl, hd3⟩
      go_wp2
      go_roundw
      case rel => exact ⟨j, by omega, by go_num, by rw [← HM.out]; exact HX.out, hd.trans hd3⟩
      case measure => simp [intOf] <;> omega
    · rw [he] at C
      have C := Lib.hid C
      have HM := Lib.hid (nxtD_hit he)
      clear he
      go_wp2_with fail
      refine C.out.mono ?_
      rintro e w3 ⟨rfl, hd3⟩
      go_wp2
      go_ret
      exact ⟨by rw [← HX.out, HM.out]; rfl, (hd.trans hd3).below HB2⟩
end Go.Proofs.Ytbgkeecndagkgaa
