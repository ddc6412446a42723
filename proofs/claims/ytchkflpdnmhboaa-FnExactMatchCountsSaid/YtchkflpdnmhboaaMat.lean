/- MatchCounts: both programs append the same products. -/
import Derived.Test.YtchkflpdnmhboaaPow
import Derived.Test.YtchkflpdnmhboaaDer
import Derived.Test.YtchkflpdnmhboaaLaws
import Derived.Test.YtchkflpdnmhboaaInts
namespace Go.Proofs.Ytchkflpdnmhboaa
open Go.RowKit

def mcF (n r : Nat) : Int := chI n r * derI (n - r)
def mcTo (n r : Nat) : List Int := (List.range r).map (mcF n)
theorem mcTo_length (n r : Nat) : (mcTo n r).length = r := by simp [mcTo]
theorem mcTo_succ (n r : Nat) : mcTo n (r + 1) = mcTo n r ++ [mcF n r] := by simp [mcTo, List.range_succ]
theorem mcF_eq (n r : Nat) : chI n r * derI (n - r) = mcF n r := rfl
/-- What both answer. -/
def mcV (n : Int) : List Int := if inB n 0 12 then mcTo n.toNat (n.toNat + 1) else []

theorem implMat_c (n : Int) (w : World) : Calls Try.prog 27 #[.int .i64 n] w (Gives w (mcV n) (inB n 0 12)) := by
  by_cases h : inB n 0 12 = true
  · have hb := inB_iff.1 h
    obtain ⟨n, rfl⟩ := Int.eq_ofNat_of_zero_le hb.1
    have hv : mcV n = mcTo n (n + 1) := by simp [mcV, h]
    rw [hv, h]
    clear hv
    go_enter Try.func27, Try.ntmps27
    go_wp2_with (go_at_call 48; refine (within_c _ _ _ _).mono ?_; rintro e w' ⟨rfl, rfl⟩)
    go_loopw [4, 12] (fun t i wr => ∃ j : Nat, ∃ A c, j ≤ n + 1 ∧ i = .int .i64 j ∧ t = .slice A j c ∧ Own wr w.heap.size A c (mcTo n j) ∧ Below w.heap.size w wr) (fun _ i _ => n + 1 - (intOf i).toNat)
    case atStart => exact ⟨0, _, _, by omega, rfl, rfl, Own.lit w [] (by simp), (Below.refl _ _).alloc (Nat.le_refl _) _⟩
    case round =>
      obtain ⟨wo, rfl⟩ : ∃ wo : World, wo = wr := ⟨_, rfl⟩
      obtain ⟨j, A, c, hj, rfl, rfl, ho, hB⟩ := hrel
      by_cases hlt : j < n + 1
      · have hc := (ch_bd n (by omega) j (by omega)).2 j (by omega)
        have hd := derI_bd (n - j) (by omega)
        have hk : (n : Int) - j = ((n - j : Nat) : Int) := by omega
        have hm := mul_bd (chI n j) (derI (n - j)) 1000 1000000000 (by omega) (by omega) (by omega) (by omega)
        go_wp2_with (first
          | (go_at_call 57; refine (choose_c n j (by omega) (by omega) _).mono ?_; rintro e w' ⟨rfl, rfl⟩)
          | (go_at_call 49; refine (deranged_c (n - j) (by omega) _).mono ?_; rintro e w' ⟨rfl, rfl⟩)
          | (at_builtin; refine wp_append1 _ _ _ rfl _ _ rfl w.heap.size A j c (mcTo n j) rfl (by rw [mcTo_length]) ho rfl (by rw [mcTo_length]; omega) hB.size ?_; rw [mcF_eq, ← mcTo_succ]; intro A2 c2 w2 ho2 hg2 hb2; have HB2 := hB.grown hg2 hB.size ho.ge; clear hg2 hb2))
        go_roundw
        case rel => exact ⟨j + 1, A2, c2, by omega, by go_num, rfl, ho2, HB2⟩
        case measure => simp [intOf] <;> omega
      · have hjm : j = n + 1 := by omega
        subst hjm
        go_wp2
        go_ret2
        exact ⟨_, _, by rw [mcTo_length]; rfl, ho, hB⟩
  · have h' : inB n 0 12 = false := by simpa using h
    have hv : mcV n = [] := by simp [mcV, h']
    rw [hv, h']
    clear hv
    go_enter Try.func27, Try.ntmps27
    go_wp2_with (go_at_call 48; refine (within_c _ _ _ _).mono ?_; rintro e w' ⟨rfl, rfl⟩)
    go_ret2
    exact ⟨_, _, rfl, Own.nil _ _, Below.refl _ _⟩

theorem specMat_c (n : Int) (w : World) : Calls Try.prog 26 #[.int .i64 n] w (Gives w (mcV n) (inB n 0 12)) := by
  by_cases h : inB n 0 12 = true
  · have hb := inB_iff.1 h
    obtain ⟨n, rfl⟩ := Int.eq_ofNat_of_zero_le hb.1
    have hv : mcV n = mcTo n (n + 1) := by simp [mcV, h]
    rw [hv, h]
    clear hv
    go_enter Try.func26, Try.ntmps26
    go_wp2_with (go_at_call 46; refine (l1In_c _ _ _ _).mono ?_; rintro e w' ⟨rfl, rfl⟩)
    go_loopw [4, 5] (fun t i wr => ∃ j : Nat, ∃ A c, j ≤ n + 1 ∧ i = .int .i64 j ∧ t = .slice A j c ∧ Own wr w.heap.size A c (mcTo n j) ∧ Below w.heap.size w wr) (fun _ i _ => n + 1 - (intOf i).toNat)
    case atStart => exact ⟨0, _, _, by omega, rfl, rfl, Own.lit w [] (by simp), (Below.refl _ _).alloc (Nat.le_refl _) _⟩
    case round =>
      obtain ⟨wo, rfl⟩ : ∃ wo : World, wo = wr := ⟨_, rfl⟩
      obtain ⟨j, A, c, hj, rfl, rfl, ho, hB⟩ := hrel
      by_cases hlt : j < n + 1
      · have hc := (ch_bd n (by omega) j (by omega)).2 j (by omega)
        have hd := derI_bd (n - j) (by omega)
        have hk : (n : Int) - j = ((n - j : Nat) : Int) := by omega
        have hm := mul_bd (chI n j) (derI (n - j)) 1000 1000000000 (by omega) (by omega) (by omega) (by omega)
        go_wp2_with (first
          | (go_at_call 50; refine (l5Choose_c n j (by omega) (by omega) _).mono ?_; rintro e w' ⟨rfl, rfl⟩)
          | (go_at_call 47; refine (l9Deranged_c (n - j) (by omega) _).mono ?_; rintro e w' ⟨rfl, rfl⟩)
          | (at_builtin; refine wp_append1 _ _ _ rfl _ _ rfl w.heap.size A j c (mcTo n j) rfl (by rw [mcTo_length]) ho rfl (by rw [mcTo_length]; omega) hB.size ?_; rw [mcF_eq, ← mcTo_succ]; intro A2 c2 w2 ho2 hg2 hb2; have HB2 := hB.grown hg2 hB.size ho.ge; clear hg2 hb2))
        go_roundw
        case rel => exact ⟨j + 1, A2, c2, by omega, by go_num, rfl, ho2, HB2⟩
        case measure => simp [intOf] <;> omega
      · have hjm : j = n + 1 := by omega
        subst hjm
        go_wp2
        go_ret2
        exact ⟨_, _, by rw [mcTo_length]; rfl, ho, hB⟩
  · have h' : inB n 0 12 = false := by simpa using h
    have hv : mcV n = [] := by simp [mcV, h']
    rw [hv, h']
    clear hv
    go_enter Try.func26, Try.ntmps26
    go_wp2_with (go_at_call 46; refine (l1In_c _ _ _ _).mono ?_; rintro e w' ⟨rfl, rfl⟩)
    go_ret2
    exact ⟨_, _, rfl, Own.lit w [] (by simp), (Below.refl _ _).alloc (Nat.le_refl _) _⟩

theorem mcV_length (n : Int) : (mcV n).length ≤ 13 := by
  unfold mcV
  split
  · rename_i h
    have := inB_iff.1 h
    rw [mcTo_length]
    omega
  · simp

theorem lawMat (n : Int) (w : World) :
    Calls Try.prog 7 #[.int .i64 n] w fun e w' => e = .returned (.bool true) ∧ Below w.heap.size w w' := by
  have hl := mcV_length n
  go_enter Try.func7, Try.ntmps7
  go_wp2_with (go_at_call 26; refine (specMat_c _ _).mono ?_; rintro e w1 ⟨A1, c1, rfl, ho1, hb1⟩)
  go_wp2_with (go_at_call 27; refine (implMat_c _ _).mono ?_; rintro e w2 ⟨A2, c2, rfl, ho2, hb2⟩)
  go_wp2_with (go_at_call 20; refine (eqIntS_c _ _ _ _ _ _ _ ho2.rd (ho1.below hb2).rd (by omega) (by omega)).mono ?_; rintro e w3 ⟨rfl, n3, rfl⟩)
  go_wp2_with (go_at_call 21; refine (markIntS_c _ _ _ _ _ _ (ho2.drewN n3) (by omega) (by omega) (by omega)).mono ?_; rintro e w4 ⟨rfl, ho4, hg4⟩)
  have hz2 := hb2.size
  have hp1 := ((ho1.below hb2).drewN n3).grown hg4 (ho1.apart ho2 (Nat.le_refl _))
  have hB4 : Below w.heap.size w w4 := (bDrewN (bUp hb1 hb2 hb1.size) n3).grown hg4 (by have := hb1.size; show _ ≤ w2.heap.size; omega) (fun k hk => by have := ho2.ge k hk; have := hb1.size; omega)
  clear ho1 ho2 hg4
  go_wp2_with (go_at_call 22; refine (heldIntS_c _ _ _ _ _ ho4.rd (by omega) (by omega) (by omega)).mono ?_; rintro e w5 ⟨rfl, n5, rfl⟩)
  go_wp2_with (go_at_call 27; refine (implMat_c _ _).mono ?_; rintro e w6 ⟨A6, c6, rfl, ho6, hb6⟩)
  go_wp2_with (go_at_call 20; refine (eqIntS_c _ _ _ _ _ _ _ ho6.rd ((hp1.drewN n5).below hb6).rd (by omega) (by omega)).mono ?_; rintro e w7 ⟨rfl, n7, rfl⟩)
  go_wp2_with (go_at_call 22; refine (heldIntS_c _ _ _ _ _ (((ho4.drewN n5).below hb6).drewN n7).rd (by omega) (by omega) (by omega)).mono ?_; rintro e w8 ⟨rfl, n8, rfl⟩)
  go_ret
  exact ⟨rfl, bDrewN (bUp (bDrewN hB4 n5) hb6 hB4.size) _⟩
end Go.Proofs.Ytchkflpdnmhboaa
