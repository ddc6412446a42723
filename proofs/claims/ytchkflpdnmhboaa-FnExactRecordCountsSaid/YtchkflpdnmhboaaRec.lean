/- RecordCounts: both programs fill the same table. -/
import Derived.Test.YtchkflpdnmhboaaScal
import Derived.Test.YtchkflpdnmhboaaLaws
import Derived.Test.YtchkflpdnmhboaaInts
import Derived.StillTailTactics
namespace Go.Proofs.Ytchkflpdnmhboaa
open Go.RowKit

def rcIn (k : Nat) (t : List Int) : Nat → List Int
  | 0 => List.replicate (k + 2) 0
  | r + 1 => ((rcIn k t r).set r (nth (rcIn k t r) r + k * nth t r)).set (r + 1) (nth (rcIn k t r) (r + 1) + nth t r)
def rcAt : Nat → List Int
  | 0 => [1]
  | k + 1 => rcIn k (rcAt k) (k + 1)
theorem rcIn_length (k : Nat) (t : List Int) (r : Nat) : (rcIn k t r).length = k + 2 := by
  induction r with
  | zero => simp [rcIn]
  | succ r ih => unfold rcIn; simp [ih]
theorem rcAt_length (k : Nat) : (rcAt k).length = k + 1 := by
  cases k with
  | zero => rfl
  | succ k => exact rcIn_length _ _ _
theorem rcIn_succ (k : Nat) (t : List Int) (r : Nat) : rcIn k t (r + 1) = ((rcIn k t r).set r (nth (rcIn k t r) r + k * nth t r)).set (r + 1) (nth (rcIn k t r) (r + 1) + nth t r) := rfl
def inT (x : Int) : Bool := decide (0 ≤ x) && decide (x ≤ 1000000000)
theorem inT_iff {x : Int} : inT x = true ↔ 0 ≤ x ∧ x ≤ 1000000000 := by simp [inT]
theorem rc_bd : ∀ k, k ≤ 12 → ∀ r, r ≤ k → inT (nth (rcAt k) r) = true ∧ inT (nth (rcIn k (rcAt k) r) r) = true ∧ inT (nth (rcIn k (rcAt k) r) (r + 1)) = true := by decide +kernel
/-- What both answer. -/
def rcV (n : Int) : List Int := if inB n 0 12 then rcAt n.toNat else []

theorem implRec_c (n : Int) (w : World) : Calls Try.prog 19 #[.int .i64 n] w (Gives w (rcV n) (inB n 0 12)) := by
  by_cases h : inB n 0 12 = true
  · have hb := inB_iff.1 h
    obtain ⟨n, rfl⟩ := Int.eq_ofNat_of_zero_le hb.1
    have hv : rcV n = rcAt n := by simp [rcV, h]
    rw [hv, h]
    clear hv
    go_enter Try.func19, Try.ntmps19
    go_wp2_with (go_at_call 48; refine (within_c _ _ _ _).mono ?_; rintro e w' ⟨rfl, rfl⟩)
    go_loopw [4, 14] (fun t i wr => ∃ j : Nat, ∃ A c, j ≤ n ∧ i = .int .i64 j ∧ t = .slice A (j + 1) c ∧ Own wr w.heap.size A c (rcAt j) ∧ Below w.heap.size w wr) (fun _ i _ => n - (intOf i).toNat)
    case atStart => exact ⟨0, _, _, by omega, rfl, rfl, Own.lit w [1] (by simp), (Below.refl _ _).alloc (Nat.le_refl _) _⟩
    case round =>
      obtain ⟨wo, rfl⟩ : ∃ wo : World, wo = wr := ⟨_, rfl⟩
      obtain ⟨j, A, c, hj, rfl, rfl, ho, hB⟩ := hrel
      obtain ⟨g, rfl, hg1, hg2⟩ := ho.form (by rw [rcAt_length]; omega)
      by_cases hlt : j < n
      · go_wp2_with (at_make; refine wp_make_ints _ rfl _ _ rfl _ _ _ _ (j + 2) rfl rfl (by omega) (by omega) (by omega) ?_; intro w2 ho2 hb2)
        go_loopw [22] (fun i wr => ∃ r : Nat, r ≤ j + 1 ∧ i = .int .i64 r ∧ Own wr wo.heap.size (some ⟨wo.heap.size, 0, none⟩) (j + 2) (rcIn j (rcAt j) r) ∧ Below wo.heap.size wo wr) (fun i _ => j + 1 - (intOf i).toNat)
        case atStart => exact ⟨0, by omega, rfl, ho2, hb2⟩
        case round =>
          obtain ⟨r, hr, rfl, hoi, hbi⟩ := hrel
          clear ho2 hb2
          by_cases hr1 : r < j + 1
          · obtain ⟨q1, q2, q3⟩ := rc_bd j (by omega) r (by omega)
            have q1 := inT_iff.1 q1
            have q2 := inT_iff.1 q2
            have q3 := inT_iff.1 q3
            have hl := rcIn_length j (rcAt j) r
            have hl2 := rcAt_length j
            have hct := (ho.below hbi).cellN (k := r) (by omega)
            have hcn := hoi.cellN (k := r) (by omega)
            have hfn := hoi.frozen r
            have hst := hoi.set r (nth (rcIn j (rcAt j) r) r + j * nth (rcAt j) r)
            have hm1 := mul_bd j (nth (rcAt j) r) 12 1000000000 (by omega) (by omega) (by omega) (by omega)
            have hcn2 := hoi.cellN (k := r + 1) (by omega)
            have hfn2 := hoi.frozen (r + 1)
            have hst2 := hst.1.set (r + 1) (nth (rcIn j (rcAt j) r) (r + 1) + nth (rcAt j) r)
            rw [← rcIn_succ] at hst2
            clear hl hl2
            have HB := (hbi.grown hst.2 hbi.size (by simp)).grown hst2.2 (by simpa using hbi.size) (by simp)
            clear hst
            go_wp2
            go_roundw
            case rel => exact ⟨r + 1, by omega, by go_num, hst2.1, HB⟩
            case measure => simp [intOf] <;> omega
          · have hke : r = j + 1 := by omega
            subst hke
            go_wp2
            go_roundw
            case rel => exact ⟨j + 1, _, _, by omega, by go_num, rfl, hoi.mono hB.size, hB.trans (hbi.mono hB.size)⟩
            case measure => simp [intOf] <;> omega
      · have hjm : j = n := by omega
        subst hjm
        go_wp2
        go_ret2
        exact ⟨_, _, by rw [rcAt_length]; rfl, ho, hB⟩
  · have h' : inB n 0 12 = false := by simpa using h
    have hv : rcV n = [] := by simp [rcV, h']
    rw [hv, h']
    clear hv
    go_enter Try.func19, Try.ntmps19
    go_wp2_with (go_at_call 48; refine (within_c _ _ _ _).mono ?_; rintro e w' ⟨rfl, rfl⟩)
    go_ret2
    exact ⟨_, _, rfl, Own.nil _ _, Below.refl _ _⟩

theorem specRec_c (n : Int) (w : World) : Calls Try.prog 18 #[.int .i64 n] w (Gives w (rcV n) (inB n 0 12)) := by
  by_cases h : inB n 0 12 = true
  · have hb := inB_iff.1 h
    obtain ⟨n, rfl⟩ := Int.eq_ofNat_of_zero_le hb.1
    have hv : rcV n = rcAt n := by simp [rcV, h]
    rw [hv, h]
    clear hv
    go_enter Try.func18, Try.ntmps18
    go_wp2_with (go_at_call 46; refine (l1In_c _ _ _ _).mono ?_; rintro e w' ⟨rfl, rfl⟩)
    go_loopw [4, 5] (fun t i wr => ∃ j : Nat, ∃ A c, j ≤ n ∧ i = .int .i64 (j + 1) ∧ t = .slice A (j + 1) c ∧ Own wr w.heap.size A c (rcAt j) ∧ Below w.heap.size w wr) (fun _ i _ => n + 1 - (intOf i).toNat)
    case atStart => exact ⟨0, _, _, by omega, rfl, rfl, Own.lit w [1] (by simp), (Below.refl _ _).alloc (Nat.le_refl _) _⟩
    case round =>
      obtain ⟨wo, rfl⟩ : ∃ wo : World, wo = wr := ⟨_, rfl⟩
      obtain ⟨j, A, c, hj, rfl, rfl, ho, hB⟩ := hrel
      obtain ⟨g, rfl, hg1, hg2⟩ := ho.form (by rw [rcAt_length]; omega)
      by_cases hlt : j < n
      · go_wp2_with (at_make; refine wp_make_ints _ rfl _ _ rfl _ _ _ _ (j + 2) rfl rfl (by omega) (by omega) (by omega) ?_; intro w2 ho2 hb2)
        go_loopw [7] (fun i wr => ∃ r : Nat, r ≤ j + 1 ∧ i = .int .i64 r ∧ Own wr wo.heap.size (some ⟨wo.heap.size, 0, none⟩) (j + 2) (rcIn j (rcAt j) r) ∧ Below wo.heap.size wo wr) (fun i _ => j + 1 - (intOf i).toNat)
        case atStart => exact ⟨0, by omega, rfl, ho2, hb2⟩
        case round =>
          obtain ⟨r, hr, rfl, hoi, hbi⟩ := hrel
          clear ho2 hb2
          by_cases hr1 : r < j + 1
          · obtain ⟨q1, q2, q3⟩ := rc_bd j (by omega) r (by omega)
            have q1 := inT_iff.1 q1
            have q2 := inT_iff.1 q2
            have q3 := inT_iff.1 q3
            have hl := rcIn_length j (rcAt j) r
            have hl2 := rcAt_length j
            have hct := (ho.below hbi).cellN (k := r) (by omega)
            have hcn := hoi.cellN (k := r) (by omega)
            have hfn := hoi.frozen r
            have hst := hoi.set r (nth (rcIn j (rcAt j) r) r + j * nth (rcAt j) r)
            have hm1 := mul_bd j (nth (rcAt j) r) 12 1000000000 (by omega) (by omega) (by omega) (by omega)
            have hcn2 := hoi.cellN (k := r + 1) (by omega)
            have hfn2 := hoi.frozen (r + 1)
            have hst2 := hst.1.set (r + 1) (nth (rcIn j (rcAt j) r) (r + 1) + nth (rcAt j) r)
            rw [← rcIn_succ] at hst2
            clear hl hl2
            have HB := (hbi.grown hst.2 hbi.size (by simp)).grown hst2.2 (by simpa using hbi.size) (by simp)
            clear hst
            go_wp2
            go_region
            go_wp2
            go_region
            go_wp2
            go_roundw
            case rel => exact ⟨r + 1, by omega, by go_num, hst2.1, HB.drew.drew⟩
            case measure => simp [intOf] <;> omega
          · have hke : r = j + 1 := by omega
            subst hke
            go_wp2
            go_roundw
            case rel => exact ⟨j + 1, _, _, by omega, by go_num, rfl, hoi.mono hB.size, hB.trans (hbi.mono hB.size)⟩
            case measure => simp [intOf] <;> omega
      · have hjm : j = n := by omega
        subst hjm
        go_wp2
        go_ret2
        exact ⟨_, _, by rw [rcAt_length]; rfl, ho, hB⟩
  · have h' : inB n 0 12 = false := by simpa using h
    have hv : rcV n = [] := by simp [rcV, h']
    rw [hv, h']
    clear hv
    go_enter Try.func18, Try.ntmps18
    go_wp2_with (go_at_call 46; refine (l1In_c _ _ _ _).mono ?_; rintro e w' ⟨rfl, rfl⟩)
    go_ret2
    exact ⟨_, _, rfl, Own.lit w [] (by simp), (Below.refl _ _).alloc (Nat.le_refl _) _⟩

theorem rcV_length (n : Int) : (rcV n).length ≤ 13 := by
  unfold rcV
  split
  · rename_i h
    have := inB_iff.1 h
    rw [rcAt_length]
    omega
  · simp

theorem lawRec (n : Int) (w : World) :
    Calls Try.prog 5 #[.int .i64 n] w fun e w' => e = .returned (.bool true) ∧ Below w.heap.size w w' := by
  have hl := rcV_length n
  go_enter Try.func5, Try.ntmps5
  go_wp2_with (go_at_call 18; refine (specRec_c _ _).mono ?_; rintro e w1 ⟨A1, c1, rfl, ho1, hb1⟩)
  go_wp2_with (go_at_call 19; refine (implRec_c _ _).mono ?_; rintro e w2 ⟨A2, c2, rfl, ho2, hb2⟩)
  go_wp2_with (go_at_call 20; refine (eqIntS_c _ _ _ _ _ _ _ ho2.rd (ho1.below hb2).rd (by omega) (by omega)).mono ?_; rintro e w3 ⟨rfl, n3, rfl⟩)
  go_wp2_with (go_at_call 21; refine (markIntS_c _ _ _ _ _ _ (ho2.drewN n3) (by omega) (by omega) (by omega)).mono ?_; rintro e w4 ⟨rfl, ho4, hg4⟩)
  have hz2 := hb2.size
  have hp1 := ((ho1.below hb2).drewN n3).grown hg4 (ho1.apart ho2 (Nat.le_refl _))
  have hB4 : Below w.heap.size w w4 := (bDrewN (bUp hb1 hb2 hb1.size) n3).grown hg4 (by have := hb1.size; show _ ≤ w2.heap.size; omega) (fun k hk => by have := ho2.ge k hk; have := hb1.size; omega)
  clear ho1 ho2 hg4
  go_wp2_with (go_at_call 22; refine (heldIntS_c _ _ _ _ _ ho4.rd (by omega) (by omega) (by omega)).mono ?_; rintro e w5 ⟨rfl, n5, rfl⟩)
  go_wp2_with (go_at_call 19; refine (implRec_c _ _).mono ?_; rintro e w6 ⟨A6, c6, rfl, ho6, hb6⟩)
  go_wp2_with (go_at_call 20; refine (eqIntS_c _ _ _ _ _ _ _ ho6.rd ((hp1.drewN n5).below hb6).rd (by omega) (by omega)).mono ?_; rintro e w7 ⟨rfl, n7, rfl⟩)
  go_wp2_with (go_at_call 22; refine (heldIntS_c _ _ _ _ _ (((ho4.drewN n5).below hb6).drewN n7).rd (by omega) (by omega) (by omega)).mono ?_; rintro e w8 ⟨rfl, n8, rfl⟩)
  go_ret
  exact ⟨rfl, bDrewN (bUp (bDrewN hB4 n5) hb6 hB4.size) _⟩
end Go.Proofs.Ytchkflpdnmhboaa
