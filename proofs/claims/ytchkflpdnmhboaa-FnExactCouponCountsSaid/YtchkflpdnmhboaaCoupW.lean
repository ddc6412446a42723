/- CouponCounts: the walks and the law. -/
import Derived.Test.YtchkflpdnmhboaaCoup
namespace Go.Proofs.Ytchkflpdnmhboaa
open Go.RowKit

def ccOk (n m : Int) : Bool := inB n 1 8 && inB m 0 8
/-- What both answer. -/
def ccI (n m : Int) : Int := if ccOk n m then ccS n.toNat m.toNat (n.toNat + 1) else 0

theorem specCoupon_c (n m : Int) (w : World) :
    Calls Try.prog 16 #[.int .i64 n, .int .i64 m] w fun e w' => e = .returned (.tuple #[.int .i64 (ccI n m), .bool (ccOk n m)]) ∧ w = w' := by
  by_cases h1 : inB n 1 8 = true
  · by_cases h2 : inB m 0 8 = true
    · have hv : ccI n m = ccS n.toNat m.toNat (n.toNat + 1) ∧ ccOk n m = true := by simp [ccI, ccOk, h1, h2]
      rw [hv.1, hv.2]
      clear hv
      have b1 := inB_iff.1 h1
      have b2 := inB_iff.1 h2
      obtain ⟨n, rfl⟩ := Int.eq_ofNat_of_zero_le (show 0 ≤ n by omega)
      obtain ⟨m, rfl⟩ := Int.eq_ofNat_of_zero_le (show 0 ≤ m by omega)
      rw [Int.toNat_natCast, Int.toNat_natCast]
      go_enter Try.func16, Try.ntmps16
      go_wp2_with (go_at_call 46; refine (l1In_c _ _ _ _).mono ?_; rintro e w' ⟨rfl, rfl⟩)
      go_loop [6, 7, 8] (fun s g k => ∃ j : Nat, j ≤ n + 1 ∧ k = .int .i64 ((n : Int) - j) ∧ s = .int .i64 (ccS n m j) ∧ g = .int .i64 (sg j)) (fun _ _ k => (intOf k + 1).toNat)
      case atStart => exact ⟨0, by omega, by simp, rfl, rfl⟩
      case round =>
        obtain ⟨j, hj, rfl, rfl, rfl⟩ := hrel
        have hs := Lib.hid (ccS_succ n m j)
        have ht := Lib.hid (sg_succ j)
        by_cases hlt : j ≤ n
        · have hq := cc_bd n (by omega) m (by omega) j (by omega)
          have hq2 := cc_bd n (by omega) m (by omega) (j + 1) (by omega)
          rw [hs.out] at hq2
          have hg := sg_bd j
          have hc := (ch_bd n (by omega) (n - j) (by omega)).2 (n - j) (by omega)
          have hp := pw_bd (a := ((n - j : Nat) : Int)) 8 8 16777216 (by decide) (by omega) (by omega) (by omega) (show m ≤ 8 by omega)
          have hk : (n : Int) - j = ((n - j : Nat) : Int) := by omega
          rw [hk]
          have HK := Lib.hid hk
          clear hk
          go_wp2_with (first
            | (go_at_call 50; refine (l5Choose_c n (n - j) (by omega) (by omega) _).mono ?_; rintro e w' ⟨rfl, rfl⟩)
            | (go_at_call 51; refine (l5Power_c _ m (by omega) (by omega) (fun i hi => (pw_bd 8 8 1000000000000 (by decide) (by omega) (by omega) (by omega) (show i ≤ 8 by omega)).2) _).mono ?_; rintro e w' ⟨rfl, rfl⟩))
          go_round
          case rel => exact ⟨j + 1, by omega, by (rw [← HK.out]) <;> go_num, by rw [hs.out], by rw [ht.out]⟩
          case measure => simp [intOf] <;> omega
        · go_wp2
          go_ret2
          have : j = n + 1 := by omega
          subst this
          exact ⟨rfl, rfl⟩
    · have h2' : inB m 0 8 = false := by simpa using h2
      have hv : ccI n m = 0 ∧ ccOk n m = false := by simp [ccI, ccOk, h2']
      rw [hv.1, hv.2]
      clear hv
      go_enter Try.func16, Try.ntmps16
      go_wp2_with (go_at_call 46; refine (l1In_c _ _ _ _).mono ?_; rintro e w' ⟨rfl, rfl⟩)
      go_ret2
      exact ⟨rfl, rfl⟩
  · have h1' : inB n 1 8 = false := by simpa using h1
    have hv : ccI n m = 0 ∧ ccOk n m = false := by simp [ccI, ccOk, h1']
    rw [hv.1, hv.2]
    clear hv
    go_enter Try.func16, Try.ntmps16
    go_wp2_with (go_at_call 46; refine (l1In_c _ _ _ _).mono ?_; rintro e w' ⟨rfl, rfl⟩)
    go_ret2
    exact ⟨rfl, rfl⟩

theorem implCoupon_no (n m : Int) (h : ccOk n m = false) (w : World) :
    Calls Try.prog 17 #[.int .i64 n, .int .i64 m] w fun e w' => e = .returned (.tuple #[.int .i64 (ccI n m), .bool (ccOk n m)]) ∧ Below w.heap.size w w' := by
  have hv : ccI n m = 0 := by simp [ccI, h]
  rw [hv, h]
  clear hv
  by_cases h1 : inB n 1 8 = true
  · have h2 : inB m 0 8 = false := by simpa [ccOk, h1] using h
    clear h
    go_enter Try.func17, Try.ntmps17
    go_wp2_with (go_at_call 48; refine (within_c _ _ _ _).mono ?_; rintro e w' ⟨rfl, rfl⟩)
    go_ret2
    exact ⟨rfl, Below.refl _ _⟩
  · have h1' : inB n 1 8 = false := by simpa using h1
    clear h
    go_enter Try.func17, Try.ntmps17
    go_wp2_with (go_at_call 48; refine (within_c _ _ _ _).mono ?_; rintro e w' ⟨rfl, rfl⟩)
    go_ret2
    exact ⟨rfl, Below.refl _ _⟩

set_option maxHeartbeats 1000000 in
theorem implCoupon_yes (n m : Nat) (hn : n ≤ 8) (hn1 : 1 ≤ n) (hm : m ≤ 8) (w : World) :
    Calls Try.prog 17 #[.int .i64 n, .int .i64 m] w fun e w' => e = .returned (.tuple #[.int .i64 (ccS n m (n + 1)), .bool true]) ∧ Below w.heap.size w w' := by
  have h1 : inB (n : Int) 1 8 = true := inB_iff.2 (by omega)
  have h2 : inB (m : Int) 0 8 = true := inB_iff.2 (by omega)
  have HE := Lib.hid (cp_eq n hn hn1 m hm)
  go_enter Try.func17, Try.ntmps17
  go_wp2_with (first
    | (go_at_call 48; refine (within_c _ _ _ _).mono ?_; rintro e w' ⟨rfl, rfl⟩)
    | (at_make; refine wp_make_ints _ rfl _ _ rfl _ _ _ _ (n + 1) rfl rfl (by omega) (by omega) (by omega) ?_; intro w1 ho1 hb1; obtain ⟨u1, hc1⟩ := ho1.some_ (k := 0) (by simp); have hf1 := ho1.frozen 0))
  have hs1 := ho1.set 0 1
  have hb2 := hb1.grown hs1.2 hb1.size (by simp)
  have hs2 := hs1.1
  clear hs1 hc1 hf1 hb1 ho1
  go_loopw [6, 24] (fun t i wr => ∃ j : Nat, ∃ A c, j ≤ m ∧ i = .int .i64 j ∧ t = .slice A (n + 1) c ∧ Own wr w.heap.size A c (cpAt n j) ∧ Below w.heap.size w wr) (fun _ i _ => m - (intOf i).toNat)
  case atStart => exact ⟨0, _, _, by omega, rfl, rfl, hs2, hb2⟩
  case round =>
    obtain ⟨wo, rfl⟩ : ∃ wo : World, wo = wr := ⟨_, rfl⟩
    obtain ⟨j, A, c, hj, rfl, rfl, ho, hb⟩ := hrel
    clear hs2 hb2
    obtain ⟨g, rfl, hg1, hg2⟩ := ho.form (by rw [cpAt_length]; omega)
    by_cases hlt : j < m
    · have hbd := cp_bd n hn j (by omega)
      go_wp2_with (at_make; refine wp_make_ints _ rfl _ _ rfl _ _ _ _ (n + 1) rfl rfl (by omega) (by omega) (by omega) ?_; intro w2 ho2 hb2)
      go_loopw [31] (fun i wr => ∃ k : Nat, k ≤ n + 1 ∧ i = .int .i64 k ∧ Own wr wo.heap.size (some ⟨wo.heap.size, 0, none⟩) (n + 1) (cpIn n (cpAt n j) k) ∧ Below wo.heap.size wo wr) (fun i _ => n + 1 - (intOf i).toNat)
      case atStart => exact ⟨0, by omega, rfl, ho2, hb2⟩
      case round =>
        obtain ⟨k, hk, rfl, hoi, hbi⟩ := hrel
        clear ho2 hb2
        by_cases hk1 : k < n + 1
        · obtain ⟨q1, q2, q3⟩ := hbd k (by omega)
          have q1 := inT_iff.1 q1
          have q2 := inT_iff.1 q2
          have q3 := inT_iff.1 q3
          clear hbd
          have hl := cpIn_length n (cpAt n j) k
          have hl2 := cpAt_length n j
          have hct := (ho.below hbi).cellN (k := k) (by omega)
          have hcn := hoi.cellN (k := k) (by omega)
          have hfn := hoi.frozen k
          have hst := hoi.set k (nth (cpIn n (cpAt n j) k) k + k * nth (cpAt n j) k)
          have hm1 := mul_bd k (nth (cpAt n j) k) 8 1000000000 (by omega) (by omega) (by omega) (by omega)
          by_cases hk2 : k < n
          · have hcn2 := hoi.cellN (k := k + 1) (by omega)
            have hfn2 := hoi.frozen (k + 1)
            have hst2 := hst.1.set (k + 1) (nth (cpIn n (cpAt n j) k) (k + 1) + ((n : Int) - k) * nth (cpAt n j) k)
            have hm2 := mul_bd ((n : Int) - k) (nth (cpAt n j) k) 8 1000000000 (by omega) (by omega) (by omega) (by omega)
            rw [← cpIn_lt n _ k hk2] at hst2
            clear hl hl2
            have HB := (hbi.grown hst.2 hbi.size (by simp)).grown hst2.2 (by simpa using hbi.size) (by simp)
            clear hst
            go_wp2
            go_roundw
            case rel => exact ⟨k + 1, by omega, by go_num, hst2.1, HB⟩
            case measure => simp [intOf] <;> omega
          · rw [← cpIn_ge n _ k hk2] at hst
            clear hl hl2
            have HB := hbi.grown hst.2 hbi.size (by simp)
            go_wp2
            go_roundw
            case rel => exact ⟨k + 1, by omega, by go_num, hst.1, HB⟩
            case measure => simp [intOf] <;> omega
        · have hke : k = n + 1 := by omega
          subst hke
          clear hbd
          go_wp2
          go_roundw
          case rel => exact ⟨j + 1, _, _, by omega, by go_num, rfl, hoi.mono hb.size, hb.trans (hbi.mono hb.size)⟩
          case measure => simp [intOf] <;> omega
    · have hjm : j = m := by omega
      subst hjm
      have hct := ho.cellN (k := n) (by rw [cpAt_length]; omega)
      go_wp2
      go_ret2
      exact ⟨by rw [HE.out]; rfl, hb⟩

theorem implCoupon_c (n m : Int) (w : World) :
    Calls Try.prog 17 #[.int .i64 n, .int .i64 m] w fun e w' => e = .returned (.tuple #[.int .i64 (ccI n m), .bool (ccOk n m)]) ∧ Below w.heap.size w w' := by
  by_cases h : ccOk n m = true
  · have hv : ccI n m = ccS n.toNat m.toNat (n.toNat + 1) := by simp [ccI, h]
    have hok := h
    simp only [ccOk, Bool.and_eq_true, inB_iff] at h
    obtain ⟨n, rfl⟩ := Int.eq_ofNat_of_zero_le (show 0 ≤ n by omega)
    obtain ⟨m, rfl⟩ := Int.eq_ofNat_of_zero_le (show 0 ≤ m by omega)
    rw [hv, hok]
    exact implCoupon_yes n m (by omega) (by omega) (by omega) w
  · exact implCoupon_no n m (by simpa using h) w

theorem lawCoupon (n m : Int) (w : World) :
    Calls Try.prog 4 #[.int .i64 n, .int .i64 m] w fun e w' => e = .returned (.bool true) ∧ Below w.heap.size w w' := by
  go_enter Try.func4, Try.ntmps4
  go_wp2_with (first
      | (go_at_call 16; refine (specCoupon_c _ _ _).mono ?_; rintro e w' ⟨rfl, rfl⟩)
      | (go_at_call 17; refine (implCoupon_c _ _ _).mono ?_; rintro e w1 ⟨rfl, hb⟩))
  go_ret
  exact ⟨rfl, hb⟩
end Go.Proofs.Ytchkflpdnmhboaa
