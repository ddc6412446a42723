/- Fractions: the walks of both packages. -/
import Derived.Test.YtfobjkdkjlbkfaaFracB
import Derived.Test.YtfobjkdkjlbkfaaScal
namespace Go.Proofs.Ytfobjkdkjlbkfaa
open Go.RowKit

theorem l2Gcd_c (a b : Int) (ha : 0 ≤ a) (ha2 : a ≤ 4000000000000000000) (hb : 0 ≤ b) (hb2 : b ≤ 4000000000000000000) (w : World) :
    Calls Try.prog 115 #[.int .i64 a, .int .i64 b] w fun e w' => e = .returned (.int .i64 (gI a b)) ∧ Dr w w' := by
  go_enter Try.func115, Try.ntmps115
  go_wp2
  go_loopw [0, 1] (fun x y wr => ∃ p q : Int, ∃ n, x = .int .i64 p ∧ y = .int .i64 q ∧ 0 ≤ p ∧ p ≤ 4000000000000000000 ∧ 0 ≤ q ∧ q ≤ 4000000000000000000 ∧ gI p q = gI a b ∧ wr = w.drewN n) (fun _ y _ => (intOf y).natAbs)
  case atStart => exact ⟨a, b, 0, rfl, rfl, ha, ha2, hb, hb2, rfl, rfl⟩
  case round =>
    obtain ⟨p, q, n, rfl, rfl, h1, h2, h3, h4, h5, rfl⟩ := hrel
    have H5 := Lib.hid h5
    clear h5
    by_cases hq : 0 < q
    · have hm := Int.emod_nonneg p (show q ≠ 0 by omega)
      have hm2 := Int.emod_lt_of_pos p hq
      have HG := Lib.hid (gI_emod p q h1)
      go_wp2
      go_region
      go_wp2
      go_roundw
      case rel => exact ⟨q, p % q, _, rfl, rfl, by omega, by omega, by omega, by omega, by rw [HG.out, H5.out], drew_drewN _ _⟩
      case measure => simp [intOf] <;> omega
    · have hq0 : q = 0 := by omega
      subst hq0
      go_wp2
      go_ret
      rw [gI_zero] at H5
      exact ⟨by rw [← H5.out, Int.natAbs_of_nonneg h1]; rfl, _, rfl⟩

theorem commonDivisor_c (a b : Int) (ha : -4000000000000000000 ≤ a) (ha2 : a ≤ 4000000000000000000) (hb : -4000000000000000000 ≤ b) (hb2 : b ≤ 4000000000000000000) (w : World) :
    Calls Try.prog 109 #[.int .i64 a, .int .i64 b] w fun e w' => e = .returned (.int .i64 (gI a b)) ∧ Dr w w' := by
  go_enter Try.func109, Try.ntmps109
  go_wp2
  go_loopw [0, 1] (fun x y wr => ∃ p q : Int, ∃ n, x = .int .i64 p ∧ y = .int .i64 q ∧ -4000000000000000000 ≤ p ∧ p ≤ 4000000000000000000 ∧ -4000000000000000000 ≤ q ∧ q ≤ 4000000000000000000 ∧ gI p q = gI a b ∧ wr = w.drewN n) (fun _ y _ => (intOf y).natAbs)
  case atStart => exact ⟨a, b, 0, rfl, rfl, ha, ha2, hb, hb2, rfl, rfl⟩
  case round =>
    obtain ⟨p, q, n, rfl, rfl, h1, h2, h3, h4, h5, rfl⟩ := hrel
    have H5 := Lib.hid h5
    clear h5
    by_cases hq : q = 0
    · subst hq
      rcases (show 0 < p ∨ p = 0 ∨ p < 0 by omega) with hp | hp | hp
      · go_wp2
        go_ret
        exact ⟨by rw [← H5.out, gI_zero, show ((p.natAbs : Int)) = p by omega]; rfl, _, rfl⟩
      · subst hp
        go_wp2
        go_ret
        exact ⟨by rw [← H5.out]; rfl, _, rfl⟩
      · go_wp2
        go_ret
        exact ⟨by rw [← H5.out, gI_zero, show ((p.natAbs : Int)) = -p by omega]; rfl, _, rfl⟩
    · have hm := natAbs_tmod_lt p q hq
      have e1 : (q != 0) = true := by simp [hq]
      have HG := Lib.hid (gI_tmod p q)
      go_wp2
      go_region
      go_wp2
      go_roundw
      case rel => exact ⟨q, p.tmod q, _, rfl, rfl, by omega, by omega, by omega, by omega, by rw [HG.out, H5.out], drew_drewN _ _⟩
      case measure => exact hm

theorem l2Abs_c (a : Int) (ha : -4000000000000000000 ≤ a) (ha2 : a ≤ 4000000000000000000) (w : World) :
    Calls Try.prog 116 #[.int .i64 a] w fun e w' => e = .returned (.int .i64 (a.natAbs : Int)) ∧ w = w' := by
  by_cases h : -a < a
  all_goals
    go_enter Try.func116, Try.ntmps116
    go_wp2
    go_ret
    exact ⟨by go_num, rfl⟩

theorem l2Cut_c (a b : Int) (ha : -4000000000000000000 ≤ a) (ha2 : a ≤ 4000000000000000000) (hb : 0 < b) (hb2 : b ≤ 4000000000000000000) (w : World) :
    Calls Try.prog 60 #[.int .i64 a, .int .i64 b] w fun e w' => e = .returned (.agg #[.int .i64 (cutT a b), .int .i64 (cutB a b)]) ∧ Below w.heap.size w w' := by
  have hg := gI_pos (a := a) (b := b) (by omega)
  have hg2 := gI_le (a := a) hb
  go_enter Try.func60, Try.ntmps60
  go_wp2_with (first
    | (go_at_call 116; refine (l2Abs_c a ha ha2 _).mono ?_; rintro e w' ⟨rfl, rfl⟩)
    | (go_at_call 115; refine (l2Gcd_c _ b (by omega) (by omega) (by omega) (by omega) _).mono ?_; rw [gI_abs]; rintro e w' ⟨rfl, n, rfl⟩))
  go_region
  go_wp2
  rw [← tdiv_gI_left]
  exact bodyPost_ret (v := .agg #[.int .i64 (a.tdiv (gI a b)), .int .i64 (cutB a b)]) (by simp [results, Try.results60, go_sem, cutB]) rfl ⟨rfl, by with_reducible repeat (first | exact Below.refl _ _ | refine Below.drew ?_ | refine bDrewN ?_ _ | refine Below.setCell ?_ (by simp) _ | refine Below.alloc ?_ (by simp) _)⟩

theorem lowest_y (a b : Int) (ha : -4000000000000000000 ≤ a) (ha2 : a ≤ 4000000000000000000) (hb : 0 < b) (hb2 : b ≤ 4000000000000000000)
    (h1 : inB (a.tdiv (gI a b)) (-1000000000) 1000000000 = true) (h2 : b / gI a b ≤ 1000000) (w : World) : Calls Try.prog 55 #[.int .i64 a, .int .i64 b] w fun e w' =>
      e = .returned (.tuple #[.agg #[.int .i64 (a.tdiv (gI a b)), .int .i64 (b / gI a b)], .bool true]) ∧ Below w.heap.size w w' := by
  have hg := gI_pos (a := a) (b := b) (by omega)
  have hg2 := gI_le (a := a) hb
  go_enter Try.func55, Try.ntmps55
  go_wp2_with (first
    | (go_at_call 109; refine (commonDivisor_c a b ha ha2 (by omega) hb2 _).mono ?_; rintro e w' ⟨rfl, n, rfl⟩)
    | (go_at_call 68; refine (within_is _ _ _ _ (by assumption) _).mono ?_; rintro e w' ⟨rfl, rfl⟩))
  go_region
  go_wp2_with (go_at_call 68; refine (within_is _ _ _ _ (by assumption) _).mono ?_; rintro e w' ⟨rfl, rfl⟩)
  exact bodyPost_ret (v := .tuple #[.agg #[.int .i64 (a.tdiv (gI a b)), .int .i64 (b / gI a b)], .bool true]) (by simp [results, Try.results55, go_sem]) rfl ⟨rfl, (by with_reducible repeat (first | exact Below.refl _ _ | refine Below.drew ?_ | refine bDrewN ?_ _ | refine Below.setCell ?_ (by simp) _ | refine Below.alloc ?_ (by simp) _))⟩
theorem lowest_n2 (a b : Int) (ha : -4000000000000000000 ≤ a) (ha2 : a ≤ 4000000000000000000) (hb : 0 < b) (hb2 : b ≤ 4000000000000000000)
    (h1 : inB (a.tdiv (gI a b)) (-1000000000) 1000000000 = true) (h2 : ¬ b / gI a b ≤ 1000000) (w : World) : Calls Try.prog 55 #[.int .i64 a, .int .i64 b] w fun e w' =>
      e = .returned (.tuple #[.agg #[.int .i64 0, .int .i64 0], .bool false]) ∧ Below w.heap.size w w' := by
  have hg := gI_pos (a := a) (b := b) (by omega)
  have hg2 := gI_le (a := a) hb
  go_enter Try.func55, Try.ntmps55
  go_wp2_with (first
    | (go_at_call 109; refine (commonDivisor_c a b ha ha2 (by omega) hb2 _).mono ?_; rintro e w' ⟨rfl, n, rfl⟩)
    | (go_at_call 68; refine (within_is _ _ _ _ (by assumption) _).mono ?_; rintro e w' ⟨rfl, rfl⟩))
  go_region
  go_wp2_with (go_at_call 68; refine (within_is _ _ _ _ (by assumption) _).mono ?_; rintro e w' ⟨rfl, rfl⟩)
  exact bodyPost_ret (v := .tuple #[.agg #[.int .i64 0, .int .i64 0], .bool false]) (by simp [results, Try.results55, go_sem]) rfl ⟨rfl, (by with_reducible repeat (first | exact Below.refl _ _ | refine Below.drew ?_ | refine bDrewN ?_ _ | refine Below.setCell ?_ (by simp) _ | refine Below.alloc ?_ (by simp) _))⟩
theorem lowest_n1 (a b : Int) (ha : -4000000000000000000 ≤ a) (ha2 : a ≤ 4000000000000000000) (hb : 0 < b) (hb2 : b ≤ 4000000000000000000)
    (h1 : inB (a.tdiv (gI a b)) (-1000000000) 1000000000 = false) (w : World) : Calls Try.prog 55 #[.int .i64 a, .int .i64 b] w fun e w' =>
      e = .returned (.tuple #[.agg #[.int .i64 0, .int .i64 0], .bool false]) ∧ Below w.heap.size w w' := by
  have hg := gI_pos (a := a) (b := b) (by omega)
  have hg2 := gI_le (a := a) hb
  go_enter Try.func55, Try.ntmps55
  go_wp2_with (first
    | (go_at_call 109; refine (commonDivisor_c a b ha ha2 (by omega) hb2 _).mono ?_; rintro e w' ⟨rfl, n, rfl⟩)
    | (go_at_call 68; refine (within_is _ _ _ _ (by assumption) _).mono ?_; rintro e w' ⟨rfl, rfl⟩))
  go_region
  go_wp2_with (go_at_call 68; refine (within_is _ _ _ _ (by assumption) _).mono ?_; rintro e w' ⟨rfl, rfl⟩)
  exact bodyPost_ret (v := .tuple #[.agg #[.int .i64 0, .int .i64 0], .bool false]) (by simp [results, Try.results55, go_sem]) rfl ⟨rfl, (by with_reducible repeat (first | exact Below.refl _ _ | refine Below.drew ?_ | refine bDrewN ?_ _ | refine Below.setCell ?_ (by simp) _ | refine Below.alloc ?_ (by simp) _))⟩
theorem lowest_c (a b : Int) (ha : -4000000000000000000 ≤ a) (ha2 : a ≤ 4000000000000000000) (hb : 0 < b) (hb2 : b ≤ 4000000000000000000) (w : World) :
    Calls Try.prog 55 #[.int .i64 a, .int .i64 b] w fun e w' =>
      e = .returned (.tuple #[.agg #[.int .i64 (lwT a b), .int .i64 (lwB a b)], .bool (lwOk a b)]) ∧ Below w.heap.size w w' := by
  have HT := tdiv_gI_left a b
  have hL := lwOk_eq (a := a) hb
  have hB : b / gI a b = cutB a b := rfl
  cases h1 : inB (a.tdiv (gI a b)) (-1000000000) 1000000000 with
  | false =>
    have h1' := h1
    rw [HT] at h1'
    have hok : lwOk a b = false := by rw [hL, h1']; rfl
    have hF : lwT a b = 0 ∧ lwB a b = 0 := by
      unfold lwOk at hok
      simp [lwT, lwB, kpT, kpB, hok]
    rw [hF.1, hF.2, hok]
    exact lowest_n1 a b ha ha2 hb hb2 h1 w
  | true =>
    have h1' := h1
    rw [HT] at h1'
    by_cases h2 : b / gI a b ≤ 1000000
    · have hok : lwOk a b = true := by rw [hL, h1', ← hB]; simpa using h2
      have hF : lwT a b = a.tdiv (gI a b) ∧ lwB a b = b / gI a b := by
        unfold lwOk at hok
        rw [HT, hB]
        simp [lwT, lwB, kpT, kpB, hok]
      rw [hF.1, hF.2, hok]
      exact lowest_y a b ha ha2 hb hb2 h1 h2 w
    · have hok : lwOk a b = false := by rw [hL, h1', ← hB]; simpa using h2
      have hF : lwT a b = 0 ∧ lwB a b = 0 := by
        unfold lwOk at hok
        simp [lwT, lwB, kpT, kpB, hok]
      rw [hF.1, hF.2, hok]
      exact lowest_n2 a b ha ha2 hb hb2 h1 h2 w

end Go.Proofs.Ytfobjkdkjlbkfaa
