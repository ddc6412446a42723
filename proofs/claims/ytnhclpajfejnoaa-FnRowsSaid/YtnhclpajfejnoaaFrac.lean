/- Fractions: the walks of both packages. -/
import Derived.Test.YtnhclpajfejnoaaFracB
import Derived.Test.YtnhclpajfejnoaaScal
namespace Go.Proofs.Ytnhclpajfejnoaa
open Go.RowKit

theorem l2Gcd_c (a b : Int) (ha : 0 ≤ a) (ha2 : a ≤ 4000000000000000000) (hb : 0 ≤ b) (hb2 : b ≤ 4000000000000000000) (w : World) :
    Calls Try.prog 134 #[.int .i64 a, .int .i64 b] w fun e w' => e = .returned (.int .i64 (gI a b)) ∧ Dr w w' := by
  go_enter Try.func134, Try.ntmps134
  go_wp2
  go_loopw [0, 1] (fun x y wr => ∃ p q : Int, ∃ n, x = .int .i64 p ∧ y = .int .i64 q ∧ 0 ≤ p ∧ p ≤ 4000000000000000000 ∧ 0 ≤ q ∧ q ≤ 4000000000000000000 ∧ gI p q = gI a b ∧ wr = w.drewN n) (fun _ y _ => (intOf y).natAbs)
  case atStart => exact ⟨a, b, 0, rfl, rfl, ha, ha2, hb, hb2, rfl, rfl⟩
  case round =>
    obtain ⟨p, q, n, rfl, rfl, h1, h2, h3, h4, h5, rfl⟩ := hrel
    have H5 := Lib.hid h5
    clear h5
    by_cases hq : 0 < q
    · have hm := Int.emod_nonneg p (show q ≠ 0 by omega)
      have hm2 := Int.emod_lt_of_pos p hq
      have HG := Lib.hid (gI_emod p q h1)
      go_wp2
      go_region
      go_wp2
      go_roundw
      case rel => exact ⟨q, p % q, _, rfl, rfl, by omega, by omega, by omega, by omega, by rw [HG.out, H5.out], drew_drewN _ _⟩
      case measure => simp [intOf] <;> omega
    · have hq0 : q = 0 := by omega
      subst hq0
      go_wp2
      go_ret
      rw [gI_zero] at H5
      exact ⟨by rw [← H5.out, Int.natAbs_of_nonneg h1]; rfl, _, rfl⟩

theorem commonDivisor_c (a b : Int) (ha : -4000000000000000000 ≤ a) (ha2 : a ≤ 4000000000000000000) (hb : -4000000000000000000 ≤ b) (hb2 : b ≤ 4000000000000000000) (w : World) :
    Calls Try.prog 133 #[.int .i64 a, .int .i64 b] w fun e w' => e = .returned (.int .i64 (gI a b)) ∧ Dr w w' := by
  go_enter Try.func133, Try.ntmps133
  go_wp2
  go_loopw [0, 1] (fun x y wr => ∃ p q : Int, ∃ n, x = .int .i64 p ∧ y = .int .i64 q ∧ -4000000000000000000 ≤ p ∧ p ≤ 4000000000000000000 ∧ -4000000000000000000 ≤ q ∧ q ≤ 4000000000000000000 ∧ gI p q = gI a b ∧ wr = w.drewN n) (fun _ y _ => (intOf y).natAbs)
  case atStart => exact ⟨a, b, 0, rfl, rfl, ha, ha2, hb, hb2, rfl, rfl⟩
  case round =>
    obtain ⟨p, q, n, rfl, rfl, h1, h2, h3, h4, h5, rfl⟩ := hrel
    have H5 := Lib.hid h5
    clear h5
    by_cases hq : q = 0
    · subst hq
      rcases (show 0 < p ∨ p = 0 ∨ p < 0 by omega) with hp | hp | hp
      · go_wp2
        go_ret
        exact ⟨by rw [← H5.out, gI_zero, show ((p.natAbs : Int)) = p by omega]; rfl, _, rfl⟩
      · subst hp
        go_wp2
        go_ret
        exact ⟨by rw [← H5.out]; rfl, _, rfl⟩
      · go_wp2
        go_ret
        exact ⟨by rw [← H5.out, gI_zero, show ((p.natAbs : Int)) = -p by omega]; rfl, _, rfl⟩
    · have hm := natAbs_tmod_lt p q hq
      have e1 : (q != 0) = true := by simp [hq]
      have HG := Lib.hid (gI_tmod p q)
      go_wp2
      go_region
      go_wp2
      go_roundw
      case rel => exact ⟨q, p.tmod q, _, rfl, rfl, by omega, by omega, by omega, by omega, by rw [HG.out, H5.out], drew_drewN _ _⟩
      case measure => exact hm

theorem l2Abs_c (a : Int) (ha : -4000000000000000000 ≤ a) (ha2 : a ≤ 4000000000000000000) (w : World) :
    Calls Try.prog 135 #[.int .i64 a] w fun e w' => e = .returned (.int .i64 (a.natAbs : Int)) ∧ w = w' := by
  by_cases h : -a < a
  all_goals
    go_enter Try.func135, Try.ntmps135
    go_wp2
    go_ret
    exact ⟨by go_num, rfl⟩

theorem l2Cut_c (a b : Int) (ha : -4000000000000000000 ≤ a) (ha2 : a ≤ 4000000000000000000) (hb : 0 < b) (hb2 : b ≤ 4000000000000000000) (w : World) :
    Calls Try.prog 105 #[.int .i64 a, .int .i64 b] w fun e w' => e = .returned (.agg #[.int .i64 (cutT a b), .int .i64 (cutB a b)]) ∧ Below w.heap.size w w' := by
  have hg := gI_pos (a := a) (b := b) (by omega)
  have hg2 := gI_le (a := a) hb
  go_enter Try.func105, Try.ntmps105
  go_wp2_with (first
    | (go_at_call 135; refine (l2Abs_c a ha ha2 _).mono ?_; rintro e w' ⟨rfl, rfl⟩)
    | (go_at_call 134; refine (l2Gcd_c _ b (by omega) (by omega) (by omega) (by omega) _).mono ?_; rw [gI_abs]; rintro e w' ⟨rfl, n, rfl⟩))
  go_region
  go_wp2
  rw [← tdiv_gI_left]
  exact bodyPost_ret (v := .agg #[.int .i64 (a.tdiv (gI a b)), .int .i64 (cutB a b)]) (by simp [results, Try.results105, go_sem, cutB]) rfl ⟨rfl, by with_reducible repeat (first | exact Below.refl _ _ | refine Below.drew ?_ | refine bDrewN ?_ _ | refine Below.setCell ?_ (by simp) _ | refine Below.alloc ?_ (by simp) _)⟩
theorem fracB_1 {a b : Int} (h : inB a (-1000000000) 1000000000 = false) : fracB a b = false := by simp [fracB, h]
theorem fracB_2 {a b : Int} (h : inB b 1 1000000 = false) : fracB a b = false := by simp [fracB, h]
theorem fracB_3 {a b : Int} (h1 : inB a (-1000000000) 1000000000 = true) (h2 : inB b 1 1000000 = true) : fracB a b = (gI (a.natAbs : Int) b == 1) := by
  rw [gI_abs]
  simp [fracB, h1, h2]
  rfl
theorem l2Frac_3 (a b : Int) (ha : -4000000000000000000 ≤ a) (ha2 : a ≤ 4000000000000000000) (h1 : inB a (-1000000000) 1000000000 = true) (h2 : inB b 1 1000000 = true) (w : World) :
    Calls Try.prog 128 #[.agg #[.int .i64 a, .int .i64 b]] w fun e w' => e = .returned (.bool (fracB a b)) ∧ Below w.heap.size w w' := by
  have b2 := inB_iff.1 h2
  have HF := Lib.hid (fracB_3 h1 h2)
  go_enter Try.func128, Try.ntmps128
  go_wp2
  go_quiet ((first
    | (go_at_call 64; exact qSame (l1In_is _ _ _ _ (by assumption) _))
    | (go_at_call 135; exact qSame (l2Abs_c a ha ha2 _))
    | (go_at_call 134; exact qDr (l2Gcd_c _ b (by omega) (by omega) (by omega) (by omega) _))))
  go_wp2
  go_ret
  exact ⟨by rw [HF.out]; rfl, (by with_reducible repeat (first | exact Below.refl _ _ | refine Below.drew ?_ | refine bDrewN ?_ _ | refine Below.setCell ?_ (by simp) _ | refine Below.alloc ?_ (by simp) _))⟩
theorem l2Frac_2 (a b : Int) (h1 : inB a (-1000000000) 1000000000 = true) (h2 : inB b 1 1000000 = false) (w : World) :
    Calls Try.prog 128 #[.agg #[.int .i64 a, .int .i64 b]] w fun e w' => e = .returned (.bool (fracB a b)) ∧ Below w.heap.size w w' := by
  have HF := Lib.hid (fracB_2 (a := a) h2)
  go_enter Try.func128, Try.ntmps128
  go_wp2
  go_quiet ((first
    | (go_at_call 64; exact qSame (l1In_is _ _ _ _ (by assumption) _))))
  go_wp2
  go_ret
  exact ⟨by rw [HF.out]; rfl, (by with_reducible repeat (first | exact Below.refl _ _ | refine Below.drew ?_ | refine bDrewN ?_ _ | refine Below.setCell ?_ (by simp) _ | refine Below.alloc ?_ (by simp) _))⟩
theorem l2Frac_1 (a b : Int) (h1 : inB a (-1000000000) 1000000000 = false) (w : World) :
    Calls Try.prog 128 #[.agg #[.int .i64 a, .int .i64 b]] w fun e w' => e = .returned (.bool (fracB a b)) ∧ Below w.heap.size w w' := by
  have HF := Lib.hid (fracB_1 (b := b) h1)
  go_enter Try.func128, Try.ntmps128
  go_wp2
  go_quiet ((first
    | (go_at_call 64; exact qSame (l1In_is _ _ _ _ (by assumption) _))))
  go_wp2
  go_ret
  exact ⟨by rw [HF.out]; rfl, (by with_reducible repeat (first | exact Below.refl _ _ | refine Below.drew ?_ | refine bDrewN ?_ _ | refine Below.setCell ?_ (by simp) _ | refine Below.alloc ?_ (by simp) _))⟩
theorem l2Frac_c (a b : Int) (ha : -4000000000000000000 ≤ a) (ha2 : a ≤ 4000000000000000000) (w : World) :
    Calls Try.prog 128 #[.agg #[.int .i64 a, .int .i64 b]] w fun e w' => e = .returned (.bool (fracB a b)) ∧ Below w.heap.size w w' := by
  cases h1 : inB a (-1000000000) 1000000000 with
  | false => exact l2Frac_1 a b h1 w
  | true =>
    cases h2 : inB b 1 1000000 with
    | false => exact l2Frac_2 a b h1 h2 w
    | true => exact l2Frac_3 a b ha ha2 h1 h2 w

theorem l2Kept_c (a b : Int) (ha : -4000000000000000000 ≤ a) (ha2 : a ≤ 4000000000000000000) (w : World) :
    Calls Try.prog 104 #[.agg #[.int .i64 a, .int .i64 b]] w fun e w' =>
      e = .returned (.tuple #[.agg #[.int .i64 (kpT a b), .int .i64 (kpB a b)], .bool (fracB a b)]) ∧ Below w.heap.size w w' := by
  by_cases h : fracB a b = true
  · have HF := Lib.hid (show kpT a b = a ∧ kpB a b = b by simp [kpT, kpB, h])
    go_enter Try.func104, Try.ntmps104
    go_wp2_with (go_at_call 128; refine (l2Frac_c a b ha ha2 _).mono ?_; rintro e w1 ⟨rfl, hb1⟩; obtain ⟨hc, hf⟩ := bcell hb1; have hz := hb1.size; simp at hz)
    have HB0 : Below w.heap.size w w1 := (((Below.refl _ _).alloc (Nat.le_refl _) _).alloc (by simp) _).trans (hb1.mono (by simp; omega))
    rw [HF.out.1, HF.out.2]
    exact bodyPost_ret (v := .tuple #[.agg #[.int .i64 a, .int .i64 b], .bool true]) (by simp [results, Try.results104, go_sem, hc]) rfl ⟨by rw [h], (by with_reducible repeat (first | exact HB0 | refine Below.setCell ?_ (by simp) _))⟩
  · have h' : fracB a b = false := by simpa using h
    have HF := Lib.hid (show kpT a b = 0 ∧ kpB a b = 0 by simp [kpT, kpB, h'])
    clear h
    go_enter Try.func104, Try.ntmps104
    go_wp2_with (go_at_call 128; refine (l2Frac_c a b ha ha2 _).mono ?_; rintro e w1 ⟨rfl, hb1⟩; obtain ⟨hc, hf⟩ := bcell hb1; have hz := hb1.size; simp at hz)
    have HB0 : Below w.heap.size w w1 := (((Below.refl _ _).alloc (Nat.le_refl _) _).alloc (by simp) _).trans (hb1.mono (by simp; omega))
    rw [HF.out.1, HF.out.2]
    exact bodyPost_ret (v := .tuple #[.agg #[.int .i64 0, .int .i64 0], .bool false]) (by simp [results, Try.results104, go_sem, hc]) rfl ⟨by rw [h'], (by with_reducible repeat (first | exact HB0 | refine Below.setCell ?_ (by simp) _))⟩
theorem lowest_y (a b : Int) (ha : -4000000000000000000 ≤ a) (ha2 : a ≤ 4000000000000000000) (hb : 0 < b) (hb2 : b ≤ 4000000000000000000)
    (h1 : inB (a.tdiv (gI a b)) (-1000000000) 1000000000 = true) (h2 : b / gI a b ≤ 1000000) (w : World) : Calls Try.prog 99 #[.int .i64 a, .int .i64 b] w fun e w' =>
      e = .returned (.tuple #[.agg #[.int .i64 (a.tdiv (gI a b)), .int .i64 (b / gI a b)], .bool true]) ∧ Below w.heap.size w w' := by
  have hg := gI_pos (a := a) (b := b) (by omega)
  have hg2 := gI_le (a := a) hb
  go_enter Try.func99, Try.ntmps99
  go_wp2_with (first
    | (go_at_call 133; refine (commonDivisor_c a b ha ha2 (by omega) hb2 _).mono ?_; rintro e w' ⟨rfl, n, rfl⟩)
    | (go_at_call 92; refine (within_is _ _ _ _ (by assumption) _).mono ?_; rintro e w' ⟨rfl, rfl⟩))
  go_region
  go_wp2_with (go_at_call 92; refine (within_is _ _ _ _ (by assumption) _).mono ?_; rintro e w' ⟨rfl, rfl⟩)
  exact bodyPost_ret (v := .tuple #[.agg #[.int .i64 (a.tdiv (gI a b)), .int .i64 (b / gI a b)], .bool true]) (by simp [results, Try.results99, go_sem]) rfl ⟨rfl, (by with_reducible repeat (first | exact Below.refl _ _ | refine Below.drew ?_ | refine bDrewN ?_ _ | refine Below.setCell ?_ (by simp) _ | refine Below.alloc ?_ (by simp) _))⟩
theorem lowest_n2 (a b : Int) (ha : -4000000000000000000 ≤ a) (ha2 : a ≤ 4000000000000000000) (hb : 0 < b) (hb2 : b ≤ 4000000000000000000)
    (h1 : inB (a.tdiv (gI a b)) (-1000000000) 1000000000 = true) (h2 : ¬ b / gI a b ≤ 1000000) (w : World) : Calls Try.prog 99 #[.int .i64 a, .int .i64 b] w fun e w' =>
      e = .returned (.tuple #[.agg #[.int .i64 0, .int .i64 0], .bool false]) ∧ Below w.heap.size w w' := by
  have hg := gI_pos (a := a) (b := b) (by omega)
  have hg2 := gI_le (a := a) hb
  go_enter Try.func99, Try.ntmps99
  go_wp2_with (first
    | (go_at_call 133; refine (commonDivisor_c a b ha ha2 (by omega) hb2 _).mono ?_; rintro e w' ⟨rfl, n, rfl⟩)
    | (go_at_call 92; refine (within_is _ _ _ _ (by assumption) _).mono ?_; rintro e w' ⟨rfl, rfl⟩))
  go_region
  go_wp2_with (go_at_call 92; refine (within_is _ _ _ _ (by assumption) _).mono ?_; rintro e w' ⟨rfl, rfl⟩)
  exact bodyPost_ret (v := .tuple #[.agg #[.int .i64 0, .int .i64 0], .bool false]) (by simp [results, Try.results99, go_sem]) rfl ⟨rfl, (by with_reducible repeat (first | exact Below.refl _ _ | refine Below.drew ?_ | refine bDrewN ?_ _ | refine Below.setCell ?_ (by simp) _ | refine Below.alloc ?_ (by simp) _))⟩
theorem lowest_n1 (a b : Int) (ha : -4000000000000000000 ≤ a) (ha2 : a ≤ 4000000000000000000) (hb : 0 < b) (hb2 : b ≤ 4000000000000000000)
    (h1 : inB (a.tdiv (gI a b)) (-1000000000) 1000000000 = false) (w : World) : Calls Try.prog 99 #[.int .i64 a, .int .i64 b] w fun e w' =>
      e = .returned (.tuple #[.agg #[.int .i64 0, .int .i64 0], .bool false]) ∧ Below w.heap.size w w' := by
  have hg := gI_pos (a := a) (b := b) (by omega)
  have hg2 := gI_le (a := a) hb
  go_enter Try.func99, Try.ntmps99
  go_wp2_with (first
    | (go_at_call 133; refine (commonDivisor_c a b ha ha2 (by omega) hb2 _).mono ?_; rintro e w' ⟨rfl, n, rfl⟩)
    | (go_at_call 92; refine (within_is _ _ _ _ (by assumption) _).mono ?_; rintro e w' ⟨rfl, rfl⟩))
  go_region
  go_wp2_with (go_at_call 92; refine (within_is _ _ _ _ (by assumption) _).mono ?_; rintro e w' ⟨rfl, rfl⟩)
  exact bodyPost_ret (v := .tuple #[.agg #[.int .i64 0, .int .i64 0], .bool false]) (by simp [results, Try.results99, go_sem]) rfl ⟨rfl, (by with_reducible repeat (first | exact Below.refl _ _ | refine Below.drew ?_ | refine bDrewN ?_ _ | refine Below.setCell ?_ (by simp) _ | refine Below.alloc ?_ (by simp) _))⟩
theorem lowest_c (a b : Int) (ha : -4000000000000000000 ≤ a) (ha2 : a ≤ 4000000000000000000) (hb : 0 < b) (hb2 : b ≤ 4000000000000000000) (w : World) :
    Calls Try.prog 99 #[.int .i64 a, .int .i64 b] w fun e w' =>
      e = .returned (.tuple #[.agg #[.int .i64 (lwT a b), .int .i64 (lwB a b)], .bool (lwOk a b)]) ∧ Below w.heap.size w w' := by
  have HT := tdiv_gI_left a b
  have hL := lwOk_eq (a := a) hb
  have hB : b / gI a b = cutB a b := rfl
  cases h1 : inB (a.tdiv (gI a b)) (-1000000000) 1000000000 with
  | false =>
    have h1' := h1
    rw [HT] at h1'
    have hok : lwOk a b = false := by rw [hL, h1']; rfl
    have hF : lwT a b = 0 ∧ lwB a b = 0 := by
      unfold lwOk at hok
      simp [lwT, lwB, kpT, kpB, hok]
    rw [hF.1, hF.2, hok]
    exact lowest_n1 a b ha ha2 hb hb2 h1 w
  | true =>
    have h1' := h1
    rw [HT] at h1'
    by_cases h2 : b / gI a b ≤ 1000000
    · have hok : lwOk a b = true := by rw [hL, h1', ← hB]; simpa using h2
      have hF : lwT a b = a.tdiv (gI a b) ∧ lwB a b = b / gI a b := by
        unfold lwOk at hok
        rw [HT, hB]
        simp [lwT, lwB, kpT, kpB, hok]
      rw [hF.1, hF.2, hok]
      exact lowest_y a b ha ha2 hb hb2 h1 h2 w
    · have hok : lwOk a b = false := by rw [hL, h1', ← hB]; simpa using h2
      have hF : lwT a b = 0 ∧ lwB a b = 0 := by
        unfold lwOk at hok
        simp [lwT, lwB, kpT, kpB, hok]
      rw [hF.1, hF.2, hok]
      exact lowest_n2 a b ha ha2 hb hb2 h1 h2 w

end Go.Proofs.Ytnhclpajfejnoaa
