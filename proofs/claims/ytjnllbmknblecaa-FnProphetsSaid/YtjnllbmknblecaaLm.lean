/- LawMean: the mean of a law, walked in both packages. -/
import Derived.Test.YtjnllbmknblecaaLaw
import Derived.Test.YtjnllbmknblecaaFrac
namespace Go.Proofs.Ytjnllbmknblecaa
open Go.RowKit

/-- The sum of places times weights. -/
def wtK (xs : List Int) : Nat → Int
  | 0 => 0
  | k + 1 => wtK xs k + (k : Int) * nth xs k
def wt (xs : List Int) : Int := wtK xs xs.length
theorem wtK_succ (xs : List Int) (k : Nat) : wtK xs (k + 1) = wtK xs k + (k : Int) * nth xs k := rfl
theorem wt_term {xs : List Int} {M : Int} (hM : M ≤ 100000000000000) (h : allB xs 0 M = true) (hl : xs.length ≤ 64) {k : Nat} (hk : k < xs.length) : 0 ≤ (k : Int) * nth xs k ∧ (k : Int) * nth xs k ≤ 6400000000000000 := by
  have h1 := allB_nth h hk
  have h2 : (k : Int) * nth xs k ≤ 64 * 100000000000000 := Int.mul_le_mul (by omega) (by omega) (by omega) (by omega)
  exact ⟨Int.mul_nonneg (by omega) (by omega), by omega⟩
theorem wtK_bd {xs : List Int} {M : Int} (hM : M ≤ 100000000000000) (h : allB xs 0 M = true) (hl : xs.length ≤ 64) (k : Nat) (hk : k ≤ xs.length) : 0 ≤ wtK xs k ∧ wtK xs k ≤ 6400000000000000 * (k : Int) := by
  induction k with
  | zero => simp [wtK]
  | succ k ih =>
    have h1 := wt_term hM h hl (k := k) (by omega)
    have h2 := ih (by omega)
    rw [wtK]
    omega

theorem weighted_c (A : Option Addr) (xs : List Int) (c : Nat) (M : Int) (w : World) (ha : Rd w A (ints xs)) (hM2 : M ≤ 100000000000000) (hall : allB xs 0 M = true) (hl : xs.length ≤ 64) :
    Calls Try.prog 70 #[.slice A xs.length c] w fun e w' => e = .returned (.int .i64 (wt xs)) ∧ w = w' := by
  go_enter Try.func70, Try.ntmps70
  go_wp2
  go_loop [3, 8] (fun s i => ∃ k : Nat, k ≤ xs.length ∧ i = .int .i64 k ∧ s = .int .i64 (wtK xs k)) (fun _ i => xs.length - (intOf i).toNat)
  case atStart => exact ⟨0, by omega, rfl, rfl⟩
  case round =>
    obtain ⟨k, hk, rfl, rfl⟩ := hrel
    have hs := wtK_bd hM2 hall hl k hk
    by_cases hlt : k < xs.length
    · obtain ⟨a, rfl, hca⟩ := ha.intN hlt
      have hx := allB_nth hall hlt
      have ht := wt_term hM2 hall hl hlt
      have HS := Lib.hid (wtK_succ xs k)
      clear hall
      go_wp2
      go_round
      case rel => exact ⟨k + 1, by omega, by go_num, by rw [HS.out]⟩
      case measure => simp [intOf] <;> omega
    · have hkl : k = xs.length := by omega
      subst hkl
      clear hall
      go_wp2
      go_ret
      exact ⟨rfl, rfl⟩

def lmT (xs : List Int) : Int := if lawB xs then lwT (wt xs) (sm xs) else 0
def lmB (xs : List Int) : Int := if lawB xs then lwB (wt xs) (sm xs) else 0
def lmO (xs : List Int) : Bool := if lawB xs then lwOk (wt xs) (sm xs) else false
theorem lm_no {xs : List Int} (h : lawB xs = false) : lmT xs = 0 ∧ lmB xs = 0 ∧ lmO xs = false := by simp [lmT, lmB, lmO, h]
theorem lm_yes {xs : List Int} (h : lawB xs = true) : lmT xs = lwT (wt xs) (sm xs) ∧ lmB xs = lwB (wt xs) (sm xs) ∧ lmO xs = lwOk (wt xs) (sm xs) := by simp [lmT, lmB, lmO, h]
theorem law_wt {xs : List Int} (h : lawB xs = true) : 0 ≤ wt xs ∧ wt xs ≤ 32000000000000000 := by
  have h1 := lawB_yes h
  have h2 := wtK_bd (M := 5) (by decide) h1.2.2.1 (by omega) xs.length (Nat.le_refl _)
  unfold wt
  omega

theorem implLm_c (A : Option Addr) (xs : List Int) (c : Nat) (w : World) (ha : Rd w A (ints xs)) (hl : xs.length ≤ 16777216) :
    Calls Try.prog 20 #[.slice A xs.length c] w (Quietly w (.tuple #[.agg #[.int .i64 (lmT xs), .int .i64 (lmB xs)], .bool (lmO xs)])) := by
  have hz0 : w.heap.size < (w.alloc (.cells #[.int .i64 0, .int .i64 0] 26)).heap.size := by simp
  have ha1 := ha.below ((Below.refl w.heap.size w).alloc (Nat.le_refl _) (.cells #[.int .i64 0, .int .i64 0] 26)) (Nat.le_refl _)
  cases h : lawB xs with
  | false =>
    rw [(lm_no h).1, (lm_no h).2.1, (lm_no h).2.2]
    go_enter Try.func20, Try.ntmps20
    go_wp2_with (go_at_call 17; refine (implLaw_is _ _ _ _ (by assumption) _ ha1 hl).mono ?_; rintro e w' ⟨rfl, rfl⟩)
    exact bodyPost_ret (v := .tuple #[.agg #[.int .i64 0, .int .i64 0], .bool false]) (by simp [results, Try.results20, go_sem]) rfl ⟨rfl, by with_reducible repeat (first | exact Below.refl _ _ | refine Below.setCell ?_ (by simp) _ | refine Below.alloc ?_ (by simp) _)⟩
  | true =>
    rw [(lm_yes h).1, (lm_yes h).2.1, (lm_yes h).2.2]
    have h1 := lawB_yes h
    have h2 := law_wt h
    go_enter Try.func20, Try.ntmps20
    go_wp2_with (first
      | (go_at_call 17; refine (implLaw_is _ _ _ _ (by assumption) _ ha1 hl).mono ?_; rintro e w' ⟨rfl, rfl⟩)
      | (go_at_call 70; refine (weighted_c _ _ _ 5 _ ha1 (by decide) h1.2.2.1 (by omega)).mono ?_; rintro e w' ⟨rfl, rfl⟩)
      | (go_at_call 66; refine (total_c _ _ _ 5 _ ha1 (by decide) (allB_mono h1.2.2.1 (by decide) (by decide)) hl).mono ?_; rintro e w' ⟨rfl, rfl⟩)
      | (go_at_call 69; refine (lowest_c (wt xs) (sm xs) (by omega) (by omega) (by omega) (by omega) _).mono ?_; rintro e w1 ⟨rfl, hb1⟩; obtain ⟨hc, hf⟩ := bcell hb1; have hz := hb1.size; simp at hz))
    have HB0 : Below w.heap.size w w1 := ((Below.refl _ _).alloc (Nat.le_refl _) _).trans (hb1.mono (by simp))
    exact bodyPost_ret (v := .tuple #[.agg #[.int .i64 (lwT (wt xs) (sm xs)), .int .i64 (lwB (wt xs) (sm xs))], .bool (lwOk (wt xs) (sm xs))]) (by simp [results, Try.results20, go_sem, hc]) rfl ⟨rfl, by with_reducible repeat (first | exact HB0 | refine Below.setCell ?_ (by simp) _)⟩
theorem l7Mean_c (A : Option Addr) (xs : List Int) (c : Nat) (M : Int) (w : World) (ha : Rd w A (ints xs)) (hM2 : M ≤ 1000000000) (hall : allB xs 0 M = true) (hl : xs.length ≤ 64) (hs : 0 < sm xs) :
    Calls Try.prog 68 #[.slice A xs.length c] w fun e w' => e = .returned (.agg #[.int .i64 (cutT (wt xs) (sm xs)), .int .i64 (cutB (wt xs) (sm xs))]) ∧ Below w.heap.size w w' := by
  have ha1 := ha.below ((Below.refl w.heap.size w).alloc (Nat.le_refl _) (.cells #[.int .i64 0, .int .i64 0] 26)) (Nat.le_refl _)
  have hz0 : w.heap.size < (w.alloc (.cells #[.int .i64 0, .int .i64 0] 26)).heap.size := by simp
  have hsb := sm_bd hall
  have hM0 : M * (xs.length : Int) ≤ 1000000000 * 64 := by
    by_cases h0 : 0 ≤ M
    · exact Int.mul_le_mul hM2 (by omega) (by omega) (by omega)
    · have : M * (xs.length : Int) ≤ 0 := Int.mul_nonpos_of_nonpos_of_nonneg (by omega) (by omega)
      omega
  have hsb := hsb.2
  have hall' := allB_mono hall (show -M ≤ 0 by
    rcases Nat.eq_zero_or_pos xs.length with h | h
    · have : xs = [] := List.length_eq_zero_iff.1 h
      subst this
      simp [sm] at hs
    · have := allB_nth hall h; omega) (Int.le_refl M)
  go_enter Try.func68, Try.ntmps68
  go_wp2
  go_loop [3, 4] (fun s i => ∃ k : Nat, k ≤ xs.length ∧ i = .int .i64 k ∧ s = .int .i64 (wtK xs k)) (fun _ i => xs.length - (intOf i).toNat)
  case atStart => exact ⟨0, by omega, rfl, rfl⟩
  case round =>
    obtain ⟨k, hk, rfl, rfl⟩ := hrel
    have hb := wtK_bd (by omega) hall hl k hk
    by_cases hlt : k < xs.length
    · obtain ⟨a, rfl, hca⟩ := ha1.intN hlt
      have hx := allB_nth hall hlt
      have ht := wt_term (by omega) hall hl hlt
      have HS := Lib.hid (wtK_succ xs k)
      clear hall hall'
      go_wp2
      go_round
      case rel => exact ⟨k + 1, by omega, by go_num, by rw [HS.out]⟩
      case measure => simp [intOf] <;> omega
    · have hkl : k = xs.length := by omega
      subst hkl
      have hb : 0 ≤ wt xs ∧ wt xs ≤ 6400000000000000 * (xs.length : Int) := hb
      have HW : wtK xs xs.length = wt xs := rfl
      have HW := Lib.hid HW
      rw [HW.out]
      go_wp2_with (first
        | (go_at_call 98; refine (l7Total_c _ _ _ M _ ha1 hM2 hall' (by omega)).mono ?_; rintro e w' ⟨rfl, rfl⟩)
        | (go_at_call 97; refine (l2Cut_c (wt xs) (sm xs) (by omega) (by omega) (by omega) (by omega) _).mono ?_; rintro e w1 ⟨rfl, hb1⟩; obtain ⟨hc, hf⟩ := bcell hb1; have hz := hb1.size; simp at hz))
      have HB0 : Below w.heap.size w w1 := ((Below.refl _ _).alloc (Nat.le_refl _) _).trans (hb1.mono (by simp))
      exact bodyPost_ret (v := .agg #[.int .i64 (cutT (wt xs) (sm xs)), .int .i64 (cutB (wt xs) (sm xs))]) (by simp [results, Try.results68, go_sem, hc]) rfl ⟨rfl, by with_reducible repeat (first | exact HB0 | refine Below.setCell ?_ (by simp) _)⟩
theorem specLm_c (A : Option Addr) (xs : List Int) (c : Nat) (w : World) (ha : Rd w A (ints xs)) (hl : xs.length ≤ 16777216) :
    Calls Try.prog 19 #[.slice A xs.length c] w (Quietly w (.tuple #[.agg #[.int .i64 (lmT xs), .int .i64 (lmB xs)], .bool (lmO xs)])) := by
  have hz0 : w.heap.size < (w.alloc (.cells #[.int .i64 0, .int .i64 0] 26)).heap.size := by simp
  have ha1 := ha.below ((Below.refl w.heap.size w).alloc (Nat.le_refl _) (.cells #[.int .i64 0, .int .i64 0] 26)) (Nat.le_refl _)
  cases h : lawB xs with
  | false =>
    rw [(lm_no h).1, (lm_no h).2.1, (lm_no h).2.2]
    go_enter Try.func19, Try.ntmps19
    go_wp2_with (go_at_call 63; refine (l7Law_is _ _ _ _ (by assumption) _ ha1 hl).mono ?_; rintro e w' ⟨rfl, rfl⟩)
    exact bodyPost_ret (v := .tuple #[.agg #[.int .i64 0, .int .i64 0], .bool false]) (by simp [results, Try.results19, go_sem]) rfl ⟨rfl, by with_reducible repeat (first | exact Below.refl _ _ | refine Below.setCell ?_ (by simp) _ | refine Below.alloc ?_ (by simp) _)⟩
  | true =>
    have HF := lm_yes h
    rw [HF.1, HF.2.1, HF.2.2]
    unfold lwT lwB lwOk
    have h1 := lawB_yes h
    have h2 := law_wt h
    have bT := cutT_bd (a := wt xs) (b := sm xs) (by omega) (M := 32000000000000000) (by omega) (by omega)
    clear HF
    go_enter Try.func19, Try.ntmps19
    go_wp2_with (first
      | (go_at_call 63; refine (l7Law_is _ _ _ _ (by assumption) _ ha1 hl).mono ?_; rintro e w' ⟨rfl, rfl⟩)
      | (go_at_call 68; refine (l7Mean_c _ _ _ 5 _ ha1 (by decide) h1.2.2.1 (by omega) (by omega)).mono ?_; rintro e w1 ⟨rfl, hb1⟩; obtain ⟨hc, hf⟩ := bcell hb1; have hz : w.heap.size < w1.heap.size := by have := hb1.size; simp at this; omega)
      | (go_at_call 67; refine (l2Kept_c _ _ (by omega) (by omega) _).mono ?_; rintro e w2 ⟨rfl, hb2⟩; obtain ⟨hc2, hf2⟩ := bcell hb2; have hz2 : w.heap.size < w2.heap.size := by have := hb2.size; omega))
    have HB0 : Below w.heap.size w w2 := ((Below.refl _ _).alloc (Nat.le_refl _) _).trans ((hb1.mono (by simp)).trans (hb2.mono (by omega)))
    exact bodyPost_ret (v := .tuple #[.agg #[.int .i64 (kpT (cutT (wt xs) (sm xs)) (cutB (wt xs) (sm xs))), .int .i64 (kpB (cutT (wt xs) (sm xs)) (cutB (wt xs) (sm xs)))], .bool (fracB (cutT (wt xs) (sm xs)) (cutB (wt xs) (sm xs)))]) (by simp [results, Try.results19, go_sem, hc, hc2, hz]) rfl ⟨rfl, by with_reducible repeat (first | exact HB0 | refine Below.setCell ?_ (by simp) _)⟩
end Go.Proofs.Ytjnllbmknblecaa
