/- UrnMean: both answer the share of red balls in lowest terms. -/
import Derived.Test.YtchkflpdnmhboaaFrac
namespace Go.Proofs.Ytchkflpdnmhboaa
open Go.RowKit

def urnOk (r b x : Int) : Bool := inB r 0 20 && inB b 0 20 && decide (0 < r + b) && inB x 0 20
def umOk (r b x n : Int) : Bool := urnOk r b x && inB n 0 10
def umT (r b x n : Int) : Int := if umOk r b x n then lwT r (r + b) else 0
def umB (r b x n : Int) : Int := if umOk r b x n then lwB r (r + b) else 0
def umO (r b x n : Int) : Bool := umOk r b x n && lwOk r (r + b)

theorem urnOk_1 {r b x : Int} (h : inB r 0 20 = false) : urnOk r b x = false := by simp [urnOk, h]
theorem urnOk_2 {r b x : Int} (h : inB b 0 20 = false) : urnOk r b x = false := by simp [urnOk, h]
theorem urnOk_3 {r b x : Int} (h : ¬ 0 < r + b) : urnOk r b x = false := by simp [urnOk, h]
theorem urnOk_4 {r b x : Int} (h1 : inB r 0 20 = true) (h2 : inB b 0 20 = true) (h3 : 0 < r + b) : urnOk r b x = inB x 0 20 := by simp [urnOk, h1, h2, h3]

theorem isUrn_c (r b x : Int) (w : World) :
    Calls Try.prog 55 #[.int .i64 r, .int .i64 b, .int .i64 x] w fun e w' => e = .returned (.bool (urnOk r b x)) ∧ w = w' := by
  cases h1 : inB r 0 20 with
  | false =>
    rw [urnOk_1 h1]
    go_enter Try.func55, Try.ntmps55
    go_wp2_with (go_at_call 48; refine (within_is _ _ _ _ (by assumption) _).mono ?_; rintro e w' ⟨rfl, rfl⟩)
    go_ret
    exact ⟨rfl, rfl⟩
  | true =>
    have b1 := inB_iff.1 h1
    cases h2 : inB b 0 20 with
    | false =>
      rw [urnOk_2 h2]
      go_enter Try.func55, Try.ntmps55
      go_wp2_with (go_at_call 48; refine (within_is _ _ _ _ (by assumption) _).mono ?_; rintro e w' ⟨rfl, rfl⟩)
      go_ret
      exact ⟨rfl, rfl⟩
    | true =>
      have b2 := inB_iff.1 h2
      by_cases h3 : 0 < r + b
      · rw [urnOk_4 h1 h2 h3]
        cases h4 : inB x 0 20
        all_goals
          go_enter Try.func55, Try.ntmps55
          go_wp2_with (go_at_call 48; refine (within_is _ _ _ _ (by assumption) _).mono ?_; rintro e w' ⟨rfl, rfl⟩)
          go_ret
          exact ⟨rfl, rfl⟩
      · rw [urnOk_3 h3]
        go_enter Try.func55, Try.ntmps55
        go_wp2_with (go_at_call 48; refine (within_is _ _ _ _ (by assumption) _).mono ?_; rintro e w' ⟨rfl, rfl⟩)
        go_ret
        exact ⟨rfl, rfl⟩

theorem l9Urn_c (r b x : Int) (w : World) :
    Calls Try.prog 52 #[.int .i64 r, .int .i64 b, .int .i64 x] w fun e w' => e = .returned (.bool (urnOk r b x)) ∧ w = w' := by
  cases h1 : inB r 0 20 with
  | false =>
    rw [urnOk_1 h1]
    go_enter Try.func52, Try.ntmps52
    go_wp2_with (go_at_call 46; refine (l1In_is _ _ _ _ (by assumption) _).mono ?_; rintro e w' ⟨rfl, rfl⟩)
    go_ret
    exact ⟨rfl, rfl⟩
  | true =>
    have b1 := inB_iff.1 h1
    cases h2 : inB b 0 20 with
    | false =>
      rw [urnOk_2 h2]
      go_enter Try.func52, Try.ntmps52
      go_wp2_with (go_at_call 46; refine (l1In_is _ _ _ _ (by assumption) _).mono ?_; rintro e w' ⟨rfl, rfl⟩)
      go_ret
      exact ⟨rfl, rfl⟩
    | true =>
      have b2 := inB_iff.1 h2
      by_cases h3 : 0 < r + b
      · rw [urnOk_4 h1 h2 h3]
        cases h4 : inB x 0 20
        all_goals
          go_enter Try.func52, Try.ntmps52
          go_wp2_with (go_at_call 46; refine (l1In_is _ _ _ _ (by assumption) _).mono ?_; rintro e w' ⟨rfl, rfl⟩)
          go_ret
          exact ⟨rfl, rfl⟩
      · rw [urnOk_3 h3]
        go_enter Try.func52, Try.ntmps52
        go_wp2_with (go_at_call 46; refine (l1In_is _ _ _ _ (by assumption) _).mono ?_; rintro e w' ⟨rfl, rfl⟩)
        go_ret
        exact ⟨rfl, rfl⟩

theorem isUrn_is (r b x : Int) (q : Bool) (h : urnOk r b x = q) (w : World) :
    Calls Try.prog 55 #[.int .i64 r, .int .i64 b, .int .i64 x] w fun e w' => e = .returned (.bool q) ∧ w = w' := by
  rw [← h]
  exact isUrn_c r b x w
theorem l9Urn_is (r b x : Int) (q : Bool) (h : urnOk r b x = q) (w : World) :
    Calls Try.prog 52 #[.int .i64 r, .int .i64 b, .int .i64 x] w fun e w' => e = .returned (.bool q) ∧ w = w' := by
  rw [← h]
  exact l9Urn_c r b x w
theorem urn_b {r b x : Int} (h : urnOk r b x = true) : 0 ≤ r ∧ r ≤ 20 ∧ 0 ≤ b ∧ b ≤ 20 ∧ 0 < r + b := by
  simp only [urnOk, Bool.and_eq_true, inB_iff, decide_eq_true_eq] at h
  omega

/-- What both answer, in the three cases. -/
def UmPost (w : World) (r b x n : Int) (e : Ending) (w' : World) : Prop :=
  e = .returned (.tuple #[.agg #[.int .i64 (umT r b x n), .int .i64 (umB r b x n)], .bool (umO r b x n)]) ∧ Below w.heap.size w w'

theorem implUm_no (r b x n : Int) (h : umOk r b x n = false) (w : World) : Calls Try.prog 24 #[.int .i64 r, .int .i64 b, .int .i64 x, .int .i64 n] w (UmPost w r b x n) := by
  have hF : umT r b x n = 0 ∧ umB r b x n = 0 ∧ umO r b x n = false := by simp [umT, umB, umO, h]
  unfold UmPost
  rw [hF.1, hF.2.1, hF.2.2]
  clear hF
  cases h1 : urnOk r b x with
  | false =>
    clear h
    go_enter Try.func24, Try.ntmps24
    go_wp2_with (go_at_call 55; refine (isUrn_is _ _ _ _ (by assumption) _).mono ?_; rintro e w' ⟨rfl, rfl⟩)
    exact bodyPost_ret (v := .tuple #[.agg #[.int .i64 0, .int .i64 0], .bool false]) (by simp [results, Try.results24, go_sem]) rfl ⟨rfl, by with_reducible repeat (first | exact Below.refl _ _ | refine Below.setCell ?_ (by simp) _ | refine Below.alloc ?_ (by simp) _)⟩
  | true =>
    have h2 : inB n 0 10 = false := by simpa [umOk, h1] using h
    clear h
    go_enter Try.func24, Try.ntmps24
    go_wp2_with (first
      | (go_at_call 55; refine (isUrn_is _ _ _ _ (by assumption) _).mono ?_; rintro e w' ⟨rfl, rfl⟩)
      | (go_at_call 48; refine (within_is _ _ _ _ (by assumption) _).mono ?_; rintro e w' ⟨rfl, rfl⟩))
    exact bodyPost_ret (v := .tuple #[.agg #[.int .i64 0, .int .i64 0], .bool false]) (by simp [results, Try.results24, go_sem]) rfl ⟨rfl, by with_reducible repeat (first | exact Below.refl _ _ | refine Below.setCell ?_ (by simp) _ | refine Below.alloc ?_ (by simp) _)⟩

theorem implUm_yes (r b x n : Int) (h : umOk r b x n = true) (w : World) : Calls Try.prog 24 #[.int .i64 r, .int .i64 b, .int .i64 x, .int .i64 n] w (UmPost w r b x n) := by
  have hF : umT r b x n = lwT r (r + b) ∧ umB r b x n = lwB r (r + b) ∧ umO r b x n = lwOk r (r + b) := by simp [umT, umB, umO, h]
  unfold UmPost
  rw [hF.1, hF.2.1, hF.2.2]
  clear hF
  simp only [umOk, Bool.and_eq_true] at h
  obtain ⟨h1, h2⟩ := h
  have b1 := urn_b h1
  go_enter Try.func24, Try.ntmps24
  go_wp2_with (first
    | (go_at_call 55; refine (isUrn_is _ _ _ _ (by assumption) _).mono ?_; rintro e w' ⟨rfl, rfl⟩)
    | (go_at_call 48; refine (within_is _ _ _ _ (by assumption) _).mono ?_; rintro e w' ⟨rfl, rfl⟩)
    | (go_at_call 56; refine (lowest_c r (r + b) (by omega) (by omega) (by omega) (by omega) _).mono ?_; rintro e w1 ⟨rfl, hb1⟩; obtain ⟨hc, hf⟩ := bcell hb1; have hz := hb1.size; simp at hz))
  have HB0 : Below w.heap.size w w1 := ((Below.refl _ _).alloc (Nat.le_refl _) _).trans (hb1.mono (by simp))
  exact bodyPost_ret (v := .tuple #[.agg #[.int .i64 (lwT r (r + b)), .int .i64 (lwB r (r + b))], .bool (lwOk r (r + b))]) (by simp [results, Try.results24, go_sem, hc]) rfl ⟨rfl, by with_reducible repeat (first | exact HB0 | refine Below.setCell ?_ (by simp) _)⟩

theorem specUm_no (r b x n : Int) (h : umOk r b x n = false) (w : World) : Calls Try.prog 23 #[.int .i64 r, .int .i64 b, .int .i64 x, .int .i64 n] w (UmPost w r b x n) := by
  have hF : umT r b x n = 0 ∧ umB r b x n = 0 ∧ umO r b x n = false := by simp [umT, umB, umO, h]
  unfold UmPost
  rw [hF.1, hF.2.1, hF.2.2]
  clear hF
  cases h1 : urnOk r b x with
  | false =>
    clear h
    go_enter Try.func23, Try.ntmps23
    go_wp2_with (go_at_call 52; refine (l9Urn_is _ _ _ _ (by assumption) _).mono ?_; rintro e w' ⟨rfl, rfl⟩)
    exact bodyPost_ret (v := .tuple #[.agg #[.int .i64 0, .int .i64 0], .bool false]) (by simp [results, Try.results23, go_sem]) rfl ⟨rfl, by with_reducible repeat (first | exact Below.refl _ _ | refine Below.setCell ?_ (by simp) _ | refine Below.alloc ?_ (by simp) _)⟩
  | true =>
    have h2 : inB n 0 10 = false := by simpa [umOk, h1] using h
    clear h
    go_enter Try.func23, Try.ntmps23
    go_wp2_with (first
      | (go_at_call 52; refine (l9Urn_is _ _ _ _ (by assumption) _).mono ?_; rintro e w' ⟨rfl, rfl⟩)
      | (go_at_call 46; refine (l1In_is _ _ _ _ (by assumption) _).mono ?_; rintro e w' ⟨rfl, rfl⟩))
    exact bodyPost_ret (v := .tuple #[.agg #[.int .i64 0, .int .i64 0], .bool false]) (by simp [results, Try.results23, go_sem]) rfl ⟨rfl, by with_reducible repeat (first | exact Below.refl _ _ | refine Below.setCell ?_ (by simp) _ | refine Below.alloc ?_ (by simp) _)⟩

theorem specUm_yes (r b x n : Int) (h : umOk r b x n = true) (w : World) : Calls Try.prog 23 #[.int .i64 r, .int .i64 b, .int .i64 x, .int .i64 n] w (UmPost w r b x n) := by
  have hF : umT r b x n = kpT (cutT r (r + b)) (cutB r (r + b)) ∧ umB r b x n = kpB (cutT r (r + b)) (cutB r (r + b)) ∧ umO r b x n = fracB (cutT r (r + b)) (cutB r (r + b)) := by simp [umT, umB, umO, h, lwT, lwB, lwOk]
  unfold UmPost
  rw [hF.1, hF.2.1, hF.2.2]
  clear hF
  simp only [umOk, Bool.and_eq_true] at h
  obtain ⟨h1, h2⟩ := h
  have b1 := urn_b h1
  have bT := cutT_bd (a := r) (b := r + b) (by omega) (M := 20) (by omega) (by omega)
  go_enter Try.func23, Try.ntmps23
  go_wp2_with (first
    | (go_at_call 52; refine (l9Urn_is _ _ _ _ (by assumption) _).mono ?_; rintro e w' ⟨rfl, rfl⟩)
    | (go_at_call 46; refine (l1In_is _ _ _ _ (by assumption) _).mono ?_; rintro e w' ⟨rfl, rfl⟩)
    | (go_at_call 54; refine (l2Cut_c r (r + b) (by omega) (by omega) (by omega) (by omega) _).mono ?_; rintro e w1 ⟨rfl, hb1⟩; obtain ⟨hc, hf⟩ := bcell hb1; have hz : w.heap.size < w1.heap.size := by have := hb1.size; simp at this; omega)
    | (go_at_call 53; refine (l2Kept_c _ _ (by omega) (by omega) _).mono ?_; rintro e w2 ⟨rfl, hb2⟩; obtain ⟨hc2, hf2⟩ := bcell hb2; have hz2 : w.heap.size < w2.heap.size := by have := hb2.size; omega))
  have HB0 : Below w.heap.size w w2 := ((Below.refl _ _).alloc (Nat.le_refl _) _).trans ((hb1.mono (by simp)).trans (hb2.mono (by omega)))
  exact bodyPost_ret (v := .tuple #[.agg #[.int .i64 (kpT (cutT r (r + b)) (cutB r (r + b))), .int .i64 (kpB (cutT r (r + b)) (cutB r (r + b)))], .bool (fracB (cutT r (r + b)) (cutB r (r + b)))]) (by simp [results, Try.results23, go_sem, hc, hc2, hz]) rfl ⟨rfl, by with_reducible repeat (first | exact HB0 | refine Below.setCell ?_ (by simp) _)⟩

theorem implUm_c (r b x n : Int) (w : World) : Calls Try.prog 24 #[.int .i64 r, .int .i64 b, .int .i64 x, .int .i64 n] w (UmPost w r b x n) := by
  by_cases h : umOk r b x n = true
  · exact implUm_yes r b x n h w
  · exact implUm_no r b x n (by simpa using h) w
theorem specUm_c (r b x n : Int) (w : World) : Calls Try.prog 23 #[.int .i64 r, .int .i64 b, .int .i64 x, .int .i64 n] w (UmPost w r b x n) := by
  by_cases h : umOk r b x n = true
  · exact specUm_yes r b x n h w
  · exact specUm_no r b x n (by simpa using h) w

theorem lawUm (r b x n : Int) (w : World) :
    Calls Try.prog 6 #[.int .i64 r, .int .i64 b, .int .i64 x, .int .i64 n] w fun e w' => e = .returned (.bool true) ∧ Below w.heap.size w w' := by
  go_enter Try.func6, Try.ntmps6
  go_wp2_with (go_at_call 23; refine (specUm_c _ _ _ _ _).mono ?_; rintro e w1 ⟨rfl, hb1⟩)
  go_wp2_with (go_at_call 24; refine (implUm_c _ _ _ _ _).mono ?_; rintro e w2 ⟨rfl, hb2⟩; obtain ⟨hc2, hf2⟩ := bcell hb2; have hz2 : w1.heap.size < w2.heap.size := by have := hb2.size; simp at this; omega)
  go_wp2_with (go_at_call 25; refine (eqIntA2_same _ _ _).mono ?_; rintro e w3 ⟨rfl, hb3⟩)
  go_ret
  refine ⟨rfl, hb1.trans ?_⟩
  have h1 := hb1.size
  have h2 : Below w.heap.size w1 w2 := ((Below.refl _ _).alloc hb1.size _).trans (hb2.mono (by simp; omega))
  exact (h2.alloc (by omega) _).trans (hb3.mono (by simp; omega))
end Go.Proofs.Ytchkflpdnmhboaa
