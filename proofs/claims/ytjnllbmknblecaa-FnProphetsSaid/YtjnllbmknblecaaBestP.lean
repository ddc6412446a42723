/- BestOfLaws and ProphetMean: both packages' walks. -/
import Derived.Test.YtjnllbmknblecaaBestI
import Derived.Test.YtjnllbmknblecaaBestS
import Derived.Test.YtjnllbmknblecaaLm
namespace Go.Proofs.Ytjnllbmknblecaa
open Go.RowKit

def blL (xss : List (List Int)) : List Int := if lawsB xss then best xss else []
theorem blL_no {xss : List (List Int)} (h : lawsB xss = false) : blL xss = [] := by simp [blL, h]
theorem blL_yes {xss : List (List Int)} (h : lawsB xss = true) : blL xss = best xss := by simp [blL, h]
theorem blL_length (xss : List (List Int)) : (blL xss).length ≤ 5 := by
  cases h : lawsB xss
  · rw [blL_no h]; simp
  · rw [blL_yes h, (best_bd h).1]; simp

theorem implBest_c (A : Option Addr) (xss : List (List Int)) (c : Nat) (w : World) (ha : RdSS w A xss) (hs : SzSS xss) :
    Calls Try.prog 25 #[.slice A xss.length c] w (Gives w (blL xss) (lawsB xss)) := by
  cases h : lawsB xss
  · have HN := Lib.hid (blL_no h)
    go_enter Try.func25, Try.ntmps25
    go_wp2_with (go_at_call 74; refine (areLaws_is _ _ _ _ (by assumption) _ ha hs).mono ?_; rintro e w' ⟨rfl, rfl⟩)
    go_ret2
    rw [HN.out]
    exact ⟨_, _, rfl, Own.nil _ _, Below.refl _ _⟩
  · have HN := Lib.hid (blL_yes h)
    have HL := Lib.hid (best_bd h).1
    have HH := Lib.hid h
    go_enter Try.func25, Try.ntmps25
    go_wp2_with fail
    refine (areLaws_is _ _ _ _ h _ ha hs).mono ?_
    rintro e w' ⟨rfl, rfl⟩
    clear h
    go_wp2_with fail
    refine (bestOfLaws_c _ _ _ _ ha HH.out).mono ?_
    rintro e w2 ⟨g, rfl, ho, hb⟩
    go_wp2
    go_ret2
    rw [HN.out]
    exact ⟨_, _, by rw [HL.out]; rfl, ho, hb⟩
theorem specBest_c (A : Option Addr) (xss : List (List Int)) (c : Nat) (w : World) (ha : RdSS w A xss) (hs : SzSS xss) :
    Calls Try.prog 23 #[.slice A xss.length c] w (Gives w (blL xss) (lawsB xss)) := by
  cases h : lawsB xss
  · have HN := Lib.hid (blL_no h)
    go_enter Try.func23, Try.ntmps23
    go_wp2_with (go_at_call 72; refine (l7Laws_is _ _ _ _ (by assumption) _ ha hs).mono ?_; rintro e w' ⟨rfl, rfl⟩)
    go_ret2
    rw [HN.out]
    exact ⟨_, _, rfl, Own.lit w [] (by simp), (Below.refl _ _).alloc (Nat.le_refl _) _⟩
  · have HN := Lib.hid (blL_yes h)
    have HL := Lib.hid (best_bd h).1
    have HH := Lib.hid h
    go_enter Try.func23, Try.ntmps23
    go_wp2_with fail
    refine (l7Laws_is _ _ _ _ h _ ha hs).mono ?_
    rintro e w' ⟨rfl, rfl⟩
    clear h
    go_wp2_with fail
    refine (l7Best_c _ _ _ _ ha HH.out).mono ?_
    rintro e w2 ⟨g, rfl, ho, hb⟩
    go_wp2
    go_ret2
    rw [HN.out]
    exact ⟨_, _, by rw [HL.out]; rfl, ho, hb⟩

def pmT (xss : List (List Int)) : Int := if lawsB xss then lwT (wt (best xss)) (sm (best xss)) else 0
def pmB (xss : List (List Int)) : Int := if lawsB xss then lwB (wt (best xss)) (sm (best xss)) else 0
def pmO (xss : List (List Int)) : Bool := if lawsB xss then lwOk (wt (best xss)) (sm (best xss)) else false
theorem pm_no {xss : List (List Int)} (h : lawsB xss = false) : pmT xss = 0 ∧ pmB xss = 0 ∧ pmO xss = false := by simp [pmT, pmB, pmO, h]
theorem pm_yes {xss : List (List Int)} (h : lawsB xss = true) : pmT xss = lwT (wt (best xss)) (sm (best xss)) ∧ pmB xss = lwB (wt (best xss)) (sm (best xss)) ∧ pmO xss = lwOk (wt (best xss)) (sm (best xss)) := by simp [pmT, pmB, pmO, h]
theorem best_wt {xss : List (List Int)} (h : lawsB xss = true) : 0 ≤ wt (best xss) ∧ wt (best xss) ≤ 32000000000000000 := by
  have h1 := best_bd h
  have h2 := wtK_bd (M := 244140625) (by decide) h1.allB (by rw [h1.1]; decide) (best xss).length (Nat.le_refl _)
  rw [h1.1] at h2
  unfold wt
  rw [h1.1]
  omega

theorem implPm_c (A : Option Addr) (xss : List (List Int)) (c : Nat) (w : World) (ha : RdSS w A xss) (hs : SzSS xss) :
    Calls Try.prog 31 #[.slice A xss.length c] w (Quietly w (.tuple #[.agg #[.int .i64 (pmT xss), .int .i64 (pmB xss)], .bool (pmO xss)])) := by
  have hz0 : w.heap.size < (w.alloc (.cells #[.int .i64 0, .int .i64 0] 26)).heap.size := by simp
  have ha1 := ha.alloc (.cells #[.int .i64 0, .int .i64 0] 26)
  cases h : lawsB xss with
  | false =>
    rw [(pm_no h).1, (pm_no h).2.1, (pm_no h).2.2]
    go_enter Try.func31, Try.ntmps31
    go_wp2_with (go_at_call 74; refine (areLaws_is _ _ _ _ (by assumption) _ ha1 hs).mono ?_; rintro e w' ⟨rfl, rfl⟩)
    exact bodyPost_ret (v := .tuple #[.agg #[.int .i64 0, .int .i64 0], .bool false]) (by simp [results, Try.results31, go_sem]) rfl ⟨rfl, by with_reducible repeat (first | exact Below.refl _ _ | refine Below.setCell ?_ (by simp) _ | refine Below.alloc ?_ (by simp) _)⟩
  | true =>
    rw [(pm_yes h).1, (pm_yes h).2.1, (pm_yes h).2.2]
    have h1 := best_bd h
    have h2 := best_wt h
    have h3 := best_sm h
    have HL := Lib.hid h1.1
    have HA := Lib.hid h1.allB
    have HH := Lib.hid h
    clear h1
    go_enter Try.func31, Try.ntmps31
    go_wp2_with fail
    refine (areLaws_is _ _ _ _ h _ ha1 hs).mono ?_
    rintro e w' ⟨rfl, rfl⟩
    clear h
    go_wp2_with fail
    refine (bestOfLaws_c _ _ _ _ ha1 HH.out).mono ?_
    rintro e w2 ⟨g, rfl, ho, hb⟩
    obtain ⟨hc, hf⟩ := bcell hb
    have hz : w.heap.size < w2.heap.size := by have := hb.size; simp at this; omega
    have HB1 : Below w.heap.size w w2 := ((Below.refl _ _).alloc (Nat.le_refl _) _).trans (hb.mono (by simp))
    have W1 := weighted_c (some ⟨g, 0, none⟩) (best xss) 5 244140625 w2 ho.rd (by decide) HA.out (by rw [HL.out]; decide)
    have W2 := total_c (some ⟨g, 0, none⟩) (best xss) 5 244140625 w2 ho.rd (by decide) (allB_mono HA.out (by decide) (by decide)) (by rw [HL.out]; decide)
    rw [HL.out] at W1 W2
    have W1 := Lib.hid W1
    have W2 := Lib.hid W2
    go_wp2_with fail
    refine W1.out.mono ?_
    rintro e w' ⟨rfl, rfl⟩
    go_wp2_with fail
    refine W2.out.mono ?_
    rintro e w' ⟨rfl, rfl⟩
    clear W1 W2
    go_wp2_with fail
    refine (lowest_c (wt (best xss)) (sm (best xss)) (by omega) (by omega) (by omega) (by omega) _).mono ?_
    rintro e w3 ⟨rfl, hb3⟩
    obtain ⟨hc3, hf3⟩ := bcell hb3
    have hz3 : w.heap.size < w3.heap.size := by have := hb3.size; omega
    go_wp2
    have HB0 : Below w.heap.size w w3 := HB1.trans (hb3.mono (by omega))
    exact bodyPost_ret (v := .tuple #[.agg #[.int .i64 (lwT (wt (best xss)) (sm (best xss))), .int .i64 (lwB (wt (best xss)) (sm (best xss)))], .bool (lwOk (wt (best xss)) (sm (best xss)))]) (by simp [results, Try.results31, go_sem, hc, hc3, hz]) rfl ⟨rfl, by with_reducible repeat (first | exact HB0 | refine Below.setCell ?_ (by simp) _)⟩
theorem specPm_c (A : Option Addr) (xss : List (List Int)) (c : Nat) (w : World) (ha : RdSS w A xss) (hs : SzSS xss) :
    Calls Try.prog 30 #[.slice A xss.length c] w (Quietly w (.tuple #[.agg #[.int .i64 (pmT xss), .int .i64 (pmB xss)], .bool (pmO xss)])) := by
  have hz0 : w.heap.size < (w.alloc (.cells #[.int .i64 0, .int .i64 0] 26)).heap.size := by simp
  have ha1 := ha.alloc (.cells #[.int .i64 0, .int .i64 0] 26)
  cases h : lawsB xss with
  | false =>
    rw [(pm_no h).1, (pm_no h).2.1, (pm_no h).2.2]
    go_enter Try.func30, Try.ntmps30
    go_wp2_with (go_at_call 72; refine (l7Laws_is _ _ _ _ (by assumption) _ ha1 hs).mono ?_; rintro e w' ⟨rfl, rfl⟩)
    exact bodyPost_ret (v := .tuple #[.agg #[.int .i64 0, .int .i64 0], .bool false]) (by simp [results, Try.results30, go_sem]) rfl ⟨rfl, by with_reducible repeat (first | exact Below.refl _ _ | refine Below.setCell ?_ (by simp) _ | refine Below.alloc ?_ (by simp) _)⟩
  | true =>
    have HF := pm_yes h
    rw [HF.1, HF.2.1, HF.2.2]
    unfold lwT lwB lwOk
    have h1 := best_bd h
    have h2 := best_wt h
    have h3 := best_sm h
    have bT := cutT_bd (a := wt (best xss)) (b := sm (best xss)) (by omega) (M := 32000000000000000) (by omega) (by omega)
    have HL := Lib.hid h1.1
    have HA := Lib.hid h1.allB
    have HH := Lib.hid h
    clear h1 HF
    go_enter Try.func30, Try.ntmps30
    go_wp2_with fail
    refine (l7Laws_is _ _ _ _ h _ ha1 hs).mono ?_
    rintro e w' ⟨rfl, rfl⟩
    clear h
    go_wp2_with fail
    refine (l7Best_c _ _ _ _ ha1 HH.out).mono ?_
    rintro e w2 ⟨g, rfl, ho, hb⟩
    obtain ⟨hc, hf⟩ := bcell hb
    have hz : w.heap.size < w2.heap.size := by have := hb.size; simp at this; omega
    have HB1 : Below w.heap.size w w2 := ((Below.refl _ _).alloc (Nat.le_refl _) _).trans (hb.mono (by simp))
    have W1 := l7Mean_c (some ⟨g, 0, none⟩) (best xss) 5 244140625 w2 ho.rd (by decide) HA.out (by rw [HL.out]; decide) (by omega)
    rw [HL.out] at W1
    have W1 := Lib.hid W1
    go_wp2_with fail
    refine W1.out.mono ?_
    rintro e w3 ⟨rfl, hb3⟩
    clear W1
    obtain ⟨hc3, hf3⟩ := bcell hb3
    have hz3 : w.heap.size < w3.heap.size := by have := hb3.size; omega
    go_wp2_with fail
    refine (l2Kept_c _ _ (by omega) (by omega) _).mono ?_
    rintro e w4 ⟨rfl, hb4⟩
    obtain ⟨hc4, hf4⟩ := bcell hb4
    have hz4 : w.heap.size < w4.heap.size := by have := hb4.size; omega
    go_wp2
    have HB0 : Below w.heap.size w w4 := (HB1.trans (hb3.mono (by omega))).trans (hb4.mono (by omega))
    exact bodyPost_ret (v := .tuple #[.agg #[.int .i64 (kpT (cutT (wt (best xss)) (sm (best xss))) (cutB (wt (best xss)) (sm (best xss)))), .int .i64 (kpB (cutT (wt (best xss)) (sm (best xss))) (cutB (wt (best xss)) (sm (best xss))))], .bool (fracB (cutT (wt (best xss)) (sm (best xss))) (cutB (wt (best xss)) (sm (best xss))))]) (by simp [results, Try.results30, go_sem, hc, hc3, hc4, hz, hz3]) rfl ⟨rfl, by with_reducible repeat (first | exact HB0 | refine Below.setCell ?_ (by simp) _)⟩
end Go.Proofs.Ytjnllbmknblecaa
