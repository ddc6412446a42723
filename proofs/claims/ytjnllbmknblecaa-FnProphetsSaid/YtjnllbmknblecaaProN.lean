/- What the law on prophets compares, plainly. No program stands here. -/
import Derived.Test.YtjnllbmknblecaaProM
import Derived.Test.YtjnllbmknblecaaGaT
import Derived.Test.YtjnllbmknblecaaLm
namespace Go.Proofs.Ytjnllbmknblecaa

def nB (xss : List (List Int)) : Int := thB xss xss.length
theorem pro_bd {xss : List (List Int)} (h : lawsB xss = true) : 1 ≤ nB xss ∧ nB xss ≤ 390625 ∧ 0 ≤ gT xss xss.length ∧ gT xss xss.length ≤ 1562500 ∧ 0 ≤ wt (best xss) ∧ wt (best xss) ≤ 3125000 := by
  have h1 := thB_bd h xss.length (Nat.le_refl _)
  have h2 := gT_bd h xss.length (Nat.le_refl _)
  have h3 := pro_le_two h
  have h4 := best_wt h
  unfold nB
  omega
theorem pm_lw {xss : List (List Int)} (h : lawsB xss = true) : pmO xss = true ∧ pmT xss = cutT (wt (best xss)) (nB xss) ∧ pmB xss = cutB (wt (best xss)) (nB xss) := by
  have hb := pro_bd h
  have e : sm (best xss) = nB xss := best_sm_eq h
  obtain ⟨h1, h2, h3⟩ := pm_yes h
  rw [e] at h1 h2 h3
  obtain ⟨l1, l2, l3⟩ := lw_small (T := wt (best xss)) (B := nB xss) (by omega) (by omega) (by omega) (by omega)
  exact ⟨h3.trans l1, h1.trans l2, h2.trans l3⟩
theorem gm_lw {xss : List (List Int)} (h : lawsB xss = true) : gmT xss = cutT (gT xss xss.length) (nB xss) ∧ gmB xss = cutB (gT xss xss.length) (nB xss) := by
  obtain ⟨h1, h2⟩ := gm_yes h
  exact ⟨h1, h2⟩
theorem tm_lw {xss : List (List Int)} {l : Int} (h : lawsB xss = true) (hl : inB l 0 5 = true) : tmO xss l = true ∧ tmT xss l = cutT (thT xss l xss.length) (nB xss) ∧ tmB xss l = cutB (thT xss l xss.length) (nB xss) := by
  have hb := pro_bd h
  have ht := thT_bd h l xss.length (Nat.le_refl _)
  obtain ⟨h1, h2, h3⟩ := tm_yes (xss := xss) (least := l) (by rw [h, hl]; rfl)
  obtain ⟨l1, l2, l3⟩ := lw_small (T := thT xss l xss.length) (B := nB xss) (by omega) (by omega) (by unfold nB at hb; omega) (by unfold nB at hb; omega)
  exact ⟨h3.trans l1, h1.trans l2, h2.trans l3⟩
/-- Fractions that are compared. -/
def FrB (a b : Int) : Prop := 0 ≤ a ∧ a ≤ 3125000 ∧ 0 ≤ b ∧ b ≤ 390625
theorem frb_cut {a b : Int} (h0 : 0 ≤ a) (h1 : a ≤ 3125000) (hb : 1 ≤ b) (hb2 : b ≤ 390625) : FrB (cutT a b) (cutB a b) := by
  have x := cutT_bd (a := a) (b := b) (by omega) (M := 3125000) (by omega) h1
  have y := cutB_bd (a := a) (b := b) (M := 390625) (by omega) hb2
  exact ⟨Int.ediv_nonneg h0 (Int.le_of_lt (gI_pos (by omega))), x.2, by omega, y.2⟩
theorem frb_pm (xss : List (List Int)) : FrB (pmT xss) (pmB xss) := by
  cases h : lawsB xss
  · obtain ⟨h1, h2, _⟩ := pm_no h
    rw [h1, h2]
    unfold FrB
    omega
  · obtain ⟨_, h1, h2⟩ := pm_lw h
    have hb := pro_bd h
    rw [h1, h2]
    exact frb_cut hb.2.2.2.2.1 hb.2.2.2.2.2 hb.1 hb.2.1
theorem frb_gm (xss : List (List Int)) : FrB (gmT xss) (gmB xss) := by
  cases h : lawsB xss
  · obtain ⟨h1, h2⟩ := gm_no h
    rw [h1, h2]
    unfold FrB
    omega
  · obtain ⟨h1, h2⟩ := gm_lw h
    have hb := pro_bd h
    rw [h1, h2]
    exact frb_cut hb.2.2.1 (by omega) hb.1 hb.2.1
theorem frb_tm (xss : List (List Int)) (l : Int) : FrB (tmT xss l) (tmB xss l) := by
  cases h : lawsB xss && inB l 0 5
  · obtain ⟨h1, h2, _⟩ := tm_no h
    rw [h1, h2]
    unfold FrB
    omega
  · simp only [Bool.and_eq_true] at h
    obtain ⟨_, h1, h2⟩ := tm_lw h.1 h.2
    have hb := pro_bd h.1
    have ht := thT_bd h.1 l xss.length (Nat.le_refl _)
    rw [h1, h2]
    exact frb_cut ht.1 (by unfold nB at hb; omega) hb.1 hb.2.1
theorem less_no {a c B : Int} (hB : 0 < B) (h : c ≤ a) : decide (cutT a B * cutB c B < cutT c B * cutB a B) = false := by
  rw [decide_eq_false_iff_not]
  intro hl
  have := (cut_lessM (a := a) (b := B) (c := c) (d := B) hB hB 1 (by decide)).1 (by rw [Int.one_mul]; exact hl)
  rw [Int.one_mul] at this
  exact absurd (Int.lt_of_mul_lt_mul_right this (Int.le_of_lt hB)) (by omega)
theorem less_no2 {a c B : Int} (hB : 0 < B) (h : c ≤ 2 * a) : decide (2 * cutT a B * cutB c B < cutT c B * cutB a B) = false := by
  rw [decide_eq_false_iff_not]
  intro hl
  have := (cut_lessM (a := a) (b := B) (c := c) (d := B) hB hB 2 (by decide)).1 hl
  exact absurd (Int.lt_of_mul_lt_mul_right this (Int.le_of_lt hB)) (by omega)
theorem pro1 {xss : List (List Int)} (h : lawsB xss = true) : decide (pmT xss * gmB xss < gmT xss * pmB xss) = false := by
  obtain ⟨_, h1, h2⟩ := pm_lw h
  obtain ⟨h3, h4⟩ := gm_lw h
  rw [h1, h2, h3, h4]
  exact less_no (by have := pro_bd h; omega) (gam_le_pro h)
theorem pro2 {xss : List (List Int)} (h : lawsB xss = true) : decide (2 * gmT xss * pmB xss < pmT xss * gmB xss) = false := by
  obtain ⟨_, h1, h2⟩ := pm_lw h
  obtain ⟨h3, h4⟩ := gm_lw h
  rw [h1, h2, h3, h4]
  exact less_no2 (by have := pro_bd h; omega) (pro_le_two h)
theorem hlV_eq {xss : List (List Int)} (h : lawsB xss = true) : hlV xss = (hlK xss : Int) := by unfold hlV; rw [if_pos h]
theorem pro3 {xss : List (List Int)} (h : lawsB xss = true) : tmO xss (hlV xss) = true ∧ decide (2 * tmT xss (hlV xss) * pmB xss < pmT xss * tmB xss (hlV xss)) = false := by
  obtain ⟨h5, hw⟩ := hlK_ok h
  have hl : inB (hlV xss) 0 5 = true := by
    rw [hlV_eq h, inB_iff]
    omega
  obtain ⟨_, h1, h2⟩ := pm_lw h
  obtain ⟨h0, h3, h4⟩ := tm_lw h hl
  rw [h1, h2, h3, h4, hlV_eq h]
  exact ⟨by rw [← hlV_eq h]; exact h0, less_no2 (by have := pro_bd h; omega) hw⟩
theorem pro4 {xss : List (List Int)} {l : Int} (h : tmO xss l = true) : lawsB xss = true ∧ decide (gmT xss * tmB xss l < tmT xss l * gmB xss) = false := by
  cases hh : lawsB xss && inB l 0 5
  · rw [(tm_no hh).2.2] at h
    cases h
  · simp only [Bool.and_eq_true] at hh
    obtain ⟨_, h1, h2⟩ := tm_lw hh.1 hh.2
    obtain ⟨h3, h4⟩ := gm_lw hh.1
    rw [h1, h2, h3, h4]
    exact ⟨hh.1, less_no (by have := pro_bd hh.1; omega) (thT_le_gT hh.1 l _ (Nat.le_refl _))⟩
theorem gtV_len {xss : List (List Int)} (h : lawsB xss = true) : (gtV xss).length = xss.length + 1 := by rw [gtV_yes h, List.length_reverse, gTab_length]
theorem gtV_at {xss : List (List Int)} (h : lawsB xss = true) {k : Nat} (hk : k ≤ xss.length) : pT (gtV xss) k = cutT (gT xss (xss.length - k)) (thB xss (xss.length - k)) ∧ pB (gtV xss) k = cutB (gT xss (xss.length - k)) (thB xss (xss.length - k)) := by
  rw [gtV_yes h]
  exact gTab_rev_at xss xss.length k hk
theorem gtV_0 {xss : List (List Int)} (h : lawsB xss = true) : pT (gtV xss) 0 = gmT xss ∧ pB (gtV xss) 0 = gmB xss := by
  obtain ⟨h1, h2⟩ := gtV_at h (Nat.zero_le _)
  obtain ⟨h3, h4⟩ := gm_lw h
  rw [h1, h2, h3, h4]
  exact ⟨rfl, rfl⟩
theorem frb_gt {xss : List (List Int)} (h : lawsB xss = true) {k : Nat} (hk : k ≤ xss.length) : FrB (pT (gtV xss) k) (pB (gtV xss) k) := by
  obtain ⟨h1, h2⟩ := gtV_at h hk
  have hb := gF_bd h (xss.length - k) (by omega)
  rw [h1, h2]
  exact frb_cut hb.1 (by omega) hb.2.2.1 hb.2.2.2.1
theorem pro5 {xss : List (List Int)} (h : lawsB xss = true) {k : Nat} (hk : k < xss.length) : decide (pT (gtV xss) k * pB (gtV xss) (k + 1) < pT (gtV xss) (k + 1) * pB (gtV xss) k) = false := by
  obtain ⟨h1, h2⟩ := gtV_at h (Nat.le_of_lt hk)
  obtain ⟨h3, h4⟩ := gtV_at h (k := k + 1) (by omega)
  rw [h1, h2, h3, h4, decide_eq_false_iff_not]
  intro hl
  have b1 := thB_bd h (xss.length - k) (by omega)
  have b2 := thB_bd h (xss.length - (k + 1)) (by omega)
  have := (cut_lessM (a := gT xss (xss.length - k)) (b := thB xss (xss.length - k)) (c := gT xss (xss.length - (k + 1))) (d := thB xss (xss.length - (k + 1))) (by omega) (by omega) 1 (by decide)).1 (by rw [Int.one_mul]; exact hl)
  rw [Int.one_mul] at this
  have hs := gT_step h (j := xss.length - (k + 1)) (by omega)
  rw [show xss.length - (k + 1) + 1 = xss.length - k by omega] at hs
  omega
theorem lm_law (xs : List Int) : lmO xs = lawB xs := by
  unfold lmO
  cases h : lawB xs
  · rfl
  · obtain ⟨h1, h2, h3, h4, h5⟩ := lawB_yes h
    have hw := wtK_four (law_nn h) xs.length (Nat.le_refl _) h2
    rw [List.take_of_length_le (Nat.le_refl _)] at hw
    have hw2 : 0 ≤ wt xs ∧ wt xs ≤ 1000000000 := by unfold wt; omega
    exact (lw_small (T := wt xs) (B := sm xs) (by omega) (by omega) (by omega) (by omega)).1
end Go.Proofs.Ytjnllbmknblecaa
