/- Several laws: the plain side. No program stands here. -/
import Derived.Test.YtjnllbmknblecaaLaw
import Derived.Test.YtjnllbmknblecaaRowAt
namespace Go.Proofs.Ytjnllbmknblecaa
open Go.RowKit


/-- Lists that are laws of offers. -/
def lawsB (xss : List (List Int)) : Bool := decide (xss.length ≤ 4) && xss.all lawB
theorem lawsB_long {xss : List (List Int)} (h : 4 < xss.length) : lawsB xss = false := by
  unfold lawsB
  rw [decide_eq_false (by omega)]
  rfl
theorem lawsB_no {xss : List (List Int)} {k : Nat} (hk : k < xss.length) (h : lawB (rowAt xss k) = false) : lawsB xss = false := by
  rw [rowAt_eq hk] at h
  have : xss.all lawB = false := by
    cases h' : xss.all lawB with
    | false => rfl
    | true => have := List.all_eq_true.1 h' _ (List.getElem_mem hk); rw [h] at this; cases this
  simp [lawsB, this]
def lawsTo (xss : List (List Int)) (k : Nat) : Bool := (xss.take k).all lawB
theorem lawsTo_0 (xss : List (List Int)) : lawsTo xss 0 = true := by simp [lawsTo]
theorem lawsTo_succ {xss : List (List Int)} {k : Nat} (hk : k < xss.length) (h : lawsTo xss k = true) (hx : lawB (rowAt xss k) = true) : lawsTo xss (k + 1) = true := by
  rw [rowAt_eq hk] at hx
  unfold lawsTo at *
  rw [List.take_succ_eq_append_getElem hk, List.all_append, h]
  simp [hx]
theorem lawsTo_end {xss : List (List Int)} {k : Nat} (hk : ¬ k < xss.length) (h : lawsTo xss k = true) : lawsB xss = decide ((xss.length : Int) ≤ 4) := by
  unfold lawsTo at h
  rw [List.take_of_length_le (by omega)] at h
  unfold lawsB
  rw [h, Bool.and_true]
  exact decide_eq_decide.2 (by omega)
theorem lawsB_yes {xss : List (List Int)} (h : lawsB xss = true) : xss.length ≤ 4 ∧ ∀ k, k < xss.length → lawB (rowAt xss k) = true := by
  simp only [lawsB, Bool.and_eq_true, decide_eq_true_eq] at h
  refine ⟨h.1, fun k hk => ?_⟩
  rw [rowAt_eq hk]
  exact List.all_eq_true.1 h.2 _ (List.getElem_mem hk)

/-- A number is added at a place. -/
def addAt (xs : List Int) (k : Nat) (d : Int) : List Int := xs.set k (nth xs k + d)
theorem addAt_length (xs : List Int) (k : Nat) (d : Int) : (addAt xs k d).length = xs.length := by simp [addAt]
theorem nth_set (xs : List Int) (k j : Nat) (d : Int) (hk : k < xs.length) : nth (xs.set k d) j = if k = j then d else nth xs j := by
  unfold nth
  by_cases h : k = j
  · subst h
    simp [List.getD, hk]
  · simp [List.getD, h]
theorem nth_addAt (xs : List Int) (k j : Nat) (d : Int) (hk : k < xs.length) : nth (addAt xs k d) j = if k = j then nth xs k + d else nth xs j := nth_set xs k j _ hk
theorem sm_set (xs : List Int) (k : Nat) (d : Int) (hk : k < xs.length) : sm (xs.set k d) = sm xs - nth xs k + d := by
  induction xs generalizing k with
  | nil => simp at hk
  | cons x l ih =>
    cases k with
    | zero => simp [sm, nth]; omega
    | succ k =>
      have := ih k (by simpa using hk)
      simp only [sm, List.set_cons_succ, List.sum_cons] at *
      have e : nth (x :: l) (k + 1) = nth l k := by simp [nth]
      rw [this, e]
      omega
theorem sm_addAt (xs : List Int) (k : Nat) (d : Int) (hk : k < xs.length) : sm (addAt xs k d) = sm xs + d := by
  unfold addAt
  rw [sm_set _ _ _ hk]
  omega

/-- All of a length, all numbers from 0 to M. -/
def Bd (xs : List Int) (M : Int) : Prop := xs.length = 5 ∧ ∀ k, 0 ≤ nth xs k ∧ nth xs k ≤ M
theorem Bd.len {xs : List Int} {M : Int} (h : Bd xs M) : xs.length = 5 := h.1
theorem Bd.at_ {xs : List Int} {M : Int} (h : Bd xs M) (k : Nat) : 0 ≤ nth xs k ∧ nth xs k ≤ M := h.2 k
theorem Bd.add {xs : List Int} {M d D : Int} (h : Bd xs M) (k : Nat) (hk : k < 5) (h0 : 0 ≤ d) (hd : d ≤ D) : Bd (addAt xs k d) (M + D) := by
  refine ⟨by rw [addAt_length]; exact h.1, fun j => ?_⟩
  rw [nth_addAt _ _ _ _ (by rw [h.1]; exact hk)]
  have h1 := h.2 k
  have h2 := h.2 j
  split <;> omega
theorem Bd.mono {xs : List Int} {M M' : Int} (h : Bd xs M) (hM : M ≤ M') : Bd xs M' := ⟨h.1, fun k => by have := h.2 k; omega⟩
theorem Bd.allB {xs : List Int} {M : Int} (h : Bd xs M) : allB xs 0 M = true := by
  refine List.all_eq_true.2 fun x hx => ?_
  obtain ⟨k, hk, rfl⟩ := List.getElem_of_mem hx
  have := h.2 k
  rw [nth_eq hk] at this
  exact inB_iff.2 this

/-- The inner round: one value of the one law, the first u values of the other. -/
def inU (now w : List Int) (v : Nat) (next : List Int) : Nat → List Int
  | 0 => next
  | u + 1 => addAt (inU now w v next u) (max u v) (nth now v * nth w u)
def inV (now w : List Int) : Nat → List Int
  | 0 => List.replicate 5 0
  | v + 1 => inU now w v (inV now w v) w.length
/-- The weights of the greatest value of the first i laws. -/
def bestK (xss : List (List Int)) : Nat → List Int
  | 0 => [1, 0, 0, 0, 0]
  | i + 1 => inV (bestK xss i) (rowAt xss i) 5
def best (xss : List (List Int)) : List Int := bestK xss xss.length
theorem inU_0 (now w : List Int) (v : Nat) (next : List Int) : inU now w v next 0 = next := rfl
theorem inU_succ (now w : List Int) (v : Nat) (next : List Int) (u : Nat) : inU now w v next (u + 1) = addAt (inU now w v next u) (max u v) (nth now v * nth w u) := rfl
theorem inV_succ (now w : List Int) (v : Nat) : inV now w (v + 1) = inU now w v (inV now w v) w.length := rfl
theorem bestK_succ (xss : List (List Int)) (i : Nat) : bestK xss (i + 1) = inV (bestK xss i) (rowAt xss i) 5 := rfl

theorem inU_bd {now w next : List Int} {v : Nat} {M S : Int} (hn : Bd now M) (hw : lawB w = true) (hx : Bd next S) (hv : v < 5) (u : Nat) (hu : u ≤ w.length) : Bd (inU now w v next u) (S + u * (M * 5)) := by
  have h1 := lawB_yes hw
  induction u with
  | zero => simpa [inU] using hx
  | succ u ih =>
    have h2 := allB_nth h1.2.2.1 (k := u) (by omega)
    have h3 := hn.2 v
    have h4 := mul_bd (nth now v) (nth w u) M 5 h3.1 h3.2 h2.1 h2.2
    have h5 := (ih (by omega)).add (max u v) (by omega) h4.1 h4.2
    have e : S + ((u + 1 : Nat) : Int) * (M * 5) = S + (u : Int) * (M * 5) + M * 5 := by simp [Int.add_mul]; omega
    rw [e]
    exact h5
theorem inV_bd {now w : List Int} {M : Int} (hM : 0 ≤ M) (hn : Bd now M) (hw : lawB w = true) (v : Nat) (hv : v ≤ 5) : Bd (inV now w v) (v * (M * 25)) := by
  have h1 := lawB_yes hw
  induction v with
  | zero =>
    refine ⟨rfl, fun k => ?_⟩
    have : nth (List.replicate 5 0) k = 0 := by
      unfold nth
      match k with
      | 0 => rfl
      | 1 => rfl
      | 2 => rfl
      | 3 => rfl
      | 4 => rfl
      | k + 5 => simp
    simp only [inV, this]
    simp
  | succ v ih =>
    have h2 := inU_bd (v := v) hn hw (ih (by omega)) (by omega) w.length (Nat.le_refl _)
    refine h2.mono ?_
    have h0 : (w.length : Int) ≤ 5 := by omega
    have h3 : (w.length : Int) * (M * 5) ≤ 5 * (M * 5) := Int.mul_le_mul_of_nonneg_right h0 (by omega)
    have e : ((v + 1 : Nat) : Int) * (M * 25) = (v : Int) * (M * 25) + M * 25 := by simp [Int.add_mul]
    rw [e]
    omega
/-- 125 to the power of i. -/
def hi125 : Nat → Int
  | 0 => 1
  | i + 1 => 125 * hi125 i
theorem hi125_succ (i : Nat) : hi125 (i + 1) = 125 * hi125 i := rfl
theorem hi125_pos (i : Nat) : 1 ≤ hi125 i := by
  induction i with
  | zero => decide
  | succ i ih => unfold hi125; omega
theorem hi125_mono {i j : Nat} (h : i ≤ j) : hi125 i ≤ hi125 j := by
  induction j with
  | zero => have : i = 0 := by omega
            subst this; exact Int.le_refl _
  | succ j ih =>
    rcases Nat.lt_or_ge i (j + 1) with h1 | h1
    · have := ih (by omega)
      have := hi125_pos j
      rw [hi125_succ]
      omega
    · have : i = j + 1 := by omega
      subst this; exact Int.le_refl _
theorem bestK_bd {xss : List (List Int)} (h : lawsB xss = true) (i : Nat) (hi : i ≤ xss.length) : Bd (bestK xss i) (hi125 i) := by
  have hy := lawsB_yes h
  induction i with
  | zero =>
    refine ⟨rfl, fun k => ?_⟩
    unfold bestK hi125 nth
    match k with
    | 0 => decide
    | 1 => decide
    | 2 => decide
    | 3 => decide
    | 4 => decide
    | k + 5 => simp
  | succ i ih =>
    have h1 := inV_bd (Int.le_trans (by decide) (hi125_pos i)) (ih (by omega)) (hy.2 i (by omega)) 5 (Nat.le_refl _)
    rw [bestK_succ]
    refine h1.mono ?_
    rw [hi125_succ]
    omega
theorem bestK_bd' {xss : List (List Int)} (h : lawsB xss = true) (i : Nat) (hi : i ≤ xss.length) : Bd (bestK xss i) 244140625 := by
  refine (bestK_bd h i hi).mono ?_
  have := hi125_mono (i := i) (j := 4) (by have := (lawsB_yes h).1; omega)
  exact Int.le_trans this (by decide)
theorem best_bd {xss : List (List Int)} (h : lawsB xss = true) : Bd (best xss) 244140625 := bestK_bd' h _ (Nat.le_refl _)

theorem inU_sm {now w next : List Int} {v : Nat} {S : Int} (hx : Bd next S) (hv : v < 5) (hw : w.length ≤ 5) (u : Nat) (hu : u ≤ w.length) :
    (inU now w v next u).length = 5 ∧ sm (inU now w v next u) = sm next + nth now v * sm (w.take u) := by
  induction u with
  | zero => simp [inU, sm, hx.1]
  | succ u ih =>
    have h := ih (by omega)
    rw [inU_succ, addAt_length, sm_addAt _ _ _ (by rw [h.1]; omega), h.2, sm_succ _ _ (by omega)]
    refine ⟨h.1, ?_⟩
    rw [Int.mul_add]
    omega
theorem inV_sm {now w : List Int} {M : Int} (hM : 0 ≤ M) (hn : Bd now M) (hw : lawB w = true) (v : Nat) (hv : v ≤ 5) : sm (inV now w v) = sm (now.take v) * sm w := by
  have h1 := lawB_yes hw
  induction v with
  | zero => simp [inV, sm]
  | succ v ih =>
    have h2 := inU_sm (now := now) (inV_bd hM hn hw v (by omega)) (by omega) (v := v) h1.2.1 w.length (Nat.le_refl _)
    rw [inV_succ, h2.2, ih (by omega), sm_succ _ _ (by rw [hn.1]; omega), List.take_of_length_le (Nat.le_refl _), Int.add_mul]
/-- The product of the totals of the first i laws. -/
def totK (xss : List (List Int)) : Nat → Int
  | 0 => 1
  | i + 1 => totK xss i * sm (rowAt xss i)
theorem totK_succ (xss : List (List Int)) (i : Nat) : totK xss (i + 1) = totK xss i * sm (rowAt xss i) := rfl
theorem bestK_sm {xss : List (List Int)} (h : lawsB xss = true) (i : Nat) (hi : i ≤ xss.length) : sm (bestK xss i) = totK xss i := by
  have hy := lawsB_yes h
  induction i with
  | zero => rfl
  | succ i ih =>
    have hb := bestK_bd' h i (by omega)
    rw [bestK_succ, inV_sm (by decide) hb (hy.2 i (by omega)) 5 (Nat.le_refl _), totK_succ, ← ih (by omega), List.take_of_length_le (by rw [hb.1]; exact Nat.le_refl _)]
theorem totK_pos {xss : List (List Int)} (h : lawsB xss = true) (i : Nat) (hi : i ≤ xss.length) : 1 ≤ totK xss i ∧ totK xss i ≤ hi125 i := by
  have hy := lawsB_yes h
  induction i with
  | zero => exact ⟨Int.le_refl _, Int.le_refl _⟩
  | succ i ih =>
    have h1 := ih (by omega)
    have h2 := lawB_yes (hy.2 i (by omega))
    have h3 : 1 * 1 ≤ totK xss i * sm (rowAt xss i) := Int.mul_le_mul h1.1 h2.2.2.2.1 (by omega) (by omega)
    have h4 : totK xss i * sm (rowAt xss i) ≤ hi125 i * 125 := Int.mul_le_mul h1.2 (by omega) (by omega) (by have := hi125_pos i; omega)
    rw [totK_succ, hi125_succ]
    omega
theorem best_sm {xss : List (List Int)} (h : lawsB xss = true) : 1 ≤ sm (best xss) ∧ sm (best xss) ≤ 244140625 := by
  unfold best
  rw [bestK_sm h _ (Nat.le_refl _)]
  have h1 := totK_pos h xss.length (Nat.le_refl _)
  have h2 := hi125_mono (i := xss.length) (j := 4) (by have := (lawsB_yes h).1; omega)
  have h3 : hi125 4 = 244140625 := by decide
  omega
end Go.Proofs.Ytjnllbmknblecaa
