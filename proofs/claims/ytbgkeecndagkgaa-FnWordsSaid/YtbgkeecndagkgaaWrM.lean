/- The law FnWords, plainly: the table of first showings counts the lists of throws. -/
import Derived.Test.YtbgkeecndagkgaaWrL
import Derived.Test.YtbgkeecndagkgaaFfL
namespace Go.Proofs.Ytbgkeecndagkgaa

theorem nth_setN (l : List Int) (i k : Nat) (x : Int) (hk : k < l.length) : nth (l.set i x) k = if i = k then x else nth l k := by
  by_cases h : i = k
  · subst h
    rw [if_pos rfl, nth_eq (by simpa using hk), List.getElem_set_self]
  · rw [if_neg h]
    simp [nth, h]
theorem ffA_nth (wd t : List Int) (h : Nat) (base : List Int) (g k : Nat) (hk : k < base.length) :
    nth (ffA wd t h base g) k = nth base k + sc (fun c => if nxt wd h (c : Int) = k then nth t h else 0) g := by
  induction g with
  | zero => simp [ffA, sc]
  | succ g ih =>
    rw [ffA_succ, nth_setN _ _ _ _ (by rw [ffA_length]; exact hk), sc]
    by_cases e : nxt wd h (g : Int) = k
    · rw [if_pos e, if_pos e, e, ih]; omega
    · rw [if_neg e, if_neg e, ih]; omega
theorem ffB_nth (wd t : List Int) (f h k : Nat) (hk : k < wd.length + 1) :
    nth (ffB wd t f h) k = sc (fun j => sc (fun c => if nxt wd j (c : Int) = k then nth t j else 0) f) h := by
  induction h with
  | zero =>
    rw [ffB, nth_eq (by simpa using hk), List.getElem_replicate]
    rfl
  | succ h ih => rw [ffB, ffA_nth _ _ _ _ _ _ (by rw [ffB_length]; exact hk), ih, sc]
/-- How much of the word the throws end with. -/
def st (wd l : List Int) : Nat := nxtD (endsB l wd) wd.length
theorem nxtD_is (p : Nat → Bool) (k : Nat) (hp : p 0 = true) : p (nxtD p k) = true := by
  induction k with
  | zero => exact hp
  | succ k ih =>
    cases h : p (k + 1)
    · rw [nxtD_miss h]; exact ih
    · rw [nxtD_hit h]; exact h
theorem nxtD_above (p : Nat → Bool) (k j : Nat) (h1 : nxtD p k < j) (h2 : j ≤ k) : p j = false := by
  induction k with
  | zero => omega
  | succ k ih =>
    cases h : p (k + 1)
    · rw [nxtD_miss h] at h1
      by_cases e : j = k + 1
      · rw [e]; exact h
      · exact ih h1 (by omega)
    · rw [nxtD_hit h] at h1; omega
theorem nxtD_cut (p q : Nat → Bool) (h : Nat) (e : ∀ j, 1 ≤ j → j ≤ h → p j = q j) (n : Nat) (hn : h ≤ n) (hp : ∀ j, h < j → j ≤ n → p j = false) : nxtD p n = nxtD q h := by
  induction n with
  | zero =>
    obtain rfl : h = 0 := by omega
    rfl
  | succ n ih =>
    by_cases hh : h = n + 1
    · subst hh
      clear ih hp hn
      have : ∀ m, m ≤ n + 1 → nxtD p m = nxtD q m := by
        intro m
        induction m with
        | zero => intro _; rfl
        | succ m ih => intro hm; rw [nxtD, nxtD, e (m + 1) (by omega) hm, ih (by omega)]
      exact this _ (Nat.le_refl _)
    · rw [nxtD_miss (hp (n + 1) (by omega) (Nat.le_refl _))]
      exact ih (by omega) fun j h1 h2 => hp j h1 (by omega)
theorem st_le (wd l : List Int) : st wd l ≤ wd.length := nxtD_le _ _
theorem st_ends (wd l : List Int) : endsB l wd (st wd l) = true := nxtD_is _ _ (ends_zero _ _)
theorem st_next {wd l : List Int} (c : Int) (h : st wd l < wd.length) : st wd (l ++ [c]) = nxt wd (st wd l) c := by
  have h0 := st_ends wd l
  have hl : st wd l ≤ l.length := by
    simp only [endsB, Bool.and_eq_true, decide_eq_true_eq] at h0
    exact h0.1.1
  have hd : l.drop (l.length - st wd l) = wd.take (st wd l) := by
    rw [ends_1 hl (by omega)] at h0
    exact of_decide_eq_true h0
  have ht : (wd.take (st wd l)).length = st wd l := by simp; omega
  refine nxtD_cut _ _ _ (fun j h1 h2 => ?_) _ (by omega) fun j h1 h2 => ?_
  · obtain ⟨k, rfl⟩ : ∃ k, j = k + 1 := ⟨j - 1, by omega⟩
    rw [ends_next (by omega) (by omega), ends_next (by omega) (by omega), ends_1 (by omega) (by omega), ends_1 (by omega) (by omega), ht]
    congr 2
    have : l.drop (l.length - k) = (wd.take (st wd l)).drop (st wd l - k) := by
      rw [← hd, List.drop_drop]
      congr 1
      omega
    rw [this]
  · obtain ⟨k, rfl⟩ : ∃ k, j = k + 1 := ⟨j - 1, by omega⟩
    by_cases hkl : k ≤ l.length
    · rw [ends_next (by omega) hkl, nxtD_above (endsB l wd) wd.length k (by unfold st at h1; omega) (by omega)]
      rfl
    · exact ends_2 (by simp; omega)
/-- One where the word is not shown ahead of the last throw, and k of it are shown at the end. -/
def atK (wd : List Int) (k : Nat) (l : List Int) : Int := if unt wd l = l.length ∧ st wd l = k then 1 else 0
theorem st_whole {wd l : List Int} : st wd l = wd.length ↔ endsB l wd wd.length = true := by
  constructor
  · intro h; rw [← st_ends wd l]; rw [h]
  · intro h; exact nxtD_hit h
theorem shown_whole {wd l : List Int} (_h1 : 1 ≤ wd.length) (hs : shown wd l) (hu : unt wd l = l.length) : st wd l = wd.length := by
  rw [st_whole]
  rcases unt_spec wd l with ⟨a, b, d, e⟩ | ⟨a, b⟩
  · have := hit_ends (wd := wd) (th := l) (k := l.length) (by omega) (Nat.le_refl _)
    rw [List.take_length] at this
    rw [this, ← hu]
    exact b
  · obtain ⟨k, x, y, z⟩ := hs
    rw [b k x y] at z; cases z
theorem not_whole {wd l : List Int} (_h1 : 1 ≤ wd.length) (hs : ¬ shown wd l) : st wd l < wd.length := by
  rcases Nat.lt_or_ge (st wd l) wd.length with h | h
  · exact h
  · have e := (st_whole).1 (Nat.le_antisymm (st_le _ _) h)
    have hl : wd.length ≤ l.length := by
      simp only [endsB, Bool.and_eq_true, decide_eq_true_eq] at e
      exact e.1.1
    have := hit_ends (wd := wd) (th := l) hl (Nat.le_refl _)
    rw [List.take_length, e] at this
    exact absurd ⟨_, hl, Nat.le_refl _, this.symm⟩ hs
theorem sc_oneN (a n : Nat) (x : Int) : sc (fun j => if a = j then x else 0) n = if a < n then x else 0 := by
  induction n with
  | zero => simp [sc]
  | succ n ih =>
    rw [sc, ih]
    by_cases h : a = n
    · rw [if_pos h, if_neg (by omega), if_pos (by omega)]; omega
    · rw [if_neg h]
      by_cases h2 : a < n
      · rw [if_pos h2, if_pos (by omega)]; omega
      · rw [if_neg h2, if_neg (by omega)]; rfl
theorem sc_zero (n : Nat) : sc (fun _ => 0) n = 0 := by rw [sc_const, Int.mul_zero]
theorem atK_next {wd : List Int} (h1 : 1 ≤ wd.length) (l : List Int) (c : Int) (k : Nat) :
    atK wd k (l ++ [c]) = sc (fun j => if nxt wd j c = k then atK wd j l else 0) wd.length := by
  by_cases hs : shown wd l
  · have e : ∀ j, j < wd.length → (if nxt wd j c = k then atK wd j l else 0) = 0 := by
      intro j hj
      have : atK wd j l = 0 := by
        unfold atK
        refine if_neg fun ⟨a, b⟩ => ?_
        have := shown_whole h1 hs a
        omega
      rw [this, ite_self]
    rw [sc_congr e, sc_zero]
    unfold atK
    refine if_neg fun ⟨a, _⟩ => ?_
    rw [unt_shown c hs] at a
    have := unt_le wd l
    simp at a
    omega
  · have hst := not_whole h1 hs
    have e : ∀ j, j < wd.length → (if nxt wd j c = k then atK wd j l else 0) = if st wd l = j then (if nxt wd (st wd l) c = k then 1 else 0) else 0 := by
      intro j _
      unfold atK
      by_cases hj : st wd l = j
      · subst hj
        have h : (if unt wd l = l.length ∧ st wd l = st wd l then (1 : Int) else 0) = 1 := if_pos ⟨unt_not hs, rfl⟩
        rw [h, if_pos rfl]
      · have h : (if unt wd l = l.length ∧ st wd l = j then (1 : Int) else 0) = 0 := if_neg fun h => hj h.2
        rw [h, if_neg hj, ite_self]
    rw [sc_congr e, sc_oneN, if_pos hst]
    unfold atK
    rw [unt_next c hs, st_next c hst]
    simp
theorem sc_swap (F : Nat → Nat → Int) (n m : Nat) : sc (fun a => sc (fun b => F a b) n) m = sc (fun b => sc (fun a => F a b) m) n := by
  induction m with
  | zero => simp [sc, sc_zero]
  | succ m ih => rw [sc, ih, ← sc_add]; rfl
theorem sz_sc (F : List Int → Nat → Int) (n : Nat) (L : List (List Int)) : sz (fun l => sc (F l) n) L = sc (fun j => sz (fun l => F l j) L) n := by
  induction L with
  | nil => simp [sz, sc_zero]
  | cons l L ih => rw [sz, ih, ← sc_add]; rfl
theorem sz_if (b : Prop) [Decidable b] (g : List Int → Int) (L : List (List Int)) : sz (fun l => if b then g l else 0) L = if b then sz g L else 0 := by
  by_cases h : b
  · simp [h]
  · simp only [h, if_false]
    induction L with
    | nil => rfl
    | cons l L ih => rw [sz, ih]; rfl
theorem ffT_counts {wd : List Int} (h1 : 1 ≤ wd.length) (f m : Nat) : ∀ k, k ≤ wd.length → nth (ffT wd f m) k = sz (atK wd k) (allL f m) := by
  induction m with
  | zero =>
    intro k hk
    have hu : unt wd [] = 0 := by have := unt_le wd []; simpa using this
    have hst : st wd [] = 0 := by
      have h := st_ends wd []
      simp only [endsB, Bool.and_eq_true, decide_eq_true_eq] at h
      have := h.1.1
      simpa using this
    rw [ffT, nth_setN _ _ _ _ (by simp; omega), allL, sz, sz, atK, hu, hst]
    by_cases e : 0 = k
    · rw [if_pos e, if_pos ⟨rfl, e⟩]; rfl
    · rw [if_neg e, if_neg (fun h => e h.2), nth_eq (by simp; omega), List.getElem_replicate]; rfl
  | succ m ih =>
    intro k hk
    rw [ffT, ffB_nth _ _ _ _ _ (by omega), allL, sz_flat1]
    rw [sz_congr (h := fun l => sc (fun c => sc (fun j => if nxt wd j (c : Int) = k then atK wd j l else 0) wd.length) f) fun l _ => sc_congr fun c _ => atK_next h1 l c k]
    have e : sz (fun l => sc (fun c => sc (fun j => if nxt wd j (c : Int) = k then atK wd j l else 0) wd.length) f) (allL f m) = sc (fun c => sc (fun j => if nxt wd j (c : Int) = k then nth (ffT wd f m) j else 0) wd.length) f := by
      rw [sz_sc]
      refine sc_congr fun c _ => ?_
      rw [sz_sc]
      refine sc_congr fun j hj => ?_
      rw [sz_if, ih j (by omega)]
    rw [e]
    exact sc_swap _ _ _
theorem ffO_at (wd : List Int) (f n : Nat) : nth (ffO wd f (n + 1)) (n + 1) = nth (ffT wd f (n + 1)) wd.length := by
  have h := ffO_length wd f n
  rw [ffO]
  simp [nth, h]
end Go.Proofs.Ytbgkeecndagkgaa
