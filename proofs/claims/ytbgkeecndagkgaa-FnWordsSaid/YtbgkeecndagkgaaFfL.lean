/- FirstFound: the plain side: how much of a word the last throws show, and how many lists show how much. -/
import Derived.Test.YtbgkeecndagkgaaOv
namespace Go.Proofs.Ytbgkeecndagkgaa

theorem Own.cap_le {w : World} {B : Nat} {A : Option Addr} {c : Nat} {xs : List Int} (h : Own w B A c xs) : xs.length ≤ c := by
  rcases h.2 with ⟨hv, h0⟩ | ⟨g, cap, cur, hv, _, _, hnc, _⟩
  · omega
  · simp only [Value.slice.injEq] at hv
    omega
/-- The greatest number up to k with a property, or 0. -/
def nxtD (p : Nat → Bool) : Nat → Nat
  | 0 => 0
  | k + 1 => if p (k + 1) then k + 1 else nxtD p k
theorem nxtD_le (p : Nat → Bool) (k : Nat) : nxtD p k ≤ k := by
  induction k with
  | zero => exact Nat.le_refl _
  | succ k ih =>
    rw [nxtD]
    split <;> omega
theorem nxtD_hit {p : Nat → Bool} {k : Nat} (h : p k = true) : nxtD p k = k := by
  cases k with
  | zero => rfl
  | succ k => rw [nxtD, if_pos h]
theorem nxtD_miss {p : Nat → Bool} {k : Nat} (h : p (k + 1) = false) : nxtD p (k + 1) = nxtD p k := by rw [nxtD, if_neg (by simp [h])]
theorem ends_zero (xs ys : List Int) : endsB xs ys 0 = true := by simp [endsB]
/-- How much of the word is shown behind one more throw. -/
def nxt (wd : List Int) (have_ : Nat) (face : Int) : Nat := nxtD (endsB (wd.take have_ ++ [face]) wd) (have_ + 1)
theorem nxt_le (wd : List Int) (h : Nat) (g : Int) : nxt wd h g ≤ h + 1 := nxtD_le _ _
/-- The last of a list, or 0. -/
def lastD (l : List Int) : Int := if 0 < l.length then nth l (l.length - 1) else 0
theorem lastD_ov (xs ys : List Int) (j : Nat) : lastD (ovK xs ys j) = (nxtD (endsB xs ys) j : Int) := by
  induction j with
  | zero => rfl
  | succ j ih =>
    rw [nxtD]
    cases h : endsB xs ys (j + 1)
    · rw [ovK_no h]; simpa using ih
    · rw [ovK_yes h]
      have e : nth (ovK xs ys j ++ [(j : Int) + 1]) (ovK xs ys j).length = (j : Int) + 1 := by simp [nth]
      simp [lastD, e]

theorem nth_out {l : List Int} {k : Nat} (h : l.length ≤ k) : nth l k = 0 := by simp [nth, List.getElem?_eq_none h]
/-- The counts behind some faces at one length. -/
def ffA (wd t : List Int) (h : Nat) (base : List Int) : Nat → List Int
  | 0 => base
  | g + 1 => (ffA wd t h base g).set (nxt wd h (g : Int)) (nth (ffA wd t h base g) (nxt wd h (g : Int)) + nth t h)
/-- The counts behind some lengths. -/
def ffB (wd t : List Int) (f : Nat) : Nat → List Int
  | 0 => List.replicate (wd.length + 1) 0
  | h + 1 => ffA wd t h (ffB wd t f h) f
/-- The counts behind some throws. -/
def ffT (wd : List Int) (f : Nat) : Nat → List Int
  | 0 => (List.replicate (wd.length + 1) 0).set 0 1
  | m + 1 => ffB wd (ffT wd f m) f wd.length
def ffO (wd : List Int) (f : Nat) : Nat → List Int
  | 0 => [0]
  | m + 1 => ffO wd f m ++ [nth (ffT wd f (m + 1)) wd.length]
theorem ffA_length (wd t : List Int) (h : Nat) (base : List Int) (g : Nat) : (ffA wd t h base g).length = base.length := by
  induction g with
  | zero => rfl
  | succ g ih => rw [ffA, List.length_set, ih]
theorem ffB_length (wd t : List Int) (f h : Nat) : (ffB wd t f h).length = wd.length + 1 := by
  induction h with
  | zero => simp [ffB]
  | succ h ih => rw [ffB, ffA_length, ih]
theorem ffT_length (wd : List Int) (f m : Nat) : (ffT wd f m).length = wd.length + 1 := by
  cases m with
  | zero => simp [ffT]
  | succ m => exact ffB_length _ _ _ _
theorem ffO_length (wd : List Int) (f m : Nat) : (ffO wd f m).length = m + 1 := by
  induction m with
  | zero => rfl
  | succ m ih => rw [ffO, List.length_append, ih]; rfl
theorem ffA_succ (wd t : List Int) (h : Nat) (base : List Int) (g : Nat) : ffA wd t h base (g + 1) = (ffA wd t h base g).set (nxt wd h (g : Int)) (nth (ffA wd t h base g) (nxt wd h (g : Int)) + nth t h) := rfl
theorem allB_set {l : List Int} {lo hi hi' x : Int} {k : Nat} (h : allB l lo hi = true) (hh : hi ≤ hi') (h1 : lo ≤ x) (h2 : x ≤ hi') : allB (l.set k x) lo hi' = true := by
  refine List.all_eq_true.2 fun y hy => inB_iff.2 ?_
  rcases List.mem_or_eq_of_mem_set hy with h3 | h3
  · have := allB_mem h h3; omega
  · omega
theorem allB_zero (n : Nat) : allB (List.replicate n 0) 0 0 = true := List.all_eq_true.2 fun y hy => by
  have := List.eq_of_mem_replicate hy
  subst this
  rfl
theorem ffA_bd {wd t : List Int} {h : Nat} {base : List Int} {B T : Int} (hb : allB base 0 B = true) (hB : 0 ≤ B) (hT : 0 ≤ nth t h) (hT2 : nth t h ≤ T) (g : Nat) :
    allB (ffA wd t h base g) 0 (B + T * g) = true := by
  induction g with
  | zero => simpa [ffA] using hb
  | succ g ih =>
    have e : T * ((g + 1 : Nat) : Int) = T * g + T := by simp [Int.mul_add]
    have e2 : 0 ≤ T * (g : Int) := Int.mul_nonneg (by omega) (by omega)
    have h1 : 0 ≤ nth (ffA wd t h base g) (nxt wd h (g : Int)) ∧ nth (ffA wd t h base g) (nxt wd h (g : Int)) ≤ B + T * g := by
      by_cases hk : nxt wd h (g : Int) < (ffA wd t h base g).length
      · exact allB_nth ih hk
      · rw [nth_out (by omega)]; omega
    rw [ffA_succ]
    exact allB_set ih (by omega) (by omega) (by omega)
theorem ffB_bd {wd t : List Int} {T : Int} (ht : allB t 0 T = true) (hT : 0 ≤ T) (hl : wd.length ≤ t.length) (f h : Nat) (hh : h ≤ wd.length) : allB (ffB wd t f h) 0 (T * f * h) = true := by
  induction h with
  | zero => simpa [ffB] using allB_zero _
  | succ h ih =>
    have h1 := allB_nth ht (k := h) (by omega)
    have h2 := ffA_bd (wd := wd) (h := h) (ih (by omega)) (Int.mul_nonneg (Int.mul_nonneg hT (by omega)) (by omega)) h1.1 h1.2 f
    have e : T * (f : Int) * ((h + 1 : Nat) : Int) = T * f * h + T * f := by simp [Int.mul_add]
    rw [e]
    exact h2
/-- No count is greater than 36 to the power of the throws. -/
def p36 : Nat → Int
  | 0 => 1
  | m + 1 => p36 m * 36
theorem p36_pos (m : Nat) : 1 ≤ p36 m := by
  induction m with
  | zero => decide
  | succ m ih => rw [p36]; omega
theorem ffT_bd {wd : List Int} {f : Nat} (hf : f ≤ 6) (hl : wd.length ≤ 6) (m : Nat) : allB (ffT wd f m) 0 (p36 m) = true := by
  induction m with
  | zero => exact allB_set (allB_zero _) (by decide) (by decide) (by decide)
  | succ m ih =>
    have h0 := p36_pos m
    have h1 := ffB_bd (wd := wd) ih (by omega) (by rw [ffT_length]; omega) f wd.length (Nat.le_refl _)
    refine allB_mono h1 (Int.le_refl _) ?_
    have h2 : p36 m * (f : Int) ≤ p36 m * 6 := Int.mul_le_mul_of_nonneg_left (by omega) (by omega)
    have h3 : p36 m * (f : Int) * (wd.length : Int) ≤ (p36 m * 6) * 6 := Int.mul_le_mul h2 (by omega) (by omega) (by omega)
    rw [p36]
    omega
theorem p36_bd : ∀ m, m ≤ 9 → p36 m ≤ 200000000000000 := by decide
/-- All that is met on the way is small. -/
theorem ff_small {wd : List Int} {f : Nat} (hf : f ≤ 6) (hl : wd.length ≤ 6) {m h g : Nat} (hm : m ≤ 8) (hh : h < wd.length) (hg : g ≤ f) (k : Nat) :
    0 ≤ nth (ffT wd f m) h ∧ nth (ffT wd f m) h ≤ 200000000000000 ∧ 0 ≤ nth (ffA wd (ffT wd f m) h (ffB wd (ffT wd f m) f h) g) k ∧ nth (ffA wd (ffT wd f m) h (ffB wd (ffT wd f m) f h) g) k ≤ 20000000000000000 := by
  have h0 := p36_pos m
  have hp := p36_bd m (by omega)
  have ht := ffT_bd hf hl m
  have a := allB_nth ht (k := h) (by rw [ffT_length]; omega)
  have b := ffB_bd (wd := wd) ht (by omega) (by rw [ffT_length]; omega) f h (by omega)
  have b0 : 0 ≤ p36 m * (f : Int) := Int.mul_nonneg (by omega) (by omega)
  have c := ffA_bd (wd := wd) (h := h) b (Int.mul_nonneg b0 (by omega)) a.1 a.2 g
  have e1 : p36 m * (f : Int) ≤ 200000000000000 * 6 := Int.mul_le_mul hp (by omega) (by omega) (by omega)
  have e2 : p36 m * (f : Int) * (h : Int) ≤ 200000000000000 * 6 * 6 := Int.mul_le_mul e1 (by omega) (by omega) (by omega)
  have e3 : p36 m * (g : Int) ≤ 200000000000000 * 6 := Int.mul_le_mul hp (by omega) (by omega) (by omega)
  refine ⟨a.1, by omega, ?_⟩
  by_cases hk : k < (ffA wd (ffT wd f m) h (ffB wd (ffT wd f m) f h) g).length
  · have := allB_nth c hk; omega
  · rw [nth_out (by omega)]; omega
def ffOk (f : Int) (wd : List Int) (n : Int) : Bool := wrdB f wd && inB n 0 8
def ffV (f : Int) (wd : List Int) (n : Int) : List Int := if ffOk f wd n then ffO wd f.toNat n.toNat else []
theorem ff_1 {f n : Int} {wd : List Int} (h : wrdB f wd = false) : ffV f wd n = [] ∧ ffOk f wd n = false := by simp [ffV, ffOk, h]
theorem ff_2 {f n : Int} {wd : List Int} (h : inB n 0 8 = false) : ffV f wd n = [] ∧ ffOk f wd n = false := by simp [ffV, ffOk, h]
theorem ff_3 {f n : Int} {wd : List Int} (h1 : wrdB f wd = true) (h : inB n 0 8 = true) : ffV f wd n = ffO wd f.toNat n.toNat ∧ ffOk f wd n = true := by simp [ffV, ffOk, h, h1]
theorem ffV_length (f : Int) (wd : List Int) (n : Int) : (ffV f wd n).length ≤ 9 := by
  unfold ffV
  split
  · rename_i h
    simp only [ffOk, Bool.and_eq_true, inB_iff] at h
    rw [ffO_length]
    omega
  · simp
end Go.Proofs.Ytbgkeecndagkgaa
