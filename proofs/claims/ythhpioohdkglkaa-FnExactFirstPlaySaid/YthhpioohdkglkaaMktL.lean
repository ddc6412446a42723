/- Markets, plainly: holdings, wealth, claims, children by their prices, weights. No program stands here. -/
import Derived.Test.YthhpioohdkglkaaTreeL
namespace Go.Proofs.Ythhpioohdkglkaa

def mktB (P W F : List Int) : Bool := treeB P W && decide (F.length = P.length) && allB F 0 20
theorem mktB_iff {P W F : List Int} : mktB P W F = true ↔ TreeOk P W ∧ F.length = P.length ∧ allB F 0 20 = true := by
  simp only [mktB, Bool.and_eq_true, decide_eq_true_eq, treeB_iff, and_assoc]

/-- All ends have 0. -/
def zB (P H : List Int) : Bool := (List.range P.length).all fun x => !endB P x || decide (nth H x = 0)
theorem zB_iff {P H : List Int} : zB P H = true ↔ ∀ x, x < P.length → endB P x = true → nth H x = 0 := by
  simp only [zB, List.all_eq_true, List.mem_range, Bool.or_eq_true, Bool.not_eq_true', decide_eq_true_eq]
  constructor
  · intro h x hx he
    rcases h x hx with h | h
    · rw [he] at h; cases h
    · exact h
  · intro h x hx
    cases he : endB P x
    · exact .inl rfl
    · exact .inr (h x hx he)
theorem endL_all {P : List Int} {Q : Int → Prop} (h : ∀ i, i < (endL P).length → Q (nth (endL P) i)) : ∀ x, x < P.length → endB P x = true → Q (x : Int) := by
  intro x hx he
  have : (x : Int) ∈ endL P := mem_enTo.2 ⟨x, hx, he, rfl⟩
  obtain ⟨i, hi, hv⟩ := List.mem_iff_getElem.1 this
  have := h i hi
  rw [nth_eq hi, hv] at this
  exact this
theorem zB_end {P H : List Int} (h : ∀ i, i < (endL P).length → nth H (nth (endL P) i).toNat = 0) : zB P H = true :=
  zB_iff.2 fun x hx he => endL_all (Q := fun v => nth H v.toNat = 0) h x hx he
theorem zB_no {P H : List Int} {x : Nat} (hx : x < P.length) (he : endB P x = true) (h : nth H x ≠ 0) : zB P H = false := by
  cases hb : zB P H
  · rfl
  · exact absurd (zB_iff.1 hb x hx he) h
def hldB (P F H : List Int) : Bool := decide (H.length = F.length) && allB H (-99) 99 && zB P H
/-- A market, a start and holdings are valid. -/
def hlB (P W F H : List Int) (s : Int) : Bool := mktB P W F && inB s (-999) 999 && hldB P F H

/-- The wealth at the first m + 1 nodes. -/
def wlL (P F H : List Int) (s : Int) : Nat → List Int
  | 0 => [s]
  | m + 1 => wlL P F H s m ++ [nth (wlL P F H s m) (nth P (m + 1)).toNat + nth H (nth P (m + 1)).toNat * (nth F (m + 1) - nth F (nth P (m + 1)).toNat)]
theorem wlL_length (P F H : List Int) (s : Int) (m : Nat) : (wlL P F H s m).length = m + 1 := by
  induction m with
  | zero => rfl
  | succ m ih => simp [wlL, ih]
theorem hF_bd {F H : List Int} (hF : allB F 0 20 = true) (hH : allB H (-99) 99 = true) (p x : Nat) : -1980 ≤ nth H p * (nth F x - nth F p) ∧ nth H p * (nth F x - nth F p) ≤ 1980 := by
  have hf : ∀ k, 0 ≤ nth F k ∧ nth F k ≤ 20 := fun k => by
    rcases Nat.lt_or_ge k F.length with h | h
    · exact allB_nth hF h
    · rw [nth_big h]; omega
  have hh : -99 ≤ nth H p ∧ nth H p ≤ 99 := by
    rcases Nat.lt_or_ge p H.length with h | h
    · exact allB_nth hH h
    · rw [nth_big h]; omega
  have h1 := hf x
  have h2 := hf p
  generalize nth H p = a at *
  have hd : -20 ≤ nth F x - nth F p ∧ nth F x - nth F p ≤ 20 := by omega
  generalize nth F x - nth F p = d at *
  have e1 : 0 ≤ (99 - a) * (20 - d) := Int.mul_nonneg (by omega) (by omega)
  have e2 : 0 ≤ (99 - a) * (20 + d) := Int.mul_nonneg (by omega) (by omega)
  have e3 : 0 ≤ (99 + a) * (20 - d) := Int.mul_nonneg (by omega) (by omega)
  have e4 : 0 ≤ (99 + a) * (20 + d) := Int.mul_nonneg (by omega) (by omega)
  constructor <;> grind
theorem wlL_bd {P F H : List Int} {s : Int} (hF : allB F 0 20 = true) (hH : allB H (-99) 99 = true) (hs : -999 ≤ s ∧ s ≤ 999) (m i : Nat) :
    -999 - 1980 * (m : Int) ≤ nth (wlL P F H s m) i ∧ nth (wlL P F H s m) i ≤ 999 + 1980 * (m : Int) := by
  induction m generalizing i with
  | zero =>
    rcases i with _ | i
    · simp [wlL, nth]; omega
    · simp [wlL, nth]
  | succ m ih =>
    rw [wlL]
    rcases Nat.lt_or_ge i (wlL P F H s m).length with h | h
    · rw [nth_app_l h]; have := ih i; omega
    · rcases Nat.eq_or_lt_of_le h with h | h
      · rw [nth_app_r _ _ _ h.symm]
        have := ih (nth P (m + 1)).toNat
        have := hF_bd hF hH (nth P (m + 1)).toNat (m + 1)
        omega
      · rw [nth_big (by simp; omega)]; omega
def wl (P F H : List Int) (s : Int) : List Int := wlL P F H s (P.length - 1)

/-- Claims of a valid tree. -/
def clmB (P C : List Int) : Bool := decide (C.length = (endL P).length) && allB C (-99) 99
def wlE (P F H : List Int) (s : Int) (i : Nat) : Int := nth (wl P F H s) (nth (endL P) i).toNat
def cover (P F H C : List Int) (s : Int) : Bool := (List.range (endL P).length).all fun i => decide (nth C i ≤ wlE P F H s i)
def match_ (P F H C : List Int) (s : Int) : Bool := (List.range (endL P).length).all fun i => decide (wlE P F H s i = nth C i)
theorem all_no {n : Nat} {f : Nat → Bool} {i : Nat} (hi : i < n) (h : f i = false) : (List.range n).all f = false := by
  rw [List.all_eq_false]
  exact ⟨i, List.mem_range.2 hi, by simp [h]⟩
theorem all_yes {n : Nat} {f : Nat → Bool} (h : ∀ i, i < n → f i = true) : (List.range n).all f = true := by
  rw [List.all_eq_true]
  exact fun i hi => h i (List.mem_range.1 hi)

/-- Children of a node by their prices. -/
def lessTo (P F : List Int) (x k : Nat) : List Int := ((kids P (x : Int)).take k).filter fun y => decide (nth F y.toNat < nth F x)
def moreTo (P F : List Int) (x k : Nat) : List Int := ((kids P (x : Int)).take k).filter fun y => decide (nth F x < nth F y.toNat)
def sameTo (P F : List Int) (x k : Nat) : List Int := ((kids P (x : Int)).take k).filter fun y => decide (nth F y.toNat = nth F x)
def lessL (P F : List Int) (x : Nat) : List Int := lessTo P F x (kids P (x : Int)).length
def moreL (P F : List Int) (x : Nat) : List Int := moreTo P F x (kids P (x : Int)).length
def sameL (P F : List Int) (x : Nat) : List Int := sameTo P F x (kids P (x : Int)).length
theorem filt_succ {l : List Int} {f : Int → Bool} {k : Nat} (hk : k < l.length) : (l.take (k + 1)).filter f = (l.take k).filter f ++ (if f (nth l k) then [nth l k] else []) := by
  rw [List.take_succ_eq_append_getElem hk, List.filter_append, nth_eq hk]
  congr 1
  rw [List.filter_cons]
  rfl
theorem filt_len (l : List Int) (f : Int → Bool) (k : Nat) : ((l.take k).filter f).length ≤ k := by
  have := List.length_filter_le f (l.take k)
  simp at this
  omega
def unB (P F : List Int) (x : Nat) : Bool := decide (0 < (lessL P F x).length) != decide (0 < (moreL P F x).length)
/-- The least node that is not even, or -1. -/
def unK (P F : List Int) : Int := match (List.range P.length).find? (unB P F) with
  | some x => (x : Int)
  | none => -1
theorem unK_eq {P F : List Int} {k : Nat} (hk : k < P.length) (h : unB P F k = true) (hl : ∀ j, j < k → unB P F j = false) : unK P F = (k : Int) := by
  have : (List.range P.length).find? (unB P F) = some k := by
    rw [List.find?_range_eq_some]
    exact ⟨h, List.mem_range.2 hk, fun j hj => by simp [hl j hj]⟩
  simp [unK, this]
theorem unK_none {P F : List Int} (hl : ∀ j, j < P.length → unB P F j = false) : unK P F = -1 := by
  have : (List.range P.length).find? (unB P F) = none := by
    rw [List.find?_eq_none]
    intro x hx
    simp [hl x (List.mem_range.1 hx)]
  simp [unK, this]
theorem unK_cases (P F : List Int) : (unK P F = -1 ∧ ∀ j, j < P.length → unB P F j = false) ∨ ∃ k : Nat, k < P.length ∧ unK P F = (k : Int) ∧ unB P F k = true := by
  unfold unK
  split
  · rename_i x h
    right
    have h1 := List.find?_some h
    have h2 := List.mem_of_find?_eq_some h
    exact ⟨x, List.mem_range.1 h2, rfl, h1⟩
  · rename_i h
    left
    refine ⟨rfl, fun j hj => ?_⟩
    have := List.find?_eq_none.1 h j (List.mem_range.2 hj)
    simpa using this
/-- Holdings with a gain without risk. -/
def gainL (P F : List Int) : List Int := (List.replicate P.length 0).set (unK P F).toNat (if 0 < (lessL P F (unK P F).toNat).length then -1 else 1)
end Go.Proofs.Ythhpioohdkglkaa
