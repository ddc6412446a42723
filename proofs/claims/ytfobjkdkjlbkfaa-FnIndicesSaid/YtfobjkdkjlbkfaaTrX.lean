/- Trees: their ends, and whether they are valid: both packages' walks. -/
import Derived.Test.YtfobjkdkjlbkfaaTrW
namespace Go.Proofs.Ytfobjkdkjlbkfaa
open Go.RowKit

theorem endsB_nth {P : List Int} {x : Nat} (hx : x < P.length) : nthB (endsB P) x = endB P x := by simp [nthB, endsB, hx]
theorem kids_len0 {P : List Int} {x : Nat} {q : Bool} (h : endB P x = q) : (((kids P (x : Int)).length : Int) == 0) = q := by
  cases q
  · have : kids P (x : Int) ≠ [] := fun h' => by rw [(kids_nil x).1 h'] at h; cases h
    have := List.length_pos_iff.2 this
    simp; omega
  · rw [(kids_nil x).2 h]; rfl
theorem treeB_n {P W : List Int} (h : inB P.length 1 24 = false) : treeB P W = false := by simp [treeB, h]
theorem treeB_l {P W : List Int} (h : W.length ≠ P.length) : treeB P W = false := by simp [treeB, h]
/-- The first k parents are in order. -/
structure ParTo (P : List Int) (k : Nat) : Prop where
  zero : 0 < k → nth P 0 = -1
  up : ∀ x, 1 ≤ x → x < k → 0 ≤ nth P x ∧ nth P x ≤ (x : Int) - 1
theorem ParTo.end_ {P : List Int} {k : Nat} (h : ParTo P k) (h1 : 1 ≤ P.length) (hk : ¬ k < P.length) : ParOk P := ⟨h.zero (by omega), fun x hx hl => h.up x hx (by omega)⟩
theorem ParTo.next {P : List Int} {k : Nat} (h : ParTo P k) (h1 : 1 ≤ k) (hx : inB (nth P k) 0 ((k : Int) - 1) = true) : ParTo P (k + 1) := by
  have := inB_iff.1 hx
  refine ⟨fun _ => h.zero (by omega), fun x h1 hx => ?_⟩
  rcases Nat.lt_or_ge x k with h' | h'
  · exact h.up x h1 h'
  · rw [show x = k by omega]; omega
theorem par_no {P W : List Int} {k : Nat} (h1 : 1 ≤ k) (hk : k < P.length) (hx : inB (nth P k) 0 ((k : Int) - 1) = false) : treeB P W = false :=
  treeB_no fun h => by
    have := h.par.up k h1 hk
    rw [inB_iff.2 this] at hx
    cases hx
theorem par_no0 {P W : List Int} (h : nth P 0 ≠ -1) : treeB P W = false := treeB_no fun h' => h h'.par.zero
theorem wt_no1 {P W : List Int} {k : Nat} (hk : k < P.length) (he : endB P k = true) (hx : inB (nth W k) 1 20 = false) : treeB P W = false :=
  treeB_no fun h => by
    have := h.wt k hk
    rw [if_pos he] at this
    rw [inB_iff.2 this] at hx
    cases hx
theorem wt_no2 {P W : List Int} {k : Nat} (hk : k < P.length) (he : endB P k = false) (hx : nth W k ≠ 0) : treeB P W = false :=
  treeB_no fun h => by
    have := h.wt k hk
    rw [if_neg (by rw [he]; simp)] at this
    exact hx this
/-- The first k weights are right. -/
def WtTo (P W : List Int) (k : Nat) : Prop := ∀ x, x < k → if endB P x then 1 ≤ nth W x ∧ nth W x ≤ 20 else nth W x = 0
theorem WtTo.next1 {P W : List Int} {k : Nat} (h : WtTo P W k) (he : endB P k = true) (hx : inB (nth W k) 1 20 = true) : WtTo P W (k + 1) := by
  intro x hl
  rcases Nat.lt_or_ge x k with h' | h'
  · exact h x h'
  · rw [show x = k by omega, if_pos he]; exact inB_iff.1 hx
theorem WtTo.next2 {P W : List Int} {k : Nat} (h : WtTo P W k) (he : endB P k = false) (hx : nth W k = 0) : WtTo P W (k + 1) := by
  intro x hl
  rcases Nat.lt_or_ge x k with h' | h'
  · exact h x h'
  · rw [show x = k by omega, if_neg (by rw [he]; simp)]; exact hx
theorem tree_yes {P W : List Int} (h1 : inB P.length 1 24 = true) (h2 : W.length = P.length) (h3 : ParOk P) (h4 : WtTo P W P.length) : treeB P W = true := by
  have := inB_iff.1 h1
  exact treeB_iff.2 ⟨by omega, by omega, h2, h3, fun x hx => h4 x hx⟩
end Go.Proofs.Ytfobjkdkjlbkfaa
