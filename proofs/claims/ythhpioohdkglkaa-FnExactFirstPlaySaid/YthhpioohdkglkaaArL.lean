/- Arms, plainly: depths, height, validity. No program stands here. -/
import Derived.Test.YthhpioohdkglkaaMktL
import Derived.Test.YthhpioohdkglkaaScal
namespace Go.Proofs.Ythhpioohdkglkaa

/-- The depths of all nodes. -/
def dep (P : List Int) : List Int := depL P (P.length - 1)
theorem dep_length {P : List Int} (h : 1 ≤ P.length) : (dep P).length = P.length := by rw [dep, depL_length]; omega
theorem dep_bd (P : List Int) (i : Nat) : 0 ≤ nth (dep P) i ∧ nth (dep P) i ≤ (P.length : Int) := by
  have := depL_bd P (P.length - 1) i
  unfold dep
  omega
def mxTo (xs : List Int) : Nat → Int
  | 0 => 0
  | k + 1 => mxI (mxTo xs k) (nth xs k)
theorem mxTo_bd {xs : List Int} {M : Int} (h : ∀ i, 0 ≤ nth xs i ∧ nth xs i ≤ M) (hM : 0 ≤ M) (k : Nat) : 0 ≤ mxTo xs k ∧ mxTo xs k ≤ M := by
  induction k with
  | zero => simp [mxTo, hM]
  | succ k ih => exact mxI_bd ih.1 ih.2 (h k).1 (h k).2
theorem mxTo_ge {xs : List Int} {i k : Nat} (h : i < k) : nth xs i ≤ mxTo xs k := by
  induction k with
  | zero => omega
  | succ k ih =>
    rw [mxTo]
    unfold mxI
    rcases Nat.lt_or_ge i k with h' | h'
    · have := ih h'
      split <;> omega
    · rw [show i = k by omega]
      split <;> omega
def hgt (P : List Int) : Int := mxTo (dep P) P.length
theorem hgt_bd (P : List Int) : 0 ≤ hgt P ∧ hgt P ≤ (P.length : Int) := mxTo_bd (dep_bd P) (by omega) _
def armB (P W F : List Int) : Bool := treeB P W && decide (P.length ≤ 9) && decide (hgt P ≤ 4) && decide (F.length = P.length) && allB F (-99) 99 && zB P F
structure ArmOk (P W F : List Int) : Prop where
  tree : TreeOk P W
  n9 : P.length ≤ 9
  h4 : hgt P ≤ 4
  len : F.length = P.length
  fees : allB F (-99) 99 = true
  z : zB P F = true
theorem armB_iff {P W F : List Int} : armB P W F = true ↔ ArmOk P W F := by
  simp only [armB, Bool.and_eq_true, decide_eq_true_eq, treeB_iff]
  constructor
  · rintro ⟨⟨⟨⟨⟨h1, h2⟩, h3⟩, h4⟩, h5⟩, h6⟩; exact ⟨h1, h2, h3, h4, h5, h6⟩
  · rintro ⟨h1, h2, h3, h4, h5, h6⟩; exact ⟨⟨⟨⟨⟨h1, h2⟩, h3⟩, h4⟩, h5⟩, h6⟩
theorem armB_no {P W F : List Int} (h : ¬ ArmOk P W F) : armB P W F = false := by
  cases hb : armB P W F
  · rfl
  · exact absurd (armB_iff.1 hb) h
theorem ArmOk.depth {P W F : List Int} (h : ArmOk P W F) {x : Nat} (hx : x < P.length) : 0 ≤ nth (dep P) x ∧ nth (dep P) x ≤ 4 := by
  have h1 := mxTo_ge (xs := dep P) hx
  have h2 := h.h4
  unfold hgt at h2
  have := dep_bd P x
  omega
theorem dep_step {P : List Int} {x p : Nat} (hx : 1 ≤ x) (hp : nth P x = (p : Int)) : depL P x = depL P (x - 1) ++ [nth (depL P (x - 1)) p + 1] := by
  obtain ⟨m, rfl⟩ : ∃ m, x = m + 1 := ⟨x - 1, by omega⟩
  rw [depL, hp, Int.toNat_natCast, Nat.add_sub_cancel]
theorem dep_len {P : List Int} {x : Nat} (hx : 1 ≤ x) : (depL P (x - 1)).length = x := by rw [depL_length]; omega
end Go.Proofs.Ythhpioohdkglkaa
