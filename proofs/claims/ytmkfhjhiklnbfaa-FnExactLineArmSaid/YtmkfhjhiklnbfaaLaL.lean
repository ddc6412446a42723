/- Line arms, plainly: the line of c.length + 1 nodes is an arm exactly if its fees lie within. No program stands here. -/
import Derived.Test.YtmkfhjhiklnbfaaArL
namespace Go.Proofs.Ytmkfhjhiklnbfaa
open Go.RowKit

/-- The line's parents, with k nodes: -1, 0, 1, .. -/
def lnP (k : Nat) : List Int := (List.range k).map fun (i : Nat) => (i : Int) - 1
def lnW (n : Nat) : List Int := (List.replicate (n + 1) 0).set n 1
theorem lnP_length (k : Nat) : (lnP k).length = k := by simp [lnP]
theorem lnP_succ (k : Nat) : lnP (k + 1) = lnP k ++ [(k : Int) - 1] := by simp [lnP, List.range_succ]
theorem lnW_length (n : Nat) : (lnW n).length = n + 1 := by simp [lnW]
theorem ln_all : ((List.range 5).all fun n => treeB (lnP (n + 1)) (lnW n) && decide (hgt (lnP (n + 1)) ≤ 4) && (List.range (n + 1)).all fun x => endB (lnP (n + 1)) x == decide (x = n)) = true := by kernel_rfl
theorem ln_one {n : Nat} (h : n < 5) : treeB (lnP (n + 1)) (lnW n) = true ∧ decide (hgt (lnP (n + 1)) ≤ 4) = true ∧ ∀ x : Nat, x < n + 1 → endB (lnP (n + 1)) x = decide (x = n) := by
  have := List.all_eq_true.1 ln_all n (List.mem_range.2 h)
  rw [Bool.and_eq_true, Bool.and_eq_true] at this
  refine ⟨this.1.1, this.1.2, fun x hx => ?_⟩
  have := List.all_eq_true.1 this.2 x (List.mem_range.2 hx)
  exact beq_iff_eq.1 this
theorem ln_z {c : List Int} (h : c.length ≤ 4) : zB (lnP (c.length + 1)) (c ++ [0]) = true := by
  unfold zB
  rw [List.all_eq_true]
  intro x hx
  rw [List.mem_range, lnP_length] at hx
  rw [(ln_one (n := c.length) (by omega)).2.2 x hx]
  rcases Decidable.em (x = c.length) with rfl | hne
  · simp [nth]
  · simp [hne]
theorem line_arm {c : List Int} (h : c.length ≤ 4) : armB (lnP (c.length + 1)) (lnW c.length) (c ++ [0]) = allB c (-99) 99 := by
  have h9 : (lnP (c.length + 1)).length ≤ 9 := by rw [lnP_length]; omega
  have hl : (c ++ [0]).length = (lnP (c.length + 1)).length := by simp [lnP_length]
  have ha : allB (c ++ [0]) (-99) 99 = allB c (-99) 99 := by simp [allB, inB]
  rw [armB, (ln_one (n := c.length) (by omega)).1, (ln_one (n := c.length) (by omega)).2.1, ln_z h, decide_eq_true h9, decide_eq_true hl, ha]
  simp
end Go.Proofs.Ytmkfhjhiklnbfaa
