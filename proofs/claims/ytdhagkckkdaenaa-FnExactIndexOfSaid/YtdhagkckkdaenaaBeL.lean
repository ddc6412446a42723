/- The reference's search for an index, candidate by candidate, plainly. No program stands here. -/
import Derived.Test.YtdhagkckkdaenaaPaL
import Derived.Test.YtdhagkckkdaenaaTrB
namespace Go.Proofs.Ytdhagkckkdaenaa

theorem bestTo_app {l m : List (Int × Int)} : ∀ k, k < l.length → bestTo true (l ++ m) k = bestTo true l k
  | 0, h => by simp [bestTo, nP, List.getD_eq_getElem?_getD, List.getElem?_append_left h]
  | k + 1, h => by
    have e : nP (l ++ m) (k + 1) = nP l (k + 1) := by simp [nP, List.getD_eq_getElem?_getD, List.getElem?_append_left h]
    rw [bestTo, bestTo, bestTo_app k (by omega), e]
theorem topOf_snoc {l : List (Int × Int)} (h : 0 < l.length) (c : Int × Int) : topOf true (l ++ [c]) = if betP true c (topOf true l) then c else topOf true l := by
  obtain ⟨m, hm⟩ : ∃ m, l.length = m + 1 := ⟨l.length - 1, by omega⟩
  have e : nP (l ++ [c]) (m + 1) = c := by
    rw [← hm]
    simp [nP, List.getD_eq_getElem?_getD]
  have e2 : topOf true l = bestTo true l m := by rw [topOf, hm]; rfl
  rw [e2, topOf, List.length_append, List.length_singleton, hm]
  show bestTo true (l ++ [c]) (m + 1) = _
  rw [bestTo, e, bestTo_app m (by omega)]
section
variable {P W F : List Int} {a b : Int} {f : Nat → Int × Int} {x k : Nat}
/-- The best one so far. -/
def rfB (P W F : List Int) (a b : Int) (f : Nat → Int × Int) (x k : Nat) : Int × Int := topOf true (rfTo P W F a b f x k)
theorem rfTo_len : 0 < (rfTo P W F a b f x k).length := by rw [rfTo]; simp
theorem rfTo_no (h : (decide (x < k) && (undB P x k && neB P k)) = false) : rfTo P W F a b f x (k + 1) = rfTo P W F a b f x k := by
  unfold rfTo
  rw [List.range_succ, List.filter_append]
  simp [h]
theorem rfTo_yes (h : (decide (x < k) && (undB P x k && neB P k)) = true) : rfTo P W F a b f x (k + 1) = rfTo P W F a b f x k ++ [prI P W F a b (inY P f x k) x] := by
  unfold rfTo
  rw [List.range_succ, List.filter_append]
  simp [h]
theorem rfB_no1 (h : undB P x k = false) : rfB P W F a b f x (k + 1) = rfB P W F a b f x k := by
  rw [rfB, rfTo_no (by rw [h]; simp)]
  rfl
theorem rfB_no2 (h : endB P k = true) : rfB P W F a b f x (k + 1) = rfB P W F a b f x k := by
  rw [rfB, rfTo_no (by simp [neB, h])]
  rfl
theorem rfB_yes (hx : x < k) (h1 : undB P x k = true) (h2 : endB P k = false) : rfB P W F a b f x (k + 1) = if betP true (prI P W F a b (inY P f x k) x) (rfB P W F a b f x k) then prI P W F a b (inY P f x k) x else rfB P W F a b f x k := by
  rw [rfB, rfTo_yes (by simp [neB, h1, h2, hx]), topOf_snoc rfTo_len]
  rfl
theorem rfTo_low : ∀ k, k ≤ x + 1 → rfTo P W F a b f x k = [(nth F x, 1)]
  | 0, _ => rfl
  | k + 1, h => by rw [rfTo_no (by rw [decide_eq_false (by omega)]; rfl), rfTo_low k (by omega)]
theorem rfB_start : rfB P W F a b f x (x + 1) = (nth F x, 1) := by rw [rfB, rfTo_low _ (Nat.le_refl _)]; rfl
theorem rfTo_fr (h : ArmAB P W F a b) (hx : x < P.length) : ∀ g ∈ rfTo P W F a b f x k, frP g = true := by
  intro g hg
  rw [rfTo, List.mem_cons] at hg
  rcases hg with rfl | hg
  · rw [← prI_none h hx (i := fun _ => false) fun y hy hr => rch_false h.arm.tree.par hy hr]
    exact prI_fr h hx _
  · obtain ⟨y, _, rfl⟩ := List.mem_map.1 hg
    exact prI_fr h hx _
theorem rfB_fr (h : ArmAB P W F a b) (hx : x < P.length) : frP (rfB P W F a b f x k) = true := rfTo_fr h hx _ (topOf_mem rfTo_len)
/-- The reference's set while it is being made: the nodes below z have been seen. -/
def inM (P : List Int) (f : Nat → Int × Int) (x y z : Nat) : List Bool := (List.range P.length).map fun u => decide (u < z) && inY P f x y u
theorem inM_len (y z : Nat) : (inM P f x y z).length = P.length := by simp [inM]
theorem inM_start (y : Nat) : inM P f x y (x + 1) = List.replicate P.length false := by
  apply List.ext_getElem
  · simp [inM]
  · intro i h1 h2
    simp only [inM, List.getElem_map, List.getElem_range, List.getElem_replicate]
    by_cases h : i < x + 1
    · simp [inY, show ¬ x < i by omega]
    · simp [h]
theorem inM_step {y z : Nat} : (inM P f x y z).set z (inY P f x y z) = inM P f x y (z + 1) := by
  apply List.ext_getElem
  · simp [inM]
  · intro i h1 h2
    rw [List.getElem_set]
    simp only [inM, List.getElem_map, List.getElem_range]
    by_cases h : z = i
    · subst h
      simp
    · rw [if_neg h]
      congr 1
      exact decide_eq_decide.2 (by omega)
theorem inM_nth {y u : Nat} (hu : u < P.length) : nthB (inM P f x y P.length) u = inY P f x y u := by
  simp [nthB, inM, hu]
theorem inM_pr (h : ArmAB P W F a b) (y : Nat) : prI P W F a b (nthB (inM P f x y P.length)) x = prI P W F a b (inY P f x y) x :=
  prI_congr h.arm.tree.par fun z hz => rch_congr h.arm.tree.par hz fun u _ hu _ => inM_nth (by omega)
theorem inY_end {y z : Nat} (h : endB P z = true) : inY P f x y z = false := by simp [inY, neB, h]
theorem inY_in {y z : Nat} (hx : x < z) (h : endB P z = false) : inY P f x y z = !lessP (f z) (f y) := by simp [inY, neB, h, hx]
end
end Go.Proofs.Ytdhagkckkdaenaa
