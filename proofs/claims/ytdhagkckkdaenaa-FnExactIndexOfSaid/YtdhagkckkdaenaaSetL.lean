/- The sets of nodes closed towards one of them, as the program lists them, plainly. No program stands here. -/
import Derived.Test.YtdhagkckkdaenaaRchL
namespace Go.Proofs.Ytdhagkckkdaenaa

/-- A list of numbers has a number. -/
def hasI (s : List Int) (p : Int) : Bool := s.any fun q => q == p
theorem hasI_iff {s : List Int} {p : Int} : hasI s p = true ↔ p ∈ s := by simp [hasI]
/-- The sets that y is added to, of the first m ones. -/
def stsIn (L : List (List Int)) (p y : Int) (m : Nat) : List (List Int) := ((L.take m).filter fun s => hasI s p).map fun s => s ++ [y]
theorem stsIn_yes {L : List (List Int)} {p y : Int} {m : Nat} (hm : m < L.length) (h : hasI (L.getD m []) p = true) : stsIn L p y (m + 1) = stsIn L p y m ++ [L.getD m [] ++ [y]] := by
  have e : L.getD m [] = L[m] := by simp [List.getD_eq_getElem?_getD, hm]
  rw [e] at h ⊢
  unfold stsIn
  rw [List.take_succ_eq_append_getElem hm, List.filter_append, List.map_append]
  simp [h]
theorem stsIn_no {L : List (List Int)} {p y : Int} {m : Nat} (hm : m < L.length) (h : hasI (L.getD m []) p = false) : stsIn L p y (m + 1) = stsIn L p y m := by
  have e : L.getD m [] = L[m] := by simp [List.getD_eq_getElem?_getD, hm]
  rw [e] at h
  unfold stsIn
  rw [List.take_succ_eq_append_getElem hm, List.filter_append, List.map_append]
  simp [h]
theorem stsIn_zero (L : List (List Int)) (p y : Int) : stsIn L p y 0 = [] := rfl
theorem stsIn_len (L : List (List Int)) (p y : Int) (m : Nat) : (stsIn L p y m).length ≤ m := by
  unfold stsIn
  rw [List.length_map]
  refine Nat.le_trans (List.length_filter_le _ _) ?_
  rw [List.length_take]
  omega
/-- The sets when the k nodes behind x have been seen. -/
def stsTo (P : List Int) (x : Nat) : Nat → List (List Int)
  | 0 => [[(x : Int)]]
  | k + 1 => if endB P (x + 1 + k) then stsTo P x k else stsTo P x k ++ stsIn (stsTo P x k) (nth P (x + 1 + k)) ((x + 1 + k : Nat) : Int) (stsTo P x k).length
def sts (P : List Int) (x : Nat) : List (List Int) := if endB P x then [] else stsTo P x (P.length - 1 - x)
theorem stsTo_len (P : List Int) (x : Nat) : ∀ k, (stsTo P x k).length ≤ 2 ^ k
  | 0 => Nat.le_refl _
  | k + 1 => by
    have h := stsTo_len P x k
    have h2 := stsIn_len (stsTo P x k) (nth P (x + 1 + k)) ((x + 1 + k : Nat) : Int) (stsTo P x k).length
    rw [stsTo, Nat.pow_succ]
    split
    · omega
    · rw [List.length_append]; omega
theorem stsTo_pos (P : List Int) (x : Nat) : ∀ k, 0 < (stsTo P x k).length
  | 0 => Nat.one_pos
  | k + 1 => by
    have h := stsTo_pos P x k
    rw [stsTo]
    split
    · exact h
    · rw [List.length_append]; omega
/-- The nodes below k that are reached. -/
def rL (P : List Int) (i : Nat → Bool) (x k : Nat) : List Int := ((List.range k).filter fun y => rch P i x y).map fun (y : Nat) => (y : Int)
theorem rL_yes {P : List Int} {i : Nat → Bool} {x k : Nat} (h : rch P i x k = true) : rL P i x (k + 1) = rL P i x k ++ [(k : Int)] := by
  simp [rL, List.range_succ, List.filter_append, h]
theorem rL_no {P : List Int} {i : Nat → Bool} {x k : Nat} (h : rch P i x k = false) : rL P i x (k + 1) = rL P i x k := by
  simp [rL, List.range_succ, List.filter_append, h]
theorem mem_rL {P : List Int} {i : Nat → Bool} {x k : Nat} {q : Int} : q ∈ rL P i x k ↔ ∃ y : Nat, y < k ∧ rch P i x y = true ∧ q = (y : Int) := by
  simp only [rL, List.mem_map, List.mem_filter, List.mem_range]
  constructor
  · rintro ⟨j, ⟨h1, h2⟩, rfl⟩; exact ⟨j, h1, h2, rfl⟩
  · rintro ⟨j, h1, h2, rfl⟩; exact ⟨j, ⟨h1, h2⟩, rfl⟩
theorem rL_congr {P : List Int} {i i' : Nat → Bool} {x k : Nat} (h : ∀ y, y < k → rch P i x y = rch P i' x y) : rL P i x k = rL P i' x k := by
  unfold rL
  congr 1
  refine List.filter_congr fun y hy => ?_
  exact h y (List.mem_range.1 hy)
theorem rL_start (P : List Int) (i : Nat → Bool) (x : Nat) : rL P i x (x + 1) = [(x : Int)] := by
  rw [rL_yes rch_self]
  have : rL P i x x = [] := by
    rw [List.eq_nil_iff_forall_not_mem]
    intro q hq
    obtain ⟨y, hy, hr, _⟩ := mem_rL.1 hq
    rw [rch_low hy] at hr
    cases hr
  rw [this]
  rfl
theorem mem_stsIn {L : List (List Int)} {p y : Int} {s : List Int} : s ∈ stsIn L p y L.length ↔ ∃ t ∈ L, p ∈ t ∧ s = t ++ [y] := by
  simp only [stsIn, List.take_length, List.mem_map, List.mem_filter, hasI_iff]
  constructor
  · rintro ⟨t, ⟨h1, h2⟩, rfl⟩; exact ⟨t, h1, h2, rfl⟩
  · rintro ⟨t, h1, h2, rfl⟩; exact ⟨t, ⟨h1, h2⟩, rfl⟩
theorem sts_iff {P : List Int} (hp : ParOk P) {x : Nat} (s : List Int) : ∀ k, x + 1 + k ≤ P.length →
    (s ∈ stsTo P x k ↔ ∃ i : Nat → Bool, (∀ z, i z = true → endB P z = false) ∧ s = rL P i x (x + 1 + k))
  | 0, _ => by
    rw [stsTo, List.mem_singleton]
    constructor
    · rintro rfl
      exact ⟨fun _ => false, (fun _ h => absurd h (by simp)), (rL_start _ _ _).symm⟩
    · rintro ⟨i, _, rfl⟩
      exact rL_start _ _ _
  | k + 1, hk => by
    have ih := fun t => sts_iff (x := x) hp t k (by omega)
    obtain ⟨p, hpy, hlt⟩ := par_of hp (show x < x + 1 + k by omega) (by omega)
    constructor
    · intro h
      have key : (s ∈ stsTo P x k) ∨ (endB P (x + 1 + k) = false ∧ ∃ t ∈ stsTo P x k, (p : Int) ∈ t ∧ s = t ++ [((x + 1 + k : Nat) : Int)]) := by
        rw [stsTo] at h
        split at h
        · exact .inl h
        · next he =>
          rcases List.mem_append.1 h with h | h
          · exact .inl h
          · rw [hpy] at h
            exact .inr ⟨by simpa using he, mem_stsIn.1 h⟩
      rcases key with h | ⟨he, t, ht, hpt, rfl⟩
      · obtain ⟨i, hi, rfl⟩ := (ih s).1 h
        refine ⟨fun z => i z && decide (z < x + 1 + k), fun z hz => hi z (by simp only [Bool.and_eq_true] at hz; exact hz.1), ?_⟩
        rw [show x + 1 + (k + 1) = (x + 1 + k) + 1 by omega, rL_no]
        · refine rL_congr fun y hy => rch_congr hp (by omega) fun z _ hz _ => ?_
          simp only [decide_eq_true (show z < x + 1 + k by omega), Bool.and_true]
        · rw [rch_step hpy hlt (by omega)]
          simp
      · obtain ⟨i, hi, rfl⟩ := (ih t).1 ht
        obtain ⟨q, hq, hr, hqe⟩ := mem_rL.1 hpt
        obtain rfl : p = q := by omega
        refine ⟨fun z => if z = x + 1 + k then true else i z, fun z hz => ?_, ?_⟩
        · by_cases hze : z = x + 1 + k
          · rw [hze]; exact he
          · exact hi z (by simpa [hze] using hz)
        · have hc : ∀ y, y < x + 1 + k → rch P i x y = rch P (fun z => if z = x + 1 + k then true else i z) x y := fun y hy => rch_congr hp (by omega) fun z _ hz _ => by
            simp only [if_neg (show ¬ z = x + 1 + k by omega)]
          rw [show x + 1 + (k + 1) = (x + 1 + k) + 1 by omega, rL_yes]
          · rw [rL_congr hc]
          · rw [rch_step hpy hlt (by omega), ← hc p hq, hr]
            simp
    · rintro ⟨i, hi, rfl⟩
      have hm : rL P i x (x + 1 + k) ∈ stsTo P x k := (ih _).2 ⟨i, hi, rfl⟩
      rw [stsTo, show x + 1 + (k + 1) = (x + 1 + k) + 1 by omega]
      rcases Bool.eq_false_or_eq_true (rch P i x (x + 1 + k)) with hr | hr
      · rw [rL_yes hr]
        have h1 := hi _ (rch_in hr (by omega))
        rw [h1, if_neg (by simp)]
        refine List.mem_append.2 (.inr (mem_stsIn.2 ⟨_, hm, ?_, rfl⟩))
        rw [rch_step hpy hlt (by omega), Bool.and_eq_true] at hr
        exact mem_rL.2 ⟨p, hlt, hr.2, hpy⟩
      · rw [rL_no hr]
        split
        · exact hm
        · exact List.mem_append.2 (.inl hm)
/-- The sum over a set's nodes. -/
theorem sum_rL (P : List Int) (i : Nat → Bool) (x : Nat) (f : Nat → Int) : ∀ k, ((rL P i x k).map fun y => f y.toNat).sum = sN (fun y => if rch P i x y = true then f y else 0) k
  | 0 => rfl
  | k + 1 => by
    rw [sN]
    rcases Bool.eq_false_or_eq_true (rch P i x k) with h | h
    · rw [rL_yes h, if_pos h, List.map_append, List.sum_append, sum_rL P i x f k]; simp
    · rw [rL_no h, if_neg (by rw [h]; simp), sum_rL P i x f k]; omega
/-- The sets of an inner node. -/
theorem mem_sts {P : List Int} (hp : ParOk P) {x : Nat} (hx : x < P.length) (he : endB P x = false) (s : List Int) : s ∈ sts P x ↔ ∃ i : Nat → Bool, (∀ z, i z = true → endB P z = false) ∧ s = rL P i x P.length := by
  rw [sts, he, if_neg (by simp), sts_iff hp s _ (by omega), show x + 1 + (P.length - 1 - x) = P.length by omega]
theorem sts_pos {P : List Int} {x : Nat} (he : endB P x = false) : 0 < (sts P x).length := by
  rw [sts, he, if_neg (by simp)]
  exact stsTo_pos _ _ _
theorem sts_len {P : List Int} (h9 : P.length ≤ 9) (x : Nat) : (sts P x).length ≤ 256 := by
  rw [sts]
  split
  · exact Nat.zero_le _
  · exact Nat.le_trans (stsTo_len _ _ _) (Nat.pow_le_pow_right (by decide) (show P.length - 1 - x ≤ 8 by omega))
end Go.Proofs.Ytdhagkckkdaenaa
