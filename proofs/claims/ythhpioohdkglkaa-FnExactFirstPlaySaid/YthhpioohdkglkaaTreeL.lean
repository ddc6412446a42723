/- Trees, plainly: parents, ends, children, depths, sums. No program stands here. -/
import Derived.Test.YthhpioohdkglkaaLists
namespace Go.Proofs.Ythhpioohdkglkaa

theorem nth_app_l {xs ys : List Int} {k : Nat} (h : k < xs.length) : nth (xs ++ ys) k = nth xs k := by simp [nth, List.getElem?_append_left h]
theorem nth_app_r (xs : List Int) (y : Int) (k : Nat) (h : k = xs.length) : nth (xs ++ [y]) k = y := by subst h; simp [nth]
theorem nth_big {xs : List Int} {k : Nat} (h : xs.length ≤ k) : nth xs k = 0 := by simp [nth, h]
theorem nth_set_self {xs : List Int} {k : Nat} (h : k < xs.length) (y : Int) : nth (xs.set k y) k = y := by simp [nth, h]
theorem nth_set_ne {xs : List Int} {k j : Nat} (h : k ≠ j) (y : Int) : nth (xs.set k y) j = nth xs j := by simp [nth, List.getElem?_set_ne h]
theorem nth_rep (n k : Nat) : nth (List.replicate n 0) k = 0 := by
  by_cases h : k < n
  · simp [nth, h]
  · simp [nth, h]

/-- x has no child. -/
def endB (P : List Int) (x : Nat) : Bool := P.all fun p => p != (x : Int)
def parB (P : List Int) : Bool := decide (nth P 0 = -1) && (List.range P.length).all fun x => decide (x = 0) || inB (nth P x) 0 ((x : Int) - 1)
def wtB (P W : List Int) : Bool := (List.range P.length).all fun x => if endB P x then inB (nth W x) 1 20 else decide (nth W x = 0)
def treeB (P W : List Int) : Bool := inB P.length 1 24 && decide (W.length = P.length) && parB P && wtB P W
structure ParOk (P : List Int) : Prop where
  zero : nth P 0 = -1
  up : ∀ x, 1 ≤ x → x < P.length → 0 ≤ nth P x ∧ nth P x ≤ (x : Int) - 1
theorem parB_iff {P : List Int} : parB P = true ↔ ParOk P := by
  simp only [parB, Bool.and_eq_true, decide_eq_true_eq, List.all_eq_true, List.mem_range, Bool.or_eq_true, inB_iff]
  constructor
  · rintro ⟨h, h2⟩
    exact ⟨h, fun x h1 hx => by rcases h2 x hx with h | h <;> omega⟩
  · rintro ⟨h, h2⟩
    exact ⟨h, fun x hx => by
      rcases Nat.eq_zero_or_pos x with h0 | h0
      · exact .inl h0
      · exact .inr (h2 x h0 hx)⟩
structure TreeOk (P W : List Int) : Prop where
  n1 : 1 ≤ P.length
  n2 : P.length ≤ 24
  len : W.length = P.length
  par : ParOk P
  wt : ∀ x, x < P.length → if endB P x then 1 ≤ nth W x ∧ nth W x ≤ 20 else nth W x = 0
theorem treeB_iff {P W : List Int} : treeB P W = true ↔ TreeOk P W := by
  simp only [treeB, Bool.and_eq_true, decide_eq_true_eq, parB_iff, inB_iff, wtB, List.all_eq_true, List.mem_range]
  constructor
  · rintro ⟨⟨⟨h1, h2⟩, h3⟩, h4⟩
    refine ⟨by omega, by omega, h2, h3, fun x hx => ?_⟩
    have := h4 x hx
    split at this
    · rw [if_pos (by assumption)]; exact inB_iff.1 this
    · rw [if_neg (by assumption)]; simpa using this
  · rintro ⟨h1, h2, h3, h4, h5⟩
    refine ⟨⟨⟨by omega, h3⟩, h4⟩, fun x hx => ?_⟩
    have := h5 x hx
    split at this
    · rw [if_pos (by assumption)]; exact inB_iff.2 this
    · rw [if_neg (by assumption)]; simpa using this
theorem treeB_no {P W : List Int} (h : ¬ TreeOk P W) : treeB P W = false := by
  cases hb : treeB P W
  · rfl
  · exact absurd (treeB_iff.1 hb) h

/-- What ends look like when the first k parents have been seen. -/
def endTo (P : List Int) (k : Nat) (x : Nat) : Bool := (P.take k).all fun p => p != (x : Int)
def endsTo (P : List Int) (k : Nat) : List Bool := (List.range P.length).map (endTo P k)
def endsB (P : List Int) : List Bool := (List.range P.length).map (endB P)
theorem endsTo_length (P : List Int) (k : Nat) : (endsTo P k).length = P.length := by simp [endsTo]
theorem endsB_length (P : List Int) : (endsB P).length = P.length := by simp [endsB]
theorem endsTo_zero (P : List Int) : endsTo P 0 = List.replicate P.length true := by
  apply List.ext_getElem
  · simp [endsTo]
  · intro i h1 h2; simp [endsTo, endTo]
theorem endsTo_all (P : List Int) : endsTo P P.length = endsB P := by simp [endsTo, endsB, endTo, endB]
theorem endTo_succ {P : List Int} {k : Nat} (hk : k < P.length) (x : Nat) : endTo P (k + 1) x = (endTo P k x && nth P k != (x : Int)) := by
  rw [endTo, List.take_succ_eq_append_getElem hk, List.all_append, nth_eq hk]
  simp [endTo]
theorem endsTo_neg {P : List Int} {k : Nat} (hk : k < P.length) (h : nth P k < 0) : endsTo P (k + 1) = endsTo P k := by
  apply List.ext_getElem
  · simp [endsTo]
  · intro i h1 h2
    simp only [endsTo, List.getElem_map, List.getElem_range]
    rw [endTo_succ hk]
    have : (nth P k != (i : Int)) = true := by simp; omega
    simp [this]
theorem endsTo_set {P : List Int} {k : Nat} (hk : k < P.length) {p : Nat} (h : nth P k = (p : Int)) : endsTo P (k + 1) = (endsTo P k).set p false := by
  apply List.ext_getElem
  · simp [endsTo]
  · intro i h1 h2
    rw [List.getElem_set]
    simp only [endsTo, List.getElem_map, List.getElem_range]
    rw [endTo_succ hk, h]
    by_cases hpi : p = i
    · subst hpi
      simp
    · rw [if_neg hpi]
      have : ((p : Int) != (i : Int)) = true := by simp; omega
      simp [this]
theorem endsB_get {P : List Int} {x : Nat} (hx : x < P.length) : (endsB P)[x]? = some (endB P x) := by simp [endsB, hx]

/-- The children of x among the first k nodes. -/
def kidTo (P : List Int) (x : Int) (k : Nat) : List Int := ((List.range k).filter fun y => nth P y == x).map fun (y : Nat) => (y : Int)
def kids (P : List Int) (x : Int) : List Int := kidTo P x P.length
theorem kidTo_yes {P : List Int} {x : Int} {k : Nat} (h : nth P k = x) : kidTo P x (k + 1) = kidTo P x k ++ [(k : Int)] := by
  simp [kidTo, List.range_succ, List.filter_append, h]
theorem kidTo_no {P : List Int} {x : Int} {k : Nat} (h : nth P k ≠ x) : kidTo P x (k + 1) = kidTo P x k := by
  simp [kidTo, List.range_succ, List.filter_append, h]
theorem kidTo_len (P : List Int) (x : Int) (k : Nat) : (kidTo P x k).length ≤ k := by
  have := List.length_filter_le (fun y => nth P y == x) (List.range k)
  simpa [kidTo] using this
theorem mem_kidTo {P : List Int} {x y : Int} {k : Nat} : y ∈ kidTo P x k ↔ ∃ j : Nat, j < k ∧ nth P j = x ∧ y = (j : Int) := by
  simp only [kidTo, List.mem_map, List.mem_filter, List.mem_range, beq_iff_eq]
  constructor
  · rintro ⟨j, ⟨h1, h2⟩, rfl⟩; exact ⟨j, h1, h2, rfl⟩
  · rintro ⟨j, h1, h2, rfl⟩; exact ⟨j, ⟨h1, h2⟩, rfl⟩
theorem kidTo_low {P : List Int} (hp : ParOk P) {x k : Nat} (hk : k ≤ x + 1) (hx : k ≤ P.length) : kidTo P (x : Int) k = [] := by
  apply List.eq_nil_iff_forall_not_mem.2
  intro y hy
  obtain ⟨j, hj, hj2, _⟩ := mem_kidTo.1 hy
  rcases Nat.eq_zero_or_pos j with h0 | h0
  · subst h0; have := hp.zero; omega
  · have := hp.up j h0 (by omega); omega
theorem kids_nil {P : List Int} (x : Nat) : kids P (x : Int) = [] ↔ endB P x = true := by
  rw [List.eq_nil_iff_forall_not_mem]
  simp only [endB, List.all_eq_true, bne_iff_ne, ne_eq]
  constructor
  · intro h p hp he
    obtain ⟨j, hj, rfl⟩ := List.mem_iff_getElem.1 hp
    exact h (j : Int) (mem_kidTo.2 ⟨j, hj, by rw [nth_eq hj]; exact he, rfl⟩)
  · intro h y hy
    obtain ⟨j, hj, hj2, _⟩ := mem_kidTo.1 hy
    rw [nth_eq hj] at hj2
    exact h _ (List.getElem_mem hj) hj2
theorem kids_mem {P : List Int} (hp : ParOk P) {x : Nat} {y : Int} (hy : y ∈ kids P (x : Int)) : (x : Int) < y ∧ y < P.length := by
  obtain ⟨j, hj, hj2, rfl⟩ := mem_kidTo.1 hy
  rcases Nat.eq_zero_or_pos j with h0 | h0
  · subst h0; have := hp.zero; omega
  · have := hp.up j h0 (by omega); omega

/-- The ends among the first k nodes. -/
def enTo (P : List Int) (k : Nat) : List Int := ((List.range k).filter fun x => endB P x).map fun (y : Nat) => (y : Int)
def endL (P : List Int) : List Int := enTo P P.length
theorem enTo_yes {P : List Int} {k : Nat} (h : endB P k = true) : enTo P (k + 1) = enTo P k ++ [(k : Int)] := by
  simp [enTo, List.range_succ, List.filter_append, h]
theorem enTo_no {P : List Int} {k : Nat} (h : endB P k = false) : enTo P (k + 1) = enTo P k := by
  simp [enTo, List.range_succ, List.filter_append, h]
theorem enTo_len (P : List Int) (k : Nat) : (enTo P k).length ≤ k := by
  have := List.length_filter_le (fun y => endB P y) (List.range k)
  simpa [enTo] using this
theorem mem_enTo {P : List Int} {y : Int} {k : Nat} : y ∈ enTo P k ↔ ∃ j : Nat, j < k ∧ endB P j = true ∧ y = (j : Int) := by
  simp only [enTo, List.mem_map, List.mem_filter, List.mem_range]
  constructor
  · rintro ⟨j, ⟨h1, h2⟩, rfl⟩; exact ⟨j, h1, h2, rfl⟩
  · rintro ⟨j, h1, h2, rfl⟩; exact ⟨j, ⟨h1, h2⟩, rfl⟩
theorem endL_nth {P : List Int} {i : Nat} (hi : i < (endL P).length) : ∃ j : Nat, j < P.length ∧ endB P j = true ∧ nth (endL P) i = (j : Int) := by
  rw [nth_eq hi]
  exact mem_enTo.1 (List.getElem_mem hi)
theorem TreeOk.end_iff {P W : List Int} (h : TreeOk P W) {x : Nat} (hx : x < P.length) : endB P x = true ↔ 0 < nth W x := by
  have := h.wt x hx
  split at this
  · simp_all; omega
  · simp_all

/-- The depths of the first m + 1 nodes. -/
def depL (P : List Int) : Nat → List Int
  | 0 => [0]
  | m + 1 => depL P m ++ [nth (depL P m) (nth P (m + 1)).toNat + 1]
theorem depL_length (P : List Int) (m : Nat) : (depL P m).length = m + 1 := by
  induction m with
  | zero => rfl
  | succ m ih => simp [depL, ih]
theorem depL_succ (P : List Int) (m : Nat) : depL P (m + 1) = depL P m ++ [nth (depL P m) (nth P (m + 1)).toNat + 1] := rfl
theorem depL_bd (P : List Int) (m i : Nat) : 0 ≤ nth (depL P m) i ∧ nth (depL P m) i ≤ (m : Int) := by
  induction m generalizing i with
  | zero =>
    rcases i with _ | i
    · simp [depL, nth]
    · simp [depL, nth]
  | succ m ih =>
    rw [depL_succ]
    rcases Nat.lt_or_ge i (depL P m).length with h | h
    · rw [nth_app_l h]; have := ih i; omega
    · rcases Nat.eq_or_lt_of_le h with h | h
      · rw [nth_app_r _ _ _ h.symm]; have := ih (nth P (m + 1)).toNat; omega
      · rw [nth_big (by simp; omega)]; omega
theorem set_fill (xs : List Int) (r : Nat) (y : Int) (k : Nat) (h : k = xs.length) (hr : 0 < r) : (xs ++ List.replicate r 0).set k y = (xs ++ [y]) ++ List.replicate (r - 1) 0 := by
  subst h
  obtain ⟨r, rfl⟩ : ∃ q, r = q + 1 := ⟨r - 1, by omega⟩
  rw [List.set_append_right _ _ (Nat.le_refl _), Nat.sub_self, List.replicate_succ, List.set_cons_zero]
  simp

/-- Numbers gathered at the parents: m nodes from the last one on have been added to their parents. -/
def gat (P xs : List Int) : Nat → List Int
  | 0 => xs
  | m + 1 => (gat P xs m).set (nth P (xs.length - 1 - m)).toNat (nth (gat P xs m) (nth P (xs.length - 1 - m)).toNat + nth (gat P xs m) (xs.length - 1 - m))
theorem gat_length (P xs : List Int) (m : Nat) : (gat P xs m).length = xs.length := by
  induction m with
  | zero => rfl
  | succ m ih => simp [gat, ih]
def gath (P xs : List Int) : List Int := gat P xs (xs.length - 1)
theorem sm_cons (x : Int) (xs : List Int) : sm (x :: xs) = x + sm xs := by simp [sm]
theorem sm_set (xs : List Int) (k : Nat) (y : Int) (hk : k < xs.length) : sm (xs.set k y) = sm xs - nth xs k + y := by
  induction xs generalizing k with
  | nil => simp at hk
  | cons x l ih =>
    rcases k with _ | k
    · simp only [List.set_cons_zero, sm_cons]; simp [nth]; omega
    · simp only [List.set_cons_succ, sm_cons, ih k (by simpa using hk)]
      have : nth (x :: l) (k + 1) = nth l k := by simp [nth]
      omega
theorem sm_nn {xs : List Int} (h : ∀ i, 0 ≤ nth xs i) : ∀ i, nth xs i ≤ sm xs := by
  induction xs with
  | nil => intro i; simp [nth, sm]
  | cons x l ih =>
    have hl : ∀ i, 0 ≤ nth l i := fun i => by have := h (i + 1); simpa [nth] using this
    have h0 : 0 ≤ x := by have := h 0; simpa [nth] using this
    intro i
    have hs : 0 ≤ sm l := Int.le_trans (hl 0) (ih hl 0)
    rw [sm_cons]
    rcases i with _ | i
    · have : nth (x :: l) 0 = x := by simp [nth]
      omega
    · have : nth (x :: l) (i + 1) = nth l i := by simp [nth]
      have := ih hl i
      omega
theorem nth_take {xs : List Int} {k i : Nat} (h : i < k) : nth (xs.take k) i = nth xs i := by simp [nth, h]
theorem nth_take_nn {xs : List Int} (h : ∀ i, 0 ≤ nth xs i) (k : Nat) : ∀ i, 0 ≤ nth (xs.take k) i := by
  intro i
  by_cases hi : i < k
  · rw [nth_take hi]; exact h i
  · rw [nth_big (by simp; omega)]; omega
/-- While numbers are gathered, no one is greater than the sum of all. -/
theorem gat_ok {P xs : List Int} (hp : ParOk P) (hl : xs.length = P.length) (hn : ∀ i, 0 ≤ nth xs i) : ∀ m, m < xs.length →
    (∀ i, 0 ≤ nth (gat P xs m) i ∧ nth (gat P xs m) i ≤ sm xs) ∧ sm ((gat P xs m).take (xs.length - m)) = sm xs := by
  intro m
  induction m with
  | zero =>
    intro h
    refine ⟨fun i => ⟨hn i, sm_nn hn i⟩, ?_⟩
    rw [gat, List.take_of_length_le (by omega)]
  | succ m ih =>
    intro hm
    obtain ⟨h1, h2⟩ := ih (by omega)
    have hlen := gat_length P xs m
    obtain ⟨p, hpp⟩ : ∃ p : Nat, nth P (xs.length - 1 - m) = (p : Int) := by
      have := hp.up (xs.length - 1 - m) (by omega) (by omega)
      exact ⟨(nth P (xs.length - 1 - m)).toNat, by omega⟩
    have hup := hp.up (xs.length - 1 - m) (by omega) (by omega)
    have hlt : p < xs.length - 1 - m := by omega
    have hx : xs.length - m = (xs.length - 1 - m) + 1 := by omega
    have hx2 : xs.length - (m + 1) = xs.length - 1 - m := by omega
    have hst : gat P xs (m + 1) = (gat P xs m).set p (nth (gat P xs m) p + nth (gat P xs m) (xs.length - 1 - m)) := by
      simp only [gat, hpp, Int.toNat_natCast]
    generalize xs.length - 1 - m = x at *
    have hs : sm ((gat P xs m).take x) + nth (gat P xs m) x = sm xs := by
      rw [← h2, hx, sm_succ _ _ (by omega)]
    have hs3 : sm ((gat P xs (m + 1)).take x) = sm xs := by
      rw [hst, List.take_set, sm_set _ _ _ (by simp; omega), nth_take hlt]
      omega
    have hnn : ∀ i, 0 ≤ nth (gat P xs (m + 1)) i := by
      intro i
      rw [hst]
      by_cases hi : p = i
      · subst hi
        rw [nth_set_self (by omega)]
        have := h1 p; have := h1 x; omega
      · rw [nth_set_ne hi]; exact (h1 i).1
    refine ⟨fun i => ⟨hnn i, ?_⟩, by rw [hx2]; exact hs3⟩
    by_cases hi : p = i
    · subst hi
      have := sm_nn (nth_take_nn hnn x) p
      rw [nth_take hlt, hs3] at this
      exact this
    · rw [hst, nth_set_ne hi]; exact (h1 i).2
theorem gath_ok {P xs : List Int} (hp : ParOk P) (hl : xs.length = P.length) (hn : ∀ i, 0 ≤ nth xs i) (h1 : 1 ≤ xs.length) : ∀ i, 0 ≤ nth (gath P xs) i ∧ nth (gath P xs) i ≤ sm xs :=
  (gat_ok hp hl hn _ (by omega)).1
theorem gath_length (P xs : List Int) : (gath P xs).length = xs.length := gat_length P xs _
theorem TreeOk.w0 {P W : List Int} (h : TreeOk P W) (i : Nat) : 0 ≤ nth W i ∧ nth W i ≤ 20 := by
  rcases Nat.lt_or_ge i P.length with hi | hi
  · have := h.wt i hi
    split at this <;> omega
  · rw [nth_big (by have := h.len; omega)]; omega
theorem sm_le {xs : List Int} {M : Int} (h : ∀ i, nth xs i ≤ M) : sm xs ≤ M * xs.length := by
  induction xs with
  | nil => simp [sm]
  | cons x l ih =>
    have h0 := h 0
    have hl := ih fun i => by have := h (i + 1); simpa [nth] using this
    rw [sm_cons]
    have : nth (x :: l) 0 = x := by simp [nth]
    rw [List.length_cons, Int.natCast_add, Int.mul_add]
    omega
theorem TreeOk.sum_bd {P W : List Int} (h : TreeOk P W) : ∀ i, 0 ≤ nth (gath P W) i ∧ nth (gath P W) i ≤ 480 := by
  intro i
  have h1 := gath_ok h.par h.len (fun i => (h.w0 i).1) (by have := h.len; have := h.n1; omega) i
  have h2 : sm W ≤ 20 * (W.length : Int) := sm_le fun i => (h.w0 i).2
  have := h.len
  have := h.n2
  omega
end Go.Proofs.Ythhpioohdkglkaa
