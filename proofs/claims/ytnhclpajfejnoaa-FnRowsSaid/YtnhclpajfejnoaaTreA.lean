/- Trees, markets, arms, weights, plainly: what is a tree, a market, an arm. No program stands here. -/
import Derived.Test.YtnhclpajfejnoaaLists
import Derived.Test.YtnhclpajfejnoaaScal
namespace Go.Proofs.Ytnhclpajfejnoaa

theorem nth_app_l {xs ys : List Int} {k : Nat} (h : k < xs.length) : nth (xs ++ ys) k = nth xs k := by simp [nth, List.getElem?_append_left h]
theorem nth_app_r (xs : List Int) (y : Int) (k : Nat) (h : k = xs.length) : nth (xs ++ [y]) k = y := by subst h; simp [nth]
theorem nth_big {xs : List Int} {k : Nat} (h : xs.length ≤ k) : nth xs k = 0 := by simp [nth, h]
theorem nth_set_self {xs : List Int} {k : Nat} (h : k < xs.length) (y : Int) : nth (xs.set k y) k = y := by simp [nth, h]
theorem nth_set_ne {xs : List Int} {k j : Nat} (h : k ≠ j) (y : Int) : nth (xs.set k y) j = nth xs j := by simp [nth, List.getElem?_set_ne h]
theorem nth_rep (n k : Nat) : nth (List.replicate n 0) k = 0 := by
  by_cases h : k < n
  · simp [nth, h]
  · simp [nth, h]

/-- x has no child. -/
def endB (P : List Int) (x : Nat) : Bool := P.all fun p => p != (x : Int)
def parB (P : List Int) : Bool := decide (nth P 0 = -1) && (List.range P.length).all fun x => decide (x = 0) || inB (nth P x) 0 ((x : Int) - 1)
def wtB (P W : List Int) : Bool := (List.range P.length).all fun x => if endB P x then inB (nth W x) 1 20 else decide (nth W x = 0)
def treeB (P W : List Int) : Bool := inB P.length 1 24 && decide (W.length = P.length) && parB P && wtB P W
structure ParOk (P : List Int) : Prop where
  zero : nth P 0 = -1
  up : ∀ x, 1 ≤ x → x < P.length → 0 ≤ nth P x ∧ nth P x ≤ (x : Int) - 1
theorem parB_iff {P : List Int} : parB P = true ↔ ParOk P := by
  simp only [parB, Bool.and_eq_true, decide_eq_true_eq, List.all_eq_true, List.mem_range, Bool.or_eq_true, inB_iff]
  constructor
  · rintro ⟨h, h2⟩
    exact ⟨h, fun x h1 hx => by rcases h2 x hx with h | h <;> omega⟩
  · rintro ⟨h, h2⟩
    exact ⟨h, fun x hx => by
      rcases Nat.eq_zero_or_pos x with h0 | h0
      · exact .inl h0
      · exact .inr (h2 x h0 hx)⟩
structure TreeOk (P W : List Int) : Prop where
  n1 : 1 ≤ P.length
  n2 : P.length ≤ 24
  len : W.length = P.length
  par : ParOk P
  wt : ∀ x, x < P.length → if endB P x then 1 ≤ nth W x ∧ nth W x ≤ 20 else nth W x = 0
theorem treeB_iff {P W : List Int} : treeB P W = true ↔ TreeOk P W := by
  simp only [treeB, Bool.and_eq_true, decide_eq_true_eq, parB_iff, inB_iff, wtB, List.all_eq_true, List.mem_range]
  constructor
  · rintro ⟨⟨⟨h1, h2⟩, h3⟩, h4⟩
    refine ⟨by omega, by omega, h2, h3, fun x hx => ?_⟩
    have := h4 x hx
    split at this
    · rw [if_pos (by assumption)]; exact inB_iff.1 this
    · rw [if_neg (by assumption)]; simpa using this
  · rintro ⟨h1, h2, h3, h4, h5⟩
    refine ⟨⟨⟨by omega, h3⟩, h4⟩, fun x hx => ?_⟩
    have := h5 x hx
    split at this
    · rw [if_pos (by assumption)]; exact inB_iff.2 this
    · rw [if_neg (by assumption)]; simpa using this
theorem treeB_no {P W : List Int} (h : ¬ TreeOk P W) : treeB P W = false := by
  cases hb : treeB P W
  · rfl
  · exact absurd (treeB_iff.1 hb) h

/-- What ends look like when the first k parents have been seen. -/
def endTo (P : List Int) (k : Nat) (x : Nat) : Bool := (P.take k).all fun p => p != (x : Int)
def endsTo (P : List Int) (k : Nat) : List Bool := (List.range P.length).map (endTo P k)
def endsB (P : List Int) : List Bool := (List.range P.length).map (endB P)
theorem endsTo_length (P : List Int) (k : Nat) : (endsTo P k).length = P.length := by simp [endsTo]
theorem endsB_length (P : List Int) : (endsB P).length = P.length := by simp [endsB]
theorem endsTo_zero (P : List Int) : endsTo P 0 = List.replicate P.length true := by
  apply List.ext_getElem
  · simp [endsTo]
  · intro i h1 h2; simp [endsTo, endTo]
theorem endsTo_all (P : List Int) : endsTo P P.length = endsB P := by simp [endsTo, endsB, endTo, endB]
theorem endTo_succ {P : List Int} {k : Nat} (hk : k < P.length) (x : Nat) : endTo P (k + 1) x = (endTo P k x && nth P k != (x : Int)) := by
  rw [endTo, List.take_succ_eq_append_getElem hk, List.all_append, nth_eq hk]
  simp [endTo]
theorem endsTo_neg {P : List Int} {k : Nat} (hk : k < P.length) (h : nth P k < 0) : endsTo P (k + 1) = endsTo P k := by
  apply List.ext_getElem
  · simp [endsTo]
  · intro i h1 h2
    simp only [endsTo, List.getElem_map, List.getElem_range]
    rw [endTo_succ hk]
    have : (nth P k != (i : Int)) = true := by simp; omega
    simp [this]
theorem endsTo_set {P : List Int} {k : Nat} (hk : k < P.length) {p : Nat} (h : nth P k = (p : Int)) : endsTo P (k + 1) = (endsTo P k).set p false := by
  apply List.ext_getElem
  · simp [endsTo]
  · intro i h1 h2
    rw [List.getElem_set]
    simp only [endsTo, List.getElem_map, List.getElem_range]
    rw [endTo_succ hk, h]
    by_cases hpi : p = i
    · subst hpi
      simp
    · rw [if_neg hpi]
      have : ((p : Int) != (i : Int)) = true := by simp; omega
      simp [this]
theorem endsB_get {P : List Int} {x : Nat} (hx : x < P.length) : (endsB P)[x]? = some (endB P x) := by simp [endsB, hx]

/-- The children of x among the first k nodes. -/
def kidTo (P : List Int) (x : Int) (k : Nat) : List Int := ((List.range k).filter fun y => nth P y == x).map fun (y : Nat) => (y : Int)
def kids (P : List Int) (x : Int) : List Int := kidTo P x P.length
theorem kidTo_yes {P : List Int} {x : Int} {k : Nat} (h : nth P k = x) : kidTo P x (k + 1) = kidTo P x k ++ [(k : Int)] := by
  simp [kidTo, List.range_succ, List.filter_append, h]
theorem kidTo_no {P : List Int} {x : Int} {k : Nat} (h : nth P k ≠ x) : kidTo P x (k + 1) = kidTo P x k := by
  simp [kidTo, List.range_succ, List.filter_append, h]
theorem kidTo_len (P : List Int) (x : Int) (k : Nat) : (kidTo P x k).length ≤ k := by
  have := List.length_filter_le (fun y => nth P y == x) (List.range k)
  simpa [kidTo] using this
theorem mem_kidTo {P : List Int} {x y : Int} {k : Nat} : y ∈ kidTo P x k ↔ ∃ j : Nat, j < k ∧ nth P j = x ∧ y = (j : Int) := by
  simp only [kidTo, List.mem_map, List.mem_filter, List.mem_range, beq_iff_eq]
  constructor
  · rintro ⟨j, ⟨h1, h2⟩, rfl⟩; exact ⟨j, h1, h2, rfl⟩
  · rintro ⟨j, h1, h2, rfl⟩; exact ⟨j, ⟨h1, h2⟩, rfl⟩
theorem kidTo_low {P : List Int} (hp : ParOk P) {x k : Nat} (hk : k ≤ x + 1) (hx : k ≤ P.length) : kidTo P (x : Int) k = [] := by
  apply List.eq_nil_iff_forall_not_mem.2
  intro y hy
  obtain ⟨j, hj, hj2, _⟩ := mem_kidTo.1 hy
  rcases Nat.eq_zero_or_pos j with h0 | h0
  · subst h0; have := hp.zero; omega
  · have := hp.up j h0 (by omega); omega
theorem kids_nil {P : List Int} (x : Nat) : kids P (x : Int) = [] ↔ endB P x = true := by
  rw [List.eq_nil_iff_forall_not_mem]
  simp only [endB, List.all_eq_true, bne_iff_ne, ne_eq]
  constructor
  · intro h p hp he
    obtain ⟨j, hj, rfl⟩ := List.mem_iff_getElem.1 hp
    exact h (j : Int) (mem_kidTo.2 ⟨j, hj, by rw [nth_eq hj]; exact he, rfl⟩)
  · intro h y hy
    obtain ⟨j, hj, hj2, _⟩ := mem_kidTo.1 hy
    rw [nth_eq hj] at hj2
    exact h _ (List.getElem_mem hj) hj2
theorem kids_mem {P : List Int} (hp : ParOk P) {x : Nat} {y : Int} (hy : y ∈ kids P (x : Int)) : (x : Int) < y ∧ y < P.length := by
  obtain ⟨j, hj, hj2, rfl⟩ := mem_kidTo.1 hy
  rcases Nat.eq_zero_or_pos j with h0 | h0
  · subst h0; have := hp.zero; omega
  · have := hp.up j h0 (by omega); omega

/-- The ends among the first k nodes. -/
def enTo (P : List Int) (k : Nat) : List Int := ((List.range k).filter fun x => endB P x).map fun (y : Nat) => (y : Int)
def endL (P : List Int) : List Int := enTo P P.length
theorem enTo_yes {P : List Int} {k : Nat} (h : endB P k = true) : enTo P (k + 1) = enTo P k ++ [(k : Int)] := by
  simp [enTo, List.range_succ, List.filter_append, h]
theorem enTo_no {P : List Int} {k : Nat} (h : endB P k = false) : enTo P (k + 1) = enTo P k := by
  simp [enTo, List.range_succ, List.filter_append, h]
theorem enTo_len (P : List Int) (k : Nat) : (enTo P k).length ≤ k := by
  have := List.length_filter_le (fun y => endB P y) (List.range k)
  simpa [enTo] using this
theorem mem_enTo {P : List Int} {y : Int} {k : Nat} : y ∈ enTo P k ↔ ∃ j : Nat, j < k ∧ endB P j = true ∧ y = (j : Int) := by
  simp only [enTo, List.mem_map, List.mem_filter, List.mem_range]
  constructor
  · rintro ⟨j, ⟨h1, h2⟩, rfl⟩; exact ⟨j, h1, h2, rfl⟩
  · rintro ⟨j, h1, h2, rfl⟩; exact ⟨j, ⟨h1, h2⟩, rfl⟩
theorem endL_nth {P : List Int} {i : Nat} (hi : i < (endL P).length) : ∃ j : Nat, j < P.length ∧ endB P j = true ∧ nth (endL P) i = (j : Int) := by
  rw [nth_eq hi]
  exact mem_enTo.1 (List.getElem_mem hi)
theorem TreeOk.end_iff {P W : List Int} (h : TreeOk P W) {x : Nat} (hx : x < P.length) : endB P x = true ↔ 0 < nth W x := by
  have := h.wt x hx
  split at this
  · simp_all; omega
  · simp_all

/-- The depths of the first m + 1 nodes. -/
def depL (P : List Int) : Nat → List Int
  | 0 => [0]
  | m + 1 => depL P m ++ [nth (depL P m) (nth P (m + 1)).toNat + 1]
theorem depL_length (P : List Int) (m : Nat) : (depL P m).length = m + 1 := by
  induction m with
  | zero => rfl
  | succ m ih => simp [depL, ih]
theorem depL_succ (P : List Int) (m : Nat) : depL P (m + 1) = depL P m ++ [nth (depL P m) (nth P (m + 1)).toNat + 1] := rfl
theorem depL_bd (P : List Int) (m i : Nat) : 0 ≤ nth (depL P m) i ∧ nth (depL P m) i ≤ (m : Int) := by
  induction m generalizing i with
  | zero =>
    rcases i with _ | i
    · simp [depL, nth]
    · simp [depL, nth]
  | succ m ih =>
    rw [depL_succ]
    rcases Nat.lt_or_ge i (depL P m).length with h | h
    · rw [nth_app_l h]; have := ih i; omega
    · rcases Nat.eq_or_lt_of_le h with h | h
      · rw [nth_app_r _ _ _ h.symm]; have := ih (nth P (m + 1)).toNat; omega
      · rw [nth_big (by simp; omega)]; omega
theorem set_fill (xs : List Int) (r : Nat) (y : Int) (k : Nat) (h : k = xs.length) (hr : 0 < r) : (xs ++ List.replicate r 0).set k y = (xs ++ [y]) ++ List.replicate (r - 1) 0 := by
  subst h
  obtain ⟨r, rfl⟩ : ∃ q, r = q + 1 := ⟨r - 1, by omega⟩
  rw [List.set_append_right _ _ (Nat.le_refl _), Nat.sub_self, List.replicate_succ, List.set_cons_zero]
  simp

/-- Numbers gathered at the parents: m nodes from the last one on have been added to their parents. -/
def gat (P xs : List Int) : Nat → List Int
  | 0 => xs
  | m + 1 => (gat P xs m).set (nth P (xs.length - 1 - m)).toNat (nth (gat P xs m) (nth P (xs.length - 1 - m)).toNat + nth (gat P xs m) (xs.length - 1 - m))
theorem gat_length (P xs : List Int) (m : Nat) : (gat P xs m).length = xs.length := by
  induction m with
  | zero => rfl
  | succ m ih => simp [gat, ih]
def gath (P xs : List Int) : List Int := gat P xs (xs.length - 1)
theorem sm_cons (x : Int) (xs : List Int) : sm (x :: xs) = x + sm xs := by simp [sm]
theorem sm_set (xs : List Int) (k : Nat) (y : Int) (hk : k < xs.length) : sm (xs.set k y) = sm xs - nth xs k + y := by
  induction xs generalizing k with
  | nil => simp at hk
  | cons x l ih =>
    rcases k with _ | k
    · simp only [List.set_cons_zero, sm_cons]; simp [nth]; omega
    · simp only [List.set_cons_succ, sm_cons, ih k (by simpa using hk)]
      have : nth (x :: l) (k + 1) = nth l k := by simp [nth]
      omega
theorem sm_nn {xs : List Int} (h : ∀ i, 0 ≤ nth xs i) : ∀ i, nth xs i ≤ sm xs := by
  induction xs with
  | nil => intro i; simp [nth, sm]
  | cons x l ih =>
    have hl : ∀ i, 0 ≤ nth l i := fun i => by have := h (i + 1); simpa [nth] using this
    have h0 : 0 ≤ x := by have := h 0; simpa [nth] using this
    intro i
    have hs : 0 ≤ sm l := Int.le_trans (hl 0) (ih hl 0)
    rw [sm_cons]
    rcases i with _ | i
    · have : nth (x :: l) 0 = x := by simp [nth]
      omega
    · have : nth (x :: l) (i + 1) = nth l i := by simp [nth]
      have := ih hl i
      omega
theorem nth_take {xs : List Int} {k i : Nat} (h : i < k) : nth (xs.take k) i = nth xs i := by simp [nth, h]
theorem nth_take_nn {xs : List Int} (h : ∀ i, 0 ≤ nth xs i) (k : Nat) : ∀ i, 0 ≤ nth (xs.take k) i := by
  intro i
  by_cases hi : i < k
  · rw [nth_take hi]; exact h i
  · rw [nth_big (by simp; omega)]; omega
/-- While numbers are gathered, no one is greater than the sum of all. -/
theorem gat_ok {P xs : List Int} (hp : ParOk P) (hl : xs.length = P.length) (hn : ∀ i, 0 ≤ nth xs i) : ∀ m, m < xs.length →
    (∀ i, 0 ≤ nth (gat P xs m) i ∧ nth (gat P xs m) i ≤ sm xs) ∧ sm ((gat P xs m).take (xs.length - m)) = sm xs := by
  intro m
  induction m with
  | zero =>
    intro h
    refine ⟨fun i => ⟨hn i, sm_nn hn i⟩, ?_⟩
    rw [gat, List.take_of_length_le (by omega)]
  | succ m ih =>
    intro hm
    obtain ⟨h1, h2⟩ := ih (by omega)
    have hlen := gat_length P xs m
    obtain ⟨p, hpp⟩ : ∃ p : Nat, nth P (xs.length - 1 - m) = (p : Int) := by
      have := hp.up (xs.length - 1 - m) (by omega) (by omega)
      exact ⟨(nth P (xs.length - 1 - m)).toNat, by omega⟩
    have hup := hp.up (xs.length - 1 - m) (by omega) (by omega)
    have hlt : p < xs.length - 1 - m := by omega
    have hx : xs.length - m = (xs.length - 1 - m) + 1 := by omega
    have hx2 : xs.length - (m + 1) = xs.length - 1 - m := by omega
    have hst : gat P xs (m + 1) = (gat P xs m).set p (nth (gat P xs m) p + nth (gat P xs m) (xs.length - 1 - m)) := by
      simp only [gat, hpp, Int.toNat_natCast]
    generalize xs.length - 1 - m = x at *
    have hs : sm ((gat P xs m).take x) + nth (gat P xs m) x = sm xs := by
      rw [← h2, hx, sm_succ _ _ (by omega)]
    have hs3 : sm ((gat P xs (m + 1)).take x) = sm xs := by
      rw [hst, List.take_set, sm_set _ _ _ (by simp; omega), nth_take hlt]
      omega
    have hnn : ∀ i, 0 ≤ nth (gat P xs (m + 1)) i := by
      intro i
      rw [hst]
      by_cases hi : p = i
      · subst hi
        rw [nth_set_self (by omega)]
        have := h1 p; have := h1 x; omega
      · rw [nth_set_ne hi]; exact (h1 i).1
    refine ⟨fun i => ⟨hnn i, ?_⟩, by rw [hx2]; exact hs3⟩
    by_cases hi : p = i
    · subst hi
      have := sm_nn (nth_take_nn hnn x) p
      rw [nth_take hlt, hs3] at this
      exact this
    · rw [hst, nth_set_ne hi]; exact (h1 i).2
theorem gath_ok {P xs : List Int} (hp : ParOk P) (hl : xs.length = P.length) (hn : ∀ i, 0 ≤ nth xs i) (h1 : 1 ≤ xs.length) : ∀ i, 0 ≤ nth (gath P xs) i ∧ nth (gath P xs) i ≤ sm xs :=
  (gat_ok hp hl hn _ (by omega)).1
theorem gath_length (P xs : List Int) : (gath P xs).length = xs.length := gat_length P xs _
theorem TreeOk.w0 {P W : List Int} (h : TreeOk P W) (i : Nat) : 0 ≤ nth W i ∧ nth W i ≤ 20 := by
  rcases Nat.lt_or_ge i P.length with hi | hi
  · have := h.wt i hi
    split at this <;> omega
  · rw [nth_big (by have := h.len; omega)]; omega
theorem sm_le {xs : List Int} {M : Int} (h : ∀ i, nth xs i ≤ M) : sm xs ≤ M * xs.length := by
  induction xs with
  | nil => simp [sm]
  | cons x l ih =>
    have h0 := h 0
    have hl := ih fun i => by have := h (i + 1); simpa [nth] using this
    rw [sm_cons]
    have : nth (x :: l) 0 = x := by simp [nth]
    rw [List.length_cons, Int.natCast_add, Int.mul_add]
    omega
theorem TreeOk.sum_bd {P W : List Int} (h : TreeOk P W) : ∀ i, 0 ≤ nth (gath P W) i ∧ nth (gath P W) i ≤ 480 := by
  intro i
  have h1 := gath_ok h.par h.len (fun i => (h.w0 i).1) (by have := h.len; have := h.n1; omega) i
  have h2 : sm W ≤ 20 * (W.length : Int) := sm_le fun i => (h.w0 i).2
  have := h.len
  have := h.n2
  omega

def mktB (P W F : List Int) : Bool := treeB P W && decide (F.length = P.length) && allB F 0 20
theorem mktB_iff {P W F : List Int} : mktB P W F = true ↔ TreeOk P W ∧ F.length = P.length ∧ allB F 0 20 = true := by
  simp only [mktB, Bool.and_eq_true, decide_eq_true_eq, treeB_iff, and_assoc]

/-- All ends have 0. -/
def zB (P H : List Int) : Bool := (List.range P.length).all fun x => !endB P x || decide (nth H x = 0)
theorem zB_iff {P H : List Int} : zB P H = true ↔ ∀ x, x < P.length → endB P x = true → nth H x = 0 := by
  simp only [zB, List.all_eq_true, List.mem_range, Bool.or_eq_true, Bool.not_eq_true', decide_eq_true_eq]
  constructor
  · intro h x hx he
    rcases h x hx with h | h
    · rw [he] at h; cases h
    · exact h
  · intro h x hx
    cases he : endB P x
    · exact .inl rfl
    · exact .inr (h x hx he)
theorem endL_all {P : List Int} {Q : Int → Prop} (h : ∀ i, i < (endL P).length → Q (nth (endL P) i)) : ∀ x, x < P.length → endB P x = true → Q (x : Int) := by
  intro x hx he
  have : (x : Int) ∈ endL P := mem_enTo.2 ⟨x, hx, he, rfl⟩
  obtain ⟨i, hi, hv⟩ := List.mem_iff_getElem.1 this
  have := h i hi
  rw [nth_eq hi, hv] at this
  exact this
theorem zB_end {P H : List Int} (h : ∀ i, i < (endL P).length → nth H (nth (endL P) i).toNat = 0) : zB P H = true :=
  zB_iff.2 fun x hx he => endL_all (Q := fun v => nth H v.toNat = 0) h x hx he
theorem zB_no {P H : List Int} {x : Nat} (hx : x < P.length) (he : endB P x = true) (h : nth H x ≠ 0) : zB P H = false := by
  cases hb : zB P H
  · rfl
  · exact absurd (zB_iff.1 hb x hx he) h
def hldB (P F H : List Int) : Bool := decide (H.length = F.length) && allB H (-99) 99 && zB P H
/-- A market, a start and holdings are valid. -/
def hlB (P W F H : List Int) (s : Int) : Bool := mktB P W F && inB s (-999) 999 && hldB P F H

/-- The wealth at the first m + 1 nodes. -/
def wlL (P F H : List Int) (s : Int) : Nat → List Int
  | 0 => [s]
  | m + 1 => wlL P F H s m ++ [nth (wlL P F H s m) (nth P (m + 1)).toNat + nth H (nth P (m + 1)).toNat * (nth F (m + 1) - nth F (nth P (m + 1)).toNat)]
theorem wlL_length (P F H : List Int) (s : Int) (m : Nat) : (wlL P F H s m).length = m + 1 := by
  induction m with
  | zero => rfl
  | succ m ih => simp [wlL, ih]
theorem hF_bd {F H : List Int} (hF : allB F 0 20 = true) (hH : allB H (-99) 99 = true) (p x : Nat) : -1980 ≤ nth H p * (nth F x - nth F p) ∧ nth H p * (nth F x - nth F p) ≤ 1980 := by
  have hf : ∀ k, 0 ≤ nth F k ∧ nth F k ≤ 20 := fun k => by
    rcases Nat.lt_or_ge k F.length with h | h
    · exact allB_nth hF h
    · rw [nth_big h]; omega
  have hh : -99 ≤ nth H p ∧ nth H p ≤ 99 := by
    rcases Nat.lt_or_ge p H.length with h | h
    · exact allB_nth hH h
    · rw [nth_big h]; omega
  have h1 := hf x
  have h2 := hf p
  generalize nth H p = a at *
  have hd : -20 ≤ nth F x - nth F p ∧ nth F x - nth F p ≤ 20 := by omega
  generalize nth F x - nth F p = d at *
  have e1 : 0 ≤ (99 - a) * (20 - d) := Int.mul_nonneg (by omega) (by omega)
  have e2 : 0 ≤ (99 - a) * (20 + d) := Int.mul_nonneg (by omega) (by omega)
  have e3 : 0 ≤ (99 + a) * (20 - d) := Int.mul_nonneg (by omega) (by omega)
  have e4 : 0 ≤ (99 + a) * (20 + d) := Int.mul_nonneg (by omega) (by omega)
  constructor <;> grind
theorem wlL_bd {P F H : List Int} {s : Int} (hF : allB F 0 20 = true) (hH : allB H (-99) 99 = true) (hs : -999 ≤ s ∧ s ≤ 999) (m i : Nat) :
    -999 - 1980 * (m : Int) ≤ nth (wlL P F H s m) i ∧ nth (wlL P F H s m) i ≤ 999 + 1980 * (m : Int) := by
  induction m generalizing i with
  | zero =>
    rcases i with _ | i
    · simp [wlL, nth]; omega
    · simp [wlL, nth]
  | succ m ih =>
    rw [wlL]
    rcases Nat.lt_or_ge i (wlL P F H s m).length with h | h
    · rw [nth_app_l h]; have := ih i; omega
    · rcases Nat.eq_or_lt_of_le h with h | h
      · rw [nth_app_r _ _ _ h.symm]
        have := ih (nth P (m + 1)).toNat
        have := hF_bd hF hH (nth P (m + 1)).toNat (m + 1)
        omega
      · rw [nth_big (by simp; omega)]; omega
def wl (P F H : List Int) (s : Int) : List Int := wlL P F H s (P.length - 1)

/-- Claims of a valid tree. -/
def clmB (P C : List Int) : Bool := decide (C.length = (endL P).length) && allB C (-99) 99
def wlE (P F H : List Int) (s : Int) (i : Nat) : Int := nth (wl P F H s) (nth (endL P) i).toNat
def cover (P F H C : List Int) (s : Int) : Bool := (List.range (endL P).length).all fun i => decide (nth C i ≤ wlE P F H s i)
def match_ (P F H C : List Int) (s : Int) : Bool := (List.range (endL P).length).all fun i => decide (wlE P F H s i = nth C i)
theorem all_no {n : Nat} {f : Nat → Bool} {i : Nat} (hi : i < n) (h : f i = false) : (List.range n).all f = false := by
  rw [List.all_eq_false]
  exact ⟨i, List.mem_range.2 hi, by simp [h]⟩
theorem all_yes {n : Nat} {f : Nat → Bool} (h : ∀ i, i < n → f i = true) : (List.range n).all f = true := by
  rw [List.all_eq_true]
  exact fun i hi => h i (List.mem_range.1 hi)

/-- Children of a node by their prices. -/
def lessTo (P F : List Int) (x k : Nat) : List Int := ((kids P (x : Int)).take k).filter fun y => decide (nth F y.toNat < nth F x)
def moreTo (P F : List Int) (x k : Nat) : List Int := ((kids P (x : Int)).take k).filter fun y => decide (nth F x < nth F y.toNat)
def sameTo (P F : List Int) (x k : Nat) : List Int := ((kids P (x : Int)).take k).filter fun y => decide (nth F y.toNat = nth F x)
def lessL (P F : List Int) (x : Nat) : List Int := lessTo P F x (kids P (x : Int)).length
def moreL (P F : List Int) (x : Nat) : List Int := moreTo P F x (kids P (x : Int)).length
def sameL (P F : List Int) (x : Nat) : List Int := sameTo P F x (kids P (x : Int)).length
theorem filt_succ {l : List Int} {f : Int → Bool} {k : Nat} (hk : k < l.length) : (l.take (k + 1)).filter f = (l.take k).filter f ++ (if f (nth l k) then [nth l k] else []) := by
  rw [List.take_succ_eq_append_getElem hk, List.filter_append, nth_eq hk]
  congr 1
  rw [List.filter_cons]
  rfl
theorem filt_len (l : List Int) (f : Int → Bool) (k : Nat) : ((l.take k).filter f).length ≤ k := by
  have := List.length_filter_le f (l.take k)
  simp at this
  omega
def unB (P F : List Int) (x : Nat) : Bool := decide (0 < (lessL P F x).length) != decide (0 < (moreL P F x).length)
/-- The least node that is not even, or -1. -/
def unK (P F : List Int) : Int := match (List.range P.length).find? (unB P F) with
  | some x => (x : Int)
  | none => -1
theorem unK_eq {P F : List Int} {k : Nat} (hk : k < P.length) (h : unB P F k = true) (hl : ∀ j, j < k → unB P F j = false) : unK P F = (k : Int) := by
  have : (List.range P.length).find? (unB P F) = some k := by
    rw [List.find?_range_eq_some]
    exact ⟨h, List.mem_range.2 hk, fun j hj => by simp [hl j hj]⟩
  simp [unK, this]
theorem unK_none {P F : List Int} (hl : ∀ j, j < P.length → unB P F j = false) : unK P F = -1 := by
  have : (List.range P.length).find? (unB P F) = none := by
    rw [List.find?_eq_none]
    intro x hx
    simp [hl x (List.mem_range.1 hx)]
  simp [unK, this]
theorem unK_cases (P F : List Int) : (unK P F = -1 ∧ ∀ j, j < P.length → unB P F j = false) ∨ ∃ k : Nat, k < P.length ∧ unK P F = (k : Int) ∧ unB P F k = true := by
  unfold unK
  split
  · rename_i x h
    right
    have h1 := List.find?_some h
    have h2 := List.mem_of_find?_eq_some h
    exact ⟨x, List.mem_range.1 h2, rfl, h1⟩
  · rename_i h
    left
    refine ⟨rfl, fun j hj => ?_⟩
    have := List.find?_eq_none.1 h j (List.mem_range.2 hj)
    simpa using this
/-- Holdings with a gain without risk. -/
def gainL (P F : List Int) : List Int := (List.replicate P.length 0).set (unK P F).toNat (if 0 < (lessL P F (unK P F).toNat).length then -1 else 1)

/-- The depths of all nodes. -/
def dep (P : List Int) : List Int := depL P (P.length - 1)
theorem dep_length {P : List Int} (h : 1 ≤ P.length) : (dep P).length = P.length := by rw [dep, depL_length]; omega
theorem dep_bd (P : List Int) (i : Nat) : 0 ≤ nth (dep P) i ∧ nth (dep P) i ≤ (P.length : Int) := by
  have := depL_bd P (P.length - 1) i
  unfold dep
  omega
def mxTo (xs : List Int) : Nat → Int
  | 0 => 0
  | k + 1 => mxI (mxTo xs k) (nth xs k)
theorem mxTo_bd {xs : List Int} {M : Int} (h : ∀ i, 0 ≤ nth xs i ∧ nth xs i ≤ M) (hM : 0 ≤ M) (k : Nat) : 0 ≤ mxTo xs k ∧ mxTo xs k ≤ M := by
  induction k with
  | zero => simp [mxTo, hM]
  | succ k ih => exact mxI_bd ih.1 ih.2 (h k).1 (h k).2
theorem mxTo_ge {xs : List Int} {i k : Nat} (h : i < k) : nth xs i ≤ mxTo xs k := by
  induction k with
  | zero => omega
  | succ k ih =>
    rw [mxTo]
    unfold mxI
    rcases Nat.lt_or_ge i k with h' | h'
    · have := ih h'
      split <;> omega
    · rw [show i = k by omega]
      split <;> omega
def hgt (P : List Int) : Int := mxTo (dep P) P.length
theorem hgt_bd (P : List Int) : 0 ≤ hgt P ∧ hgt P ≤ (P.length : Int) := mxTo_bd (dep_bd P) (by omega) _
def armB (P W F : List Int) : Bool := treeB P W && decide (P.length ≤ 9) && decide (hgt P ≤ 4) && decide (F.length = P.length) && allB F (-99) 99 && zB P F
structure ArmOk (P W F : List Int) : Prop where
  tree : TreeOk P W
  n9 : P.length ≤ 9
  h4 : hgt P ≤ 4
  len : F.length = P.length
  fees : allB F (-99) 99 = true
  z : zB P F = true
theorem armB_iff {P W F : List Int} : armB P W F = true ↔ ArmOk P W F := by
  simp only [armB, Bool.and_eq_true, decide_eq_true_eq, treeB_iff]
  constructor
  · rintro ⟨⟨⟨⟨⟨h1, h2⟩, h3⟩, h4⟩, h5⟩, h6⟩; exact ⟨h1, h2, h3, h4, h5, h6⟩
  · rintro ⟨h1, h2, h3, h4, h5, h6⟩; exact ⟨⟨⟨⟨⟨h1, h2⟩, h3⟩, h4⟩, h5⟩, h6⟩
theorem armB_no {P W F : List Int} (h : ¬ ArmOk P W F) : armB P W F = false := by
  cases hb : armB P W F
  · rfl
  · exact absurd (armB_iff.1 hb) h
theorem ArmOk.depth {P W F : List Int} (h : ArmOk P W F) {x : Nat} (hx : x < P.length) : 0 ≤ nth (dep P) x ∧ nth (dep P) x ≤ 4 := by
  have h1 := mxTo_ge (xs := dep P) hx
  have h2 := h.h4
  unfold hgt at h2
  have := dep_bd P x
  omega
theorem dep_step {P : List Int} {x p : Nat} (hx : 1 ≤ x) (hp : nth P x = (p : Int)) : depL P x = depL P (x - 1) ++ [nth (depL P (x - 1)) p + 1] := by
  obtain ⟨m, rfl⟩ : ∃ m, x = m + 1 := ⟨x - 1, by omega⟩
  rw [depL, hp, Int.toNat_natCast, Nat.add_sub_cancel]
theorem dep_len {P : List Int} {x : Nat} (hx : 1 ≤ x) : (depL P (x - 1)).length = x := by rw [depL_length]; omega

/-- While numbers are gathered: all nodes behind y have been added to their parents. -/
def gatY (P xs : List Int) (y : Nat) : List Int := gat P xs (xs.length - 1 - y)
theorem gatY_last (P xs : List Int) : gatY P xs (xs.length - 1) = xs := by rw [gatY, Nat.sub_self]; rfl
theorem gatY_zero (P xs : List Int) : gatY P xs 0 = gath P xs := rfl
theorem gatY_length (P xs : List Int) (y : Nat) : (gatY P xs y).length = xs.length := gat_length _ _ _
theorem gatY_step {P xs : List Int} {y p : Nat} (h1 : 1 ≤ y) (h2 : y < xs.length) (hp : nth P y = (p : Int)) : gatY P xs (y - 1) = (gatY P xs y).set p (nth (gatY P xs y) p + nth (gatY P xs y) y) := by
  have e : xs.length - 1 - (y - 1) = (xs.length - 1 - y) + 1 := by omega
  have e2 : xs.length - 1 - (xs.length - 1 - y) = y := by omega
  rw [gatY, e, gat, e2, hp, Int.toNat_natCast]
  rfl
theorem gatY_bd {P xs : List Int} (hp : ParOk P) (hl : xs.length = P.length) (hn : ∀ i, 0 ≤ nth xs i ∧ nth xs i ≤ 20) (h24 : P.length ≤ 24) (h1 : 1 ≤ P.length) (y i : Nat) : 0 ≤ nth (gatY P xs y) i ∧ nth (gatY P xs y) i ≤ 480 := by
  have := (gat_ok hp hl (fun i => (hn i).1) (xs.length - 1 - y) (by omega)).1 i
  have h2 : sm xs ≤ 20 * (xs.length : Int) := sm_le fun i => (hn i).2
  unfold gatY
  omega
theorem gath_bd {P xs : List Int} (hp : ParOk P) (hl : xs.length = P.length) (hn : ∀ i, 0 ≤ nth xs i ∧ nth xs i ≤ 20) (h24 : P.length ≤ 24) (h1 : 1 ≤ P.length) (i : Nat) : 0 ≤ nth (gath P xs) i ∧ nth (gath P xs) i ≤ 480 := gatY_bd hp hl hn h24 h1 0 i

/-- The first k ends have got their weights. -/
def putE (P X base : List Int) : Nat → List Int
  | 0 => base
  | k + 1 => (putE P X base k).set (nth (endL P) k).toNat (nth X k)
theorem putE_length (P X base : List Int) (k : Nat) : (putE P X base k).length = base.length := by
  induction k with
  | zero => rfl
  | succ k ih => simp [putE, ih]
def atE (P X : List Int) : List Int := putE P X (List.replicate P.length 0) (endL P).length
theorem endL_inj {P : List Int} {i k : Nat} (hi : i < (endL P).length) (hk : k < (endL P).length) (h : nth (endL P) i = nth (endL P) k) : i = k := by
  have hnd : (endL P).Pairwise (fun a b => a < b) := by
    unfold endL enTo
    exact List.Pairwise.map _ (fun a b (h : a < b) => by omega) (List.Pairwise.filter _ List.pairwise_lt_range)
  rw [nth_eq hi, nth_eq hk] at h
  have hp := List.pairwise_iff_getElem.1 hnd
  rcases Nat.lt_trichotomy i k with h' | h' | h'
  · have := hp i k hi hk h'; omega
  · exact h'
  · have := hp k i hk hi h'; omega
theorem putE_out {P X base : List Int} {x : Nat} (hx : endB P x = false) : ∀ k, k ≤ (endL P).length → nth (putE P X base k) x = nth base x := by
  intro k
  induction k with
  | zero => intro _; rfl
  | succ k ih =>
    intro hk
    obtain ⟨j, hj, hje, hjn⟩ := endL_nth (P := P) (i := k) (by omega)
    rw [putE, nth_set_ne _, ih (by omega)]
    rw [hjn, Int.toNat_natCast]
    intro e
    subst e
    rw [hx] at hje; cases hje
theorem putE_in {P X base : List Int} (hb : base.length = P.length) (k : Nat) : k ≤ (endL P).length → ∀ i, i < k → nth (putE P X base k) (nth (endL P) i).toNat = nth X i := by
  induction k with
  | zero => intro _ i hi; omega
  | succ k ih =>
    intro hk i hi
    obtain ⟨j, hj, hje, hjn⟩ := endL_nth (P := P) (i := k) (by omega)
    obtain ⟨j', hj', hje', hjn'⟩ := endL_nth (P := P) (i := i) (by omega)
    rw [putE, hjn, hjn', Int.toNat_natCast, Int.toNat_natCast]
    by_cases he : j = j'
    · subst he
      have : i = k := endL_inj (P := P) (by omega) (by omega) (by rw [hjn, hjn'])
      subst this
      rw [nth_set_self (by rw [putE_length]; omega)]
    · rw [nth_set_ne he]
      have hik : i < k := by
        rcases Nat.lt_or_ge i k with h | h
        · exact h
        · have : i = k := by omega
          subst this
          rw [hjn] at hjn'
          omega
      have := ih (by omega) i hik
      rw [hjn', Int.toNat_natCast] at this
      exact this
theorem end_idx {P : List Int} {x : Nat} (hx : x < P.length) (he : endB P x = true) : ∃ i, i < (endL P).length ∧ nth (endL P) i = (x : Int) := by
  have : (x : Int) ∈ endL P := mem_enTo.2 ⟨x, hx, he, rfl⟩
  obtain ⟨i, hi, hv⟩ := List.mem_iff_getElem.1 this
  exact ⟨i, hi, by rw [nth_eq hi]; exact hv⟩
theorem ext_nth {xs ys : List Int} (hl : xs.length = ys.length) (h : ∀ i, i < xs.length → nth xs i = nth ys i) : xs = ys := by
  apply List.ext_getElem hl
  intro i h1 h2
  have := h i h1
  rwa [nth_eq h1, nth_eq h2] at this
theorem atE_length (P X : List Int) : (atE P X).length = P.length := by rw [atE, putE_length]; simp
/-- The weights that the reference lays are those. -/
theorem putE_w {P W X : List Int} (h : TreeOk P W) : putE P X W (endL P).length = atE P X := by
  refine ext_nth (by rw [putE_length, atE_length, h.len]) fun x hx => ?_
  rw [putE_length, h.len] at hx
  cases he : endB P x
  · rw [putE_out he _ (Nat.le_refl _), atE, putE_out he _ (Nat.le_refl _), nth_rep]
    have := h.wt x hx
    rw [he] at this
    simpa using this
  · obtain ⟨i, hi, hix⟩ := end_idx hx he
    have h1 := putE_in (X := X) (base := W) h.len (endL P).length (Nat.le_refl _) i hi
    have h2 := putE_in (P := P) (X := X) (base := List.replicate P.length 0) (by simp) (endL P).length (Nat.le_refl _) i hi
    rw [hix, Int.toNat_natCast] at h1 h2
    rw [h1, atE, h2]
theorem atE_bd {P X : List Int} (hX : X.length = (endL P).length) (ha : allB X 1 20 = true) (x : Nat) : 0 ≤ nth (atE P X) x ∧ nth (atE P X) x ≤ 20 := by
  rcases Nat.lt_or_ge x P.length with hx | hx
  · cases he : endB P x
    · rw [atE, putE_out he _ (Nat.le_refl _), nth_rep]; omega
    · obtain ⟨i, hi, hix⟩ := end_idx hx he
      have h2 := putE_in (P := P) (X := X) (base := List.replicate P.length 0) (by simp) (endL P).length (Nat.le_refl _) i hi
      rw [hix, Int.toNat_natCast] at h2
      have := allB_nth ha (k := i) (by omega)
      rw [atE, h2]; omega
  · rw [nth_big (by rw [atE_length]; exact hx)]; omega
/-- The tree with other weights is valid exactly if these are. -/
theorem atE_tree {P W X : List Int} (h : TreeOk P W) (hX : X.length = (endL P).length) : treeB P (atE P X) = allB X 1 20 := by
  cases ha : allB X 1 20
  · refine treeB_no fun h' => ?_
    have : allB X 1 20 = true := by
      refine List.all_eq_true.2 fun v hv => ?_
      obtain ⟨i, hi, rfl⟩ := List.mem_iff_getElem.1 hv
      obtain ⟨j, hj, hje, hjn⟩ := endL_nth (P := P) (i := i) (by omega)
      have h2 := putE_in (P := P) (X := X) (base := List.replicate P.length 0) (by simp) (endL P).length (Nat.le_refl _) i (by omega)
      rw [hjn, Int.toNat_natCast, nth_eq hi] at h2
      have h3 := h'.wt j hj
      rw [if_pos hje, atE, h2] at h3
      exact inB_iff.2 h3
    rw [ha] at this; cases this
  · refine treeB_iff.2 ⟨h.n1, h.n2, atE_length P X, h.par, fun x hx => ?_⟩
    cases he : endB P x
    · simp only [Bool.false_eq_true, if_false]
      rw [atE, putE_out he _ (Nat.le_refl _), nth_rep]
    · simp only [if_true]
      obtain ⟨i, hi, hix⟩ := end_idx hx he
      have h2 := putE_in (P := P) (X := X) (base := List.replicate P.length 0) (by simp) (endL P).length (Nat.le_refl _) i hi
      rw [hix, Int.toNat_natCast] at h2
      rw [atE, h2]
      exact allB_nth ha (by omega)
/-- A sum over the first k children of x. -/
def kS (P : List Int) (v : Nat → Int) (x : Nat) : Nat → Int
  | 0 => 0
  | k + 1 => kS P v x k + v (nth (kids P (x : Int)) k).toNat
theorem kS_bd {P : List Int} {v : Nat → Int} {M : Int} (_hM : 0 ≤ M) (h : ∀ y, 0 ≤ v y ∧ v y ≤ M) (x k : Nat) : 0 ≤ kS P v x k ∧ kS P v x k ≤ M * (k : Int) := by
  induction k with
  | zero => simp [kS]
  | succ k ih =>
    have := h (nth (kids P (x : Int)) k).toNat
    rw [kS, Int.natCast_add, Int.mul_add]
    omega
def kidS (P : List Int) (v : Nat → Int) (x : Nat) : Int := kS P v x (kids P (x : Int)).length
def pS (s F : List Int) (y : Nat) : Int := nth s y * nth F y
def balX (P s F : List Int) (x : Nat) : Bool := endB P x || decide (kidS P (pS s F) x = pS s F x)
def balA (P s F : List Int) : Bool := (List.range P.length).all (balX P s F)
def fwB (P W F X : List Int) : Bool := mktB P W F && decide (X.length = (endL P).length) && allB X 1 20
def fwV (P W F X : List Int) : Bool := fwB P W F X && balA P (gath P (atE P X)) F
theorem fwB_1 {P W F X : List Int} (h : mktB P W F = false) : fwB P W F X = false := by simp [fwB, h]
theorem fwB_2 {P W F X : List Int} (h : X.length ≠ (endL P).length) : fwB P W F X = false := by simp [fwB, h]
theorem fwB_3 {P W F X : List Int} {q : Bool} (h : mktB P W F = true) (h2 : X.length = (endL P).length) (h3 : allB X 1 20 = q) : fwB P W F X = q := by simp [fwB, h, h2, h3]
theorem fwV_no {P W F X : List Int} (h : fwB P W F X = false) : fwV P W F X = false := by simp [fwV, h]
theorem fwV_at {P W F X : List Int} {x : Nat} (hx : x < P.length) (h : balX P (gath P (atE P X)) F x = false) : fwV P W F X = false := by
  rw [fwV, balA, all_no hx h, Bool.and_false]
theorem fwV_all {P W F X : List Int} (h1 : fwB P W F X = true) (h : ∀ x, x < P.length → balX P (gath P (atE P X)) F x = true) : fwV P W F X = true := by
  rw [fwV, h1, Bool.true_and]
  exact all_yes h
theorem pS_bd {s F : List Int} (hs : ∀ i, 0 ≤ nth s i ∧ nth s i ≤ 480) (hF : allB F 0 20 = true) (y : Nat) : 0 ≤ pS s F y ∧ pS s F y ≤ 9600 := by
  have h1 := hs y
  have h2 : 0 ≤ nth F y ∧ nth F y ≤ 20 := by
    rcases Nat.lt_or_ge y F.length with h | h
    · exact allB_nth hF h
    · rw [nth_big h]; omega
  have := mul_bd (nth s y) (nth F y) 480 20 h1.1 h1.2 h2.1 h2.2
  unfold pS
  omega

end Go.Proofs.Ytnhclpajfejnoaa
