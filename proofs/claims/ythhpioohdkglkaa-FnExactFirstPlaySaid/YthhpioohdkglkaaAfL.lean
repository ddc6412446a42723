/- Fair weights, plainly. No program stands here. -/
import Derived.Test.YthhpioohdkglkaaMktL
namespace Go.Proofs.Ythhpioohdkglkaa

/-- While numbers are gathered: all nodes behind y have been added to their parents. -/
def gatY (P xs : List Int) (y : Nat) : List Int := gat P xs (xs.length - 1 - y)
theorem gatY_last (P xs : List Int) : gatY P xs (xs.length - 1) = xs := by rw [gatY, Nat.sub_self]; rfl
theorem gatY_zero (P xs : List Int) : gatY P xs 0 = gath P xs := rfl
theorem gatY_length (P xs : List Int) (y : Nat) : (gatY P xs y).length = xs.length := gat_length _ _ _
theorem gatY_step {P xs : List Int} {y p : Nat} (h1 : 1 ≤ y) (h2 : y < xs.length) (hp : nth P y = (p : Int)) : gatY P xs (y - 1) = (gatY P xs y).set p (nth (gatY P xs y) p + nth (gatY P xs y) y) := by
  have e : xs.length - 1 - (y - 1) = (xs.length - 1 - y) + 1 := by omega
  have e2 : xs.length - 1 - (xs.length - 1 - y) = y := by omega
  rw [gatY, e, gat, e2, hp, Int.toNat_natCast]
  rfl
theorem gatY_bd {P xs : List Int} (hp : ParOk P) (hl : xs.length = P.length) (hn : ∀ i, 0 ≤ nth xs i ∧ nth xs i ≤ 20) (h24 : P.length ≤ 24) (h1 : 1 ≤ P.length) (y i : Nat) : 0 ≤ nth (gatY P xs y) i ∧ nth (gatY P xs y) i ≤ 480 := by
  have := (gat_ok hp hl (fun i => (hn i).1) (xs.length - 1 - y) (by omega)).1 i
  have h2 : sm xs ≤ 20 * (xs.length : Int) := sm_le fun i => (hn i).2
  unfold gatY
  omega
theorem gath_bd {P xs : List Int} (hp : ParOk P) (hl : xs.length = P.length) (hn : ∀ i, 0 ≤ nth xs i ∧ nth xs i ≤ 20) (h24 : P.length ≤ 24) (h1 : 1 ≤ P.length) (i : Nat) : 0 ≤ nth (gath P xs) i ∧ nth (gath P xs) i ≤ 480 := gatY_bd hp hl hn h24 h1 0 i

/-- The first k ends have got their weights. -/
def putE (P X base : List Int) : Nat → List Int
  | 0 => base
  | k + 1 => (putE P X base k).set (nth (endL P) k).toNat (nth X k)
theorem putE_length (P X base : List Int) (k : Nat) : (putE P X base k).length = base.length := by
  induction k with
  | zero => rfl
  | succ k ih => simp [putE, ih]
def atE (P X : List Int) : List Int := putE P X (List.replicate P.length 0) (endL P).length
theorem endL_inj {P : List Int} {i k : Nat} (hi : i < (endL P).length) (hk : k < (endL P).length) (h : nth (endL P) i = nth (endL P) k) : i = k := by
  have hnd : (endL P).Pairwise (fun a b => a < b) := by
    unfold endL enTo
    exact List.Pairwise.map _ (fun a b (h : a < b) => by omega) (List.Pairwise.filter _ List.pairwise_lt_range)
  rw [nth_eq hi, nth_eq hk] at h
  have hp := List.pairwise_iff_getElem.1 hnd
  rcases Nat.lt_trichotomy i k with h' | h' | h'
  · have := hp i k hi hk h'; omega
  · exact h'
  · have := hp k i hk hi h'; omega
theorem putE_out {P X base : List Int} {x : Nat} (hx : endB P x = false) : ∀ k, k ≤ (endL P).length → nth (putE P X base k) x = nth base x := by
  intro k
  induction k with
  | zero => intro _; rfl
  | succ k ih =>
    intro hk
    obtain ⟨j, hj, hje, hjn⟩ := endL_nth (P := P) (i := k) (by omega)
    rw [putE, nth_set_ne _, ih (by omega)]
    rw [hjn, Int.toNat_natCast]
    intro e
    subst e
    rw [hx] at hje; cases hje
theorem putE_in {P X base : List Int} (hb : base.length = P.length) (k : Nat) : k ≤ (endL P).length → ∀ i, i < k → nth (putE P X base k) (nth (endL P) i).toNat = nth X i := by
  induction k with
  | zero => intro _ i hi; omega
  | succ k ih =>
    intro hk i hi
    obtain ⟨j, hj, hje, hjn⟩ := endL_nth (P := P) (i := k) (by omega)
    obtain ⟨j', hj', hje', hjn'⟩ := endL_nth (P := P) (i := i) (by omega)
    rw [putE, hjn, hjn', Int.toNat_natCast, Int.toNat_natCast]
    by_cases he : j = j'
    · subst he
      have : i = k := endL_inj (P := P) (by omega) (by omega) (by rw [hjn, hjn'])
      subst this
      rw [nth_set_self (by rw [putE_length]; omega)]
    · rw [nth_set_ne he]
      have hik : i < k := by
        rcases Nat.lt_or_ge i k with h | h
        · exact h
        · have : i = k := by omega
          subst this
          rw [hjn] at hjn'
          omega
      have := ih (by omega) i hik
      rw [hjn', Int.toNat_natCast] at this
      exact this
theorem end_idx {P : List Int} {x : Nat} (hx : x < P.length) (he : endB P x = true) : ∃ i, i < (endL P).length ∧ nth (endL P) i = (x : Int) := by
  have : (x : Int) ∈ endL P := mem_enTo.2 ⟨x, hx, he, rfl⟩
  obtain ⟨i, hi, hv⟩ := List.mem_iff_getElem.1 this
  exact ⟨i, hi, by rw [nth_eq hi]; exact hv⟩
theorem ext_nth {xs ys : List Int} (hl : xs.length = ys.length) (h : ∀ i, i < xs.length → nth xs i = nth ys i) : xs = ys := by
  apply List.ext_getElem hl
  intro i h1 h2
  have := h i h1
  rwa [nth_eq h1, nth_eq h2] at this
theorem atE_length (P X : List Int) : (atE P X).length = P.length := by rw [atE, putE_length]; simp
/-- The weights that the reference lays are those. -/
theorem putE_w {P W X : List Int} (h : TreeOk P W) : putE P X W (endL P).length = atE P X := by
  refine ext_nth (by rw [putE_length, atE_length, h.len]) fun x hx => ?_
  rw [putE_length, h.len] at hx
  cases he : endB P x
  · rw [putE_out he _ (Nat.le_refl _), atE, putE_out he _ (Nat.le_refl _), nth_rep]
    have := h.wt x hx
    rw [he] at this
    simpa using this
  · obtain ⟨i, hi, hix⟩ := end_idx hx he
    have h1 := putE_in (X := X) (base := W) h.len (endL P).length (Nat.le_refl _) i hi
    have h2 := putE_in (P := P) (X := X) (base := List.replicate P.length 0) (by simp) (endL P).length (Nat.le_refl _) i hi
    rw [hix, Int.toNat_natCast] at h1 h2
    rw [h1, atE, h2]
theorem atE_bd {P X : List Int} (hX : X.length = (endL P).length) (ha : allB X 1 20 = true) (x : Nat) : 0 ≤ nth (atE P X) x ∧ nth (atE P X) x ≤ 20 := by
  rcases Nat.lt_or_ge x P.length with hx | hx
  · cases he : endB P x
    · rw [atE, putE_out he _ (Nat.le_refl _), nth_rep]; omega
    · obtain ⟨i, hi, hix⟩ := end_idx hx he
      have h2 := putE_in (P := P) (X := X) (base := List.replicate P.length 0) (by simp) (endL P).length (Nat.le_refl _) i hi
      rw [hix, Int.toNat_natCast] at h2
      have := allB_nth ha (k := i) (by omega)
      rw [atE, h2]; omega
  · rw [nth_big (by rw [atE_length]; exact hx)]; omega
/-- The tree with other weights is valid exactly if these are. -/
theorem atE_tree {P W X : List Int} (h : TreeOk P W) (hX : X.length = (endL P).length) : treeB P (atE P X) = allB X 1 20 := by
  cases ha : allB X 1 20
  · refine treeB_no fun h' => ?_
    have : allB X 1 20 = true := by
      refine List.all_eq_true.2 fun v hv => ?_
      obtain ⟨i, hi, rfl⟩ := List.mem_iff_getElem.1 hv
      obtain ⟨j, hj, hje, hjn⟩ := endL_nth (P := P) (i := i) (by omega)
      have h2 := putE_in (P := P) (X := X) (base := List.replicate P.length 0) (by simp) (endL P).length (Nat.le_refl _) i (by omega)
      rw [hjn, Int.toNat_natCast, nth_eq hi] at h2
      have h3 := h'.wt j hj
      rw [if_pos hje, atE, h2] at h3
      exact inB_iff.2 h3
    rw [ha] at this; cases this
  · refine treeB_iff.2 ⟨h.n1, h.n2, atE_length P X, h.par, fun x hx => ?_⟩
    cases he : endB P x
    · simp only [Bool.false_eq_true, if_false]
      rw [atE, putE_out he _ (Nat.le_refl _), nth_rep]
    · simp only [if_true]
      obtain ⟨i, hi, hix⟩ := end_idx hx he
      have h2 := putE_in (P := P) (X := X) (base := List.replicate P.length 0) (by simp) (endL P).length (Nat.le_refl _) i hi
      rw [hix, Int.toNat_natCast] at h2
      rw [atE, h2]
      exact allB_nth ha (by omega)
/-- A sum over the first k children of x. -/
def kS (P : List Int) (v : Nat → Int) (x : Nat) : Nat → Int
  | 0 => 0
  | k + 1 => kS P v x k + v (nth (kids P (x : Int)) k).toNat
theorem kS_bd {P : List Int} {v : Nat → Int} {M : Int} (_hM : 0 ≤ M) (h : ∀ y, 0 ≤ v y ∧ v y ≤ M) (x k : Nat) : 0 ≤ kS P v x k ∧ kS P v x k ≤ M * (k : Int) := by
  induction k with
  | zero => simp [kS]
  | succ k ih =>
    have := h (nth (kids P (x : Int)) k).toNat
    rw [kS, Int.natCast_add, Int.mul_add]
    omega
def kidS (P : List Int) (v : Nat → Int) (x : Nat) : Int := kS P v x (kids P (x : Int)).length
def pS (s F : List Int) (y : Nat) : Int := nth s y * nth F y
def balX (P s F : List Int) (x : Nat) : Bool := endB P x || decide (kidS P (pS s F) x = pS s F x)
def balA (P s F : List Int) : Bool := (List.range P.length).all (balX P s F)
def fwB (P W F X : List Int) : Bool := mktB P W F && decide (X.length = (endL P).length) && allB X 1 20
def fwV (P W F X : List Int) : Bool := fwB P W F X && balA P (gath P (atE P X)) F
theorem fwB_1 {P W F X : List Int} (h : mktB P W F = false) : fwB P W F X = false := by simp [fwB, h]
theorem fwB_2 {P W F X : List Int} (h : X.length ≠ (endL P).length) : fwB P W F X = false := by simp [fwB, h]
theorem fwB_3 {P W F X : List Int} {q : Bool} (h : mktB P W F = true) (h2 : X.length = (endL P).length) (h3 : allB X 1 20 = q) : fwB P W F X = q := by simp [fwB, h, h2, h3]
theorem fwV_no {P W F X : List Int} (h : fwB P W F X = false) : fwV P W F X = false := by simp [fwV, h]
theorem fwV_at {P W F X : List Int} {x : Nat} (hx : x < P.length) (h : balX P (gath P (atE P X)) F x = false) : fwV P W F X = false := by
  rw [fwV, balA, all_no hx h, Bool.and_false]
theorem fwV_all {P W F X : List Int} (h1 : fwB P W F X = true) (h : ∀ x, x < P.length → balX P (gath P (atE P X)) F x = true) : fwV P W F X = true := by
  rw [fwV, h1, Bool.true_and]
  exact all_yes h
theorem pS_bd {s F : List Int} (hs : ∀ i, 0 ≤ nth s i ∧ nth s i ≤ 480) (hF : allB F 0 20 = true) (y : Nat) : 0 ≤ pS s F y ∧ pS s F y ≤ 9600 := by
  have h1 := hs y
  have h2 : 0 ≤ nth F y ∧ nth F y ≤ 20 := by
    rcases Nat.lt_or_ge y F.length with h | h
    · exact allB_nth hF h
    · rw [nth_big h]; omega
  have := mul_bd (nth s y) (nth F y) 480 20 h1.1 h1.2 h2.1 h2.2
  unfold pS
  omega
end Go.Proofs.Ythhpioohdkglkaa
