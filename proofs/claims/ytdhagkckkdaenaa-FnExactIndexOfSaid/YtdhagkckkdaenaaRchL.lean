/- Nodes reached from one of them through a set, and sums over them, plainly. No program stands here. -/
import Derived.Test.YtdhagkckkdaenaaLvL
namespace Go.Proofs.Ytdhagkckkdaenaa

/-- A sum over the numbers below n. -/
def sN (f : Nat → Int) : Nat → Int
  | 0 => 0
  | n + 1 => sN f n + f n
theorem sN_congr {f g : Nat → Int} : ∀ {n}, (∀ i, i < n → f i = g i) → sN f n = sN g n
  | 0, _ => rfl
  | n + 1, h => by rw [sN, sN, sN_congr (fun i hi => h i (by omega)), h n (by omega)]
theorem sN_add (f g : Nat → Int) : ∀ n, sN (fun i => f i + g i) n = sN f n + sN g n
  | 0 => rfl
  | n + 1 => by rw [sN, sN, sN, sN_add f g n]; omega
theorem sN_mul (c : Int) (f : Nat → Int) : ∀ n, sN (fun i => c * f i) n = c * sN f n
  | 0 => by simp [sN]
  | n + 1 => by rw [sN, sN, sN_mul c f n, Int.mul_add]
theorem sN_zero {f : Nat → Int} : ∀ {n}, (∀ i, i < n → f i = 0) → sN f n = 0
  | 0, _ => rfl
  | n + 1, h => by rw [sN, sN_zero (fun i hi => h i (by omega)), h n (by omega)]; rfl
theorem sN_one {f : Nat → Int} {k : Nat} : ∀ {n}, k < n → (∀ i, i < n → i ≠ k → f i = 0) → sN f n = f k
  | 0, h, _ => by omega
  | n + 1, h, h0 => by
    rw [sN]
    rcases Nat.eq_or_lt_of_le (Nat.lt_succ_iff.1 h) with rfl | h'
    · rw [sN_zero fun i hi => h0 i (by omega) (by omega)]; omega
    · rw [sN_one h' fun i hi hk => h0 i (by omega) hk, h0 n (by omega) (by omega)]; omega
theorem sN_le {f g : Nat → Int} : ∀ {n}, (∀ i, i < n → f i ≤ g i) → sN f n ≤ sN g n
  | 0, _ => Int.le_refl _
  | n + 1, h => by
    have h1 := sN_le (f := f) (g := g) (n := n) fun i hi => h i (by omega)
    have h2 := h n (by omega)
    rw [sN, sN]; omega
theorem sN_bd {f : Nat → Int} {M : Int} : ∀ {n}, (∀ i, i < n → -M ≤ f i ∧ f i ≤ M) → -(M * (n : Int)) ≤ sN f n ∧ sN f n ≤ M * (n : Int)
  | 0, _ => by simp [sN]
  | n + 1, h => by
    have h1 := sN_bd (f := f) (M := M) (n := n) fun i hi => h i (by omega)
    have h2 := h n (by omega)
    rw [sN, Int.natCast_add, Int.mul_add]
    omega
theorem sN_comm (f : Nat → Nat → Int) (m : Nat) : ∀ n, sN (fun i => sN (fun j => f i j) m) n = sN (fun j => sN (fun i => f i j) n) m
  | 0 => by rw [sN, sN_zero]; intro i _; rfl
  | n + 1 => by
    rw [sN, sN_comm f m n, ← sN_add]
    rfl
theorem sN_up {f : Nat → Int} {n : Nat} : ∀ {m}, n ≤ m → (∀ i, n ≤ i → i < m → f i = 0) → sN f m = sN f n
  | 0, h, _ => by obtain rfl : n = 0 := by omega
                  rfl
  | m + 1, h, h0 => by
    rcases Nat.eq_or_lt_of_le h with rfl | h'
    · rfl
    · rw [sN, sN_up (m := m) (by omega) (fun i h1 h2 => h0 i h1 (by omega)), h0 m (by omega) (by omega)]; omega
/-- A sum over children. -/
theorem kS_sN_to {P : List Int} (v : Nat → Int) (x : Nat) : ∀ m, (∀ k, k ≤ (kidTo P (x : Int) m).length → True) → ((kidTo P (x : Int) m).map fun y => v y.toNat).sum = sN (fun z => if nth P z = (x : Int) then v z else 0) m
  | 0, _ => rfl
  | m + 1, _ => by
    have ih := kS_sN_to (P := P) v x m fun _ _ => trivial
    rw [sN]
    by_cases h : nth P m = (x : Int)
    · rw [kidTo_yes h, if_pos h, List.map_append, List.sum_append, ih]; simp
    · rw [kidTo_no h, if_neg h, ih]; omega
theorem kS_take {P : List Int} (v : Nat → Int) (x : Nat) : ∀ k, k ≤ (kids P (x : Int)).length → kS P v x k = (((kids P (x : Int)).take k).map fun y => v y.toNat).sum
  | 0, _ => by simp [kS]
  | k + 1, h => by
    rw [kS, kS_take v x k (by omega), List.take_succ_eq_append_getElem (by omega), List.map_append, List.sum_append, ← nth_eq (by omega)]
    simp
theorem kS_sN {P : List Int} (v : Nat → Int) (x : Nat) : kS P v x (kids P (x : Int)).length = sN (fun z => if nth P z = (x : Int) then v z else 0) P.length := by
  rw [kS_take v x _ (Nat.le_refl _), List.take_length]
  exact kS_sN_to v x P.length fun _ _ => trivial

/-- y is x, or it and all nodes on the way up to x are in. -/
def rch (P : List Int) (i : Nat → Bool) (x : Nat) (y : Nat) : Bool :=
  if y = x then true else if _ : x < y ∧ (nth P y).toNat < y then i y && rch P i x (nth P y).toNat else false
termination_by y
decreasing_by omega
section
variable {P : List Int} {i i' : Nat → Bool} {x y p : Nat}
theorem rch_self : rch P i x x = true := by rw [rch, if_pos rfl]
theorem rch_low (h : y < x) : rch P i x y = false := by rw [rch, if_neg (by omega), dif_neg (by omega)]
theorem rch_step (hy : nth P y = (p : Int)) (hp : p < y) (h : x < y) : rch P i x y = (i y && rch P i x p) := by
  rw [rch, if_neg (by omega), dif_pos (by rw [hy, Int.toNat_natCast]; exact ⟨h, hp⟩), hy, Int.toNat_natCast]
theorem par_of (hp : ParOk P) (h : x < y) (hy : y < P.length) : ∃ p : Nat, nth P y = (p : Int) ∧ p < y := by
  have := hp.up y (by omega) hy
  exact ⟨(nth P y).toNat, by omega, by omega⟩
theorem rch_le (h : rch P i x y = true) : x ≤ y := by
  rcases Nat.lt_or_ge y x with h' | h'
  · rw [rch_low h'] at h; cases h
  · exact h'
theorem rch_in (h : rch P i x y = true) (hne : y ≠ x) : i y = true := by
  rw [rch, if_neg hne] at h
  split at h
  · simp only [Bool.and_eq_true] at h; exact h.1
  · cases h
theorem rch_congr (hp : ParOk P) (hy : y < P.length) (h : ∀ z, x < z → z ≤ y → rch P i' x z = true ∨ rch P i x z = true → i z = i' z) : rch P i x y = rch P i' x y := by
  induction y using Nat.strongRecOn with
  | _ y ih =>
    rcases Nat.lt_trichotomy y x with h1 | rfl | h1
    · rw [rch_low h1, rch_low h1]
    · rw [rch_self, rch_self]
    · obtain ⟨q, hq, hlt⟩ := par_of hp h1 hy
      have e := ih q hlt (by omega) fun z hz hz' => h z hz (by omega)
      have hy' := h y h1 (Nat.le_refl _)
      rw [rch_step hq hlt h1, rch_step hq hlt h1] at hy' ⊢
      rw [e] at hy' ⊢
      rcases Bool.eq_false_or_eq_true (rch P i' x q) with hb | hb
      · rw [hb] at hy' ⊢
        simp only [Bool.and_true] at hy' ⊢
        rcases Bool.eq_false_or_eq_true (i y) with hi | hi
        · exact hy' (.inr hi)
        · rcases Bool.eq_false_or_eq_true (i' y) with hj | hj
          · exact hy' (.inl hj)
          · rw [hi, hj]
      · rw [hb, Bool.and_false, Bool.and_false]
/-- Of a node that is reached and is not x itself, the way goes through one child of x. -/
theorem rch_kids (hp : ParOk P) (c : Int) (hy : y < P.length) (hne : y ≠ x) :
    sN (fun z => if nth P z = (x : Int) ∧ i z = true ∧ rch P i z y = true then c else 0) P.length = if rch P i x y = true then c else 0 := by
  induction y using Nat.strongRecOn with
  | _ y ih =>
    have hkid : ∀ z, z < P.length → nth P z = (x : Int) → x < z := by
      intro z hz he
      rcases Nat.eq_zero_or_pos z with rfl | h0
      · have := hp.zero; omega
      · have := hp.up z h0 hz; omega
    rcases Nat.lt_or_ge x y with h1 | h1
    · obtain ⟨q, hq, hlt⟩ := par_of hp h1 hy
      rw [rch_step hq hlt h1]
      rcases Nat.lt_trichotomy q x with h2 | rfl | h2
      · rw [rch_low h2, Bool.and_false]
        rw [sN_zero]
        · rfl
        · intro z hz
          refine if_neg ?_
          rintro ⟨e1, e2, e3⟩
          have h3 := hkid z hz e1
          rcases Nat.lt_trichotomy y z with h4 | rfl | h4
          · rw [rch_low h4] at e3; cases e3
          · rw [hq] at e1; omega
          · rw [rch_step hq hlt h4, rch_low (by omega)] at e3; simp at e3
      · rw [rch_self, Bool.and_true]
        rw [sN_one hy]
        · show (if nth P y = (q : Int) ∧ i y = true ∧ rch P i y y = true then c else 0) = _
          rw [rch_self]
          by_cases hi : i y = true
          · rw [if_pos ⟨hq, hi, rfl⟩, if_pos hi]
          · rw [if_neg (fun h => hi h.2.1), if_neg hi]
        · intro z hz hzy
          refine if_neg ?_
          rintro ⟨e1, e2, e3⟩
          have h3 := hkid z hz e1
          rcases Nat.lt_or_ge y z with h4 | h4
          · rw [rch_low h4] at e3; cases e3
          · rw [rch_step hq hlt (by omega), rch_low (by omega)] at e3; simp at e3
      · have e := ih q hlt (by omega) (by omega)
        by_cases hi : i y = true
        · rw [hi, Bool.true_and, ← e]
          refine sN_congr fun z hz => ?_
          by_cases e1 : nth P z = (x : Int)
          · have h3 := hkid z hz e1
            rcases Nat.lt_trichotomy y z with h4 | rfl | h4
            · rw [rch_low h4, rch_low (show q < z by omega)]
            · rw [hq] at e1; omega
            · rw [rch_step hq hlt h4, hi, Bool.true_and]
          · rw [if_neg (fun h => e1 h.1), if_neg (fun h => e1 h.1)]
        · rw [sN_zero]
          · simp [hi]
          · intro z hz
            refine if_neg ?_
            rintro ⟨e1, e2, e3⟩
            have h3 := hkid z hz e1
            rcases Nat.lt_trichotomy y z with h4 | rfl | h4
            · rw [rch_low h4] at e3; cases e3
            · rw [hq] at e1; omega
            · rw [rch_step hq hlt h4] at e3
              simp only [Bool.and_eq_true] at e3
              exact hi e3.1
    · have h1' : y < x := by omega
      rw [rch_low h1', sN_zero]
      · rfl
      · intro z hz
        refine if_neg ?_
        rintro ⟨e1, e2, e3⟩
        have h3 := hkid z hz e1
        rw [rch_low (by omega)] at e3
        cases e3
end
/-- A depth. -/
def dpN (P : List Int) (x : Nat) : Nat := (nth (dep P) x).toNat
theorem dpN_kid {P : List Int} (hp : ParOk P) {x z : Nat} (hz : z < P.length) (h : nth P z = (x : Int)) : x < z ∧ dpN P z = dpN P x + 1 := by
  have h1 : 1 ≤ z := by
    rcases Nat.eq_zero_or_pos z with rfl | h0
    · have := hp.zero; omega
    · exact h0
  have h2 := hp.up z h1 hz
  have h3 := dep_kid (p := x) h1 hz (by omega) h
  have h4 := dep_bd P x
  unfold dpN
  refine ⟨by omega, by omega⟩
theorem rch_dep {P : List Int} (hp : ParOk P) {i : Nat → Bool} {x y : Nat} (hy : y < P.length) (h : rch P i x y = true) : dpN P x ≤ dpN P y := by
  induction y using Nat.strongRecOn with
  | _ y ih =>
    rcases Nat.eq_or_lt_of_le (rch_le h) with rfl | h1
    · exact Nat.le_refl _
    · obtain ⟨q, hq, hlt⟩ := par_of hp h1 hy
      rw [rch_step hq hlt h1, Bool.and_eq_true] at h
      have := ih q hlt (by omega) h.2
      have := (dpN_kid hp hy hq).2
      omega
/-- What is gained from a node on through a set, child by child. -/
def gnV (P : List Int) (a : Int) (i : Nat → Bool) (v : Nat → Int) : Nat → Nat → Int
  | 0, _ => 0
  | n + 1, x => v x + a * sN (fun z => if nth P z = (x : Int) ∧ i z = true then gnV P a i v n z else 0) P.length
/-- The same, node by node. -/
def tot (P : List Int) (a : Int) (i : Nat → Bool) (v : Nat → Int) (x : Nat) : Int :=
  sN (fun y => if rch P i x y = true then pw a (dpN P y - dpN P x) * v y else 0) P.length
theorem gnV_tot {P : List Int} (hp : ParOk P) (a : Int) (i : Nat → Bool) (v : Nat → Int) : ∀ n x, x < P.length → P.length ≤ x + n → gnV P a i v n x = tot P a i v x
  | 0, x, h, h1 => by omega
  | n + 1, x, h, h1 => by
    rw [gnV, ← sN_mul]
    have e : sN (fun z => a * if nth P z = (x : Int) ∧ i z = true then gnV P a i v n z else 0) P.length
        = sN (fun z => sN (fun y => if nth P z = (x : Int) ∧ i z = true ∧ rch P i z y = true then pw a (dpN P y - dpN P x) * v y else 0) P.length) P.length := by
      refine sN_congr fun z hz => ?_
      by_cases hk : nth P z = (x : Int) ∧ i z = true
      · have hd := dpN_kid hp hz hk.1
        rw [if_pos hk, gnV_tot hp a i v n z hz (by omega), tot, ← sN_mul]
        refine sN_congr fun y hy => ?_
        by_cases hr : rch P i z y = true
        · have hd2 := rch_dep hp hy hr
          rw [if_pos hr, if_pos ⟨hk.1, hk.2, hr⟩]
          obtain ⟨k, hk1⟩ : ∃ k, dpN P y - dpN P x = k + 1 := ⟨dpN P y - dpN P x - 1, by omega⟩
          rw [show dpN P y - dpN P z = k by omega, hk1, pw_succ]
          grind
        · rw [if_neg hr, if_neg (fun h => hr h.2.2), Int.mul_zero]
      · rw [if_neg hk, Int.mul_zero, sN_zero]
        intro y hy
        exact if_neg fun h => hk ⟨h.1, h.2.1⟩
    rw [e, sN_comm, tot]
    have e2 : v x = sN (fun y => if y = x then v x else 0) P.length := by
      rw [sN_one h]
      · exact (if_pos rfl).symm
      · intro j _ hj
        exact if_neg hj
    rw [e2, ← sN_add]
    refine sN_congr fun y hy => ?_
    by_cases hyx : y = x
    · subst hyx
      rw [if_pos rfl, rch_self, if_pos rfl, Nat.sub_self, sN_zero]
      · show _ = 1 * v y
        omega
      · intro z hz
        refine if_neg ?_
        rintro ⟨e1, _, e3⟩
        have := (dpN_kid hp hz e1).1
        rw [rch_low this] at e3
        cases e3
    · rw [if_neg hyx, rch_kids hp _ hy hyx]
      omega
/-- The greatest gain through sets. -/
def lsV (P : List Int) (a : Int) (e : Nat → Bool) (v : Nat → Int) : Nat → Nat → Int
  | 0, _ => 0
  | n + 1, x => v x + sN (fun z => if nth P z = (x : Int) then (if e z = true then a * mxI (lsV P a e v n z) 0 else 0) else 0) P.length
theorem mxI_ge_l (x y : Int) : x ≤ mxI x y := by unfold mxI; split <;> omega
theorem mxI_ge_r (x y : Int) : y ≤ mxI x y := by unfold mxI; split <;> omega
theorem gnV_le {P : List Int} {a : Int} (ha : 0 ≤ a) {e i : Nat → Bool} (hi : ∀ z, i z = true → e z = true) (v : Nat → Int) : ∀ n x, gnV P a i v n x ≤ lsV P a e v n x
  | 0, _ => Int.le_refl _
  | n + 1, x => by
    rw [gnV, lsV, ← sN_mul]
    have := sN_le (n := P.length) (f := fun z => a * if nth P z = (x : Int) ∧ i z = true then gnV P a i v n z else 0) (g := fun z => if nth P z = (x : Int) then (if e z = true then a * mxI (lsV P a e v n z) 0 else 0) else 0) fun z hz => by
      by_cases h1 : nth P z = (x : Int)
      · rw [if_pos h1]
        by_cases h2 : i z = true
        · rw [if_pos ⟨h1, h2⟩, if_pos (hi z h2)]
          exact Int.mul_le_mul_of_nonneg_left (Int.le_trans (gnV_le ha hi v n z) (mxI_ge_l _ _)) ha
        · rw [if_neg (fun h => h2 h.2), Int.mul_zero]
          split
          · exact Int.mul_nonneg ha (mxI_ge_r _ _)
          · exact Int.le_refl _
      · rw [if_neg (fun h => h1 h.1), if_neg h1, Int.mul_zero]
        exact Int.le_refl _
    omega
theorem gnV_eq {P : List Int} {a : Int} {e : Nat → Bool} (v : Nat → Int) (N : Nat) (i : Nat → Bool) (hp : ParOk P) (hN : ∀ z, z < P.length → i z = (e z && decide (0 ≤ lsV P a e v N z))) (hf : ∀ n z, z < P.length → P.length ≤ z + n → lsV P a e v n z = lsV P a e v N z) :
    ∀ n x, x < P.length → P.length ≤ x + n → gnV P a i v n x = lsV P a e v n x
  | 0, x, h, h1 => by omega
  | n + 1, x, h, h1 => by
    rw [gnV, lsV, ← sN_mul]
    congr 1
    refine sN_congr fun z hz => ?_
    by_cases h2 : nth P z = (x : Int)
    · have h3 := (dpN_kid hp hz h2).1
      rw [if_pos h2]
      have e1 := gnV_eq (a := a) v N i hp hN hf n z hz (by omega)
      have e2 := hf n z hz (by omega)
      have e3 := hN z hz
      by_cases h4 : e z = true
      · rw [if_pos h4]
        rw [h4, Bool.true_and] at e3
        by_cases h5 : 0 ≤ lsV P a e v N z
        · rw [if_pos ⟨h2, by rw [e3]; exact decide_eq_true h5⟩, e1]
          congr 1
          unfold mxI
          rw [e2]
          split <;> omega
        · rw [if_neg (fun h => by rw [e3] at h; exact h5 (of_decide_eq_true h.2)), Int.mul_zero, e2]
          unfold mxI
          rw [if_neg (by omega), Int.mul_zero]
      · rw [if_neg h4, if_neg (fun h => by rw [e3] at h; simp only [Bool.and_eq_true] at h; exact h4 h.2.1), Int.mul_zero]
    · rw [if_neg h2, if_neg (fun h => h2 h.1), Int.mul_zero]
theorem lsV_fuel {P : List Int} {a : Int} {e : Nat → Bool} {v : Nat → Int} (hp : ParOk P) : ∀ n m x, x < P.length → P.length ≤ x + n → P.length ≤ x + m → lsV P a e v n x = lsV P a e v m x
  | 0, m, x, h, h1, _ => by omega
  | _ + 1, 0, x, h, _, h2 => by omega
  | n + 1, m + 1, x, h, h1, h2 => by
    rw [lsV, lsV]
    congr 1
    refine sN_congr fun z hz => ?_
    by_cases h3 : nth P z = (x : Int)
    · have h4 := (dpN_kid hp hz h3).1
      rw [if_pos h3, if_pos h3, lsV_fuel hp n m z hz (by omega) (by omega)]
    · rw [if_neg h3, if_neg h3]
end Go.Proofs.Ytdhagkckkdaenaa
