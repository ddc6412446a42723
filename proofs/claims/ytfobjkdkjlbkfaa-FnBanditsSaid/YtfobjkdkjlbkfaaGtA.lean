/- The index theorem, plainly (merged of GtL GtM). -/
import Derived.Test.YtfobjkdkjlbkfaaIdxL
import Derived.Test.YtfobjkdkjlbkfaaPlaA
import Derived.Test.YtfobjkdkjlbkfaaFvA
import Derived.Test.YtfobjkdkjlbkfaaFpA
namespace Go.Proofs.Ytfobjkdkjlbkfaa

section
variable {P : List Int}
theorem kS_add2 (f g : Nat → Int) (x k : Nat) : kS P (fun y => f y + g y) x k = kS P f x k + kS P g x k := by
  induction k with
  | zero => rfl
  | succ k ih => rw [kS, kS, kS, ih]; omega
theorem kS_sub2 (f g : Nat → Int) (x k : Nat) : kS P (fun y => f y - g y) x k = kS P f x k - kS P g x k := by
  induction k with
  | zero => rfl
  | succ k ih => rw [kS, kS, kS, ih]; omega
theorem kS_sNk (f : Nat → Nat → Int) (x k M : Nat) : kS P (fun y => sN (f y) M) x k = sN (fun j => kS P (fun y => f y j) x k) M := by
  induction k with
  | zero =>
    rw [sN_zero]
    · rfl
    · intro _ _; rfl
  | succ k ih => rw [kS, ih, ← sN_add]; rfl
theorem kS_nn {f : Nat → Int} {x k : Nat} (h : ∀ i, i < k → 0 ≤ f (nth (kids P (x : Int)) i).toNat) : 0 ≤ kS P f x k := by
  induction k with
  | zero => exact Int.le_refl _
  | succ k ih =>
    have h1 := ih fun i hi => h i (by omega)
    have h2 := h k (by omega)
    rw [kS]
    omega
end

section
variable {P W F : List Int} {a b : Int}
theorem lt_of3 {p q t u s v : Int} (hu : 0 < u) (hv : 0 < v) (_hq : 0 < q) (h1 : p * u < t * q) (h2 : t * v ≤ s * u) : p * v < s * q := by
  have e1 : p * u * v < t * q * v := Int.mul_lt_mul_of_pos_right h1 hv
  have e2 : t * v * q ≤ s * u * q := Int.mul_le_mul_of_nonneg_right h2 (by omega)
  have e3 : (p * v) * u < (s * q) * u := by grind
  exact Int.lt_of_mul_lt_mul_right e3 (by omega)
theorem prI_gt (h : ArmAB P W F a b) {x : Nat} (hx : x < P.length) (i : Nat → Bool) {p q : Int} : p * (prI P W F a b i x).2 < (prI P W F a b i x).1 * q ↔ 0 < q * gnR P W F a b i x - p * tmR P W a b i x := by
  have h1 := tmR_pos h.arm h.a1 (b := b) (by have := h.a1; have := h.ab; omega) hx i
  have hm := cut_mul (gnR P W F a b i x) (tmR P W a b i x)
  have hg := gI_pos (a := gnR P W F a b i x) (b := tmR P W a b i x) (by omega)
  show p * cutB _ _ < cutT _ _ * q ↔ _
  generalize cutT (gnR P W F a b i x) (tmR P W a b i x) = t at *
  generalize cutB (gnR P W F a b i x) (tmR P W a b i x) = u at *
  generalize gI (gnR P W F a b i x) (tmR P W a b i x) = g at *
  rw [← hm.1, ← hm.2]
  have e : q * (t * g) - p * (u * g) = (t * q - p * u) * g := by grind
  rw [e]
  constructor
  · intro h'
    exact Int.mul_pos (by omega) hg
  · intro h'
    rcases Int.lt_or_le 0 (t * q - p * u) with hn | hn
    · omega
    · have := Int.mul_le_mul_of_nonneg_right hn (show 0 ≤ g by omega)
      omega
/-- An index is more than a quotient just if there is a set that gains. -/
theorem lsP_pos (h : ArmAB P W F a b) {x : Nat} (hx : x < P.length) (he : endB P x = false) {p q : Int} (hq : 0 < q) : 0 < lsP P W F a b p q x ↔ p * (idxP P W F a b x).2 < (idxP P W F a b x).1 * q := by
  constructor
  · intro h0
    have h1 := lsP_star h hx p q
    have h2 := (prI_gt h hx (fun z => neB P z && decide (0 ≤ lsP P W F a b p q z)) (p := p) (q := q)).2 (by omega)
    have h3 := less_no.1 (idx_max h hx he (i := fun z => neB P z && decide (0 ≤ lsP P W F a b p q z)) fun z hz => by simp only [Bool.and_eq_true] at hz; exact hz.1)
    have f1 := fr_pos (prI_fr h hx (fun z => neB P z && decide (0 ≤ lsP P W F a b p q z)))
    have f2 := fr_pos (idx_fr h hx)
    exact lt_of3 f1 f2 hq h2 h3
  · intro h0
    obtain ⟨i, hi, e⟩ := idx_mem h hx he
    rw [e] at h0
    have := (prI_gt h hx i).1 h0
    have := lsP_ge h hx p q hi
    omega
/-- The gain of a node that may be left out. -/
def lpP (P W F : List Int) (a b p q : Int) (x : Nat) : Int := if endB P x then 0 else mxI (lsP P W F a b p q x) 0
theorem lpP_end {p q : Int} {x : Nat} (he : endB P x = true) : lpP P W F a b p q x = 0 := by simp [lpP, he]
theorem lpP_in {p q : Int} {x : Nat} (he : endB P x = false) : lpP P W F a b p q x = mxI (lsP P W F a b p q x) 0 := by simp [lpP, he]
theorem lpP_nn (p q : Int) (x : Nat) : 0 ≤ lpP P W F a b p q x := by
  unfold lpP
  split
  · exact Int.le_refl _
  · exact mxI_ge_r _ _
theorem lsP_rec (hp : ParOk P) {p q : Int} {x : Nat} (hx : x < P.length) : lsP P W F a b p q x = (q * nth F x - p) * unitX P W b x + a * kS P (lpP P W F a b p q) x (kids P (x : Int)).length := by
  obtain ⟨m, hm⟩ : ∃ m, P.length = m + 1 := ⟨P.length - 1, by omega⟩
  have e : lsP P W F a b p q x = lsV P a (neB P) (fun y => (q * nth F y - p) * unitX P W b y) (m + 1) x := by rw [lsP, hm]
  rw [e, lsV, ← kS_mul, kS_sN]
  congr 1
  refine sN_congr fun z hz => ?_
  by_cases h3 : nth P z = (x : Int)
  · have h4 := (dpN_kid hp hz h3).1
    rw [if_pos h3, if_pos h3]
    cases he : endB P z
    · rw [if_pos (neB_iff.2 he), lpP_in he, lsP, lsV_fuel hp P.length m z hz (by omega) (by omega)]
    · rw [if_neg (by simp [neB, he]), lpP_end he, Int.mul_zero]
  · rw [if_neg h3, if_neg h3]
theorem lsP_anti (h : ArmAB P W F a b) {x : Nat} (hx : x < P.length) {p p' q : Int} (hp : p ≤ p') : lsP P W F a b p' q x ≤ lsP P W F a b p q x := by
  have h1 := lsP_star h hx p' q
  have h2 := lsP_ge h hx p q (i := fun z => neB P z && decide (0 ≤ lsP P W F a b p' q z)) fun z hz => by simp only [Bool.and_eq_true] at hz; exact hz.1
  have h3 := tmR_pos h.arm h.a1 (b := b) (by have := h.a1; have := h.ab; omega) hx (fun z => neB P z && decide (0 ≤ lsP P W F a b p' q z))
  have h4 := Int.mul_le_mul_of_nonneg_right hp (show 0 ≤ tmR P W a b (fun z => neB P z && decide (0 ≤ lsP P W F a b p' q z)) x by omega)
  omega
theorem mxI_mono {x y z : Int} (h : x ≤ y) : mxI x z ≤ mxI y z := by unfold mxI; split <;> split <;> omega
theorem lpP_anti (h : ArmAB P W F a b) {x : Nat} (hx : x < P.length) {p p' q : Int} (hp : p ≤ p') : lpP P W F a b p' q x ≤ lpP P W F a b p q x := by
  unfold lpP
  split
  · exact Int.le_refl _
  · exact mxI_mono (lsP_anti h hx hp)
theorem unit_kids (h : ArmOk P W F) {x : Nat} (hx : x < P.length) (he : endB P x = false) : b * kS P (unitX P W b) x (kids P (x : Int)).length = unitX P W b x := by
  have hp := h.tree.par
  rw [← kS_mul]
  have e : kS P (fun y => b * unitX P W b y) x (kids P (x : Int)).length = kS P (fun y => pw b (hgt P - nth (dep P) x).toNat * nth (gath P W) y) x (kids P (x : Int)).length := by
    apply kS_congr
    intro k hk
    obtain ⟨y, e, hxy, hy, hyx⟩ := kid_at hp hk
    rw [e, Int.toNat_natCast]
    have h1 := dep_kid (by omega) hy hxy hyx
    have h2 := hgt_dep h hy
    have h3 : (hgt P - nth (dep P) x).toNat = (hgt P - nth (dep P) y).toNat + 1 := by omega
    rw [unitX, h3, pw_succ]
    grind
  rw [e, kS_mul, gath_kids h.tree hx he, unitX, Int.mul_comm]

/-- A grid so fine that each index lies on it. -/
def Grid (Q : Int) : Prop := 0 < Q ∧ ∀ d : Int, 1 ≤ d → d ≤ 1000000 → d ∣ Q
theorem grid_ex : ∃ Q, Grid Q := by
  have : ∀ n : Nat, ∃ Q : Int, 0 < Q ∧ ∀ d : Int, 1 ≤ d → d ≤ (n : Int) → d ∣ Q := by
    intro n
    induction n with
    | zero => exact ⟨1, by decide, fun d h1 h2 => by omega⟩
    | succ n ih =>
      obtain ⟨Q, h0, h1⟩ := ih
      refine ⟨Q * ((n : Int) + 1), Int.mul_pos h0 (by omega), fun d hd hn => ?_⟩
      by_cases hl : d ≤ (n : Int)
      · exact Int.dvd_mul_of_dvd_left (h1 d hd hl)
      · obtain rfl : d = (n : Int) + 1 := by omega
        exact Int.dvd_mul_left _ _
  obtain ⟨Q, h0, h1⟩ := this 1000000
  exact ⟨Q, h0, fun d hd hn => h1 d hd (by omega)⟩
/-- An index's number on the grid. -/
def nK (P W F : List Int) (a b Q : Int) (x : Nat) : Int := (idxP P W F a b x).1 * (Q / (idxP P W F a b x).2)
theorem nK_mul (h : ArmAB P W F a b) {Q : Int} (hQ : Grid Q) {x : Nat} (hx : x < P.length) : nK P W F a b Q x * (idxP P W F a b x).2 = (idxP P W F a b x).1 * Q ∧ 0 < (idxP P W F a b x).2 := by
  have h1 := frP_iff.1 (idx_fr h hx)
  have h2 := hQ.2 _ h1.2.1.1 h1.2.1.2
  refine ⟨?_, by omega⟩
  rw [nK, Int.mul_assoc, Int.ediv_mul_cancel h2]
theorem nK_lt (h : ArmAB P W F a b) {Q : Int} (hQ : Grid Q) {x : Nat} (hx : x < P.length) (he : endB P x = false) (k : Int) : 0 < lsP P W F a b k Q x ↔ k < nK P W F a b Q x := by
  rw [lsP_pos h hx he hQ.1]
  obtain ⟨e, hd⟩ := nK_mul h hQ hx
  rw [← e]
  exact ⟨fun h' => Int.lt_of_mul_lt_mul_right h' (by omega), fun h' => Int.mul_lt_mul_of_pos_right h' hd⟩
theorem nK_le (h : ArmAB P W F a b) {Q : Int} (hQ : Grid Q) {x : Nat} (hx : x < P.length) (he : endB P x = false) (k : Int) : 0 ≤ lsP P W F a b k Q x ↔ k ≤ nK P W F a b Q x := by
  rw [lsP_iff h hx he hQ.1]
  obtain ⟨e, hd⟩ := nK_mul h hQ hx
  rw [← e]
  exact ⟨fun h' => Int.le_of_mul_le_mul_right h' hd, fun h' => Int.mul_le_mul_of_nonneg_right h' (by omega)⟩
theorem nK_bd (h : ArmAB P W F a b) {Q : Int} (hQ : Grid Q) {x : Nat} (hx : x < P.length) : nK P W F a b Q x ≤ 1000000000 * Q := by
  obtain ⟨e, hd⟩ := nK_mul h hQ hx
  have h1 := frP_iff.1 (idx_fr h hx)
  have h2 := Int.mul_le_mul_of_nonneg_right h1.1.2 (show 0 ≤ Q by have := hQ.1; omega)
  rcases Int.lt_or_le (1000000000 * Q) (nK P W F a b Q x) with hn | hn
  · have h3 := Int.mul_lt_mul_of_pos_right hn hd
    have h4 := Int.mul_le_mul_of_nonneg_left h1.2.1.1 (show 0 ≤ 1000000000 * Q by have := hQ.1; omega)
    omega
  · exact hn
/-- b times the scale that is left when the arm is played while its charge is k. -/
def eK (P W F : List Int) (a b Q : Int) (k : Nat) (x : Nat) : Int := b * unitX P W b x - (b - a) * (lpP P W F a b (k : Int) Q x - lpP P W F a b ((k : Int) + 1) Q x)
theorem eK_end {Q : Int} {k x : Nat} (he : endB P x = true) : eK P W F a b Q k x = b * unitX P W b x := by
  rw [eK, lpP_end he, lpP_end he]; simp
theorem eK_hi (h : ArmAB P W F a b) {Q : Int} (hQ : Grid Q) {k x : Nat} (hx : x < P.length) (he : endB P x = false) (hk : nK P W F a b Q x ≤ (k : Int)) : eK P W F a b Q k x = b * unitX P W b x := by
  have h1 := nK_lt h hQ hx he (k : Int)
  have h2 := nK_lt h hQ hx he ((k : Int) + 1)
  have e1 : lpP P W F a b (k : Int) Q x = 0 := by
    rw [lpP_in he]; unfold mxI; split <;> omega
  have e2 : lpP P W F a b ((k : Int) + 1) Q x = 0 := by
    rw [lpP_in he]; unfold mxI; split <;> omega
  rw [eK, e1, e2]; simp
theorem eK_lo (h : ArmAB P W F a b) {Q : Int} (hQ : Grid Q) {k x : Nat} (hx : x < P.length) (he : endB P x = false) (hk : (k : Int) < nK P W F a b Q x) : eK P W F a b Q k x = a * kS P (eK P W F a b Q k) x (kids P (x : Int)).length := by
  have h1 := (nK_le h hQ hx he (k : Int)).2 (by omega)
  have h2 := (nK_le h hQ hx he ((k : Int) + 1)).2 (by omega)
  have e1 : lpP P W F a b (k : Int) Q x = lsP P W F a b (k : Int) Q x := by
    rw [lpP_in he]; unfold mxI; split <;> omega
  have e2 : lpP P W F a b ((k : Int) + 1) Q x = lsP P W F a b ((k : Int) + 1) Q x := by
    rw [lpP_in he]; unfold mxI; split <;> omega
  have hu := unit_kids (b := b) h.arm hx he
  have r1 := lsP_rec (W := W) (F := F) (a := a) (b := b) h.arm.tree.par (p := (k : Int)) (q := Q) hx
  have r2 := lsP_rec (W := W) (F := F) (a := a) (b := b) h.arm.tree.par (p := (k : Int) + 1) (q := Q) hx
  have e3 : kS P (eK P W F a b Q k) x (kids P (x : Int)).length = b * kS P (unitX P W b) x (kids P (x : Int)).length - (b - a) * (kS P (lpP P W F a b (k : Int) Q) x (kids P (x : Int)).length - kS P (lpP P W F a b ((k : Int) + 1) Q) x (kids P (x : Int)).length) := by
    rw [← kS_sub2, ← kS_mul, ← kS_mul, ← kS_sub2]
    rfl
  rw [eK, e1, e2, e3, hu, r1, r2]
  generalize kS P (lpP P W F a b (k : Int) Q) x (kids P (x : Int)).length = S0
  generalize kS P (lpP P W F a b ((k : Int) + 1) Q) x (kids P (x : Int)).length = S1
  generalize unitX P W b x = u
  grind
theorem eK_le (h : ArmAB P W F a b) {Q : Int} {k x : Nat} (hx : x < P.length) : eK P W F a b Q k x ≤ b * unitX P W b x := by
  have h1 := lpP_anti h hx (p := (k : Int)) (p' := (k : Int) + 1) (q := Q) (by omega)
  have h2 := h.ab
  have := Int.mul_nonneg (show 0 ≤ b - a by omega) (show 0 ≤ lpP P W F a b (k : Int) Q x - lpP P W F a b ((k : Int) + 1) Q x by omega)
  unfold eK
  omega
theorem eK_nn (h : ArmAB P W F a b) {Q : Int} (hQ : Grid Q) {k : Nat} : ∀ n x, x < P.length → P.length ≤ x + n → 0 ≤ eK P W F a b Q k x
  | 0, x, hx, hn => by omega
  | n + 1, x, hx, hn => by
    have h1 := (unitX_46 h.arm h.b0 h.b4 hx).1
    have h2 := Int.mul_nonneg h.b0 h1
    cases he : endB P x with
    | true => rw [eK_end he]; exact h2
    | false =>
      by_cases hk : nK P W F a b Q x ≤ (k : Int)
      · rw [eK_hi h hQ hx he hk]; exact h2
      · rw [eK_lo h hQ hx he (by omega)]
        refine Int.mul_nonneg (by have := h.a1; omega) (kS_nn fun i hi => ?_)
        obtain ⟨y, e, hxy, hy, _⟩ := kid_at h.arm.tree.par hi
        rw [e, Int.toNat_natCast]
        exact eK_nn h hQ n y hy (by omega)
/-- What follows a play. -/
def fK (P W F : List Int) (a b Q : Int) (k x : Nat) : Int := a * kS P (eK P W F a b Q k) x (kids P (x : Int)).length
theorem fK_le (h : ArmAB P W F a b) {Q : Int} (hQ : Grid Q) {k x : Nat} (hx : x < P.length) (he : endB P x = false) : fK P W F a b Q k x ≤ eK P W F a b Q k x := by
  by_cases hk : nK P W F a b Q x ≤ (k : Int)
  · rw [eK_hi h hQ hx he hk]
    have h1 : kS P (eK P W F a b Q k) x (kids P (x : Int)).length ≤ kS P (fun y => b * unitX P W b y) x (kids P (x : Int)).length := kS_le fun i hi => by
      obtain ⟨y, e, _, hy, _⟩ := kid_at h.arm.tree.par hi
      rw [e, Int.toNat_natCast]
      exact eK_le h hy
    rw [kS_mul, unit_kids h.arm hx he] at h1
    have h2 := Int.mul_le_mul_of_nonneg_left h1 (show 0 ≤ a by have := h.a1; omega)
    have h3 := Int.mul_le_mul_of_nonneg_right (show a ≤ b by have := h.ab; omega) (unitX_46 h.arm h.b0 h.b4 hx).1
    exact Int.le_trans h2 h3
  · rw [eK_lo h hQ hx he (by omega)]
    exact Int.le_refl _
theorem sN_tel (f : Nat → Int) : ∀ M, sN (fun k => f k - f (k + 1)) M = f 0 - f M
  | 0 => by simp [sN]
  | M + 1 => by rw [sN, sN_tel f M]; omega
theorem sN_const (c : Int) : ∀ M, sN (fun _ => c) M = c * (M : Int)
  | 0 => by simp [sN]
  | M + 1 => by rw [sN, sN_const c M, Int.natCast_add, Int.mul_add]; omega
theorem lp_top (h : ArmAB P W F a b) {Q : Int} (hQ : Grid Q) {M : Nat} (hM : 1000000000 * Q ≤ (M : Int)) {x : Nat} (hx : x < P.length) : lpP P W F a b (M : Int) Q x = 0 := by
  cases he : endB P x with
  | true => exact lpP_end he
  | false =>
    have h1 := nK_lt h hQ hx he (M : Int)
    have h2 := nK_bd h hQ hx
    rw [lpP_in he]; unfold mxI; split <;> omega
theorem eK_sum (h : ArmAB P W F a b) {Q : Int} (hQ : Grid Q) {M : Nat} (hM : 1000000000 * Q ≤ (M : Int)) {x : Nat} (hx : x < P.length) : sN (fun k => b * unitX P W b x - eK P W F a b Q k x) M = (b - a) * lpP P W F a b 0 Q x := by
  have e : sN (fun k => b * unitX P W b x - eK P W F a b Q k x) M = sN (fun k => (b - a) * (lpP P W F a b (k : Int) Q x - lpP P W F a b ((k + 1 : Nat) : Int) Q x)) M := sN_congr fun k _ => by
    rw [Int.natCast_add]
    unfold eK
    show _ = (b - a) * (lpP P W F a b (k : Int) Q x - lpP P W F a b ((k : Int) + 1) Q x)
    omega
  rw [e, sN_mul, sN_tel (fun k => lpP P W F a b (k : Int) Q x), lp_top h hQ hM hx]
  simp
/-- The law of one arm: what its plays gain, told by what is left at each charge. -/
theorem arm_law (h : ArmAB P W F a b) {Q : Int} (hQ : Grid Q) {M : Nat} (hM : 1000000000 * Q ≤ (M : Int)) {x : Nat} (hx : x < P.length) (he : endB P x = false) :
    (b - a) * unitX P W b x * ((M : Int) - Q * nth F x) = sN (fun k => eK P W F a b Q k x - fK P W F a b Q k x) M + (b - a) * (lpP P W F a b 0 Q x - lsP P W F a b 0 Q x) := by
  have s1 := eK_sum h hQ hM hx
  have hu := unit_kids (b := b) h.arm hx he
  have s2 : sN (fun k => a * unitX P W b x - fK P W F a b Q k x) M = a * ((b - a) * kS P (lpP P W F a b 0 Q) x (kids P (x : Int)).length) := by
    rw [← kS_mul, ← kS_mul]
    have e : kS P (fun y => a * ((b - a) * lpP P W F a b 0 Q y)) x (kids P (x : Int)).length = kS P (fun y => sN (fun k => a * (b * unitX P W b y - eK P W F a b Q k y)) M) x (kids P (x : Int)).length := by
      apply kS_congr
      intro i hi
      obtain ⟨y, e, _, hy, _⟩ := kid_at h.arm.tree.par hi
      rw [e, Int.toNat_natCast, sN_mul, eK_sum h hQ hM hy]
    rw [e, kS_sNk]
    refine sN_congr fun k _ => ?_
    rw [kS_mul, kS_sub2, kS_mul, hu, fK, Int.mul_sub]
  have r := lsP_rec (W := W) (F := F) (a := a) (b := b) h.arm.tree.par (p := 0) (q := Q) hx
  have e : sN (fun k => eK P W F a b Q k x - fK P W F a b Q k x) M = sN (fun k => a * unitX P W b x - fK P W F a b Q k x) M - sN (fun k => b * unitX P W b x - eK P W F a b Q k x) M + (b - a) * unitX P W b x * (M : Int) := by
    rw [← sN_const]
    have : sN (fun k => a * unitX P W b x - fK P W F a b Q k x) M = sN (fun k => (eK P W F a b Q k x - fK P W F a b Q k x) + ((b * unitX P W b x - eK P W F a b Q k x) + (-1) * ((b - a) * unitX P W b x))) M := sN_congr fun k _ => by grind
    rw [this, sN_add, sN_add, sN_mul]
    omega
  rw [e, s1, s2, r]
  generalize kS P (lpP P W F a b 0 Q) x (kids P (x : Int)).length = S
  generalize lpP P W F a b 0 Q x = l
  generalize unitX P W b x = u
  grind
end

/-- A product over the numbers below n. -/
def prN (f : Nat → Int) : Nat → Int
  | 0 => 1
  | n + 1 => prN f n * f n
def oth (i : Nat) (f : Nat → Int) (j : Nat) : Int := if j = i then 1 else f j
theorem prN_congr {f g : Nat → Int} : ∀ {n}, (∀ i, i < n → f i = g i) → prN f n = prN g n
  | 0, _ => rfl
  | n + 1, h => by rw [prN, prN, prN_congr (fun i hi => h i (by omega)), h n (by omega)]
theorem prN_nn {f : Nat → Int} : ∀ {n}, (∀ i, i < n → 0 ≤ f i) → 0 ≤ prN f n
  | 0, _ => by show (0 : Int) ≤ 1; decide
  | n + 1, h => Int.mul_nonneg (prN_nn fun i hi => h i (by omega)) (h n (by omega))
theorem prN_le {f g : Nat → Int} : ∀ {n}, (∀ i, i < n → 0 ≤ f i ∧ f i ≤ g i) → prN f n ≤ prN g n
  | 0, _ => Int.le_refl _
  | n + 1, h => by
    have h1 := prN_le (f := f) (g := g) (n := n) fun i hi => h i (by omega)
    have h2 := h n (by omega)
    have h3 : 0 ≤ prN g n := prN_nn fun i hi => by have := h i (by omega); omega
    exact Int.mul_le_mul h1 h2.2 h2.1 h3
theorem prN_oth {i : Nat} {f : Nat → Int} : ∀ {n}, i < n → prN f n = prN (oth i f) n * f i
  | 0, h => by omega
  | n + 1, h => by
    rw [prN, prN]
    rcases Nat.lt_or_ge i n with h' | h'
    · rw [prN_oth h', oth, if_neg (by omega)]
      grind
    · obtain rfl : i = n := by omega
      rw [oth, if_pos rfl, Int.mul_one, prN_congr (f := oth i f) (g := f) fun j hj => by rw [oth, if_neg (by omega)]]
theorem oth_upd {i : Nat} {f : Nat → Nat → Int} {X : Nat → Nat} {y : Nat} : oth i (fun j => f j (updX X i y j)) = oth i (fun j => f j (X j)) := by
  funext j
  unfold oth
  split
  · rfl
  · next h => show f j (updX X i y j) = f j (X j); rw [updX_ne X y h]
theorem prN_mulc (c : Int) (f : Nat → Int) : ∀ n, prN (fun i => c * f i) n = pw c n * prN f n
  | 0 => by simp [prN, pw]
  | n + 1 => by rw [prN, prN, prN_mulc c f n, pw_succ]; grind

section
variable {L : List Mkd} {a b Q : Int} {X : Nat → Nat} {M : Nat}
/-- The units of the arms, and what is left of them at a charge. -/
def uN (L : List Mkd) (b : Int) (i x : Nat) : Int := unitX (mAt L i).P (mAt L i).W b x
def eN (L : List Mkd) (a b Q : Int) (k i x : Nat) : Int := eK (mAt L i).P (mAt L i).W (mAt L i).F a b Q k x
def nN (L : List Mkd) (a b Q : Int) (i x : Nat) : Int := nK (mAt L i).P (mAt L i).W (mAt L i).F a b Q x
theorem ArmsOk.ab_ (h : ArmsOk L a b) {i : Nat} (hi : i < L.length) : ArmAB (mAt L i).P (mAt L i).W (mAt L i).F a b := ⟨h.arm hi, h.a1, h.ab, h.b4⟩
theorem scX_pr (h : ArmsOk L a b) (hX : AtOk L X) : scX L b X = prN (fun i => uN L b i (X i)) L.length := by
  have : ∀ n, n ≤ L.length → prTo (rowsF sumRow L) X n * pw b (suTo (rowsF leftRow L) X n).toNat = prN (fun i => uN L b i (X i)) n := by
    intro n
    induction n with
    | zero => intro _; simp [prTo, suTo, prN, pw]
    | succ n ih =>
      intro hn
      have h1 := ih (by omega)
      have h2 := ((h.scOk hX).su n (by omega)).1
      have h3 := hgt_dep (h.arm (i := n) (by omega)) (hX n (by omega))
      rw [prN, ← h1, prTo, suTo, rowsF_at (by omega), rowsF_at (by omega), leftRow_nth (hX n (by omega)), sumRow]
      rw [show (suTo (rowsF leftRow L) X n + (hgt (mAt L n).P - nth (dep (mAt L n).P) (X n))).toNat = (suTo (rowsF leftRow L) X n).toNat + (hgt (mAt L n).P - nth (dep (mAt L n).P) (X n)).toNat by omega, pwAdd, uN, unitX]
      grind
  exact this L.length (Nat.le_refl _)
/-- The others' product: all of it, and what is left at a charge. -/
def oA (L : List Mkd) (b : Int) (X : Nat → Nat) (i : Nat) : Int := prN (oth i fun j => b * uN L b j (X j)) L.length
def oK (L : List Mkd) (a b Q : Int) (X : Nat → Nat) (i k : Nat) : Int := prN (oth i fun j => eN L a b Q k j (X j)) L.length
def gX (L : List Mkd) (a b Q : Int) (M : Nat) (X : Nat → Nat) : Int := sN (fun k => prN (fun i => b * uN L b i (X i)) L.length - prN (fun i => eN L a b Q k i (X i)) L.length) M
theorem oK_bd (h : ArmsOk L a b) (hQ : Grid Q) (hX : AtOk L X) (i k : Nat) : 0 ≤ oK L a b Q X i k ∧ oK L a b Q X i k ≤ oA L b X i := by
  have hj : ∀ j, j < L.length → 0 ≤ oth i (fun j => eN L a b Q k j (X j)) j ∧ oth i (fun j => eN L a b Q k j (X j)) j ≤ oth i (fun j => b * uN L b j (X j)) j := fun j hj => by
    unfold oth
    split
    · decide
    · exact ⟨eK_nn (h.ab_ hj) hQ _ _ (hX j hj) (Nat.le_add_left _ _), eK_le (h.ab_ hj) (hX j hj)⟩
  exact ⟨prN_nn fun j h' => (hj j h').1, prN_le hj⟩
/-- What playing arm i loses against the value. -/
def dX (L : List Mkd) (a b Q : Int) (M : Nat) (X : Nat → Nat) (i : Nat) : Int :=
  sN (fun k => (oA L b X i - oK L a b Q X i k) * (eN L a b Q k i (X i) - fK (mAt L i).P (mAt L i).W (mAt L i).F a b Q k (X i))) M + oA L b X i * ((b - a) * (lpP (mAt L i).P (mAt L i).W (mAt L i).F a b 0 Q (X i) - lsP (mAt L i).P (mAt L i).W (mAt L i).F a b 0 Q (X i)))
theorem dX_nn (h : ArmsOk L a b) (hQ : Grid Q) (hX : AtOk L X) {i : Nat} (hi : i < L.length) (hc : canX L X i = true) : 0 ≤ dX L a b Q M X i := by
  have he : endB (mAt L i).P (X i) = false := by simpa [canX] using hc
  have h1 : 0 ≤ sN (fun k => (oA L b X i - oK L a b Q X i k) * (eN L a b Q k i (X i) - fK (mAt L i).P (mAt L i).W (mAt L i).F a b Q k (X i))) M := sN_nn fun k _ => by
    have h2 := oK_bd h hQ hX i k
    have h3 := fK_le (h.ab_ hi) hQ (k := k) (hX i hi) he
    exact Int.mul_nonneg (by omega) (by unfold eN; omega)
  have h2 : 0 ≤ oA L b X i := by have := oK_bd h hQ hX i 0; omega
  have h3 : 0 ≤ lpP (mAt L i).P (mAt L i).W (mAt L i).F a b 0 Q (X i) - lsP (mAt L i).P (mAt L i).W (mAt L i).F a b 0 Q (X i) := by
    rw [lpP_in he]
    have := mxI_ge_l (lsP (mAt L i).P (mAt L i).W (mAt L i).F a b 0 Q (X i)) 0
    omega
  have h4 := Int.mul_nonneg h2 (Int.mul_nonneg (show 0 ≤ b - a by have := h.ab; omega) h3)
  unfold dX
  omega
theorem dX_zero (h : ArmsOk L a b) (hQ : Grid Q) (hX : AtOk L X) {i : Nat} (hi : i < L.length) (hc : canX L X i = true) (hn : 0 ≤ nN L a b Q i (X i)) (hm : ∀ j, j < L.length → canX L X j = true → nN L a b Q j (X j) ≤ nN L a b Q i (X i)) : dX L a b Q M X i = 0 := by
  have he : endB (mAt L i).P (X i) = false := by simpa [canX] using hc
  have h0 := (nK_le (h.ab_ hi) hQ (hX i hi) he 0).2 hn
  have e1 : lpP (mAt L i).P (mAt L i).W (mAt L i).F a b 0 Q (X i) = lsP (mAt L i).P (mAt L i).W (mAt L i).F a b 0 Q (X i) := by
    rw [lpP_in he]; unfold mxI; split <;> omega
  have e2 : sN (fun k => (oA L b X i - oK L a b Q X i k) * (eN L a b Q k i (X i) - fK (mAt L i).P (mAt L i).W (mAt L i).F a b Q k (X i))) M = 0 := sN_zero fun k _ => by
    by_cases hk : nN L a b Q i (X i) ≤ (k : Int)
    · have : oK L a b Q X i k = oA L b X i := prN_congr fun j hj => by
        unfold oth
        split
        · rfl
        · cases hcj : endB (mAt L j).P (X j) with
          | true => exact eK_end hcj
          | false => exact eK_hi (h.ab_ hj) hQ (hX j hj) hcj (by have := hm j hj (by simp [canX, hcj]); unfold nN at *; omega)
      rw [this, Int.sub_self, Int.zero_mul]
    · have : eN L a b Q k i (X i) = fK (mAt L i).P (mAt L i).W (mAt L i).F a b Q k (X i) := eK_lo (h.ab_ hi) hQ (hX i hi) he (by unfold nN at hk; omega)
      rw [this, Int.sub_self, Int.mul_zero]
  rw [dX, e2, e1]
  simp
/-- Playing arm i: the value less what it loses. -/
theorem aft_law (h : ArmsOk L a b) (hQ : Grid Q) (hM : 1000000000 * Q ≤ (M : Int)) (hX : AtOk L X) {i : Nat} (hi : i < L.length) (hc : canX L X i = true) {V : (Nat → Nat) → Int}
    (hV : ∀ y, y < (mAt L i).P.length → nth (mAt L i).P y = (X i : Nat) → pw b L.length * ((b - a) * Q) * V (updX X i y) = b * gX L a b Q M (updX X i y)) :
    pw b L.length * ((b - a) * Q) * aft L a b V X i = b * (gX L a b Q M X - dX L a b Q M X i) := by
  have he : endB (mAt L i).P (X i) = false := by simpa [canX] using hc
  have hA := h.ab_ hi
  have hp := hA.arm.tree.par
  have hu := unit_kids (b := b) hA.arm (hX i hi) he
  have law := arm_law hA hQ hM (hX i hi) he
  have hs : pw b L.length * scX L b X = oA L b X i * (b * uN L b i (X i)) := by
    rw [scX_pr h hX, ← prN_mulc, prN_oth hi]
    rfl
  -- what follows
  have e1 : pw b L.length * ((b - a) * Q) * kS (mAt L i).P (fun y => a * V (updX X i y)) (X i) (kids (mAt L i).P (X i : Nat)).length = a * b * kS (mAt L i).P (fun y => gX L a b Q M (updX X i y)) (X i) (kids (mAt L i).P (X i : Nat)).length := by
    rw [← kS_mul, ← kS_mul]
    apply kS_congr
    intro k hk
    obtain ⟨h1, h2⟩ := kid_of hp hk
    have := hV _ h1 h2
    grind
  have e2 : ∀ y, gX L a b Q M (updX X i y) = sN (fun k => oA L b X i * (b * uN L b i y) - oK L a b Q X i k * eN L a b Q k i y) M := fun y => by
    refine sN_congr fun k _ => ?_
    rw [prN_oth hi, prN_oth (f := fun j => eN L a b Q k j (updX X i y j)) hi, oth_upd (f := fun j x => b * uN L b j x), oth_upd (f := fun j x => eN L a b Q k j x), updX_self]
    rfl
  have e3 : a * b * kS (mAt L i).P (fun y => gX L a b Q M (updX X i y)) (X i) (kids (mAt L i).P (X i : Nat)).length = b * sN (fun k => oA L b X i * (a * uN L b i (X i)) - oK L a b Q X i k * fK (mAt L i).P (mAt L i).W (mAt L i).F a b Q k (X i)) M := by
    have : kS (mAt L i).P (fun y => gX L a b Q M (updX X i y)) (X i) (kids (mAt L i).P (X i : Nat)).length = sN (fun k => oA L b X i * (b * kS (mAt L i).P (uN L b i) (X i) (kids (mAt L i).P (X i : Nat)).length) - oK L a b Q X i k * kS (mAt L i).P (eN L a b Q k i) (X i) (kids (mAt L i).P (X i : Nat)).length) M := by
      have t : (fun y => gX L a b Q M (updX X i y)) = fun y => sN (fun k => oA L b X i * (b * uN L b i y) - oK L a b Q X i k * eN L a b Q k i y) M := funext e2
      rw [t, kS_sNk]
      refine sN_congr fun k _ => ?_
      rw [kS_sub2, kS_mul, kS_mul, kS_mul]
    rw [this, ← sN_mul, ← sN_mul]
    refine sN_congr fun k _ => ?_
    have hu' : b * kS (mAt L i).P (uN L b i) (X i) (kids (mAt L i).P (X i : Nat)).length = uN L b i (X i) := hu
    rw [hu']
    unfold fK
    show _ = b * (_ - _ * (a * kS (mAt L i).P (eN L a b Q k i) (X i) (kids (mAt L i).P (X i : Nat)).length))
    generalize kS (mAt L i).P (eN L a b Q k i) (X i) (kids (mAt L i).P (X i : Nat)).length = S
    grind
  -- the value
  have e4 : gX L a b Q M X = sN (fun k => oA L b X i * (b * uN L b i (X i)) - oK L a b Q X i k * eN L a b Q k i (X i)) M := by
    have := e2 (X i)
    rwa [updX_same] at this
  -- the sums together
  have e5 : gX L a b Q M X - sN (fun k => (oA L b X i - oK L a b Q X i k) * (eN L a b Q k i (X i) - fK (mAt L i).P (mAt L i).W (mAt L i).F a b Q k (X i))) M =
      sN (fun k => oA L b X i * (a * uN L b i (X i)) - oK L a b Q X i k * fK (mAt L i).P (mAt L i).W (mAt L i).F a b Q k (X i)) M + (oA L b X i * ((b - a) * uN L b i (X i)) * (M : Int) - oA L b X i * sN (fun k => eN L a b Q k i (X i) - fK (mAt L i).P (mAt L i).W (mAt L i).F a b Q k (X i)) M) := by
    rw [e4, ← sN_const, ← sN_mul]
    have t : ∀ f g : Nat → Int, sN f M - sN g M = sN (fun k => f k + (-1) * g k) M := fun f g => by rw [sN_add, sN_mul]; omega
    rw [t, t, ← sN_add]
    refine sN_congr fun k _ => ?_
    grind
  unfold aft aftT
  rw [Int.mul_add, e1, e3]
  have e6 : pw b L.length * ((b - a) * Q) * (nth (mAt L i).F (X i) * scX L b X) = (b - a) * Q * nth (mAt L i).F (X i) * (oA L b X i * (b * uN L b i (X i))) := by rw [← hs]; grind
  rw [e6, dX]
  have law' : (b - a) * uN L b i (X i) * ((M : Int) - Q * nth (mAt L i).F (X i)) = sN (fun k => eN L a b Q k i (X i) - fK (mAt L i).P (mAt L i).W (mAt L i).F a b Q k (X i)) M + (b - a) * (lpP (mAt L i).P (mAt L i).W (mAt L i).F a b 0 Q (X i) - lsP (mAt L i).P (mAt L i).W (mAt L i).F a b 0 Q (X i)) := law
  generalize sN (fun k => eN L a b Q k i (X i) - fK (mAt L i).P (mAt L i).W (mAt L i).F a b Q k (X i)) M = S1 at *
  generalize sN (fun k => (oA L b X i - oK L a b Q X i k) * (eN L a b Q k i (X i) - fK (mAt L i).P (mAt L i).W (mAt L i).F a b Q k (X i))) M = S2 at *
  generalize sN (fun k => oA L b X i * (a * uN L b i (X i)) - oK L a b Q X i k * fK (mAt L i).P (mAt L i).W (mAt L i).F a b Q k (X i)) M = S3 at *
  generalize (b - a) * (lpP (mAt L i).P (mAt L i).W (mAt L i).F a b 0 Q (X i) - lsP (mAt L i).P (mAt L i).W (mAt L i).F a b 0 Q (X i)) = S4 at *
  generalize gX L a b Q M X = G at *
  generalize oA L b X i = R at *
  generalize uN L b i (X i) = u at *
  generalize nth (mAt L i).F (X i) = f at *
  generalize (M : Int) = m at *
  clear e1 e2 e3 e4 e6 hs hu law hV hM
  have k1 : G = S3 + (R * ((b - a) * u) * m - R * S1) + S2 := by omega
  have k2 : S1 = (b - a) * u * (m - Q * f) - S4 := by omega
  subst k1 k2
  grind
/-- A plan that plays an arm of greatest index, if that is more than 0; or the best one. -/
def Greedy (L : List Mkd) (a b : Int) (ch : (Nat → Nat) → Int) : Prop := ∀ X, AtOk L X →
  (ch X < 0 → ∀ i, i < L.length → canX L X i = true → lessP (0, 1) (idxP (mAt L i).P (mAt L i).W (mAt L i).F a b (X i)) = false) ∧
  (0 ≤ ch X → (ch X).toNat < L.length ∧ canX L X (ch X).toNat = true ∧ lessP (0, 1) (idxP (mAt L (ch X).toNat).P (mAt L (ch X).toNat).W (mAt L (ch X).toNat).F a b (X (ch X).toNat)) = true ∧
    ∀ j, j < L.length → canX L X j = true → lessP (idxP (mAt L (ch X).toNat).P (mAt L (ch X).toNat).W (mAt L (ch X).toNat).F a b (X (ch X).toNat)) (idxP (mAt L j).P (mAt L j).W (mAt L j).F a b (X j)) = false)
theorem nK_cmp {P W F P' W' F' : List Int} {x x' : Nat} (h : ArmAB P W F a b) (h' : ArmAB P' W' F' a b) (hQ : Grid Q) (hx : x < P.length) (hx' : x' < P'.length) : lessP (idxP P W F a b x) (idxP P' W' F' a b x') = false ↔ nK P' W' F' a b Q x' ≤ nK P W F a b Q x := by
  rw [less_no]
  obtain ⟨e1, d1⟩ := nK_mul h hQ hx
  obtain ⟨e2, d2⟩ := nK_mul h' hQ hx'
  generalize nK P W F a b Q x = n1 at *
  generalize nK P' W' F' a b Q x' = n2 at *
  generalize idxP P W F a b x = f at *
  generalize idxP P' W' F' a b x' = g at *
  have hq := hQ.1
  have k1 : g.1 * f.2 * Q = n2 * (g.2 * f.2) := by grind
  have k2 : f.1 * g.2 * Q = n1 * (g.2 * f.2) := by grind
  have hd := Int.mul_pos d2 d1
  constructor
  · intro hle
    have := Int.mul_le_mul_of_nonneg_right hle (show 0 ≤ Q by omega)
    rw [k1, k2] at this
    exact Int.le_of_mul_le_mul_right this hd
  · intro hle
    have := Int.mul_le_mul_of_nonneg_right hle (show 0 ≤ g.2 * f.2 by omega)
    rw [← k1, ← k2] at this
    exact Int.le_of_mul_le_mul_right this hq
theorem nK_zero {P W F : List Int} {x : Nat} (h : ArmAB P W F a b) (hQ : Grid Q) (hx : x < P.length) : lessP (0, 1) (idxP P W F a b x) = false ↔ nK P W F a b Q x ≤ 0 := by
  rw [less_no]
  obtain ⟨e1, d1⟩ := nK_mul h hQ hx
  generalize nK P W F a b Q x = n1 at *
  generalize idxP P W F a b x = f at *
  have hq := hQ.1
  constructor
  · intro hle
    have hle : f.1 * 1 ≤ 0 * f.2 := hle
    have h1 : f.1 ≤ 0 := by omega
    have := Int.mul_le_mul_of_nonneg_right h1 (show 0 ≤ Q by omega)
    rw [← e1] at this
    rcases Int.lt_or_le 0 n1 with hn | hn
    · have := Int.mul_pos hn d1
      omega
    · exact hn
  · intro hle
    have := Int.mul_le_mul_of_nonneg_right hle (show 0 ≤ f.2 by omega)
    rw [e1] at this
    show f.1 * 1 ≤ 0 * f.2
    rcases Int.lt_or_le 0 f.1 with hn | hn
    · have := Int.mul_pos hn hq
      omega
    · omega
theorem gX_nn (h : ArmsOk L a b) (hQ : Grid Q) (hX : AtOk L X) : 0 ≤ gX L a b Q M X := sN_nn fun k _ => by
  have := prN_le (f := fun i => eN L a b Q k i (X i)) (g := fun i => b * uN L b i (X i)) (n := L.length) fun j hj => ⟨eK_nn (h.ab_ hj) hQ _ _ (hX j hj) (Nat.le_add_left _ _), eK_le (h.ab_ hj) (hX j hj)⟩
  omega
theorem gX_zero (h : ArmsOk L a b) (hQ : Grid Q) (hX : AtOk L X) (hn : ∀ i, i < L.length → canX L X i = true → nN L a b Q i (X i) ≤ 0) : gX L a b Q M X = 0 := sN_zero fun k _ => by
  have : prN (fun i => eN L a b Q k i (X i)) L.length = prN (fun i => b * uN L b i (X i)) L.length := prN_congr fun j hj => by
    cases hcj : endB (mAt L j).P (X j) with
    | true => exact eK_end hcj
    | false => exact eK_hi (h.ab_ hj) hQ (hX j hj) hcj (by have := hn j hj (by simp [canX, hcj]); unfold nN at this; omega)
  rw [this, Int.sub_self]
theorem besTo_max {V : (Nat → Nat) → Int} : ∀ n, 0 ≤ besTo L a b V X n ∧ (∀ i, i < n → canX L X i = true → aft L a b V X i ≤ besTo L a b V X n) ∧ (besTo L a b V X n = 0 ∨ ∃ i, i < n ∧ canX L X i = true ∧ besTo L a b V X n = aft L a b V X i)
  | 0 => ⟨Int.le_refl _, fun i hi => by omega, .inl rfl⟩
  | n + 1 => by
    obtain ⟨h1, h2, h3⟩ := besTo_max (V := V) n
    rw [besTo]
    cases hc : canX L X n with
    | false =>
      refine ⟨h1, fun i hi hci => h2 i ?_ hci, h3.imp id fun ⟨i, hi, h⟩ => ⟨i, by omega, h⟩⟩
      rcases Nat.eq_or_lt_of_le (Nat.lt_succ_iff.1 hi) with rfl | hlt
      · rw [hc] at hci; cases hci
      · exact hlt
    | true =>
      simp only [if_true]
      refine ⟨Int.le_trans h1 (mxI_ge_l _ _), fun i hi hci => ?_, ?_⟩
      · rcases Nat.eq_or_lt_of_le (Nat.lt_succ_iff.1 hi) with rfl | hlt
        · exact mxI_ge_r _ _
        · exact Int.le_trans (h2 i hlt hci) (mxI_ge_l _ _)
      · unfold mxI
        split
        · exact h3.imp id fun ⟨i, hi, h⟩ => ⟨i, by omega, h⟩
        · exact .inr ⟨n, by omega, hc, rfl⟩
/-- An arm of greatest index, or none has one above 0. -/
theorem some_max (_h : ArmsOk L a b) (Q : Int) (X : Nat → Nat) : (∀ i, i < L.length → canX L X i = true → nN L a b Q i (X i) ≤ 0) ∨ ∃ i, i < L.length ∧ canX L X i = true ∧ 0 ≤ nN L a b Q i (X i) ∧ ∀ j, j < L.length → canX L X j = true → nN L a b Q j (X j) ≤ nN L a b Q i (X i) := by
  have : ∀ n, n ≤ L.length → (∀ i, i < n → canX L X i = true → nN L a b Q i (X i) ≤ 0) ∨ ∃ i, i < n ∧ canX L X i = true ∧ 0 ≤ nN L a b Q i (X i) ∧ ∀ j, j < n → canX L X j = true → nN L a b Q j (X j) ≤ nN L a b Q i (X i) := by
    intro n
    induction n with
    | zero => intro _; exact .inl fun i hi => by omega
    | succ n ih =>
      intro hn
      have split : ∀ j, j < n + 1 → j < n ∨ j = n := fun j hj => by omega
      rcases ih (by omega) with h0 | ⟨i, hi, hci, h1, h2⟩
      · by_cases hc : canX L X n = true
        · rcases Int.lt_or_le (nN L a b Q n (X n)) 0 with h3 | h3
          · left
            intro j hj hcj
            rcases split j hj with h4 | rfl
            · exact h0 j h4 hcj
            · omega
          · right
            refine ⟨n, by omega, hc, h3, fun j hj hcj => ?_⟩
            rcases split j hj with h4 | rfl
            · have := h0 j h4 hcj; omega
            · exact Int.le_refl _
        · left
          intro j hj hcj
          rcases split j hj with h4 | rfl
          · exact h0 j h4 hcj
          · exact absurd hcj hc
      · right
        by_cases hc : canX L X n = true ∧ nN L a b Q i (X i) < nN L a b Q n (X n)
        · refine ⟨n, by omega, hc.1, by omega, fun j hj hcj => ?_⟩
          rcases split j hj with h4 | rfl
          · have := h2 j h4 hcj; omega
          · exact Int.le_refl _
        · refine ⟨i, by omega, hci, h1, fun j hj hcj => ?_⟩
          rcases split j hj with h4 | rfl
          · exact h2 j h4 hcj
          · exact Int.not_lt.1 fun h5 => hc ⟨hcj, h5⟩
  exact this L.length (Nat.le_refl _)
theorem cancel_b {c p q : Int} (hc : 0 < c) (h : c * p ≤ c * q) : p ≤ q := Int.le_of_mul_le_mul_left h hc
/-- The value of the best plan, and of a greedy one. -/
theorem val_law (h : ArmsOk L a b) (hQ : Grid Q) (hM : 1000000000 * Q ≤ (M : Int)) {pl : Option ((Nat → Nat) → Int)} (hok : PlOk L pl) (hpl : ∀ ch, pl = some ch → Greedy L a b ch) : ∀ m X, AtOk L X → remX L X < m → pw b L.length * ((b - a) * Q) * valX L a b pl X = b * gX L a b Q M X := by
  intro m
  induction m with
  | zero => intro X _ h1; omega
  | succ m ih =>
    intro X hX hm
    have hb : 1 ≤ b := by have := h.a1; have := h.ab; omega
    have hc : 0 < pw b L.length * ((b - a) * Q) := Int.mul_pos (by have := pw_pos1 hb L.length; omega) (Int.mul_pos (by have := h.ab; omega) hQ.1)
    have hA : ∀ i, i < L.length → canX L X i = true → pw b L.length * ((b - a) * Q) * aft L a b (valX L a b pl) X i = b * (gX L a b Q M X - dX L a b Q M X i) := fun i hi hci =>
      aft_law h hQ hM hX hi hci fun y hy hk => by
        have := h.rem_kid hX hi hy hk
        exact ih _ (h.upd hX hi hy) (by omega)
    rw [valX_eq h hok hX]
    unfold stepV
    generalize pw b L.length * ((b - a) * Q) = c at *
    split
    · obtain ⟨b1, b2, b3⟩ := besTo_max (L := L) (a := a) (b := b) (X := X) (V := valX L a b none) L.length
      apply Int.le_antisymm
      · rcases b3 with e | ⟨i, hi, hci, e⟩
        · rw [e, Int.mul_zero]
          exact Int.mul_nonneg (by omega) (gX_nn h hQ hX)
        · rw [e, hA i hi hci]
          have := dX_nn (M := M) h hQ hX hi hci
          exact Int.mul_le_mul_of_nonneg_left (by omega) (by omega)
      · rcases some_max h Q X with h0 | ⟨i, hi, hci, h1, h2⟩
        · rw [gX_zero h hQ hX h0, Int.mul_zero]
          exact Int.mul_nonneg (by omega) b1
        · have e := hA i hi hci
          rw [dX_zero h hQ hX hi hci h1 h2, Int.sub_zero] at e
          rw [← e]
          exact Int.mul_le_mul_of_nonneg_left (b2 i hi hci) (by omega)
    · next ch =>
      obtain ⟨g1, g2⟩ := hpl ch rfl X hX
      split
      · next h0 =>
        obtain ⟨hi, hci, h1, h2⟩ := g2 h0
        have hpos : ¬ nN L a b Q (ch X).toNat (X (ch X).toNat) ≤ 0 := fun hn => by
          have := (nK_zero (h.ab_ hi) hQ (hX _ hi)).2 hn
          rw [this] at h1
          cases h1
        have e := hA _ hi hci
        rw [dX_zero h hQ hX hi hci (by omega) (fun j hj hcj => (nK_cmp (h.ab_ hi) (h.ab_ hj) hQ (hX _ hi) (hX j hj)).1 (h2 j hj hcj)), Int.sub_zero] at e
        exact e
      · next h0 =>
        rw [gX_zero h hQ hX fun i hi hci => (nK_zero (h.ab_ hi) hQ (hX i hi)).1 (g1 (by omega) i hi hci), Int.mul_zero, Int.mul_zero]
/-- Playing by indices is best. -/
theorem greedy_best (h : ArmsOk L a b) {ch : (Nat → Nat) → Int} (hok : PlOk L (some ch)) (hg : Greedy L a b ch) (hX : AtOk L X) : valX L a b (some ch) X = valX L a b none X := by
  obtain ⟨Q, hQ⟩ := grid_ex
  have hM : 1000000000 * Q ≤ ((1000000000 * Q).toNat : Int) := by omega
  have e1 := val_law h hQ hM hok (fun c e => by injection e with e; subst e; exact hg) _ X hX (Nat.lt_succ_self _)
  have e2 := val_law h hQ hM (pl := none) (fun c e => by cases e) (fun c e => by cases e) _ X hX (Nat.lt_succ_self _)
  have hb : 1 ≤ b := by have := h.a1; have := h.ab; omega
  have hc : 0 < pw b L.length * ((b - a) * Q) := Int.mul_pos (by have := pw_pos1 hb L.length; omega) (Int.mul_pos (by have := h.ab; omega) hQ.1)
  exact Int.eq_of_mul_eq_mul_left (by omega) (e1.trans e2.symm)
/-- No plan is better than the best one. -/
theorem plan_le (h : ArmsOk L a b) {ch : (Nat → Nat) → Int} (hok : PlOk L (some ch)) : ∀ m X, AtOk L X → remX L X < m → valX L a b (some ch) X ≤ valX L a b none X := by
  intro m
  induction m with
  | zero => intro X _ h1; omega
  | succ m ih =>
    intro X hX hm
    rw [valX_eq h hok hX, valX_eq h (pl := none) (fun c e => by cases e) hX]
    unfold stepV
    obtain ⟨b1, b2, _⟩ := besTo_max (L := L) (a := a) (b := b) (X := X) (V := valX L a b none) L.length
    show (if 0 ≤ ch X then aft L a b (valX L a b (some ch)) X (ch X).toNat else 0) ≤ besTo L a b (valX L a b none) X L.length
    split
    · next h0 =>
      obtain ⟨hl, hci⟩ := hok ch rfl X hX h0
      have hi : (ch X).toNat < L.length := by omega
      refine Int.le_trans ?_ (b2 _ hi hci)
      unfold aft aftT
      have : kS (mAt L (ch X).toNat).P (fun y => a * valX L a b (some ch) (updX X (ch X).toNat y)) (X (ch X).toNat) (kids (mAt L (ch X).toNat).P (X (ch X).toNat : Nat)).length ≤ kS (mAt L (ch X).toNat).P (fun y => a * valX L a b none (updX X (ch X).toNat y)) (X (ch X).toNat) (kids (mAt L (ch X).toNat).P (X (ch X).toNat : Nat)).length := kS_le fun k hk => by
        obtain ⟨h1, h2⟩ := kid_of (h.arm hi).tree.par hk
        have h3 := h.rem_kid hX hi h1 h2
        exact Int.mul_le_mul_of_nonneg_left (ih _ (h.upd hX hi h1) (by omega)) (by have := h.a1; omega)
      omega
    · exact b1
end

section
variable {L T : List Mkd} {a b : Int} {X : Nat → Nat} {m : Mkd}
theorem choT_top {num : Nat → Nat → Int × Int} (hn : ∀ i, i < L.length → 0 < (num i (X i)).2) : ∀ k, k ≤ L.length →
    (∀ j, j < k → canX L X j = true → lessP (choT L num false X k).2 (num j (X j)) = false) ∧ 0 < (choT L num false X k).2.2 ∧ 0 ≤ (choT L num false X k).2.1 ∧ (0 ≤ (choT L num false X k).1 → lessP (0, 1) (choT L num false X k).2 = true)
  | 0, _ => ⟨fun j hj => by omega, by show (0 : Int) < 1; decide, Int.le_refl _, fun h => by have h : (0 : Int) ≤ -1 := h; omega⟩
  | k + 1, hk => by
    obtain ⟨h1, h2, h3, h4⟩ := choT_top (num := num) hn k (by omega)
    have hs : ∀ j, j < k + 1 → j < k ∨ j = k := fun j hj => by omega
    cases hc : canX L X k with
    | false =>
      rw [choT_no1 hc]
      refine ⟨fun j hj hcj => ?_, h2, h3, h4⟩
      rcases hs j hj with h5 | rfl
      · exact h1 j h5 hcj
      · rw [hc] at hcj; cases hcj
    | true =>
      cases hl : lessP (choT L num false X k).2 (num k (X k)) with
      | false =>
        rw [choT_no2 hl]
        refine ⟨fun j hj hcj => ?_, h2, h3, h4⟩
        rcases hs j hj with h5 | rfl
        · exact h1 j h5 hcj
        · exact hl
      | true =>
        rw [choT_yes hc hl (.inl rfl)]
        have hlt : (choT L num false X k).2.1 * (num k (X k)).2 < (num k (X k)).1 * (choT L num false X k).2.2 := of_decide_eq_true hl
        have hk2 := hn k (by omega)
        generalize (choT L num false X k).2 = o at *
        have hp : 0 < (num k (X k)).1 := by
          have := Int.mul_nonneg h3 (show 0 ≤ (num k (X k)).2 by omega)
          rcases Int.lt_or_le 0 (num k (X k)).1 with h | h
          · exact h
          · have := Int.mul_le_mul_of_nonneg_right h (show 0 ≤ o.2 by omega)
            omega
        refine ⟨fun j hj hcj => ?_, hk2, by show 0 ≤ (num k (X k)).1; omega, fun _ => decide_eq_true (by show 0 * (num k (X k)).2 < (num k (X k)).1 * 1; omega)⟩
        rcases hs j hj with h5 | rfl
        · have h6 := less_no.1 (h1 j h5 hcj)
          exact less_no.2 (le_trans3 h2 (by have := hn j (by omega); omega) (by show 0 ≤ (num k (X k)).2; omega) h6 (Int.le_of_lt hlt))
        · exact less_no.2 (Int.le_refl _)
theorem cho_greedy (h : ArmsOk L a b) : Greedy L a b (choX L (fun i x => idxP (mAt L i).P (mAt L i).W (mAt L i).F a b x) false) := fun X hX => by
  have ht := choT_top (L := L) (X := X) (num := fun i x => idxP (mAt L i).P (mAt L i).W (mAt L i).F a b x) (fun i hi => fr_pos (idx_fr (h.ab_ hi) (hX i hi))) L.length (Nat.le_refl _)
  obtain ⟨h1, h2, h3, h4⟩ := ht
  unfold choX
  rcases choT_at (L := L) (num := fun i x => idxP (mAt L i).P (mAt L i).W (mAt L i).F a b x) (one := false) (X := X) L.length with ⟨e1, e2⟩ | ⟨i, hi, e1, hc, e2⟩
  · refine ⟨fun _ j hj hcj => ?_, fun h0 => by rw [e1] at h0; omega⟩
    have := h1 j hj hcj
    rwa [e2] at this
  · refine ⟨fun h0 => by rw [e1] at h0; omega, fun h0 => ?_⟩
    have h5 := h4 h0
    rw [e2] at h5 h1
    rw [e1, Int.toNat_natCast]
    exact ⟨hi, hc, h5, h1⟩

theorem prN_shift (f : Nat → Int) : ∀ n, prN f (n + 1) = f 0 * prN (fun i => f (i + 1)) n
  | 0 => by simp [prN]
  | n + 1 => by rw [prN, prN_shift f n, prN]; grind
theorem mAt_cons (k : Nat) : mAt (m :: T) (k + 1) = mAt T k := rfl
theorem mAt_zero : mAt (m :: T) 0 = m := rfl
theorem hgts_cons : ∀ k, hgts (m :: T) (k + 1) = hgt m.P + hgts T k
  | 0 => by simp [hgts, mAt_zero]
  | k + 1 => by rw [hgts, hgts_cons k, mAt_cons, hgts]; omega
theorem ArmsOk.tail (h : ArmsOk (m :: T) a b) : ArmsOk T a b := by
  refine ⟨by have := h.n3; simp at this; omega, h.a1, h.ab, h.b4, fun j hj => h.all (j + 1) (by simp; omega), ?_⟩
  have h1 := h.h8
  rw [List.length_cons, hgts_cons] at h1
  have h2 := hgt_bd m.P
  omega
theorem scX_cons (h : ArmsOk (m :: T) a b) (hX : AtOk (m :: T) X) : scX (m :: T) b X = unitX m.P m.W b (X 0) * scX T b (fun i => X (i + 1)) := by
  have hY : AtOk T (fun i => X (i + 1)) := fun k hk => hX (k + 1) (by simp; omega)
  rw [scX_pr h hX, scX_pr h.tail hY, List.length_cons, prN_shift]
  rfl
theorem upd_succ (i y : Nat) : (fun j => updX X (i + 1) y (j + 1)) = updX (fun j => X (j + 1)) i y := by
  funext j
  unfold updX
  by_cases h : j = i
  · rw [if_pos (by omega), if_pos h]
  · rw [if_neg (by omega), if_neg h]
/-- One arm more does not make the best value less. -/
theorem more_arm (h : ArmsOk (m :: T) a b) : ∀ n X, AtOk (m :: T) X → remX T (fun i => X (i + 1)) < n → unitX m.P m.W b (X 0) * valX T a b none (fun i => X (i + 1)) ≤ valX (m :: T) a b none X := by
  intro n
  induction n with
  | zero => intro X _ h1; omega
  | succ n ih =>
    intro X hX hm
    have hY : AtOk T (fun i => X (i + 1)) := fun k hk => hX (k + 1) (by simp; omega)
    have hT := h.tail
    have hu : 0 ≤ unitX m.P m.W b (X 0) := (unitX_46 (h.arm (i := 0) (by simp)) (by have := h.a1; have := h.ab; omega) h.b4 (hX 0 (by simp))).1
    rw [valX_eq hT (pl := none) (fun c e => by cases e) hY, valX_eq h (pl := none) (fun c e => by cases e) hX]
    unfold stepV
    obtain ⟨b1, b2, _⟩ := besTo_max (L := m :: T) (a := a) (b := b) (X := X) (V := valX (m :: T) a b none) (m :: T).length
    obtain ⟨_, _, c3⟩ := besTo_max (L := T) (a := a) (b := b) (X := fun i => X (i + 1)) (V := valX T a b none) T.length
    show unitX m.P m.W b (X 0) * besTo T a b (valX T a b none) (fun i => X (i + 1)) T.length ≤ besTo (m :: T) a b (valX (m :: T) a b none) X (m :: T).length
    rcases c3 with e | ⟨i, hi, hc, e⟩
    · rw [e, Int.mul_zero]; exact b1
    · rw [e]
      refine Int.le_trans ?_ (b2 (i + 1) (by simp; omega) hc)
      have hp := (hT.arm hi).tree.par
      have hi' : i + 1 < (m :: T).length := by simp; omega
      have hk : unitX m.P m.W b (X 0) * kS (mAt T i).P (fun y => a * valX T a b none (updX (fun j => X (j + 1)) i y)) (X (i + 1)) (kids (mAt T i).P (X (i + 1) : Nat)).length ≤ kS (mAt T i).P (fun y => a * valX (m :: T) a b none (updX X (i + 1) y)) (X (i + 1)) (kids (mAt T i).P (X (i + 1) : Nat)).length := by
        rw [← kS_mul]
        refine kS_le fun k hk => ?_
        obtain ⟨h1, h2⟩ := kid_of hp hk
        have hr := hT.rem_kid hY hi h1 h2
        have h3 := ih (updX X (i + 1) (nth (kids (mAt T i).P (X (i + 1) : Nat)) k).toNat) (h.upd hX hi' h1) (by rw [upd_succ]; omega)
        rw [upd_succ, updX_ne X _ (show (0 : Nat) ≠ i + 1 by omega)] at h3
        have h4 := Int.mul_le_mul_of_nonneg_left h3 (show 0 ≤ a by have := h.a1; omega)
        have e : ∀ u v : Int, u * (a * v) = a * (u * v) := fun u v => by grind
        rw [e]
        exact h4
      have hs := scX_cons h hX
      show unitX m.P m.W b (X 0) * (nth (mAt T i).F (X (i + 1)) * scX T b (fun i => X (i + 1)) + kS (mAt T i).P (fun y => a * valX T a b none (updX (fun j => X (j + 1)) i y)) (X (i + 1)) (kids (mAt T i).P (X (i + 1) : Nat)).length) ≤
        nth (mAt T i).F (X (i + 1)) * scX (m :: T) b X + kS (mAt T i).P (fun y => a * valX (m :: T) a b none (updX X (i + 1) y)) (X (i + 1)) (kids (mAt T i).P (X (i + 1) : Nat)).length
      rw [hs, Int.mul_add]
      have e : ∀ f u s : Int, u * (f * s) = f * (u * s) := fun f u s => by grind
      rw [e]
      omega
theorem scTo_cons : ∀ k, scTo (m :: T) b (k + 1) = unitX m.P m.W b 0 * scTo T b k ∨ m.P.length = 0
  | 0 => by
    rcases Nat.eq_zero_or_pos m.P.length with h | h
    · exact .inr h
    · left
      show (1 : Int) * nth (unitL m.P m.W b) 0 = _ * 1
      rw [unitL_nth h, Int.one_mul, Int.mul_one]
  | k + 1 => by
    refine (scTo_cons k).imp (fun h => ?_) id
    rw [scTo, h, scTo]
    show unitX m.P m.W b 0 * scTo T b k * unit0 T b k = _
    rw [Int.mul_assoc]
theorem scTo_pos (h : ArmsOk T a b) : ∀ k, k ≤ T.length → 1 ≤ scTo T b k
  | 0, _ => by show (1 : Int) ≤ 1; decide
  | k + 1, hk => by
    have h1 := scTo_pos h k (by omega)
    have ha := h.arm (i := k) (by omega)
    have h2 : 1 ≤ unit0 T b k := by
      unfold unit0
      rw [unitL_nth ha.tree.n1]
      exact unitX_pos ha (by have := h.a1; have := h.ab; omega) ha.tree.n1
    have := Int.mul_le_mul h1 h2 (by decide) (by omega)
    rw [scTo]
    omega
/-- The law's last comparison. -/
theorem bandit_more (h : ArmsOk (m :: T) a b) : scTo (m :: T) b (T.length + 1) = unitX m.P m.W b 0 * scTo T b T.length ∧ 1 ≤ unitX m.P m.W b 0 ∧ 1 ≤ scTo T b T.length ∧ unitX m.P m.W b 0 * valX T a b none (fun _ => 0) ≤ valX (m :: T) a b none (fun _ => 0) := by
  have ha := h.arm (i := 0) (by simp)
  have hm : 1 ≤ m.P.length := ha.tree.n1
  refine ⟨?_, unitX_pos ha (by have := h.a1; have := h.ab; omega) hm, scTo_pos h.tail _ (Nat.le_refl _), ?_⟩
  · rcases scTo_cons (m := m) (T := T) (b := b) T.length with h1 | h1
    · exact h1
    · omega
  · exact more_arm h _ (fun _ => 0) (fun k hk => (h.arm hk).tree.n1) (Nat.lt_succ_self _)
theorem val_none_nn (h : ArmsOk L a b) (hX : AtOk L X) : 0 ≤ valX L a b none X := by
  rw [valX_eq h (pl := none) (fun c e => by cases e) hX]
  exact (besTo_max (L := L) (a := a) (b := b) (X := X) (V := valX L a b none) L.length).1
/-- There is a first play just if the best value is more than 0. -/
theorem first_iff (h : ArmsOk L a b) : decide (0 ≤ fpI L a b) = decide (0 < valX L a b none (fun _ => 0)) := by
  have hX : AtOk L (fun _ => 0) := fun k hk => (h.arm hk).tree.n1
  by_cases hv : 0 < valX L a b none (fun _ => 0)
  · rw [decide_eq_true hv]
    apply decide_eq_true
    have e := valX_eq h (pl := none) (fun c e => by cases e) hX
    have e : valX L a b none (fun _ => 0) = besTo L a b (valX L a b none) (fun _ => 0) L.length := e
    rcases (besTo_max (L := L) (a := a) (b := b) (X := fun _ => 0) (V := valX L a b none) L.length).2.2 with h0 | ⟨i, hi, hc, h1⟩
    · omega
    · unfold fpI
      cases hf : (List.range L.length).find? (fpHit L a b) with
      | some j => exact Int.natCast_nonneg _
      | none =>
        have := List.find?_eq_none.1 hf i (List.mem_range.2 hi)
        simp only [fpHit, decide_eq_true hv, hc, Bool.true_and, decide_eq_true_eq] at this
        exact absurd (h1.symm.trans e.symm) this
  · rw [decide_eq_false hv]
    apply decide_eq_false
    unfold fpI
    have : (List.range L.length).find? (fpHit L a b) = none := List.find?_eq_none.2 fun i _ => by simp [fpHit, decide_eq_false hv]
    rw [this]
    decide
end

end Go.Proofs.Ytfobjkdkjlbkfaa
