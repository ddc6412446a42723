/- Gain and time of a set, child by child, plainly. No program stands here. -/
import Derived.Test.YtdhagkckkdaenaaLsL
namespace Go.Proofs.Ytdhagkckkdaenaa

theorem dpN_int (P : List Int) (x : Nat) : (dpN P x : Int) = nth (dep P) x := by
  have := dep_bd P x
  unfold dpN
  omega
theorem dpN_zero {P : List Int} : dpN P 0 = 0 := by
  unfold dpN dep
  rw [depL_stable _ (Nat.zero_le _)]
  rfl
section
variable {P W F : List Int} {a b : Int}
/-- When the first k children have been seen. -/
def totK (P : List Int) (a : Int) (i : Nat → Bool) (v : Nat → Int) (x k : Nat) : Int := v x + kS P (fun y => if i y = true then a * tot P a i v y else 0) x k
theorem totK_zero (i : Nat → Bool) (v : Nat → Int) (x : Nat) : totK P a i v x 0 = v x := by simp [totK, kS]
theorem totK_in {i : Nat → Bool} {v : Nat → Int} {x k y : Nat} (hy : nth (kids P (x : Int)) k = (y : Int)) (he : i y = true) : totK P a i v x (k + 1) = totK P a i v x k + a * tot P a i v y := by
  rw [totK, totK, kS, hy, Int.toNat_natCast, if_pos he, Int.add_assoc]
theorem totK_out {i : Nat → Bool} {v : Nat → Int} {x k y : Nat} (hy : nth (kids P (x : Int)) k = (y : Int)) (he : i y = false) : totK P a i v x (k + 1) = totK P a i v x k := by
  rw [totK, totK, kS, hy, Int.toNat_natCast, if_neg (by rw [he]; simp), Int.add_zero]
theorem totK_all (hp : ParOk P) {i : Nat → Bool} {v : Nat → Int} {x : Nat} (hx : x < P.length) : totK P a i v x (kids P (x : Int)).length = tot P a i v x := by
  obtain ⟨m, hm⟩ : ∃ m, P.length = m + 1 := ⟨P.length - 1, by omega⟩
  rw [← gnV_tot hp a i v P.length x hx (by omega), hm, gnV, ← sN_mul, totK, kS_sN]
  congr 1
  refine sN_congr fun z hz => ?_
  by_cases h3 : nth P z = (x : Int)
  · have h4 := (dpN_kid hp hz h3).1
    rw [if_pos h3]
    by_cases h5 : i z = true
    · rw [if_pos h5, if_pos ⟨h3, h5⟩, gnV_tot hp a i v m z hz (by omega)]
    · rw [if_neg h5, if_neg (fun h => h5 h.2), Int.mul_zero]
  · rw [if_neg h3, if_neg (fun h => h3 h.1), Int.mul_zero]
/-- The same for gain and time. -/
def gnK (P W F : List Int) (a b : Int) (i : Nat → Bool) (x k : Nat) : Int := totK P a i (fun y => nth F y * unitX P W b y) x k
def tmK (P W : List Int) (a b : Int) (i : Nat → Bool) (x k : Nat) : Int := totK P a i (fun y => unitX P W b y) x k
theorem gnK_zero (i : Nat → Bool) (x : Nat) : gnK P W F a b i x 0 = nth F x * unitX P W b x := totK_zero _ _ _
theorem tmK_zero (i : Nat → Bool) (x : Nat) : tmK P W a b i x 0 = unitX P W b x := totK_zero _ _ _
theorem gnK_in {i : Nat → Bool} {x k y : Nat} (hy : nth (kids P (x : Int)) k = (y : Int)) (he : i y = true) : gnK P W F a b i x (k + 1) = gnK P W F a b i x k + a * gnR P W F a b i y := totK_in hy he
theorem tmK_in {i : Nat → Bool} {x k y : Nat} (hy : nth (kids P (x : Int)) k = (y : Int)) (he : i y = true) : tmK P W a b i x (k + 1) = tmK P W a b i x k + a * tmR P W a b i y := totK_in hy he
theorem gnK_out {i : Nat → Bool} {x k y : Nat} (hy : nth (kids P (x : Int)) k = (y : Int)) (he : i y = false) : gnK P W F a b i x (k + 1) = gnK P W F a b i x k := totK_out hy he
theorem tmK_out {i : Nat → Bool} {x k y : Nat} (hy : nth (kids P (x : Int)) k = (y : Int)) (he : i y = false) : tmK P W a b i x (k + 1) = tmK P W a b i x k := totK_out hy he
theorem gnK_all (hp : ParOk P) {i : Nat → Bool} {x : Nat} (hx : x < P.length) : gnK P W F a b i x (kids P (x : Int)).length = gnR P W F a b i x := totK_all hp hx
theorem tmK_all (hp : ParOk P) {i : Nat → Bool} {x : Nat} (hx : x < P.length) : tmK P W a b i x (kids P (x : Int)).length = tmR P W a b i x := totK_all hp hx
theorem aGn_bd (h : ArmAB P W F a b) (i : Nat → Bool) (y : Nat) : -10000000000 ≤ a * gnR P W F a b i y ∧ a * gnR P W F a b i y ≤ 10000000000 := by
  have := mulAbs (A := 3325639680) (B := 3) (gnR_bd h i y) (y := a) ⟨by have := h.a1; omega, by have := h.ab; have := h.b4; omega⟩ (by decide)
  rw [Int.mul_comm (gnR P W F a b i y) a] at this
  omega
theorem aTm_bd (h : ArmAB P W F a b) (i : Nat → Bool) (y : Nat) : -200000000 ≤ a * tmR P W a b i y ∧ a * tmR P W a b i y ≤ 200000000 := by
  have := mulAbs (A := 33592320) (B := 3) (tmR_bd h i y) (y := a) ⟨by have := h.a1; omega, by have := h.ab; have := h.b4; omega⟩ (by decide)
  rw [Int.mul_comm (tmR P W a b i y) a] at this
  omega
theorem gnK_bd (h : ArmAB P W F a b) (i : Nat → Bool) {x : Nat} (hx : x < P.length) : ∀ k, k ≤ (kids P (x : Int)).length → -5000000 - 10000000000 * (k : Int) ≤ gnK P W F a b i x k ∧ gnK P W F a b i x k ≤ 5000000 + 10000000000 * (k : Int)
  | 0, _ => by have := FU_bd h hx; rw [gnK_zero]; omega
  | k + 1, hk => by
    have ih := gnK_bd h i hx k (by omega)
    obtain ⟨y, e, _, hy, _⟩ := kid_at h.arm.tree.par (show k < (kids P (x : Int)).length by omega)
    cases he : i y
    · rw [gnK_out e he]; omega
    · have := aGn_bd h i y
      rw [gnK_in e he]; omega
theorem tmK_bd (h : ArmAB P W F a b) (i : Nat → Bool) {x : Nat} (hx : x < P.length) : ∀ k, k ≤ (kids P (x : Int)).length → -200000000 * (k : Int) ≤ tmK P W a b i x k ∧ tmK P W a b i x k ≤ 50000 + 200000000 * (k : Int)
  | 0, _ => by have := unitX_46 h.arm h.b0 h.b4 hx; rw [tmK_zero]; omega
  | k + 1, hk => by
    have ih := tmK_bd h i hx k (by omega)
    obtain ⟨y, e, _, hy, _⟩ := kid_at h.arm.tree.par (show k < (kids P (x : Int)).length by omega)
    cases he : i y
    · rw [tmK_out e he]; omega
    · have := aTm_bd h i y
      rw [tmK_in e he]; omega
end
end Go.Proofs.Ytdhagkckkdaenaa
