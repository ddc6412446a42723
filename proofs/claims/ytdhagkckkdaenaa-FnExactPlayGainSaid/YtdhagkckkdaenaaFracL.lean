/- Fractions: the plain side. -/
import Derived.Test.YtdhagkckkdaenaaBase
namespace Go.Proofs.Ytdhagkckkdaenaa

/-- The greatest common divisor as a whole number. -/
def gI (a b : Int) : Int := (Int.gcd a b : Int)
def cutT (a b : Int) : Int := a / gI a b
def cutB (a b : Int) : Int := b / gI a b
/-- A pair is a fraction. -/
def fracB (a b : Int) : Bool := inB a (-1000000000) 1000000000 && inB b 1 1000000 && decide (gI a b = 1)
/-- What is kept of a pair: the pair if it is a fraction. -/
def kpT (a b : Int) : Int := if fracB a b then a else 0
def kpB (a b : Int) : Int := if fracB a b then b else 0
/-- What lowest terms come to. -/
def lwOk (a b : Int) : Bool := fracB (cutT a b) (cutB a b)
def lwT (a b : Int) : Int := kpT (cutT a b) (cutB a b)
def lwB (a b : Int) : Int := kpB (cutT a b) (cutB a b)

theorem gI_pos {a b : Int} (hb : b ≠ 0) : 0 < gI a b := by
  unfold gI
  have : 0 < Int.gcd a b := Int.gcd_pos_of_ne_zero_right _ hb
  omega
theorem gI_dvd_left (a b : Int) : gI a b ∣ a := Int.gcd_dvd_left a b
theorem gI_dvd_right (a b : Int) : gI a b ∣ b := Int.gcd_dvd_right a b
theorem gI_le {a b : Int} (hb : 0 < b) : gI a b ≤ b := Int.le_of_dvd hb (gI_dvd_right a b)
theorem gI_cut {a b : Int} (hb : 0 < b) : gI (cutT a b) (cutB a b) = 1 := by
  unfold gI cutT cutB gI
  rw [Int.gcd_ediv_gcd_ediv_gcd (Int.gcd_pos_of_ne_zero_right _ (by omega))]
  rfl
theorem cutB_pos {a b : Int} (hb : 0 < b) : 0 < cutB a b := by
  unfold cutB
  exact Int.ediv_pos_of_pos_of_dvd hb (by have := gI_pos (a := a) (b := b) (by omega); omega) (gI_dvd_right a b)
theorem cutB_le {a b : Int} (hb : 0 < b) : cutB a b ≤ b := by
  unfold cutB
  exact Int.ediv_le_self _ (by omega)
theorem cut_mul (a b : Int) : cutT a b * gI a b = a ∧ cutB a b * gI a b = b :=
  ⟨Int.ediv_mul_cancel (gI_dvd_left a b), Int.ediv_mul_cancel (gI_dvd_right a b)⟩
theorem cutT_bd {a b : Int} (hb : 0 < b) {M : Int} (h1 : -M ≤ a) (h2 : a ≤ M) : -M ≤ cutT a b ∧ cutT a b ≤ M := by
  have hg := gI_pos (a := a) (b := b) (by omega)
  have hm := (cut_mul a b).1
  constructor
  · rcases Int.lt_or_le (cutT a b) 0 with h | h
    · have : cutT a b * gI a b ≤ cutT a b * 1 := Int.mul_le_mul_of_nonpos_left (by omega) (by omega)
      omega
    · omega
  · rcases Int.lt_or_le 0 (cutT a b) with h | h
    · have : cutT a b * 1 ≤ cutT a b * gI a b := Int.mul_le_mul_of_nonneg_left (by omega) (by omega)
      omega
    · omega
/-- In lowest terms only the sizes are asked. -/
theorem lwOk_eq {a b : Int} (hb : 0 < b) : lwOk a b = (inB (cutT a b) (-1000000000) 1000000000 && decide (cutB a b ≤ 1000000)) := by
  have := cutB_pos (a := a) hb
  have hg := gI_cut (a := a) hb
  unfold lwOk fracB
  rw [Bool.eq_iff_iff]
  simp only [Bool.and_eq_true, inB_iff, decide_eq_true_eq]
  omega
theorem tdiv_gI_left (a b : Int) : a.tdiv (gI a b) = cutT a b := by
  obtain ⟨k, hk⟩ := gI_dvd_left a b
  by_cases h0 : gI a b = 0
  · unfold cutT; rw [h0]; simp
  · unfold cutT
    exact Int.tdiv_eq_ediv_of_dvd (gI_dvd_left a b)
theorem tdiv_gI_right (a b : Int) : b.tdiv (gI a b) = cutB a b := by
  unfold cutB
  exact Int.tdiv_eq_ediv_of_dvd (gI_dvd_right a b)
theorem gI_tmod (a b : Int) : gI b (a.tmod b) = gI a b := by
  unfold gI Int.gcd
  rw [Int.natAbs_tmod, Nat.gcd_comm a.natAbs, Nat.gcd_rec b.natAbs a.natAbs, Nat.gcd_comm]
theorem gI_zero (a : Int) : gI a 0 = (a.natAbs : Int) := by simp [gI]
theorem gI_abs (a b : Int) : gI (a.natAbs : Int) b = gI a b := by simp [gI, Int.gcd]
theorem gI_emod (a b : Int) (ha : 0 ≤ a) : gI b (a % b) = gI a b := by
  rw [← Int.tmod_eq_emod_of_nonneg ha]
  exact gI_tmod a b
theorem drew_drewN (w : World) (n : Nat) : (w.drewN n).drew = w.drewN (n + 1) := rfl
theorem natAbs_tmod_lt (a b : Int) (hb : b ≠ 0) : (a.tmod b).natAbs < b.natAbs := by
  rw [Int.natAbs_tmod]
  exact Nat.mod_lt _ (by omega)
end Go.Proofs.Ytdhagkckkdaenaa
