/- Fractions, plainly. -/
import Derived.Test.YtnhclpajfejnoaaBase
namespace Go.Proofs.Ytnhclpajfejnoaa

/-- The greatest common divisor as a whole number. -/
def gI (a b : Int) : Int := (Int.gcd a b : Int)
def cutT (a b : Int) : Int := a / gI a b
def cutB (a b : Int) : Int := b / gI a b
/-- A pair is a fraction. -/
def fracB (a b : Int) : Bool := inB a (-1000000000) 1000000000 && inB b 1 1000000 && decide (gI a b = 1)
/-- What is kept of a pair: the pair if it is a fraction. -/
def kpT (a b : Int) : Int := if fracB a b then a else 0
def kpB (a b : Int) : Int := if fracB a b then b else 0
/-- What lowest terms come to. -/
def lwOk (a b : Int) : Bool := fracB (cutT a b) (cutB a b)
def lwT (a b : Int) : Int := kpT (cutT a b) (cutB a b)
def lwB (a b : Int) : Int := kpB (cutT a b) (cutB a b)

theorem gI_pos {a b : Int} (hb : b ≠ 0) : 0 < gI a b := by
  unfold gI
  have : 0 < Int.gcd a b := Int.gcd_pos_of_ne_zero_right _ hb
  omega
theorem gI_dvd_left (a b : Int) : gI a b ∣ a := Int.gcd_dvd_left a b
theorem gI_dvd_right (a b : Int) : gI a b ∣ b := Int.gcd_dvd_right a b
theorem gI_le {a b : Int} (hb : 0 < b) : gI a b ≤ b := Int.le_of_dvd hb (gI_dvd_right a b)
theorem gI_cut {a b : Int} (hb : 0 < b) : gI (cutT a b) (cutB a b) = 1 := by
  unfold gI cutT cutB gI
  rw [Int.gcd_ediv_gcd_ediv_gcd (Int.gcd_pos_of_ne_zero_right _ (by omega))]
  rfl
theorem cutB_pos {a b : Int} (hb : 0 < b) : 0 < cutB a b := by
  unfold cutB
  exact Int.ediv_pos_of_pos_of_dvd hb (by have := gI_pos (a := a) (b := b) (by omega); omega) (gI_dvd_right a b)
theorem cutB_le {a b : Int} (hb : 0 < b) : cutB a b ≤ b := by
  unfold cutB
  exact Int.ediv_le_self _ (by omega)
theorem cut_mul (a b : Int) : cutT a b * gI a b = a ∧ cutB a b * gI a b = b :=
  ⟨Int.ediv_mul_cancel (gI_dvd_left a b), Int.ediv_mul_cancel (gI_dvd_right a b)⟩
theorem cutT_bd {a b : Int} (hb : 0 < b) {M : Int} (h1 : -M ≤ a) (h2 : a ≤ M) : -M ≤ cutT a b ∧ cutT a b ≤ M := by
  have hg := gI_pos (a := a) (b := b) (by omega)
  have hm := (cut_mul a b).1
  constructor
  · rcases Int.lt_or_le (cutT a b) 0 with h | h
    · have : cutT a b * gI a b ≤ cutT a b * 1 := Int.mul_le_mul_of_nonpos_left (by omega) (by omega)
      omega
    · omega
  · rcases Int.lt_or_le 0 (cutT a b) with h | h
    · have : cutT a b * 1 ≤ cutT a b * gI a b := Int.mul_le_mul_of_nonneg_left (by omega) (by omega)
      omega
    · omega
/-- In lowest terms only the sizes are asked. -/
theorem lwOk_eq {a b : Int} (hb : 0 < b) : lwOk a b = (inB (cutT a b) (-1000000000) 1000000000 && decide (cutB a b ≤ 1000000)) := by
  have := cutB_pos (a := a) hb
  have hg := gI_cut (a := a) hb
  unfold lwOk fracB
  rw [Bool.eq_iff_iff]
  simp only [Bool.and_eq_true, inB_iff, decide_eq_true_eq]
  omega
theorem tdiv_gI_left (a b : Int) : a.tdiv (gI a b) = cutT a b := by
  obtain ⟨k, hk⟩ := gI_dvd_left a b
  by_cases h0 : gI a b = 0
  · unfold cutT; rw [h0]; simp
  · unfold cutT
    exact Int.tdiv_eq_ediv_of_dvd (gI_dvd_left a b)
theorem tdiv_gI_right (a b : Int) : b.tdiv (gI a b) = cutB a b := by
  unfold cutB
  exact Int.tdiv_eq_ediv_of_dvd (gI_dvd_right a b)
theorem gI_tmod (a b : Int) : gI b (a.tmod b) = gI a b := by
  unfold gI Int.gcd
  rw [Int.natAbs_tmod, Nat.gcd_comm a.natAbs, Nat.gcd_rec b.natAbs a.natAbs, Nat.gcd_comm]
theorem gI_zero (a : Int) : gI a 0 = (a.natAbs : Int) := by simp [gI]
theorem gI_abs (a b : Int) : gI (a.natAbs : Int) b = gI a b := by simp [gI, Int.gcd]
theorem gI_emod (a b : Int) (ha : 0 ≤ a) : gI b (a % b) = gI a b := by
  rw [← Int.tmod_eq_emod_of_nonneg ha]
  exact gI_tmod a b
theorem drew_drewN (w : World) (n : Nat) : (w.drewN n).drew = w.drewN (n + 1) := rfl
theorem natAbs_tmod_lt (a b : Int) (hb : b ≠ 0) : (a.tmod b).natAbs < b.natAbs := by
  rw [Int.natAbs_tmod]
  exact Nat.mod_lt _ (by omega)

theorem gI_iff (a b : Int) : gI a b = 1 ↔ Nat.Coprime a.natAbs b.natAbs := by
  unfold gI Nat.Coprime
  rw [← Int.gcd_eq_natAbs_gcd_natAbs]
  omega
theorem dvd_of_gI {a b c : Int} (h : gI a b = 1) (hd : b ∣ a * c) : b ∣ c := by
  rw [gI_iff] at h
  rw [← Int.natAbs_dvd_natAbs] at hd ⊢
  rw [Int.natAbs_mul] at hd
  exact Nat.Coprime.dvd_of_dvd_mul_left h.symm hd
theorem gI_comm (a b : Int) : gI a b = gI b a := by unfold gI; rw [Int.gcd_comm]
/-- A pair in lowest terms is told by what it is worth. -/
theorem cut_unique {T B x y : Int} (hy : 0 < y) (hB : 0 < B) (h : gI T B = 1) (he : T * y = x * B) : T = cutT x y ∧ B = cutB x y := by
  have h1 := cut_mul x y
  have h2 := gI_cut (a := x) hy
  have h3 := cutB_pos (a := x) hy
  have hg := gI_pos (a := x) (b := y) (by omega)
  generalize cutT x y = t at *
  generalize cutB x y = u at *
  generalize gI x y = g at *
  have e : T * u = t * B := by
    have : (T * u) * g = (t * B) * g := by
      have a1 := h1.1
      have a2 := h1.2
      grind
    exact Int.eq_of_mul_eq_mul_right (by omega) this
  have d1 : B ∣ u := dvd_of_gI (a := T) h ⟨t, by rw [e, Int.mul_comm]⟩
  have d2 : u ∣ B := dvd_of_gI (a := t) h2 ⟨T, by rw [← e, Int.mul_comm]⟩
  have e2 : B = u := Int.le_antisymm (Int.le_of_dvd h3 d1) (Int.le_of_dvd hB d2)
  subst e2
  exact ⟨Int.eq_of_mul_eq_mul_right (by omega) e, rfl⟩
theorem cut_cross (a b : Int) : cutT a b * b = a * cutB a b := by
  have h := cut_mul a b
  generalize cutT a b = t at *
  generalize cutB a b = u at *
  generalize gI a b = g at *
  have a1 := h.1
  have a2 := h.2
  grind
theorem cut_congr {a b c d : Int} (hb : 0 < b) (hd : 0 < d) (h : a * d = c * b) : cutT a b = cutT c d ∧ cutB a b = cutB c d := by
  refine cut_unique hd (cutB_pos hb) (gI_cut hb) ?_
  have h1 := cut_cross a b
  have hb' : b ≠ 0 := by omega
  have : (cutT a b * d) * b = (c * cutB a b) * b := by grind
  exact Int.eq_of_mul_eq_mul_right hb' this
theorem cut_same {a b : Int} (hb : 0 < b) (h : gI a b = 1) : cutT a b = a ∧ cutB a b = b := by
  have := cut_unique (T := a) (B := b) (x := a) (y := b) hb hb h rfl
  exact ⟨this.1.symm, this.2.symm⟩
theorem gI_one (a : Int) : gI a 1 = 1 := by simp [gI]
theorem gI_one' (a : Int) : gI 1 a = 1 := by simp [gI]
theorem cut_one (a : Int) : cutT a 1 = a ∧ cutB a 1 = 1 := cut_same (by decide) (gI_one a)
theorem cut_zero {b : Int} (hb : 0 < b) : cutT 0 b = 0 ∧ cutB 0 b = 1 := by
  have := cut_unique (T := 0) (B := 1) (x := 0) (y := b) hb (by decide) (gI_one 0) (by simp)
  exact ⟨this.1.symm, this.2.symm⟩
theorem cop_left {a b a' b' : Int} (h : gI a b = 1) (ha : a' ∣ a) (hb : b' ∣ b) : gI a' b' = 1 := by
  rw [gI_iff] at *
  exact Nat.Coprime.coprime_dvd_left (Int.natAbs_dvd_natAbs.2 ha) (Nat.Coprime.coprime_dvd_right (Int.natAbs_dvd_natAbs.2 hb) h)
theorem cop_mul {a b c d : Int} (h1 : gI a c = 1) (h2 : gI a d = 1) (h3 : gI b c = 1) (h4 : gI b d = 1) : gI (a * b) (c * d) = 1 := by
  rw [gI_iff] at *
  rw [Int.natAbs_mul, Int.natAbs_mul]
  exact Nat.Coprime.mul_left (Nat.Coprime.mul_right h1 h2) (Nat.Coprime.mul_right h3 h4)
/-- The product of two pairs in lowest terms, cut crosswise. -/
theorem times_eq {a b c d : Int} (hb : 0 < b) (hd : 0 < d) (h1 : gI a b = 1) (h2 : gI c d = 1) :
    cutT a d * cutT c b = cutT (a * c) (b * d) ∧ cutB a d * cutB c b = cutB (a * c) (b * d) := by
  have m1 := cut_mul a d
  have m2 := cut_mul c b
  have p1 := cutB_pos (a := a) hd
  have p2 := cutB_pos (a := c) hb
  refine cut_unique (Int.mul_pos hb hd) (Int.mul_pos p1 p2) ?_ ?_
  · refine cop_mul (gI_cut hd) ?_ ?_ (gI_cut hb)
    · exact cop_left h1 ⟨_, m1.1.symm⟩ ⟨_, m2.2.symm⟩
    · exact cop_left h2 ⟨_, m2.1.symm⟩ ⟨_, m1.2.symm⟩
  · generalize cutT a d = t at *
    generalize cutB a d = u at *
    generalize gI a d = g at *
    generalize cutT c b = t' at *
    generalize cutB c b = u' at *
    generalize gI c b = g' at *
    have e1 := m1.1
    have e2 := m1.2
    have e3 := m2.1
    have e4 := m2.2
    grind
theorem cutB_bd {a b M : Int} (hb : 0 < b) (h : b ≤ M) : 0 < cutB a b ∧ cutB a b ≤ M := ⟨cutB_pos hb, Int.le_trans (cutB_le hb) h⟩
theorem mulA_bd {x y A B : Int} (hx0 : -A ≤ x) (hx : x ≤ A) (hy0 : 0 ≤ y) (hy : y ≤ B) (hA : 0 ≤ A) : -(A * B) ≤ x * y ∧ x * y ≤ A * B := by
  have h1 : x * y ≤ A * y := Int.mul_le_mul_of_nonneg_right hx hy0
  have h2 : A * y ≤ A * B := Int.mul_le_mul_of_nonneg_left hy hA
  have h3 : (-A) * y ≤ x * y := Int.mul_le_mul_of_nonneg_right hx0 hy0
  rw [Int.neg_mul] at h3
  omega
/-- A quotient by a divisor. -/
theorem tdiv_dvd {a k : Int} (h : k ∣ a) : a.tdiv k = a / k := Int.tdiv_eq_ediv_of_dvd h
theorem ediv_bd {b k M : Int} (hb : 0 < b) (hM : b ≤ M) (hk : 0 < k) (h : k ∣ b) : 0 < b / k ∧ b / k ≤ M :=
  ⟨Int.ediv_pos_of_pos_of_dvd hb (by omega) h, Int.le_trans (Int.ediv_le_self _ (by omega)) hM⟩

end Go.Proofs.Ytnhclpajfejnoaa
