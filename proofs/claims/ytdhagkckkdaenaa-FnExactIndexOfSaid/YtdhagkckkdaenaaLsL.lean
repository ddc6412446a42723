/- The reference's greatest gain less a fee, plainly: bounds, child by child; whether a fee is fair. No program stands here. -/
import Derived.Test.YtdhagkckkdaenaaIdxL
namespace Go.Proofs.Ytdhagkckkdaenaa

section
variable {P W F : List Int} {a b : Int}
theorem unitX_46 (h : ArmOk P W F) (h0 : 0 ≤ b) (h4 : b ≤ 4) {y : Nat} (hy : y < P.length) : 0 ≤ unitX P W b y ∧ unitX P W b y ≤ 46080 := by
  have h1 := h.sum180 y
  have h2 := dpN_le h hy
  have h3 := pw_four h0 h4 (k := hN P - dpN P y) (by omega)
  rw [unitX_eq h hy]
  exact mul_bd _ _ 180 256 h1.1 h1.2 h3.1 h3.2
theorem ArmAB.b0 (h : ArmAB P W F a b) : 0 ≤ b := by have := h.a1; have := h.ab; omega
theorem ArmAB.a81 (h : ArmAB P W F a b) {x y : Nat} (hy : y < P.length) : 0 ≤ pw a (dpN P y - dpN P x) ∧ pw a (dpN P y - dpN P x) ≤ 81 := by
  have h2 := dpN_le h.arm hy
  exact pw_bd 3 4 81 (by decide) (by have := h.a1; omega) (by have := h.ab; have := h.b4; omega) (by decide) (by omega)
theorem tot_bd (h : ArmAB P W F a b) {v : Nat → Int} {M : Int} (hM : 0 ≤ M) (hv : ∀ y, y < P.length → -M ≤ v y ∧ v y ≤ M) (i : Nat → Bool) (x : Nat) : -(M * 81 * 9) ≤ tot P a i v x ∧ tot P a i v x ≤ M * 81 * 9 := by
  have h9 := h.arm.n9
  have := sN_bd (f := fun y => if rch P i x y = true then pw a (dpN P y - dpN P x) * v y else 0) (M := M * 81) (n := P.length) fun y hy => by
    show _ ≤ ite _ _ _ ∧ ite _ _ _ ≤ _
    split
    · have := mulAbs (hv y hy) (h.a81 (x := x) hy) hM
      rw [Int.mul_comm (pw a _)]
      exact this
    · omega
  have h2 : M * 81 * (P.length : Int) ≤ M * 81 * 9 := Int.mul_le_mul_of_nonneg_left (by omega) (by omega)
  unfold tot
  omega
theorem FU_bd (h : ArmAB P W F a b) {y : Nat} (hy : y < P.length) : -4561920 ≤ nth F y * unitX P W b y ∧ nth F y * unitX P W b y ≤ 4561920 := by
  have := mulAbs (A := 99) (B := 46080) (h.arm.fb y) (unitX_46 h.arm h.b0 h.b4 hy) (by decide)
  omega
theorem gnR_bd (h : ArmAB P W F a b) (i : Nat → Bool) (x : Nat) : -3325639680 ≤ gnR P W F a b i x ∧ gnR P W F a b i x ≤ 3325639680 := by
  have := tot_bd h (v := fun y => nth F y * unitX P W b y) (M := 4561920) (by decide) (fun y hy => FU_bd h hy) i x
  unfold gnR
  omega
theorem tmR_bd (h : ArmAB P W F a b) (i : Nat → Bool) (x : Nat) : -33592320 ≤ tmR P W a b i x ∧ tmR P W a b i x ≤ 33592320 := by
  have := tot_bd h (v := fun y => unitX P W b y) (M := 46080) (by decide) (fun y hy => by have := unitX_46 h.arm h.b0 h.b4 hy; omega) i x
  unfold tmR
  omega
/-- The greatest gain less a fee. -/
def lsF (P W F : List Int) (a b fee : Int) (x : Nat) : Int := lsV P a (neB P) (fun y => (nth F y - fee) * unitX P W b y) P.length x
theorem lsF_lsP (fee : Int) (x : Nat) : lsF P W F a b fee x = lsP P W F a b fee 1 x := by
  unfold lsF lsP
  congr 1
  funext y
  rw [Int.one_mul]
theorem lsF_bd (h : ArmAB P W F a b) {fee : Int} (hf : -99 ≤ fee ∧ fee ≤ 99) {x : Nat} (hx : x < P.length) : -7000000000 ≤ lsF P W F a b fee x ∧ lsF P W F a b fee x ≤ 7000000000 := by
  have h1 := gnR_bd h (fun z => neB P z && decide (0 ≤ lsP P W F a b fee 1 z)) x
  have h2 := tmR_bd h (fun z => neB P z && decide (0 ≤ lsP P W F a b fee 1 z)) x
  have h3 := lsP_star h hx fee 1
  have h4 := tmR_pos h.arm h.a1 (b := b) (by have := h.a1; have := h.ab; omega) hx (fun z => neB P z && decide (0 ≤ lsP P W F a b fee 1 z))
  have h5 := mulAbs (A := 99) (B := 33592320) hf (y := tmR P W a b (fun z => neB P z && decide (0 ≤ lsP P W F a b fee 1 z)) x) ⟨by omega, h2.2⟩ (by decide)
  rw [lsF_lsP, h3]
  omega
/-- The same, when the first k children have been seen. -/
def lsK (P W F : List Int) (a b fee : Int) (x k : Nat) : Int := (nth F x - fee) * unitX P W b x + kS P (fun y => if neB P y = true then a * mxI (lsF P W F a b fee y) 0 else 0) x k
theorem lsK_zero (fee : Int) (x : Nat) : lsK P W F a b fee x 0 = (nth F x - fee) * unitX P W b x := by simp [lsK, kS]
theorem lsK_in {fee : Int} {x k y : Nat} (hy : nth (kids P (x : Int)) k = (y : Int)) (he : endB P y = false) : lsK P W F a b fee x (k + 1) = lsK P W F a b fee x k + a * mxI (lsF P W F a b fee y) 0 := by
  rw [lsK, lsK, kS, hy, Int.toNat_natCast, if_pos (neB_iff.2 he), Int.add_assoc]
theorem lsK_end {fee : Int} {x k y : Nat} (hy : nth (kids P (x : Int)) k = (y : Int)) (he : endB P y = true) : lsK P W F a b fee x (k + 1) = lsK P W F a b fee x k := by
  rw [lsK, lsK, kS, hy, Int.toNat_natCast, if_neg (by simp [neB, he]), Int.add_zero]
theorem lsK_all (hp : ParOk P) {fee : Int} {x : Nat} (hx : x < P.length) : lsK P W F a b fee x (kids P (x : Int)).length = lsF P W F a b fee x := by
  obtain ⟨m, hm⟩ : ∃ m, P.length = m + 1 := ⟨P.length - 1, by omega⟩
  have e : lsF P W F a b fee x = lsV P a (neB P) (fun y => (nth F y - fee) * unitX P W b y) (m + 1) x := by rw [lsF, hm]
  rw [e, lsV, lsK, kS_sN]
  congr 1
  refine sN_congr fun z hz => ?_
  by_cases h3 : nth P z = (x : Int)
  · have h4 := (dpN_kid hp hz h3).1
    rw [if_pos h3, if_pos h3, lsF, lsV_fuel hp P.length m z hz (by omega) (by omega)]
  · rw [if_neg h3, if_neg h3]
theorem aLs_bd (h : ArmAB P W F a b) {fee : Int} (hf : -99 ≤ fee ∧ fee ≤ 99) {y : Nat} (hy : y < P.length) : 0 ≤ a * mxI (lsF P W F a b fee y) 0 ∧ a * mxI (lsF P W F a b fee y) 0 ≤ 21000000000 := by
  have h1 := lsF_bd h hf hy
  have h2 : 0 ≤ mxI (lsF P W F a b fee y) 0 ∧ mxI (lsF P W F a b fee y) 0 ≤ 7000000000 := by unfold mxI; split <;> omega
  exact mul_bd a _ 3 7000000000 (by have := h.a1; omega) (by have := h.ab; have := h.b4; omega) h2.1 h2.2
theorem fU_bd (h : ArmAB P W F a b) {fee : Int} (hf : -99 ≤ fee ∧ fee ≤ 99) {x : Nat} (hx : x < P.length) : -9123840 ≤ (nth F x - fee) * unitX P W b x ∧ (nth F x - fee) * unitX P W b x ≤ 9123840 := by
  have := mulAbs (A := 198) (B := 46080) (x := nth F x - fee) (by have := h.arm.fb x; omega) (unitX_46 h.arm h.b0 h.b4 hx) (by decide)
  omega
theorem lsK_bd (h : ArmAB P W F a b) {fee : Int} (hf : -99 ≤ fee ∧ fee ≤ 99) {x : Nat} (hx : x < P.length) : ∀ k, k ≤ (kids P (x : Int)).length → -10000000 ≤ lsK P W F a b fee x k ∧ lsK P W F a b fee x k ≤ 10000000 + 21000000000 * (k : Int)
  | 0, _ => by have := fU_bd h hf hx; rw [lsK_zero]; omega
  | k + 1, hk => by
    have ih := lsK_bd h hf hx k (by omega)
    obtain ⟨y, e, _, hy, _⟩ := kid_at h.arm.tree.par (show k < (kids P (x : Int)).length by omega)
    cases he : endB P y
    · have := aLs_bd h hf hy
      rw [lsK_in e he]
      omega
    · rw [lsK_end e he]
      omega
theorem end0 (h : ArmOk P W F) : endB P 0 = decide (F.length = 1) := by
  have h1 := h.tree.n1
  have hl := h.len
  rcases Nat.eq_or_lt_of_le h1 with h' | h'
  · rw [decide_eq_true (by omega), ← kids_nil, List.eq_nil_iff_forall_not_mem]
    intro y hy
    have := kids_mem h.tree.par hy
    omega
  · rw [decide_eq_false (by omega)]
    cases he : endB P 0
    · rfl
    · have h2 := h.tree.par.up 1 (by omega) h'
      have h3 := (kids_nil (P := P) 0).2 he
      have h4 : ((1 : Nat) : Int) ∈ kids P ((0 : Nat) : Int) := mem_kidTo.2 ⟨1, h', by omega, rfl⟩
      rw [h3] at h4
      cases h4
/-- Whether it is asked rightly if a fee is fair, and whether it is. -/
def fvB (P W F : List Int) (a b fee : Int) : Bool := (armB P W F && discB a b) && (inB fee (-99) 99 && !endB P 0)
def fvV (P W F : List Int) (a b fee : Int) : Bool := fvB P W F a b fee && decide (0 ≤ lsF P W F a b fee 0)
theorem fvV_no {fee : Int} (h : fvB P W F a b fee = false) : fvV P W F a b fee = false := by rw [fvV, h]; rfl
theorem fvB_1 {fee : Int} (h : (armB P W F && discB a b) = false) : fvB P W F a b fee = false := by rw [fvB, h]; rfl
theorem fvB_2 {fee : Int} (h : inB fee (-99) 99 = false) : fvB P W F a b fee = false := by rw [fvB, h]; simp
theorem fvB_3 {fee : Int} (h : endB P 0 = true) : fvB P W F a b fee = false := by rw [fvB, h]; simp
theorem fvB_y {fee : Int} (h1 : (armB P W F && discB a b) = true) (h2 : inB fee (-99) 99 = true) (h3 : endB P 0 = false) : fvB P W F a b fee = true := by rw [fvB, h1, h2, h3]; rfl
theorem fvV_y {fee : Int} (h1 : (armB P W F && discB a b) = true) (h2 : inB fee (-99) 99 = true) (h3 : endB P 0 = false) : fvV P W F a b fee = decide (0 ≤ lsF P W F a b fee 0) := by rw [fvV, fvB_y h1 h2 h3]; rfl
theorem fair_iff (h : ArmAB P W F a b) (he : endB P 0 = false) (fee : Int) : decide (0 ≤ lsF P W F a b fee 0) = decide (fee * (idxP P W F a b 0).2 ≤ (idxP P W F a b 0).1 * 1) := by
  rw [lsF_lsP]
  exact decide_eq_decide.2 (lsP_iff h (by have := h.arm.tree.n1; omega) he (by decide))
end
end Go.Proofs.Ytdhagkckkdaenaa
