/- Leaving an arm, plainly. No program stands here. -/
import Derived.Test.YtfobjkdkjlbkfaaTreA
import Derived.Test.YtfobjkdkjlbkfaaPow
namespace Go.Proofs.Ytfobjkdkjlbkfaa

/-- A node's sum times the power of b that its depth leaves. -/
def unitX (P W : List Int) (b : Int) (x : Nat) : Int := nth (gath P W) x * pw b (hgt P - nth (dep P) x).toNat
def unitL (P W : List Int) (b : Int) : List Int := (List.range P.length).map (unitX P W b)
theorem unitL_length (P W : List Int) (b : Int) : (unitL P W b).length = P.length := by simp [unitL]
theorem unitL_nth {P W : List Int} {b : Int} {x : Nat} (h : x < P.length) : nth (unitL P W b) x = unitX P W b x := by simp [unitL, nth, h]
theorem hgt_dep {P W F : List Int} (h : ArmOk P W F) {x : Nat} (hx : x < P.length) : 0 ≤ hgt P - nth (dep P) x ∧ hgt P - nth (dep P) x ≤ 4 := by
  have h1 := mxTo_ge (xs := dep P) hx
  have := dep_bd P x
  have := h.h4
  unfold hgt at *
  omega
theorem pw_four {b : Int} (h0 : 0 ≤ b) (h4 : b ≤ 4) {k : Nat} (hk : k ≤ 4) : 0 ≤ pw b k ∧ pw b k ≤ 256 := pw_bd 4 4 256 (by decide) h0 h4 (by decide) hk
theorem unitX_bd {P W F : List Int} (h : ArmOk P W F) {b : Int} (h0 : 0 ≤ b) (h4 : b ≤ 4) {x : Nat} (hx : x < P.length) : 0 ≤ unitX P W b x ∧ unitX P W b x ≤ 122880 := by
  have h1 := h.tree.sum_bd x
  have h2 := hgt_dep h hx
  have h3 := pw_four h0 h4 (k := (hgt P - nth (dep P) x).toNat) (by omega)
  exact mul_bd _ _ 480 256 h1.1 h1.2 h3.1 h3.2
theorem unitL_bd {P W F : List Int} (h : ArmOk P W F) {b : Int} (h0 : 0 ≤ b) (h4 : b ≤ 4) (x : Nat) : 0 ≤ nth (unitL P W b) x ∧ nth (unitL P W b) x ≤ 122880 := by
  rcases Nat.lt_or_ge x P.length with hx | hx
  · rw [unitL_nth hx]; exact unitX_bd h h0 h4 hx
  · rw [nth_big (by rw [unitL_length]; exact hx)]; omega
theorem mulAbs {x y A B : Int} (hx : -A ≤ x ∧ x ≤ A) (hy : 0 ≤ y ∧ y ≤ B) (hA : 0 ≤ A) : -(A * B) ≤ x * y ∧ x * y ≤ A * B := by
  have h1 : x * y ≤ A * y := Int.mul_le_mul_of_nonneg_right hx.2 hy.1
  have h2 : A * y ≤ A * B := Int.mul_le_mul_of_nonneg_left hy.2 hA
  have h3 : -A * y ≤ x * y := Int.mul_le_mul_of_nonneg_right hx.1 hy.1
  rw [Int.neg_mul] at h3
  omega
theorem kS_abs {P : List Int} {v : Nat → Int} {M : Int} {x k : Nat} (h : ∀ i, i < k → -M ≤ v (nth (kids P (x : Int)) i).toNat ∧ v (nth (kids P (x : Int)) i).toNat ≤ M) : -(M * (k : Int)) ≤ kS P v x k ∧ kS P v x k ≤ M * (k : Int) := by
  induction k with
  | zero => simp [kS]
  | succ k ih =>
    have h1 := h k (by omega)
    have h2 := ih fun i hi => h i (by omega)
    rw [kS, Int.natCast_add, Int.mul_add]
    omega
theorem kS_congr {P : List Int} {v v' : Nat → Int} {x k : Nat} (h : ∀ i, i < k → v (nth (kids P (x : Int)) i).toNat = v' (nth (kids P (x : Int)) i).toNat) : kS P v x k = kS P v' x k := by
  induction k with
  | zero => rfl
  | succ k ih => rw [kS, kS, ih fun i hi => h i (by omega), h k (by omega)]
theorem kid_at {P : List Int} (hp : ParOk P) {x i : Nat} (hi : i < (kids P (x : Int)).length) : ∃ y : Nat, nth (kids P (x : Int)) i = (y : Int) ∧ x < y ∧ y < P.length ∧ nth P y = (x : Int) := by
  rw [nth_eq hi]
  have hm : (kids P (x : Int))[i] ∈ kids P (x : Int) := List.getElem_mem hi
  have h1 := kids_mem hp hm
  obtain ⟨j, h2, h3, h4⟩ := mem_kidTo.1 hm
  rw [h4] at h1 ⊢
  exact ⟨j, rfl, by omega, h2, h3⟩
theorem depL_stable {P : List Int} {i : Nat} : ∀ m, i ≤ m → nth (depL P m) i = nth (depL P i) i
  | 0, h => by obtain rfl : i = 0 := by omega
               rfl
  | m + 1, h => by
    rcases Nat.eq_or_lt_of_le h with rfl | h'
    · rfl
    · rw [depL_succ, nth_app_l (by rw [depL_length]; omega)]
      exact depL_stable m (by omega)
theorem dep_kid {P : List Int} {y p : Nat} (hy : 1 ≤ y) (hlt : y < P.length) (hpy : p < y) (hp : nth P y = (p : Int)) : nth (dep P) y = nth (dep P) p + 1 := by
  unfold dep
  rw [depL_stable _ (by omega : y ≤ P.length - 1), depL_stable _ (by omega : p ≤ P.length - 1), dep_step hy hp, nth_app_r _ _ _ (by rw [dep_len hy]), depL_stable (P := P) (i := p) (y - 1) (by omega)]

/-- What leaving at best is worth at a node. -/
def lv (P F U : List Int) (a l : Int) : Nat → Nat → Int
  | 0, _ => 0
  | n + 1, x => if endB P x then l * nth U x else mxI (l * nth U x) (nth F x * nth U x + kS P (fun y => a * lv P F U a l n y) x (kids P (x : Int)).length)
def lV (P F U : List Int) (a l : Int) (x : Nat) : Int := lv P F U a l P.length x
theorem lv_fuel {P F U : List Int} {a l : Int} (hp : ParOk P) : ∀ n m x, x < P.length → P.length ≤ x + n → P.length ≤ x + m → lv P F U a l n x = lv P F U a l m x
  | 0, _, x, h, h1, _ => by omega
  | _ + 1, 0, x, h, _, h2 => by omega
  | n + 1, m + 1, x, h, h1, h2 => by
    rw [lv, lv]
    rw [kS_congr (v := fun y => a * lv P F U a l n y) (v' := fun y => a * lv P F U a l m y)]
    intro i hi
    obtain ⟨y, e, h3, h4, _⟩ := kid_at hp hi
    rw [e, Int.toNat_natCast]
    show a * _ = a * _
    rw [lv_fuel hp n m y h4 (by omega) (by omega)]
theorem lV_eq {P F U : List Int} {a l : Int} (hp : ParOk P) {x : Nat} (hx : x < P.length) :
    lV P F U a l x = if endB P x then l * nth U x else mxI (l * nth U x) (nth F x * nth U x + kS P (fun y => a * lV P F U a l y) x (kids P (x : Int)).length) := by
  obtain ⟨m, hm⟩ : ∃ m, P.length = m + 1 := ⟨P.length - 1, by omega⟩
  have e : lV P F U a l x = lv P F U a l (m + 1) x := by rw [lV, hm]
  rw [e, lv]
  rw [kS_congr (v := fun y => a * lv P F U a l m y) (v' := fun y => a * lV P F U a l y)]
  intro i hi
  obtain ⟨y, e, h3, h4, _⟩ := kid_at hp hi
  rw [e, Int.toNat_natCast]
  show a * _ = a * _
  rw [lV, lv_fuel hp m P.length y h4 (by omega) (by omega)]
def bB : Nat → Int
  | 0 => 12165120
  | d + 1 => 28 * bB d
theorem bB_ge (d : Nat) : 12165120 ≤ bB d := by
  induction d with
  | zero => exact Int.le_refl _
  | succ d ih => rw [bB]; omega
theorem bB_up {d e : Nat} (h : d ≤ e) : bB d ≤ bB e := by
  induction e with
  | zero => rw [show d = 0 by omega]; exact Int.le_refl _
  | succ e ih =>
    rcases Nat.eq_or_lt_of_le h with rfl | h'
    · exact Int.le_refl _
    · have h1 := ih (by omega)
      have := bB_ge e
      rw [bB]
      omega
/-- An arm, a discount and a fee for leaving. -/
structure LvOk (P W F U : List Int) (a b l : Int) : Prop where
  arm : ArmOk P W F
  a1 : 1 ≤ a
  ab : a < b
  b4 : b ≤ 4
  l0 : -99 ≤ l
  l9 : l ≤ 99
  u : U = unitL P W b
section
variable {P W F U : List Int} {a b l : Int}
theorem LvOk.ub (h : LvOk P W F U a b l) (x : Nat) : 0 ≤ nth U x ∧ nth U x ≤ 122880 := by
  rw [h.u]
  exact unitL_bd h.arm (by have := h.a1; have := h.ab; omega) h.b4 x
theorem LvOk.lu (h : LvOk P W F U a b l) (x : Nat) : -12165120 ≤ l * nth U x ∧ l * nth U x ≤ 12165120 := by
  have := mulAbs (A := 99) (B := 122880) ⟨h.l0, h.l9⟩ (h.ub x) (by decide)
  omega
theorem LvOk.fb (h : LvOk P W F U a b l) (x : Nat) : -99 ≤ nth F x ∧ nth F x ≤ 99 := by
  rcases Nat.lt_or_ge x F.length with hx | hx
  · exact allB_nth h.arm.fees hx
  · rw [nth_big hx]; omega
theorem LvOk.fu (h : LvOk P W F U a b l) (x : Nat) : -12165120 ≤ nth F x * nth U x ∧ nth F x * nth U x ≤ 12165120 := by
  have := mulAbs (A := 99) (B := 122880) (h.fb x) (h.ub x) (by decide)
  omega
theorem mxI_abs {x y M : Int} (hx : -M ≤ x ∧ x ≤ M) (hy : -M ≤ y ∧ y ≤ M) : -M ≤ mxI x y ∧ mxI x y ≤ M := by
  unfold mxI
  split <;> omega
theorem LvOk.lv_bd (h : LvOk P W F U a b l) : ∀ n x, x < P.length → -bB (4 - (nth (dep P) x).toNat) ≤ lv P F U a l n x ∧ lv P F U a l n x ≤ bB (4 - (nth (dep P) x).toNat)
  | 0, x, _ => by
    have := bB_ge (4 - (nth (dep P) x).toNat)
    rw [lv]
    omega
  | n + 1, x, hx => by
    have hge := bB_ge (4 - (nth (dep P) x).toNat)
    have h1 := h.lu x
    rw [lv]
    split
    · omega
    · refine mxI_abs (by omega) ?_
      have h2 := h.fu x
      have hd := h.arm.depth hx
      have hk9 : (kids P (x : Int)).length ≤ 9 := Nat.le_trans (kidTo_len P x P.length) h.arm.n9
      rcases Nat.eq_zero_or_pos (kids P (x : Int)).length with h0 | h0
      · rw [h0, kS]
        omega
      · obtain ⟨y0, _, h3, h4, h5⟩ := kid_at h.arm.tree.par h0
        have h6 := dep_kid (by omega) h4 h3 h5
        have h7 := h.arm.depth h4
        obtain ⟨e, he⟩ : ∃ e, 4 - (nth (dep P) x).toNat = e + 1 := ⟨3 - (nth (dep P) x).toNat, by omega⟩
        rw [he] at hge ⊢
        have key := kS_abs (P := P) (v := fun y => a * lv P F U a l n y) (M := 3 * bB e) (x := x) (k := (kids P (x : Int)).length) (fun i hi => by
          obtain ⟨y, ey, g3, g4, g5⟩ := kid_at h.arm.tree.par hi
          have g6 := dep_kid (by omega) g4 g3 g5
          have g7 := h.lv_bd n y g4
          rw [show 4 - (nth (dep P) y).toNat = e by omega] at g7
          rw [ey, Int.toNat_natCast]
          have := mulAbs (A := bB e) (B := 3) g7 (y := a) ⟨by have := h.a1; omega, by have := h.ab; have := h.b4; omega⟩ (by have := bB_ge e; omega)
          rw [Int.mul_comm (lv P F U a l n y) a, Int.mul_comm (bB e) 3] at this
          exact this)
        have hb := bB_ge e
        have hm : 3 * bB e * ((kids P (x : Int)).length : Int) ≤ 3 * bB e * 9 := Int.mul_le_mul_of_nonneg_left (by omega) (by omega)
        rw [bB] at hge ⊢
        omega
theorem LvOk.bd (h : LvOk P W F U a b l) {x : Nat} (hx : x < P.length) : -10000000000000 ≤ lV P F U a l x ∧ lV P F U a l x ≤ 10000000000000 := by
  have h1 := h.lv_bd P.length x hx
  have h2 := bB_up (show 4 - (nth (dep P) x).toNat ≤ 4 by omega)
  have h3 : bB 4 = 7477401354240 ∨ bB 4 ≤ 10000000000000 := .inr (by decide)
  unfold lV
  omega
theorem LvOk.abd (h : LvOk P W F U a b l) {x : Nat} (hx : x < P.length) : -30000000000000 ≤ a * lV P F U a l x ∧ a * lV P F U a l x ≤ 30000000000000 := by
  have := mulAbs (A := 10000000000000) (B := 3) (h.bd hx) (y := a) ⟨by have := h.a1; omega, by have := h.ab; have := h.b4; omega⟩ (by decide)
  rw [Int.mul_comm (lV P F U a l x) a] at this
  omega
/-- The sum over the first k children. -/
def onTo (P F U : List Int) (a l : Int) (x k : Nat) : Int := nth F x * nth U x + kS P (fun y => a * lV P F U a l y) x k
theorem onTo_zero (P F U : List Int) (a l : Int) (x : Nat) : onTo P F U a l x 0 = nth F x * nth U x := by simp [onTo, kS]
theorem onTo_succ (P F U : List Int) (a l : Int) (x k : Nat) : onTo P F U a l x (k + 1) = onTo P F U a l x k + a * lV P F U a l (nth (kids P (x : Int)) k).toNat := by
  rw [onTo, onTo, kS, Int.add_assoc]
theorem LvOk.on_bd (h : LvOk P W F U a b l) {x k : Nat} (hk : k ≤ (kids P (x : Int)).length) : -1000000000000000 ≤ onTo P F U a l x k ∧ onTo P F U a l x k ≤ 1000000000000000 := by
  have h1 := h.fu x
  have hk9 : (kids P (x : Int)).length ≤ 9 := Nat.le_trans (kidTo_len P x P.length) h.arm.n9
  have key := kS_abs (P := P) (v := fun y => a * lV P F U a l y) (M := 30000000000000) (x := x) (k := k) (fun i hi => by
    obtain ⟨y, ey, g3, g4, g5⟩ := kid_at h.arm.tree.par (show i < (kids P (x : Int)).length by omega)
    rw [ey, Int.toNat_natCast]
    exact h.abd g4)
  unfold onTo
  omega
theorem lV_end (hp : ParOk P) {x : Nat} (hx : x < P.length) (he : endB P x = true) : lV P F U a l x = l * nth U x := by rw [lV_eq hp hx, he]; rfl
theorem lV_in (hp : ParOk P) {x : Nat} (hx : x < P.length) (he : endB P x = false) : lV P F U a l x = mxI (l * nth U x) (onTo P F U a l x (kids P (x : Int)).length) := by rw [lV_eq hp hx, he]; rfl
end
/-- Whether a pair is a discount. -/
def discB (a b : Int) : Bool := decide (1 ≤ a) && decide (a < b) && decide (b ≤ 4)
def lvB (P W F : List Int) (a b l : Int) : Bool := armB P W F && discB a b && inB l (-99) 99
def lvV (P W F : List Int) (a b l : Int) : Int := if lvB P W F a b l then lV P F (unitL P W b) a l 0 else 0
theorem lvB_iff {P W F : List Int} {a b l : Int} : lvB P W F a b l = true ↔ LvOk P W F (unitL P W b) a b l := by
  simp only [lvB, discB, inB, Bool.and_eq_true, decide_eq_true_eq, armB_iff]
  constructor
  · rintro ⟨⟨h1, ⟨h2, h3⟩, h4⟩, h5, h6⟩; exact ⟨h1, h2, h3, h4, h5, h6, rfl⟩
  · rintro ⟨h1, h2, h3, h4, h5, h6, _⟩; exact ⟨⟨h1, ⟨h2, h3⟩, h4⟩, h5, h6⟩
theorem lvB_1 {P W F : List Int} {a b l : Int} (h : (armB P W F && discB a b) = false) : lvB P W F a b l = false := by simp [lvB, h]
theorem lvB_2 {P W F : List Int} {a b l : Int} (h : inB l (-99) 99 = false) : lvB P W F a b l = false := by simp [lvB, h]
theorem lvB_3 {P W F : List Int} {a b l : Int} (h : (armB P W F && discB a b) = true) (h2 : inB l (-99) 99 = true) : lvB P W F a b l = true := by rw [lvB, h, h2]; rfl
theorem lvV_no {P W F : List Int} {a b l : Int} (h : lvB P W F a b l = false) : lvV P W F a b l = 0 := by simp [lvV, h]
theorem lvV_yes {P W F : List Int} {a b l : Int} (h : lvB P W F a b l = true) : lvV P W F a b l = lV P F (unitL P W b) a l 0 := by simp [lvV, h]
end Go.Proofs.Ytfobjkdkjlbkfaa
